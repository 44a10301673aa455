/- A bundle of texts (merged for the limit on files): PubOfPlain, PubRef, PubOf, Keeps, Region, HeadGet, Fr, FrLook, FrApp, FrFeed, FrNext. -/
import Derived.Test.YtjlnlgemngpelaaGreatDoorZa3
import Derived.WalkSpells
import Derived.StillTail
import Derived.Deep.Quiet
import Derived.KernelRfl
import Derived.Test.YtjlnlgemngpelaaGreatDoorZa1
/- Messages: plain laws: what bytes tell, there and back. No program. -/
namespace Go.Proofs.YtjlnlgemngpelaaGreatDoor
open Go.RowKit
set_option linter.unusedVariables false

/-- what bytes tell: topic, text, number, error -/
def pOf (l : List UInt8) (q : Int) : List UInt8 × List UInt8 × Int × Int :=
  if q < 0 ∨ 2 < q then ([], [], 0, 10)
  else if (uGet l 0).2.2 ≠ 0 then ([], [], 0, (uGet l 0).2.2)
  else if pName (uGet l 0).1 = false then ([], [], 0, 13)
  else if q = 0 then ((uGet l 0).1, l.drop (uGet l 0).2.1.toNat, 0, 0)
  else if (uGet2 l (uGet l 0).2.1).2.2 ≠ 0 then ([], [], 0, (uGet2 l (uGet l 0).2.1).2.2)
  else if (uGet2 l (uGet l 0).2.1).1 = 0 then ([], [], 0, 1)
  else ((uGet l 0).1, l.drop (uGet2 l (uGet l 0).2.1).2.1.toNat, (uGet2 l (uGet l 0).2.1).1, 0)
/-- the QoS that is told -/
def pOfQ (l : List UInt8) (q : Int) : Int := if (pOf l q).2.2.2 = 0 then q else 0

/-- a number of bytes -/
def pOfId (l : List UInt8) : Int × Int :=
  if l.length ≠ 2 then (0, 4) else if (uGet2 l 0).1 = 0 then (0, 1) else ((uGet2 l 0).1, 0)

theorem uGet2_two {l : List UInt8} (h : l.length = 2) : (uGet2 l 0).2.2 = 0 ∧ 0 ≤ (uGet2 l 0).1 ∧ (uGet2 l 0).1 ≤ 65535 := by
  have h0 : (uGet2 l 0).2.2 = 0 := by unfold uGet2; rw [if_neg (by omega), if_neg (by omega)]
  exact ⟨h0, (uGet2_ok h0).2.2.2.1, (uGet2_ok h0).2.2.2.2⟩

theorem uGet_rng {l : List UInt8} {k : Int} (h : (uGet l k).2.2 = 0) : k + 2 ≤ (uGet l k).2.1 ∧ (uGet l k).2.1 ≤ l.length ∧ 0 ≤ k := by
  unfold uGet at h ⊢
  by_cases h1 : (uGetRaw l k).2.2 = 0
  · rw [if_neg (by omega)] at h ⊢
    by_cases h2 : uRight (uGetRaw l k).1 = false
    · rw [if_pos h2] at h; simp at h
    · rw [if_neg h2]
      unfold uGetRaw at h1 ⊢
      by_cases h3 : (uGet2 l k).2.2 = 0
      · rw [if_neg (by omega)] at h1 ⊢
        have := uGet2_ok h3
        by_cases h4 : (l.length : Int) - (uGet2 l k).2.1 < (uGet2 l k).1
        · rw [if_pos h4] at h1; simp at h1
        · rw [if_neg h4]; simp only; omega
      · rw [if_pos (by omega)] at h1; simp only at h1; omega
  · rw [if_pos (by omega)] at h; simp only at h; omega

theorem uPutE_zero {T : List UInt8} (h : uPutE T = 0) : uRight T = true := by
  unfold uPutE at h
  split at h
  · simp at h
  · split at h
    · assumption
    · simp at h

theorem pPut_back {T X : List UInt8} {q id : Int} (h : pPutE T X q id = 0) : pOf (pPutB T X q id) q = (T, X, id, 0) := by
  have hB : pPutB T X q id = uPutB T ++ pNumB q id ++ X := by rw [pPutB, if_pos h]
  rw [hB]
  unfold pPutE at h
  by_cases c1 : q < 0 ∨ 2 < q
  · rw [if_pos c1] at h; simp at h
  rw [if_neg c1] at h
  by_cases c2 : pName T = false
  · rw [if_pos c2] at h; simp at h
  rw [if_neg c2] at h
  by_cases c3 : uPutE T = 0
  rotate_left
  · rw [if_pos c3] at h; exact absurd h c3
  rw [if_neg (by omega)] at h
  by_cases c4 : pNumE q id = 0
  rotate_left
  · rw [if_pos c4] at h; exact absurd h c4
  have hr := uPutE_zero c3
  have hl := uRight_len hr
  have hg : uGet (uPutB T ++ pNumB q id ++ X) 0 = (T, (2 : Int) + T.length, (0 : Int)) := by
    have := uGet_at [] T (pNumB q id ++ X) hl
    rw [if_pos hr] at this
    rw [uPutB, if_pos hr, List.append_assoc]
    simpa using this
  have hlen : (uPutB T).length = T.length + 2 := by rw [uPutB, if_pos hr, uPutRawB_len hl]
  unfold pOf
  rw [if_neg c1, hg, if_neg (by simp), if_neg c2]
  simp only
  by_cases c5 : q = 0
  · rw [if_pos c5]
    unfold pNumE at c4
    rw [if_neg (by omega)] at c4
    have hid : id = 0 := by
      by_cases c : id = 0
      · exact c
      · rw [if_pos c] at c4; simp at c4
    have hn : pNumB q id = [] := by rw [pNumB, if_neg (by omega)]
    rw [hn, List.append_nil, hid]
    have e : ((2 : Int) + T.length).toNat = (uPutB T).length := by rw [hlen]; omega
    rw [e, List.drop_left]
  · rw [if_neg c5]
    unfold pNumE at c4
    rw [if_pos (by omega)] at c4
    unfold pIdE at c4
    have hid : 1 ≤ id ∧ id ≤ 65535 := by
      by_cases c : 1 ≤ id ∧ id ≤ 65535
      · exact c
      · rw [if_neg c] at c4; simp at c4
    have hn : pNumB q id = [B8 (id.toNat / 256), B8 (id.toNat % 256)] := by
      have e0 : ((id.toNat : Nat) : Int) = id := by omega
      have := uPut2B_ok (n := id.toNat) (by omega)
      rw [e0] at this
      rw [pNumB, if_pos (by omega), pIdB, if_pos hid, this]
    have hg2 : uGet2 (uPutB T ++ pNumB q id ++ X) (2 + T.length) = (id, (2 : Int) + T.length + 2, (0 : Int)) := by
      have := uGet2_at (uPutB T) X id.toNat (by omega)
      rw [hn, List.append_assoc]
      have e : ((2 : Int) + T.length) = ((uPutB T).length : Int) := by rw [hlen]; omega
      rw [e]
      rw [List.cons_append, List.cons_append, List.nil_append, this]
      congr 1
      omega
    rw [hg2, if_neg (by simp), if_neg (by simp only; omega)]
    have e : ((2 : Int) + T.length + 2).toNat = (uPutB T ++ pNumB q id).length := by rw [List.length_append, hlen, hn]; simp; omega
    simp only
    rw [e, List.drop_left]

theorem pId_back {id : Int} (h : pIdE id = 0) : pOfId (pIdB id) = (id, 0) := by
  unfold pIdE at h
  have hid : 1 ≤ id ∧ id ≤ 65535 := by
    by_cases c : 1 ≤ id ∧ id ≤ 65535
    · exact c
    · rw [if_neg c] at h; simp at h
  have e0 : ((id.toNat : Nat) : Int) = id := by omega
  have hn : pIdB id = [B8 (id.toNat / 256), B8 (id.toNat % 256)] := by
    have := uPut2B_ok (n := id.toNat) (by omega)
    rw [e0] at this
    rw [pIdB, if_pos hid, this]
  have hg := uGet2_at [] [] id.toNat (by omega)
  rw [List.nil_append] at hg
  unfold pOfId
  rw [hn, if_neg (by simp), show uGet2 [B8 (id.toNat / 256), B8 (id.toNat % 256)] 0 = _ from hg]
  rw [if_neg (by simp only; omega)]
  simp only [e0]
theorem pId_not {id : Int} (h : pIdE id ≠ 0) : pIdE id = 1 ∧ pOfId (pIdB id) = (0, 4) := by
  unfold pIdE at h ⊢
  by_cases c : 1 ≤ id ∧ id ≤ 65535
  · rw [if_pos c] at h; simp at h
  · rw [if_neg c, pIdB, if_neg c]
    exact ⟨rfl, by rw [pOfId, if_pos (by simp)]⟩
end Go.Proofs.YtjlnlgemngpelaaGreatDoor

/- Messages: the reference's walks; what bytes tell; the numbers. -/
namespace Go.Proofs.YtjlnlgemngpelaaGreatDoor
open Go.RowKit
set_option linter.unusedVariables false

end Go.Proofs.YtjlnlgemngpelaaGreatDoor

/- Messages: what bytes tell: the walks. -/
namespace Go.Proofs.YtjlnlgemngpelaaGreatDoor
open Go.RowKit
set_option linter.unusedVariables false
set_option linter.unusedSimpArgs false

set_option maxRecDepth 100000 in
/-- []byte(s), where the walk stands at it. -/
theorem upon_bytes {o : Oper} {a : Act} {K : Act → World → Prop} {Q : Exit → Act → World → Prop} {W : World} {s : ByteArray} {f : Value → World → Result Next} (hs : s.size ≤ 140737488355327)
    (h : ∀ ad c W', Bs W' (.slice ad (sB s).length c) (sB s) → Below W.heap.size W W' → Oper.upon Tryz.prog o a K Q ((Result.ok (.slice ad (sB s).length c) W').andThen f)) :
    Oper.upon Tryz.prog o a K Q ((Sem.run Tryz.prog (convert 9 23 (.string s)) W).andThen f) := by
  obtain ⟨c, W', hr, hB, hb⟩ := run_bytes s hs W
  rw [hr]
  exact h _ c W' hB hb

/-- The message that bytes tell. -/
def GivesM (w : World) (l : List UInt8) (q : Int) (e : Ending) (w' : World) : Prop :=
  e = .returned (.tuple #[.agg #[.string (sOf (pOf l q).1), .string (sOf (pOf l q).2.1), .int .i64 (pOfQ l q), .bool false], .int .i64 (pOf l q).2.2.1, .int .i64 (pOf l q).2.2.2]) ∧ Below w.heap.size w w'
theorem GivesM.nil {w w' : World} {l : List UInt8} {q : Int} (e : Int) (h : pOf l q = ([], [], 0, e)) (h0 : e ≠ 0) (hb : Below w.heap.size w w') :
    GivesM w l q (.returned (.tuple #[.agg #[.string ⟨#[]⟩, .string ⟨#[]⟩, .int .i64 0, .bool false], .int .i64 0, .int .i64 e])) w' := by
  unfold GivesM pOfQ
  rw [h]
  simp only
  rw [if_neg h0]
  exact ⟨rfl, hb⟩

theorem uGet_len (l : List UInt8) (k : Int) : (uGet l k).1.length ≤ 65535 := by
  unfold uGet
  have := uGetRaw_len l k
  repeat' split
  all_goals (first | exact this | simp)

theorem extract_drop (b : ByteArray) (n : Nat) : b.extract n b.size = sOf ((sB b).drop n) := by
  apply ByteArray.ext
  rw [ByteArray.data_extract]
  show b.data.extract n b.size = ((b.data.toList).drop n).toArray
  apply Array.toList_inj.1
  rw [Array.toList_extract]
  show ((b.data.toList).drop n).take (b.size - n) = (b.data.toList).drop n
  have : b.data.toList.length = b.size := Array.length_toList
  exact List.take_of_length_le (by rw [List.length_drop]; omega)

set_option maxRecDepth 100000 in
set_option maxHeartbeats 1000000 in
theorem pubOf_c (b : ByteArray) (q : Int) (w : World) (hE : EnvU w) (hs : b.size ≤ 140737488351232) :
    Calls Tryz.prog 127 #[.string b, .int .i64 q] w (GivesM w (sB b) q) := by
  have HE := hd hE; clear hE
  go_enter Tryz.func127, Tryz.ntmps127
  go_wp2_with fail
  refine (leveled_c q _).mono ?_
  by_cases hq : q < 0 ∨ 2 < q
  · rw [show (decide (0 ≤ q) && decide (q ≤ 2)) = false from by simp; omega]
    rintro e w' ⟨rfl, rfl⟩
    go_wp2_with fail
    exact bodyPost_ret (v := .tuple #[.agg #[.string ⟨#[]⟩, .string ⟨#[]⟩, .int .i64 0, .bool false], .int .i64 0, .int .i64 10]) (by simp [results, Tryz.results127, go_sem]) rfl (GivesM.nil 10 (by rw [pOf, if_pos hq]) (by decide) (by go_grown))
  rw [show (decide (0 ≤ q) && decide (q ≤ 2)) = true from by simp; omega]
  rintro e w' ⟨rfl, rfl⟩
  go_wp2_with fail
  refine upon_bytes (by omega) fun d1 k1 w1 hs1 hb1 => ?_
  have hc1 := bcell hb1
  have hf1 := bfree hb1
  have hl1 : w.heap.size < w1.heap.size := by have := hb1.size; simp at this; omega
  have hb : Below w.heap.size w w1 := Below.up (by go_grown) hb1
  go_wp2_with fail
  refine (Get_c _ (sB b) 0 _ (HE.out.below hb) hs1).mono ?_
  rintro e w2 ⟨rfl, hb2⟩
  have hc2 := bcell hb2
  have hf2 := bfree hb2
  have hl2 : w.heap.size < w2.heap.size := by have := hb2.size; omega
  replace hb := Below.up hb hb2
  have hg := @uGet_rng (sB b) 0
  have hgl := uGet_len (sB b) 0
  have hof : pOf (sB b) q = pOf (sB b) q := rfl
  conv at hof => rhs; rw [pOf, if_neg hq]
  generalize uGet (sB b) 0 = g at hg hgl hof ⊢
  obtain ⟨T, k, e⟩ := g
  simp only at hg hgl hof ⊢
  have Hof := hd hof; clear hof
  by_cases he : e = 0
  rotate_left
  · have heb : (e != 0) = true := by simpa using he
    go_wp2_with fail
    exact bodyPost_ret (v := .tuple #[.agg #[.string ⟨#[]⟩, .string ⟨#[]⟩, .int .i64 0, .bool false], .int .i64 0, .int .i64 e]) (by simp [results, Tryz.results127, go_sem, hc1, hc2, hl1, hl2]) rfl (GivesM.nil e (by rw [Hof.out, if_pos he]) he (by go_grown))
  subst he
  have hrg := hg rfl; clear hg
  have hbl := sB_len b
  have hk0 : 0 ≤ k := by omega
  have hk1 : k ≤ (b.size : Int) := by omega
  clear hbl
  go_wp2_with fail
  refine (named_c (sOf T) _ (by rw [sOf_size]; omega)).mono ?_
  rw [sB_sOf]
  have hl1' := hl1
  by_cases hn : pName T = false
  · rw [hn]
    rintro e w3 ⟨rfl, hb3⟩
    have hc3 := bcell hb3
    have hf3 := bfree hb3
    have hl3 : w.heap.size < w3.heap.size := by have := hb3.size; omega
    go_wp2_with fail
    exact bodyPost_ret (v := .tuple #[.agg #[.string ⟨#[]⟩, .string ⟨#[]⟩, .int .i64 0, .bool false], .int .i64 0, .int .i64 13]) (by simp [results, Tryz.results127, go_sem, hc1, hc2, hc3, hl1, hl2, hl3]) rfl (GivesM.nil 13 (by rw [Hof.out, if_neg (by decide), if_pos hn]) (by decide) (by have := Below.up hb hb3; go_grown))
  rw [show pName T = true from by simpa using hn]
  rintro e w3 ⟨rfl, hb3⟩
  have hc3 := bcell hb3
  have hf3 := bfree hb3
  have hl3 : w.heap.size < w3.heap.size := by have := hb3.size; omega
  have hs3 := hs1.below' (hb2.trans (hb3.mono hb2.size)) (Nat.le_refl _)
  replace hb := Below.up hb hb3
  clear hs1 hb1 hb2
  by_cases h : q = 0
  · subst h
    go_wp2_with fail
    refine bodyPost_ret (v := .tuple #[.agg #[.string (sOf T), .string (b.extract k.toNat b.size), .int .i64 0, .bool false], .int .i64 0, .int .i64 0]) (by simp [results, Tryz.results127, go_sem, hc1, hc2, hc3, hl1, hl2, hl3]) rfl ?_
    have hr : pOf (sB b) 0 = (T, (sB b).drop k.toNat, 0, 0) := by rw [Hof.out, if_neg (by decide), if_neg hn, if_pos trivial]
    unfold GivesM pOfQ
    rw [hr]
    exact ⟨by rw [extract_drop]; rfl, by go_grown⟩
  have hqz : (0 : Int) < q := by omega
  go_wp2_with fail
  refine upon_bytes (by omega) fun d4 k4 w4 hs4 hb4 => ?_
  have hc4 := bcell hb4
  have hf4 := bfree hb4
  have hl4 : w.heap.size < w4.heap.size := by have := hb4.size; omega
  replace hb := Below.up hb hb4
  go_wp2_with fail
  refine (Get2_c _ (sB b) k _ hs4).mono ?_
  rintro e w5 ⟨rfl, hb5⟩
  have hc5 := bcell hb5
  have hf5 := bfree hb5
  have hl5 : w.heap.size < w5.heap.size := by have := hb5.size; omega
  replace hb := Below.up hb hb5
  have hof := Hof.out; clear Hof
  rw [if_neg (by decide), if_neg hn, if_neg h] at hof
  have hg2 := @uGet2_ok (sB b) k
  generalize uGet2 (sB b) k = g at hof hg2 ⊢
  obtain ⟨id, k2, e⟩ := g
  simp only at hof hg2 ⊢
  have Hof := hd hof; clear hof
  by_cases he : e = 0
  rotate_left
  · have heb : (e != 0) = true := by simpa using he
    go_wp2_with fail
    exact bodyPost_ret (v := .tuple #[.agg #[.string ⟨#[]⟩, .string ⟨#[]⟩, .int .i64 0, .bool false], .int .i64 0, .int .i64 e]) (by simp [results, Tryz.results127, go_sem, hc1, hc2, hc3, hc4, hc5, hl1, hl2, hl3, hl4]) rfl (GivesM.nil e (by rw [Hof.out, if_pos he]) he (by go_grown))
  subst he
  obtain ⟨g1, g2, rfl, g4, g5⟩ := hg2 rfl
  clear hg2
  go_wp2_with fail
  refine (numbered_c id _).mono ?_
  by_cases hid : id = 0
  · rw [show (decide (1 ≤ id) && decide (id ≤ 65535)) = false from by rw [hid]; decide]
    rintro e w' ⟨rfl, rfl⟩
    go_wp2_with fail
    exact bodyPost_ret (v := .tuple #[.agg #[.string ⟨#[]⟩, .string ⟨#[]⟩, .int .i64 0, .bool false], .int .i64 0, .int .i64 1]) (by simp [results, Tryz.results127, go_sem, hc1, hc2, hc3, hc4, hc5, hl1, hl2, hl3, hl4]) rfl (GivesM.nil 1 (by rw [Hof.out, if_neg (by decide), if_pos hid]) (by decide) (by go_grown))
  rw [show (decide (1 ≤ id) && decide (id ≤ 65535)) = true from by simp; omega]
  rintro e w' ⟨rfl, rfl⟩
  have hk20 : 0 ≤ k + 2 := by omega
  have hk21 : k + 2 ≤ (b.size : Int) := by have := sB_len b; omega
  go_wp2_with fail
  refine bodyPost_ret (v := .tuple #[.agg #[.string (sOf T), .string (b.extract (k + 2).toNat b.size), .int .i64 q, .bool false], .int .i64 id, .int .i64 0]) (by simp [results, Tryz.results127, go_sem, hc1, hc2, hc3, hc4, hc5, hl1, hl2, hl3, hl4]) rfl ?_
  have hr : pOf (sB b) q = (T, (sB b).drop (k + 2).toNat, id, 0) := by rw [Hof.out, if_neg (by decide), if_neg hid]
  unfold GivesM pOfQ
  rw [hr]
  exact ⟨by rw [extract_drop]; rfl, by go_grown⟩
end Go.Proofs.YtjlnlgemngpelaaGreatDoor

/- A frame: of what was there only the blocks of a list, and new ones, have turned. Of no function of the program. -/
namespace Go.Proofs.YtjlnlgemngpelaaGreatDoor
open Go.RowKit
set_option linter.unusedVariables false

structure Keeps (S : List Nat) (w w' : World) : Prop where
  os : w'.os = w.os
  tape : w'.tape = w.tape
  output : w'.output = w.output
  size : w.heap.size ≤ w'.heap.size
  block : ∀ k, k < w.heap.size → k ∉ S → w'.heap[k]? = w.heap[k]?

theorem Keeps.refl (S : List Nat) (w : World) : Keeps S w w := ⟨rfl, rfl, rfl, Nat.le_refl _, fun _ _ _ => rfl⟩
theorem Keeps.trans {S : List Nat} {a b c : World} (h : Keeps S a b) (k : Keeps S b c) : Keeps S a c :=
  ⟨k.os.trans h.os, k.tape.trans h.tape, k.output.trans h.output, Nat.le_trans h.size k.size, fun i hi hn => (k.block i (Nat.lt_of_lt_of_le hi h.size) hn).trans (h.block i hi hn)⟩
theorem Keeps.mono {S S' : List Nat} {w w' : World} (h : Keeps S w w') (hs : ∀ k, k ∈ S → k ∈ S') : Keeps S' w w' :=
  ⟨h.os, h.tape, h.output, h.size, fun k hk hn => h.block k hk (fun hm => hn (hs k hm))⟩
theorem Keeps.below {S : List Nat} {w w' : World} (h : Below w.heap.size w w') : Keeps S w w' := ⟨h.os, h.tape, h.output, h.size, fun k hk _ => h.block k hk⟩
theorem Keeps.alloc {S : List Nat} {a w : World} (h : Keeps S a w) (o : Obj) : Keeps S a (w.alloc o) :=
  h.trans ⟨rfl, rfl, rfl, by simp, fun k hk _ => Below.heap_alloc _ _ _ hk⟩
theorem Keeps.setCell {S : List Nat} {a w : World} (h : Keeps S a w) {p : Addr} (hp : p.block ∈ S ∨ a.heap.size ≤ p.block) (u : Value) : Keeps S a (w.setCell p u) :=
  ⟨h.os, h.tape, h.output, by simpa [World.setCell] using h.size, fun k hk hn => (Below.heap_setCell _ _ _ _ (fun e => by
    rcases hp with hp | hp
    · exact hn (e ▸ hp)
    · omega)).trans (h.block k hk hn)⟩
theorem Keeps.drewN {S : List Nat} {a w : World} (h : Keeps S a w) (n : Nat) : Keeps S a (w.drewN n) := ⟨h.os, h.tape, h.output, h.size, h.block⟩
theorem Keeps.drew {S : List Nat} {a w : World} (h : Keeps S a w) : Keeps S a w.drew := ⟨h.os, h.tape, h.output, h.size, h.block⟩
theorem Keeps.cell {S : List Nat} {w w' : World} (h : Keeps S w w') {b o : Nat} (hb : b < w.heap.size) (hn : b ∉ S) : w'.cell? ⟨b, o, none⟩ = w.cell? ⟨b, o, none⟩ := World.cell?_of_block (w := w) (h.block b hb hn)
theorem Keeps.free {S : List Nat} {w w' : World} (h : Keeps S w w') {b o : Nat} (hb : b < w.heap.size) (hn : b ∉ S) : w'.frozen? ⟨b, o, none⟩ = w.frozen? ⟨b, o, none⟩ := World.frozen?_of_block (w := w) (h.block b hb hn)
/-- What a call that makes nothing turn below its own start leaves of it all. -/
theorem Keeps.toBelow {S : List Nat} {B : Nat} {w w' : World} (h : Keeps S w w') (hB : B ≤ w.heap.size) (hS : ∀ k, k ∈ S → B ≤ k) : Below B w w' :=
  ⟨h.os, h.tape, h.output, h.size, fun k hk => h.block k (by omega) (fun hm => by have := hS k hm; omega)⟩

/-- A slice that points into none of these blocks. -/
def OutOf (v : Value) (S : List Nat) : Prop := ∀ a n c, v = .slice (some a) n c → a.block ∉ S
theorem Rd.keeps {S : List Nat} {w w' : World} {v : Value} {n : Nat} {xs : List Value} (h : Rd w v n xs) (hk : Keeps S w w') (ho : OutOf v S) : Rd w' v n xs := by
  by_cases hx : xs = []
  · subst hx
    obtain ⟨a, c, rfl, h1, h2, h3, h4⟩ := h
    exact ⟨a, c, rfl, h1, h2, h3, fun ad _ j u hu => by simp at hu⟩
  · have hblk := h.block hx
    obtain ⟨a, c, rfl, h1, h2, h3, h4⟩ := h
    refine ⟨a, c, rfl, h1, h2, h3, fun ad had j u hu => ?_⟩
    subst had
    have hlt := hblk ad _ _ rfl
    have hno := ho ad _ _ rfl
    have e : w'.cell? (ad.add j) = w.cell? (ad.add j) := World.cell?_of_block (w := w) (by
      have : (ad.add j).block = ad.block := by unfold Addr.add; split <;> rfl
      rw [this]
      exact hk.block _ hlt hno)
    rw [e]
    exact h4 ad rfl j u hu
theorem Bs.keeps {S : List Nat} {w w' : World} {v : Value} {l : List UInt8} (h : Bs w v l) (hk : Keeps S w w') (ho : OutOf v S) : Bs w' v l := Rd.keeps h hk ho
end Go.Proofs.YtjlnlgemngpelaaGreatDoor

/- A region that draws its order, whose operations part into still ones (each yields one value in every world of a class, and leaves the world) and movers, whose order among themselves is forced: one walk in a given order serves every order. Of no program. -/
namespace Go.Proofs.YtjlnlgemngpelaaGreatDoor

section
variable {P : Program} {ops : Array Oper} {md : Region.Mode} {Q : Exit → Act → World → Prop} {C : World → Prop} {n : Nat}

def wpAnyC (P : Program) (md : Region.Mode) (ops : Array Oper) (n : Nat) (C : World → Prop) (Q : Exit → Act → World → Prop) : Nat → Array Bool → Act → World → Prop
  | 0, listed, a, w => Region.ready md ops listed = [] ∧ Q .normal a w
  | f + 1, listed, a, w => (Region.ready md ops listed = [] → Q .normal a w) ∧
      ∀ i ∈ Region.ready md ops listed, wpOp P ops Q i (fun a' w' => (i < n → C w') ∧ wpAnyC P md ops n C Q f (listed.setIfInBounds i true) a' w') a w

theorem wpAny_of_C : ∀ (f : Nat) (listed : Array Bool) (a : Act) (w : World), wpAnyC P md ops n C Q f listed a w → wpAny P md ops Q f listed a w
  | 0, _, _, _, h => h
  | f + 1, _, _, _, h => ⟨h.1, fun i hi => wpOp_mono (fun a' w' h' => wpAny_of_C f _ a' w' h'.2) (h.2 i hi)⟩

def YieldsC (P : Program) (ops : Array Oper) (C : World → Prop) (o : Oper) (v : Value) (a : Act) : Prop :=
  (Region.wanted o (yielded ops a.tmps) = true ∧ ∀ w, C w → (execOp a.eval o).run P w = .ok (.value v) w) ∨
  (Region.wanted o (yielded ops a.tmps) = false ∧ v = undef)

theorem YieldsC.wpOp {i : Nat} {o : Oper} {v : Value} {a : Act} (hi : ops[i]? = some o) (hy : YieldsC P ops C o v a)
    {K : Act → World → Prop} {w : World} (hC : C w) (h : K (a.put o.dst v) w) : wpOp P ops Q i K a w := by
  unfold Go.wpOp
  simp only [hi]
  rcases hy with ⟨hw, hv⟩ | ⟨hw, rfl⟩
  · simp only [hw, if_true, Oper.wp, hv w hC, Oper.upon]; exact .inl h
  · simp only [hw, Bool.false_eq_true, if_false]; exact h

theorem YieldsC.of_same {o : Oper} {v : Value} {a a' : Act} (hy : YieldsC P ops C o v a) (he : execOp a'.eval o = execOp a.eval o)
    (hw : Region.wanted o (yielded ops a'.tmps) = Region.wanted o (yielded ops a.tmps)) : YieldsC P ops C o v a' := by
  unfold YieldsC at *
  rw [he, hw]
  exact hy

theorem wpOp_putC {j : Nat} {oi oj : Oper} {v : Value} (hj : ops[j]? = some oj) (hap : oi.apart ops oj = true)
    (hsi : ∀ cs b, oi.op ≠ .select cs b) (hsj : ∀ cs b, oj.op ≠ .select cs b)
    (hQ : ∀ c a w, Q (.panic c) (a.put oi.dst v) w → Q (.panic c) a w) {K : Act → World → Prop} {a : Act} {w : World}
    (hy : YieldsC P ops C oi v a) (h : wpOp P ops Q j K (a.put oi.dst v) w) :
    wpOp P ops Q j (fun a' w' => YieldsC P ops C oi v a' ∧ K (a'.put oi.dst v) w') a w := by
  obtain ⟨h1, h2, h3⟩ := Oper.apart_spec hap
  have keep : ∀ (a : Act), YieldsC P ops C oi v a → ∀ u, YieldsC P ops C oi v (a.put oj.dst u) := fun a hy u =>
    hy.of_same (execOp_put oi hsi a oj.dst u h3) (wanted_put oi a oj.dst u h3)
  have keepD : ∀ d, YieldsC P ops C oi v { a with defers := d :: a.defers } := fun d => hy.of_same rfl rfl
  unfold Go.wpOp at *
  simp only [hj] at *
  rw [wanted_put oj a oi.dst v h1] at h
  split
  · rename_i hw
    simp only [hw, if_true] at h
    rcases h with h | ⟨hasks, hlets⟩
    case inr => exact .inr ⟨by unfold Oper.asks at *; rw [execOp_put oj hsj a oi.dst v h1] at hasks; exact hasks, hlets⟩
    refine .inl ?_
    unfold Oper.wp at *
    rw [execOp_put oj hsj a oi.dst v h1] at h
    generalize (execOp a.eval oj).run P w = r at *
    cases r with
    | ok n w' =>
      cases n <;> simp only [Oper.upon] at h ⊢
      case value u => exact ⟨keep a hy u, by rw [← Act.put_comm a v u h2]; exact h⟩
      case skip => exact ⟨keep a hy _, by rw [← Act.put_comm a v undef h2]; exact h⟩
      case defer d =>
        refine ⟨keep _ (keepD d) _, ?_⟩
        rw [← Act.put_comm _ v undef h2, ← Act.put_defers]
        exact h
      case enter f args =>
        refine Calls.mono h fun e w'' he => ?_
        cases e with
        | returned u => exact ⟨keep a hy u, by rw [← Act.put_comm a v u h2]; exact he⟩
        | panicked c => exact hQ _ _ _ he
        | outgrown => exact he
      case row row args => exact Rows.mono h fun u w'' he => ⟨keep a hy u, by rw [← Act.put_comm a v u h2]; exact he⟩
    | halt x w' =>
      cases x <;> simp only [Oper.upon] at h ⊢
      case panic u => exact hQ _ _ _ h
  · rename_i hw
    simp only [hw] at h
    exact ⟨keep a hy _, by rw [← Act.put_comm a v undef h2]; exact h⟩

theorem first_C {i : Nat} {oi : Oper} {v : Value} (hi : ops[i]? = some oi) (hsel : ∀ (j : Nat) (o : Oper) cs b, ops[j]? = some o → o.op ≠ .select cs b)
    (hQ : ∀ c a w, Q (.panic c) (a.put oi.dst v) w → Q (.panic c) a w) (hs : Region.sinkB md ops n = true) (hc : Region.chainB md ops n = true) (hn : n < ops.size) (hin : i < n) :
    ∀ (fuel : Nat) (listed : Array Bool) (a : Act) (w : World), HeadInv md ops n listed →
      (∀ j oj, ops[j]? = some oj → j ≠ i → listed.getD j true = false → (∀ e ∈ oj.after, Region.binds md e = true → e.on ≠ i) → oi.apart ops oj = true) →
      i ∈ Region.ready md ops listed → YieldsC P ops C oi v a → C w →
      wpAnyC P md ops n C Q fuel (listed.setIfInBounds i true) (a.put oi.dst v) w → wpAnyC P md ops n C Q (fuel + 1) listed a w := by
  intro fuel
  induction fuel with
  | zero =>
    intro listed a w _ _ hr hy hC H
    refine ⟨fun h => (by rw [h] at hr; cases hr), fun j hj => ?_⟩
    by_cases hji : j = i
    · subst hji; exact hy.wpOp hi hC ⟨fun _ => hC, H⟩
    · have := ready_mono hj hji
      rw [H.1] at this
      cases this
  | succ f ih =>
    intro listed a w inv hfree hr hy hC H
    have hun := (mem_ready.1 hr).1
    refine ⟨fun h => (by rw [h] at hr; cases hr), fun j hj => ?_⟩
    by_cases hji : j = i
    · subst hji; exact hy.wpOp hi hC ⟨fun _ => hC, H⟩
    · have hjn : j < n := by
        rcases Nat.lt_or_ge j n with h | h
        · exact h
        · exact absurd hj (tail_waits hs hc hn inv _ i rfl hin hun j h)
      have h1 := H.2 j (ready_mono hj hji)
      obtain ⟨hjun, oj, hoj, hall⟩ := mem_ready.1 hj
      have hnot : ∀ e ∈ oj.after, Region.binds md e = true → e.on ≠ i := fun e he hb heq => by
        have h1 := hall e he hb
        rw [heq, getD_both hun] at h1
        cases h1
      have h2 := wpOp_putC hoj (hfree j oj hoj hji hjun hnot) (fun cs b => hsel i oi cs b hi) (fun cs b => hsel j oj cs b hoj) hQ hy h1
      have hfree' : ∀ k ok, ops[k]? = some ok → k ≠ i → (listed.setIfInBounds j true).getD k true = false →
          (∀ e ∈ ok.after, Region.binds md e = true → e.on ≠ i) → oi.apart ops ok = true := fun k ok hk hki hun' hno => by
        refine hfree k ok hk hki ?_ hno
        by_cases hjk : j = k
        · subst hjk; exact hjun
        · rw [getD_set_ne true hjk] at hun'; exact hun'
      refine wpOp_mono (fun a' w' h3 => ⟨fun _ => h3.2.1 hjn, ih (listed.setIfInBounds j true) a' w' (inv.set hj hjn) hfree' (ready_mono hr (Ne.symm hji)) h3.1 (h3.2.1 hjn) ?_⟩) h2
      rw [Array.setIfInBounds_comm _ _ hji]
      exact h3.2.2

/-- The order in which the walk goes: (number, is it a mover?). -/
def okM (md : Region.Mode) (ops : Array Oper) (n : Nat) : List (Nat × Bool) → Array Bool → Bool
  | [], listed => (Region.ready md ops listed).isEmpty
  | (k, false) :: r, listed => (Region.ready md ops listed).contains k && (Region.free md ops listed k && (decide (k < n) && okM md ops n r (listed.setIfInBounds k true)))
  | (k, true) :: r, listed => (Region.ready md ops listed == [k]) && ((decide (k < n) || r.all (·.2)) && okM md ops n r (listed.setIfInBounds k true))

def wpM (P : Program) (ops : Array Oper) (n : Nat) (C : World → Prop) (Q : Exit → Act → World → Prop) : List (Nat × Bool) → Act → World → Prop
  | [], a, w => Q .normal a w
  | (k, false) :: r, a, w => ∃ o, ops[k]? = some o ∧ ∃ v, YieldsC P ops C o v a ∧ wpM P ops n C Q r (a.put o.dst v) w
  | (k, true) :: r, a, w => wpOp P ops Q k (fun a' w' => (k < n → C w') ∧ wpM P ops n C Q r a' w') a w

theorem movers_C : ∀ (σ : List (Nat × Bool)) (listed : Array Bool) (a : Act) (w : World), σ.all (·.2) = true → okM md ops n σ listed = true → wpM P ops n C Q σ a w → wpAnyC P md ops n C Q σ.length listed a w
  | [], listed, a, w, _, hok, h => ⟨by simpa [okM] using hok, h⟩
  | (k, false) :: r, listed, a, w, hall, _, _ => by simp at hall
  | (k, true) :: r, listed, a, w, hall, hok, h => by
    simp only [okM, Bool.and_eq_true, beq_iff_eq] at hok
    obtain ⟨hr, _, hok'⟩ := hok
    have hall' : r.all (·.2) = true := by simpa using hall
    refine ⟨fun h0 => (by rw [hr] at h0; cases h0), fun i hi => ?_⟩
    rw [hr] at hi
    obtain rfl : i = k := by simpa using hi
    exact wpOp_mono (fun a' w' h' => ⟨h'.1, movers_C r _ a' w' hall' hok' h'.2⟩) h

theorem hQ_put (hQ : ∀ c (a : Act) (T : Array Value) w, Q (.panic c) { a with tmps := T } w → Q (.panic c) a w) {c} {a : Act} {d : Option Tmp} {v : Value} {w : World} (h : Q (.panic c) (a.put d v) w) : Q (.panic c) a w := by
  cases d with
  | none => exact h
  | some d => exact hQ c a _ w h

theorem walk_C (hsel : ∀ (j : Nat) (o : Oper) cs b, ops[j]? = some o → o.op ≠ .select cs b) (hQ : ∀ c (a : Act) (T : Array Value) w, Q (.panic c) { a with tmps := T } w → Q (.panic c) a w)
    (hs : Region.sinkB md ops n = true) (hc : Region.chainB md ops n = true) (hn : n < ops.size) :
    ∀ (σ : List (Nat × Bool)) (listed : Array Bool) (a : Act) (w : World), HeadInv md ops n listed → C w → okM md ops n σ listed = true → wpM P ops n C Q σ a w → wpAnyC P md ops n C Q σ.length listed a w
  | [], listed, a, w, _, _, hok, h => ⟨by simpa [okM] using hok, h⟩
  | (k, false) :: r, listed, a, w, inv, hC, hok, h => by
    simp only [okM, Bool.and_eq_true, decide_eq_true_eq] at hok
    obtain ⟨hr, hf, hk, hok'⟩ := hok
    obtain ⟨o, ho, v, hy, hK⟩ := h
    have hr' : k ∈ Region.ready md ops listed := by simpa using hr
    exact first_C ho hsel (fun c a w h => hQ_put hQ h) hs hc hn hk r.length listed a w inv (Region.free_spec ho hf) hr' hy hC
      (walk_C hsel hQ hs hc hn r _ _ w (inv.set hr' hk) hC hok' hK)
  | (k, true) :: r, listed, a, w, inv, hC, hok, h => by
    by_cases hk : k < n
    · simp only [okM, Bool.and_eq_true, beq_iff_eq] at hok
      obtain ⟨hr, _, hok'⟩ := hok
      refine ⟨fun h0 => (by rw [hr] at h0; cases h0), fun i hi => ?_⟩
      have hi' := hi
      rw [hr] at hi
      obtain rfl : i = k := by simpa using hi
      exact wpOp_mono (fun a' w' h' => ⟨h'.1, walk_C hsel hQ hs hc hn r _ a' w' (inv.set hi' hk) (h'.1 hk) hok' h'.2⟩) h
    · have hall : ((k, true) :: r).all (·.2) = true := by
        simp only [okM, Bool.and_eq_true, decide_eq_false hk, Bool.false_or] at hok
        simpa using hok.2.1
      exact movers_C _ listed a w hall hok h

theorem headInv_start : HeadInv md ops n (Array.replicate ops.size false) :=
  ⟨by simp, (fun j oj _ hl => by rw [getD_replicate_false] at hl; cases hl), (fun t _ ht => by simp [ht])⟩

/-- The whole: a region that draws its order. -/
theorem wp_region_M {id : Nat} {a : Act} {w : World} (C : World → Prop) (n : Nat) (σ : List (Nat × Bool)) (hm : P.follows .mixedOrders = true)
    (hB : (Region.noSelect ops && (Region.sinkB .any ops n && (Region.chainB .any ops n && (decide (n < ops.size) && (okM .any ops n σ (Array.replicate ops.size false) && (σ.length == ops.size)))))) = true)
    (hQ : ∀ c (a : Act) (T : Array Value) w, Q (.panic c) { a with tmps := T } w → Q (.panic c) a w) (hC : C w.drew)
    (h : wpM P ops n C Q σ a w.drew) : (Code.region id ops true).wp P Q a w := by
  simp only [Bool.and_eq_true, decide_eq_true_eq, beq_iff_eq] at hB
  obtain ⟨h1, h2, h3, h4, h5, h6⟩ := hB
  refine wp_region_any hm (wpAny_of_C _ _ _ _ (n := n) (C := C) ?_)
  have := walk_C (P := P) (Q := Q) (C := C) (Region.noSelect_spec h1) hQ h2 h3 h4 σ _ a w.drew headInv_start hC h5 h
  rw [h6] at this
  exact this

theorem wpM_still {k : Nat} {r : List (Nat × Bool)} {o : Oper} {v : Value} {a : Act} {w : World} (ho : ops[k]? = some o) (hw : Region.wanted o (yielded ops a.tmps) = true)
    (h : ∀ w', C w' → (execOp a.eval o).run P w' = .ok (.value v) w') (hr : wpM P ops n C Q r (a.put o.dst v) w) : wpM P ops n C Q ((k, false) :: r) a w :=
  ⟨o, ho, v, .inl ⟨hw, h⟩, hr⟩
theorem wpM_skip {k : Nat} {r : List (Nat × Bool)} {o : Oper} {a : Act} {w : World} (ho : ops[k]? = some o) (hw : Region.wanted o (yielded ops a.tmps) = false)
    (hr : wpM P ops n C Q r (a.put o.dst undef) w) : wpM P ops n C Q ((k, false) :: r) a w :=
  ⟨o, ho, undef, .inr ⟨hw, rfl⟩, hr⟩
theorem wpM_move {k : Nat} {r : List (Nat × Bool)} {o : Oper} {a : Act} {w : World} (ho : ops[k]? = some o) (hw : Region.wanted o (yielded ops a.tmps) = true)
    (h : ∀ K : Act → World → Prop, (∀ a' w', (k < n → C w') → wpM P ops n C Q r a' w' → K a' w') → o.wp P a w K Q) : wpM P ops n C Q ((k, true) :: r) a w := by
  show wpOp P ops Q k _ a w
  unfold Go.wpOp
  simp only [ho, hw, if_true]
  exact .inl (h _ fun a' w' h1 h2 => ⟨h1, h2⟩)
theorem wpM_nil {a : Act} {w : World} (h : Q .normal a w) : wpM P ops n C Q [] a w := h
end
end Go.Proofs.YtjlnlgemngpelaaGreatDoor

/- Heads: what is read of bytes: length, Get, and the reference's Get. -/
namespace Go.Proofs.YtjlnlgemngpelaaGreatDoor
open Go.RowKit
set_option linter.unusedVariables false

def hLen (l : List UInt8) : Int × Int × Int :=
  if l.length = 0 then (0, 0, 2)
  else if (bN l 0 : Int) < 128 then ((bN l 0 : Int) % 128, 1, 0)
  else if l.length = 1 then (0, 0, 2)
  else if (bN l 1 : Int) < 128 then ((bN l 0 : Int) % 128 + (bN l 1 : Int) % 128 * 128, 2, 0)
  else if l.length = 2 then (0, 0, 2)
  else if (bN l 2 : Int) < 128 then ((bN l 0 : Int) % 128 + (bN l 1 : Int) % 128 * 128 + (bN l 2 : Int) % 128 * 16384, 3, 0)
  else if l.length = 3 then (0, 0, 2)
  else if (bN l 3 : Int) < 128 then ((bN l 0 : Int) % 128 + (bN l 1 : Int) % 128 * 128 + (bN l 2 : Int) % 128 * 16384 + (bN l 3 : Int) % 128 * 2097152, 4, 0)
  else (0, 0, 3)

theorem hLen_bounds (l : List UInt8) : 0 ≤ (hLen l).1 ∧ (hLen l).1 ≤ 268435455 ∧ 0 ≤ (hLen l).2.1 ∧ (hLen l).2.1 ≤ 4 ∧ (hLen l).2.1 ≤ l.length := by
  unfold hLen
  have h0 := bN_lt l 0
  have h1 := bN_lt l 1
  have h2 := bN_lt l 2
  have h3 := bN_lt l 3
  repeat' split
  all_goals (simp only; omega)

set_option maxRecDepth 100000 in
set_option maxHeartbeats 1000000 in
theorem length_c (v : Value) (l : List UInt8) (w : World) (hv : Bs w v l) :
    Calls Tryz.prog 83 #[v] w fun e w' => e = .returned (.tuple #[.int .i64 (hLen l).1, .int .i64 (hLen l).2.1, .int .i64 (hLen l).2.2]) ∧ w = w' := by
  rcases hv.split with ⟨rfl, a, c, rfl, hc⟩ | ⟨hpos, b, o, c, rfl, hc1, hc2, hlt, hcell⟩
  · go_enter Tryz.func83, Tryz.ntmps83
    go_wp2
    go_rounds 1
    go_ret3
    exact ⟨rfl, rfl⟩
  · obtain ⟨r, hr⟩ : ∃ r, hLen l = r := ⟨_, rfl⟩
    rw [hr]
    unfold hLen at hr
    have h0 := bN_lt l 0
    have h1 := bN_lt l 1
    have h2 := bN_lt l 2
    have h3 := bN_lt l 3
    have c0 : 0 < l.length → w.cell? ⟨b, o, none⟩ = some (.int .u8 (bN l 0)) := fun h => hcell 0 h
    have c1 : 1 < (l.length : Int) → w.cell? ⟨b, o + 1, none⟩ = some (.int .u8 (bN l 1)) := fun h => hcell 1 (by omega)
    have c2 : 2 < (l.length : Int) → w.cell? ⟨b, o + 2, none⟩ = some (.int .u8 (bN l 2)) := fun h => hcell 2 (by omega)
    have c3 : 3 < (l.length : Int) → w.cell? ⟨b, o + 3, none⟩ = some (.int .u8 (bN l 3)) := fun h => hcell 3 (by omega)
    have c4 : 4 < (l.length : Int) → w.cell? ⟨b, o + 4, none⟩ = some (.int .u8 (bN l 4)) := fun h => hcell 4 (by omega)
    have h4 := bN_lt l 4
    clear hcell hv hlt
    generalize hn : l.length = n at hr hc1 c0 c1 c2 c3 c4 hpos ⊢
    clear hn
    generalize bN l 0 = b0 at *
    generalize bN l 1 = b1 at *
    generalize bN l 2 = b2 at *
    generalize bN l 3 = b3 at *
    generalize bN l 4 = b4 at *
    have Hr := hd hr
    clear hr
    unfold maxLen at hc2
    go_enter Tryz.func83, Tryz.ntmps83
    go_wp2
    go_rounds 5
    all_goals (go_ret3; refine ⟨?_, rfl⟩; rw [← Hr.out]; clear Hr c0 c1 c2 c3 c4)
    all_goals (repeat (first | rw [if_pos (by omega)] | rw [if_neg (by omega)]))
    all_goals rfl

/-- kind, flags, length, the place behind, the error -/
def hGet (l : List UInt8) (at' : Int) : (Int × Int × Int) × Int × Int :=
  if at' < 0 ∨ (l.length : Int) < at' then ((0, 0, 0), 0, 1)
  else if at' = l.length then ((0, 0, 0), 0, 2)
  else if hRight ((bN l at'.toNat : Int) / 16) ((bN l at'.toNat : Int) % 16) ≠ 0 then ((0, 0, 0), 0, hRight ((bN l at'.toNat : Int) / 16) ((bN l at'.toNat : Int) % 16))
  else if (hLen (l.drop (at'.toNat + 1))).2.2 ≠ 0 then ((0, 0, 0), 0, (hLen (l.drop (at'.toNat + 1))).2.2)
  else if 4096 < (hLen (l.drop (at'.toNat + 1))).1 then ((0, 0, 0), 0, 3)
  else (((bN l at'.toNat : Int) / 16, (bN l at'.toNat : Int) % 16, (hLen (l.drop (at'.toNat + 1))).1), at' + 1 + (hLen (l.drop (at'.toNat + 1))).2.1, 0)

def GivesHead (w : World) (r : (Int × Int × Int) × Int × Int) (e : Ending) (w' : World) : Prop :=
  e = .returned (.tuple #[.agg #[.int .i64 r.1.1, .int .i64 r.1.2.1, .int .i64 r.1.2.2], .int .i64 r.2.1, .int .i64 r.2.2]) ∧ Below w.heap.size w w'

set_option maxRecDepth 100000 in
set_option maxHeartbeats 1000000 in
theorem hGet_c (v : Value) (l : List UInt8) (at' : Int) (w : World) (hE : EnvH w) (hv : Bs w v l) :
    Calls Tryz.prog 61 #[v, .int .i64 at'] w (GivesHead w (hGet l at')) := by
  obtain ⟨r, hr⟩ : ∃ r, hGet l at' = r := ⟨_, rfl⟩
  rw [hr]
  unfold hGet at hr
  have HE := hd hE; clear hE
  by_cases h1 : at' < 0 ∨ (l.length : Int) < at'
  · rw [if_pos h1] at hr
    subst hr
    rcases hv.split with ⟨rfl, a, c, rfl, hc⟩ | ⟨hpos, b, o, c, rfl, hc1, hc2, hlt, hcell⟩
    all_goals
      rcases h1 with h1 | h1
      all_goals
        go_enter Tryz.func61, Tryz.ntmps61
        go_wp2
        go_returns
        exact ⟨rfl, by go_grown⟩
  · rw [if_neg h1] at hr
    by_cases h2 : at' = l.length
    · rw [if_pos h2] at hr
      subst hr h2
      rcases hv.split with ⟨rfl, a, c, rfl, hc⟩ | ⟨hpos, b, o, c, rfl, hc1, hc2, hlt, hcell⟩
      · go_enter Tryz.func61, Tryz.ntmps61
        go_wp2
        go_returns
        exact ⟨rfl, by go_grown⟩
      · go_enter Tryz.func61, Tryz.ntmps61
        go_wp2
        go_returns
        exact ⟨rfl, by go_grown⟩
    · rw [if_neg h2] at hr
      obtain ⟨k, rfl⟩ := Int.eq_ofNat_of_zero_le (show 0 ≤ at' by omega)
      rw [Int.toNat_natCast] at hr
      have hk : k < l.length := by omega
      clear h1 h2
      rcases hv.split with ⟨rfl, a, c, rfl, hc⟩ | ⟨hpos, b, o, c, rfl, hc1, hc2, hlt, hcell⟩
      · exact absurd hk (by simp)
      · have hc := hcell k hk
        have hbl := bN_lt l k
        clear hcell
        unfold maxLen at hc2
        obtain ⟨a', c', hsl, hbs⟩ := run_from hv ((k : Int) + 1) (k + 1) (by omega) (by omega)
        go_enter Tryz.func61, Tryz.ntmps61
        go_wp2_with fail
        go_region
        go_wp2_with fail
        have hbb : Below w.heap.size w ((w.alloc (Obj.cells #[Value.int IntKind.i64 0, Value.int IntKind.i64 0, Value.int IntKind.i64 0] 85)).alloc (Obj.cells #[Value.int IntKind.i64 (↑(bN l k) / 16), Value.int IntKind.i64 (↑(bN l k) % 16), Value.int IntKind.i64 0] 85)).drew := by go_grown
        refine (hRight_c _ _ _ (HE.out.below hbb (Nat.le_refl _))).mono ?_
        rintro e w' ⟨rfl, rfl⟩
        obtain ⟨r1, hr1⟩ : ∃ r1, hRight ((bN l k : Int) / 16) ((bN l k : Int) % 16) = r1 := ⟨_, rfl⟩
        rw [hr1] at hr ⊢
        clear hr1
        by_cases h3 : r1 = 0
        · subst h3
          rw [if_neg (by decide)] at hr
          have Hr := hd hr; clear hr
          go_wp2_with fail
          refine (length_c _ _ _ (hbs.below' hbb (Nat.le_refl _))).mono ?_
          rintro e w' ⟨rfl, rfl⟩
          have hr := Hr.out; clear Hr
          have hRb := hLen_bounds (l.drop (k + 1))
          generalize hLen (l.drop (k + 1)) = R at hr hRb ⊢
          obtain ⟨rn, rk, re⟩ := R
          simp only at hr hRb ⊢
          obtain ⟨hR1, hR2, hR3, hR4, hR5⟩ := hRb
          rw [List.length_drop] at hR5
          clear hbs hbb hsl hv
          by_cases h4 : re = 0
          · subst h4
            rw [if_neg (by decide)] at hr
            by_cases h5 : 4096 < rn
            · rw [if_pos h5] at hr
              subst hr
              go_wp2
              go_returns
              exact ⟨rfl, by go_grown⟩
            · rw [if_neg h5] at hr
              subst hr
              go_wp2
              go_returns
              exact ⟨rfl, by go_grown⟩
          · rw [if_pos h4] at hr
            subst hr
            have h4b : (re != 0) = true := by simpa using h4
            clear h4
            go_wp2
            go_returns
            exact ⟨rfl, by go_grown⟩
        · rw [if_pos h3] at hr
          subst hr
          have h3b : (r1 != 0) = true := by simpa using h3
          clear h3
          go_wp2
          go_returns
          exact ⟨rfl, by go_grown⟩


set_option maxRecDepth 100000 in
set_option maxHeartbeats 1600000 in
theorem refHGet_c (v : Value) (l : List UInt8) (at' : Int) (w : World) (hv : Bs w v l) :
    Calls Tryz.prog 44 #[v, .int .i64 at'] w (GivesHead w (hGet l at')) := by
  obtain ⟨r, hr⟩ : ∃ r, hGet l at' = r := ⟨_, rfl⟩
  rw [hr]
  unfold hGet at hr
  by_cases h1 : at' < 0 ∨ (l.length : Int) < at'
  · rw [if_pos h1] at hr
    subst hr
    rcases hv.split with ⟨rfl, a, c, rfl, hc⟩ | ⟨hpos, b, o, c, rfl, hc1, hc2, hlt, hcell⟩
    all_goals
      rcases h1 with h1 | h1
      all_goals
        go_enter Tryz.func44, Tryz.ntmps44
        go_wp2
        go_returns
        exact ⟨rfl, by go_grown⟩
  · rw [if_neg h1] at hr
    by_cases h2 : at' = l.length
    · rw [if_pos h2] at hr
      subst hr h2
      rcases hv.split with ⟨rfl, a, c, rfl, hc⟩ | ⟨hpos, b, o, c, rfl, hc1, hc2, hlt, hcell⟩
      · go_enter Tryz.func44, Tryz.ntmps44
        go_wp2
        go_returns
        exact ⟨rfl, by go_grown⟩
      · go_enter Tryz.func44, Tryz.ntmps44
        go_wp2
        go_returns
        exact ⟨rfl, by go_grown⟩
    · rw [if_neg h2] at hr
      obtain ⟨k, rfl⟩ := Int.eq_ofNat_of_zero_le (show 0 ≤ at' by omega)
      rw [Int.toNat_natCast] at hr
      have hk : k < l.length := by omega
      clear h1 h2
      rcases hv.split with ⟨rfl, a, c, rfl, hc⟩ | ⟨hpos, b, o, c, rfl, hc1, hc2, hlt, hcell⟩
      · exact absurd hk (by simp)
      · have hc := hcell k hk
        have hbl := bN_lt l k
        have c1 : (k : Int) + 1 < l.length → w.cell? ⟨b, o + (k + 1), none⟩ = some (.int .u8 (bN l (k + 1 + 0))) := fun h => hcell (k + 1) (by omega)
        have c2 : (k : Int) + 2 < l.length → w.cell? ⟨b, o + (k + 2), none⟩ = some (.int .u8 (bN l (k + 1 + 1))) := fun h => hcell (k + 2) (by omega)
        have c3 : (k : Int) + 3 < l.length → w.cell? ⟨b, o + (k + 3), none⟩ = some (.int .u8 (bN l (k + 1 + 2))) := fun h => hcell (k + 3) (by omega)
        have c4 : (k : Int) + 4 < l.length → w.cell? ⟨b, o + (k + 4), none⟩ = some (.int .u8 (bN l (k + 1 + 3))) := fun h => hcell (k + 4) (by omega)
        have h1 := bN_lt l (k + 1 + 0)
        have h2 := bN_lt l (k + 1 + 1)
        have h3 := bN_lt l (k + 1 + 2)
        have h4 := bN_lt l (k + 1 + 3)
        obtain ⟨R, hR⟩ : ∃ R, hLen (l.drop (k + 1)) = R := ⟨_, rfl⟩
        rw [hR] at hr
        unfold hLen at hR
        simp only [bN_drop, List.length_drop] at hR
        generalize bN l (k + 1 + 0) = b1 at *
        generalize bN l (k + 1 + 1) = b2 at *
        generalize bN l (k + 1 + 2) = b3 at *
        generalize bN l (k + 1 + 3) = b4 at *
        clear hcell hv
        unfold maxLen at hc2
        obtain ⟨r1, hr1⟩ : ∃ r1, hRight ((bN l k : Int) / 16) ((bN l k : Int) % 16) = r1 := ⟨_, rfl⟩
        rw [hr1] at hr
        have Hr1 := hd hr1; clear hr1
        have HR := hd hR; clear hR
        have Hr := hd hr; clear hr
        go_enter Tryz.func44, Tryz.ntmps44
        go_wp2_with fail
        refine (refHRight_c _ _ _).mono ?_
        rintro e w' ⟨rfl, rfl⟩
        rw [Hr1.out]
        clear Hr1
        by_cases h3 : r1 = 0
        · subst h3
          have hr := Hr.out; clear Hr
          rw [if_neg (by decide)] at hr
          have Hr := hd hr; clear hr
          go_wp2_with fail
          go_rounds 5
          all_goals
            have hr := Hr.out
            have hR := HR.out
            clear Hr HR c1 c2 c3 c4 hc
            repeat (first | rw [if_pos (by omega)] at hR | rw [if_neg (by omega)] at hR)
            subst hR
            simp only at hr
            repeat (first | rw [if_pos (by first | decide | omega)] at hr | rw [if_neg (by first | decide | omega)] at hr)
            subst hr
            go_returns
            exact ⟨rfl, by go_grown⟩
        · have hr := Hr.out; clear Hr
          rw [if_pos h3] at hr
          subst hr
          have h3b : (r1 != 0) = true := by simpa using h3
          clear h3
          go_wp2
          go_returns
          exact ⟨rfl, by go_grown⟩
end Go.Proofs.YtjlnlgemngpelaaGreatDoor

/- Packets out of chunks: the framer's parts: the walks. -/
namespace Go.Proofs.YtjlnlgemngpelaaGreatDoor
open Go.RowKit
set_option linter.unusedVariables false
set_option linter.unusedSimpArgs false

/-- A framer's cells: what waits, how many were taken, whether it is dead. -/
def U8At (w : World) (v : Value) : Prop := ∀ a n c, v = .slice (some a) n c → ∃ m, w.shape? a.block = some (5, m)
structure FrAt (w : World) (g : Nat) (l : List UInt8) (taken dead : Int) (S : List Nat := []) : Prop where
  row : ∃ v, w.cell? ⟨g, 0, none⟩ = some v ∧ Bs w v l ∧ (l ≠ [] → OutOf v (g :: S))
  c1 : w.cell? ⟨g, 1, none⟩ = some (.int .i64 taken)
  c2 : w.cell? ⟨g, 2, none⟩ = some (.int .i64 dead)
  c3 : w.cell? ⟨g, 3, none⟩ = some (.bool true)
  fr : ∀ o, w.frozen? ⟨g, o, none⟩ = false
  lt : g < w.heap.size
  ltS : ∀ k, k ∈ S → k < w.heap.size
  sh : w.shape? g = some (93, 4)
  ty : l ≠ [] → ∀ v, w.cell? ⟨g, 0, none⟩ = some v → U8At w v

theorem shape_new (w : World) (L : Array Value) (t : TypeId) : (w.alloc (.cells L t)).shape? w.heap.size = some (t, L.size) := by
  have e : (w.alloc (.cells L t)).heap = w.heap.push (.cells L t) := rfl
  unfold World.shape?
  rw [e]
  simp
theorem shape_of_block {w w' : World} {k : Nat} (h : w'.heap[k]? = w.heap[k]?) : w'.shape? k = w.shape? k := by unfold World.shape?; rw [h]
theorem shape_setCell (w : World) (p : Addr) (v : Value) (k : Nat) : (w.setCell p v).shape? k = w.shape? k := by
  unfold World.shape? World.setCell
  simp only [Array.getElem?_modify]
  by_cases h : p.block = k
  · simp only [h, if_true]
    cases w.heap[k]? with
    | none => rfl
    | some o =>
      cases o
      all_goals first
        | rfl
        | (simp only [Option.map_some]; split <;> simp)
        | simp
  · simp [h]
theorem shape_ltF {w : World} {k : Nat} {x : TypeId × Nat} (h : w.shape? k = some x) : k < w.heap.size := by
  unfold World.shape? at h
  by_cases hk : k < w.heap.size
  · exact hk
  · simp [Array.getElem?_eq_none (by omega : w.heap.size ≤ k)] at h
theorem U8At.keeps {S : List Nat} {w w' : World} {v : Value} (h : U8At w v) (hk : Keeps S w w') (ho : OutOf v S) : U8At w' v := fun a n c e => by
  obtain ⟨m, hm⟩ := h a n c e
  exact ⟨m, (shape_of_block (hk.block a.block (shape_ltF hm) (ho a n c e))).trans hm⟩
theorem U8At.below {w w' : World} {v : Value} (h : U8At w v) (hb : Below w.heap.size w w') : U8At w' v := fun a n c e => by
  obtain ⟨m, hm⟩ := h a n c e
  exact ⟨m, (shape_of_block (hb.block a.block (shape_ltF hm))).trans hm⟩
theorem Owned.u8 {B : Nat} {w : World} {v : Value} {l : List UInt8} (h : Owned B w v l) : U8At w v := fun a n c e => by
  unfold Owned World.ownsRow at h
  rcases h.2 with ⟨rfl, -⟩ | ⟨b, cap, cur, rfl, hb, hg, -⟩
  · cases e
  · cases e
    exact ⟨cur.size, by simp [World.shape?, hg]⟩
theorem U8At.sub {w : World} {a a' : Option Addr} {n n' c c' : Nat} (h : U8At w (.slice a n c)) (hS : ∀ S, OutOf (.slice a n c) S → OutOf (.slice a' n' c') S) : U8At w (.slice a' n' c') := fun ad k d e => by
  cases e
  cases a with
  | none => exact absurd (List.mem_singleton.2 rfl) (hS [ad.block] (fun _ _ _ e => by cases e) ad _ _ rfl)
  | some a0 =>
    by_cases hb : a0.block = ad.block
    · rw [← hb]; exact h a0 _ _ rfl
    · exact absurd (List.mem_singleton.2 rfl) (hS [ad.block] (fun _ _ _ e => by cases e; simpa using hb) ad _ _ rfl)
theorem OutOf.head {v : Value} {g : Nat} {S : List Nat} (h : OutOf v (g :: S)) : OutOf v [g] := fun a n c e hm => h a n c e (by simp at hm; simp [hm])
theorem OutOf.tail {v : Value} {g : Nat} {S : List Nat} (h : OutOf v (g :: S)) : OutOf v S := fun a n c e hm => h a n c e (by simp [hm])
/-- A slice that is empty, or points into none of the blocks that have turned, is as readable. -/
theorem Bs.keepsL {S : List Nat} {w w' : World} {v : Value} {l : List UInt8} (h : Bs w v l) (hk : Keeps S w w') (ho : l ≠ [] → OutOf v S) : Bs w' v l := by
  by_cases hl : l = []
  · subst hl
    obtain ⟨a, c, rfl, h1, h2, h3, h4⟩ := h
    exact ⟨a, c, rfl, h1, h2, h3, fun ad _ j u hu => by simp at hu⟩
  · exact h.keeps hk (ho hl)
/-- What happens beside a framer, in blocks of S and new ones: it stands; and from now on other blocks may be the other's. -/
theorem FrAt.after {w w' : World} {g : Nat} {l : List UInt8} {t d : Int} {S S' : List Nat} (h : FrAt w g l t d S) (hk : Keeps S w w') (hg : g ∉ S)
    (hS : ∀ k, k ∈ S' → k ∈ S ∨ w.heap.size ≤ k) (hl : ∀ k, k ∈ S' → k < w'.heap.size) : FrAt w' g l t d S' := by
  obtain ⟨⟨v, c0, hv, ho⟩, c1, c2, c3, fr, lt, ltS, sh, ty⟩ := h
  refine ⟨⟨v, (hk.cell lt hg).trans c0, hv.keepsL hk (fun hl => (ho hl).tail), fun hl a n c e hm => ?_⟩, (hk.cell lt hg).trans c1, (hk.cell lt hg).trans c2, (hk.cell lt hg).trans c3, fun o => (hk.free lt hg).trans (fr o), Nat.lt_of_lt_of_le lt hk.size, hl, (shape_of_block (hk.block g lt hg)).trans sh, fun hl v' e => (ty hl v' ((hk.cell lt hg).symm.trans e)).keeps hk (by rw [(hk.cell lt hg).trans c0] at e; cases e; exact (ho hl).tail)⟩
  have h1 := ho hl a n c e
  simp only [List.mem_cons, not_or] at h1 hm
  rcases hm with hm | hm
  · exact h1.1 hm
  · rcases hS _ hm with h2 | h2
    · exact h1.2 h2
    · have hblk := Rd.block hv (by simpa using hl) a n c e
      omega

set_option maxRecDepth 100000 in
theorem none_c (g : Nat) (w : World) (h3 : w.cell? ⟨g, 3, none⟩ = some (.bool true)) : Calls Tryz.prog 39 #[.pointer (some ⟨g, 0, none⟩)] w fun e w' => e = .returned (.bool false) ∧ w = w' := by
  go_enter Tryz.func39, Tryz.ntmps39
  go_wp2_with fail
  go_ret
  exact ⟨rfl, rfl⟩
set_option maxRecDepth 100000 in
theorem noneZ_c (g : Nat) (w : World) (h3 : w.cell? ⟨g, 3, none⟩ = some (.bool false)) : Calls Tryz.prog 39 #[.pointer (some ⟨g, 0, none⟩)] w fun e w' => e = .returned (.bool true) ∧ w = w' := by
  go_enter Tryz.func39, Tryz.ntmps39
  go_wp2_with fail
  go_ret
  exact ⟨rfl, rfl⟩
set_option maxRecDepth 100000 in
theorem noneN_c (w : World) : Calls Tryz.prog 39 #[.pointer none] w fun e w' => e = .returned (.bool true) ∧ w = w' := by
  go_enter Tryz.func39, Tryz.ntmps39
  go_wp2_with fail
  go_ret
  exact ⟨rfl, rfl⟩

set_option maxRecDepth 100000 in
theorem frNew_c (w : World) : Calls Tryz.prog 26 #[] w fun e w' => e = .returned (.pointer (some ⟨w.heap.size, 0, none⟩)) ∧ FrAt w' w.heap.size [] 0 0 ∧ Below w.heap.size w w' := by
  go_enter Tryz.func26, Tryz.ntmps26
  go_wp2_with fail
  go_ret
  exact ⟨rfl, ⟨⟨.slice none 0 0, by simp [go_sem], Rd.nil _, fun h => absurd rfl h⟩, by simp [go_sem], by simp [go_sem], by simp [go_sem], fun o => by simp [go_sem], by simp, fun _ h => (by cases h), (shape_new w _ _), fun h => absurd rfl h⟩, by go_grown⟩

set_option maxRecDepth 100000 in
theorem waits_c (g : Nat) (l : List UInt8) (t d : Int) {S : List Nat} (w : World) (h : FrAt w g l t d S) : Calls Tryz.prog 32 #[.pointer (some ⟨g, 0, none⟩)] w fun e w' => e = .returned (.int .i64 l.length) ∧ w = w' := by
  obtain ⟨⟨v, c0, hv, ho⟩, c1, c2, c3, fr, lt, ltS, -, -⟩ := h
  obtain ⟨a, c, rfl⟩ := hv.slice
  go_enter Tryz.func32, Tryz.ntmps32
  go_wp2_with fail
  refine (none_c g _ c3).mono ?_
  rintro e w' ⟨rfl, rfl⟩
  go_wp2_with fail
  go_ret
  exact ⟨rfl, rfl⟩
set_option maxRecDepth 100000 in
theorem tooShort_c (w : World) : Calls Tryz.prog 64 #[] w fun e w' => e = .returned (fV 2) ∧ w = w' := by
  unfold fV
  go_enter Tryz.func64, Tryz.ntmps64
  go_wp2_with fail
  go_ret
  exact ⟨rfl, rfl⟩

set_option maxRecDepth 100000 in
set_option maxHeartbeats 4000000 in
theorem die_c (g : Nat) (l : List UInt8) (t d e : Int) {S : List Nat} (w : World) (hE : EnvR w) (h : FrAt w g l t d S) : Calls Tryz.prog 65 #[.pointer (some ⟨g, 0, none⟩), fV e] w fun r w' => r = .returned (.int .i64 e) ∧ FrAt w' g [] t e S ∧ Keeps [g] w w' := by
  obtain ⟨⟨v, c0, hv, ho⟩, c1, c2, c3, fr, lt, ltS, sh, -⟩ := h
  have SH := hd sh; clear sh
  have hlt : 1 < w.heap.size := by
    rcases Nat.lt_or_ge 1 w.heap.size with h | h
    · exact h
    · unfold EnvR at hE; simp [World.cell?, Array.getElem?_eq_none h] at hE
  have hE1 : EnvR (w.alloc (.cells #[.int .i64 0] 140)) := by unfold EnvR at hE ⊢; rw [World.cell?_alloc_lt _ _ ⟨1, 0, none⟩ hlt]; exact hE
  have hA := errAs_c e w.heap.size (.int .i64 0) (w.alloc (.cells #[.int .i64 0] 140)) hE1 (by simp [go_sem]) (by simp [go_sem])
  have hA2 : Calls Tryz.prog 86 #[fV e, .iface 146 (.pointer (some ⟨w.heap.size, 0, none⟩))] (w.alloc (.cells #[.int .i64 0] 140)) fun ev w' => ev = .returned (.bool true) ∧ w'.cell? ⟨w.heap.size, 0, none⟩ = some (.int .i64 e) ∧ Below w.heap.size w w' ∧ w.heap.size < w'.heap.size := by
    refine hA.mono ?_
    rintro ev w' ⟨rfl, rfl⟩
    refine ⟨rfl, ?_, ?_, by simp; omega⟩
    · rw [World.cell?_setCell_same' _ _ _ (by
        rw [World.cell?_alloc_lt _ _ ⟨w.heap.size, 0, none⟩ (by simp; omega), World.cell?_alloc_lt _ _ ⟨w.heap.size, 0, none⟩ (by simp; omega), World.cell?_alloc_lt _ _ ⟨w.heap.size, 0, none⟩ (by simp; omega), World.cell?_alloc_lt _ _ ⟨w.heap.size, 0, none⟩ (by simp), World.cell?_alloc_new w _ _ 0]; rfl)]
    · exact (((((((Below.refl _ w).alloc (Nat.le_refl _) _).alloc (by simp) _).alloc (by simp; omega) _).alloc (by simp; omega) _).alloc (by simp; omega) _).setCell (Nat.le_refl _) _)
  have HA := hd hA2; clear hA hA2
  go_enter Tryz.func65, Tryz.ntmps65
  go_wp2_with fail
  refine HA.out.mono ?_
  rintro r w1 ⟨rfl, hx, hb1, hl1⟩
  replace c0 := (bcell hb1 g 0 lt).trans c0
  replace c1 := (bcell hb1 g 1 lt).trans c1
  replace c2 := (bcell hb1 g 2 lt).trans c2
  replace c3 := (bcell hb1 g 3 lt).trans c3
  have f0 := (bfree hb1 g 0 lt).trans (fr 0)
  have f2 := (bfree hb1 g 2 lt).trans (fr 2)
  have hgn : w.heap.size ≠ g := by omega
  clear HA
  go_wp2_with fail
  go_ret
  refine ⟨rfl, ⟨⟨.slice none 0 0, by simp [go_sem, c0], Rd.nil _, fun h => absurd rfl h⟩, by simp [go_sem, c1], by simp [go_sem, c2], by simp [go_sem, c3], fun o => by simp [go_sem]; exact (bfree hb1 g o lt).trans (fr o), by simp; omega, fun k hk => by have := ltS k hk; have := hb1.size; simp; omega, by rw [shape_setCell, shape_setCell]; exact (shape_of_block (hb1.block g lt)).trans SH.out, fun h => absurd rfl h⟩, (((Keeps.below hb1).setCell (.inl (by simp)) _).setCell (.inl (by simp)) _)⟩
end Go.Proofs.YtjlnlgemngpelaaGreatDoor

/- Packets out of chunks: the first head that waits: the walk. -/
namespace Go.Proofs.YtjlnlgemngpelaaGreatDoor
open Go.RowKit
set_option linter.unusedVariables false
set_option linter.unusedSimpArgs false

/-- the first head that waits, where its packet begins and ends; the error's number, if there is one -/
def frLook (l : List UInt8) : (Int × Int × Int) × Int × Int × Option Int :=
  if (hGet l 0).2.2 ≠ 0 then ((0, 0, 0), 0, 0, some (hGet l 0).2.2)
  else if (l.length : Int) - (hGet l 0).2.1 < (hGet l 0).1.2.2 then ((0, 0, 0), 0, 0, some 2)
  else ((hGet l 0).1, (hGet l 0).2.1, (hGet l 0).2.1 + (hGet l 0).1.2.2, none)
def errV : Option Int → Value
  | none => .nilIface
  | some e => fV e
theorem hGet_rng {l : List UInt8} (h : (hGet l 0).2.2 = 0) : 1 ≤ (hGet l 0).2.1 ∧ (hGet l 0).2.1 ≤ l.length ∧ 0 ≤ (hGet l 0).1.2.2 ∧ (hGet l 0).1.2.2 ≤ 4096 := by
  unfold hGet at h ⊢
  have hb := hLen_bounds (l.drop ((0 : Int).toNat + 1))
  have hd : (l.drop ((0 : Int).toNat + 1)).length = l.length - 1 := by simp
  rw [hd] at hb
  repeat' split at h
  all_goals try (simp at h; done)
  all_goals try (simp only at h; omega)
  rename_i h1 h2 h3 h4 h5
  rw [if_neg h1, if_neg h2, if_neg h3, if_neg h4, if_neg h5]
  simp only
  omega
theorem lookRead {w' : World} {gr : Nat} {tmps : Array Value} {a b c x y : Int} {z : Value} (h2 : tmps[2]?.getD undef = .pointer (some ⟨gr, 0, none⟩)) (h3 : tmps[3]?.getD undef = .int .i64 x) (h4 : tmps[4]?.getD undef = .int .i64 y) (h5 : tmps[5]?.getD undef = z)
    (c0 : w'.cell? ⟨gr, 0, none⟩ = some (.int .i64 a)) (c1 : w'.cell? ⟨gr, 1, none⟩ = some (.int .i64 b)) (c2 : w'.cell? ⟨gr, 2, none⟩ = some (.int .i64 c)) :
    (results Tryz.f62 tmps).run Tryz.prog w' = .ok (.tuple #[.agg #[.int .i64 a, .int .i64 b, .int .i64 c], .int .i64 x, .int .i64 y, z]) w' := by
  simp [results, Tryz.results62, go_sem, h2, h3, h4, h5, c0, c1, c2]
def GivesLook (w : World) (r : (Int × Int × Int) × Int × Int × Option Int) (e : Ending) (w' : World) : Prop :=
  e = .returned (.tuple #[.agg #[.int .i64 r.1.1, .int .i64 r.1.2.1, .int .i64 r.1.2.2], .int .i64 r.2.1, .int .i64 r.2.2.1, errV r.2.2.2]) ∧ Below w.heap.size w w'
theorem GivesLook.mk {w w' : World} {r : (Int × Int × Int) × Int × Int × Option Int} {a b c x y : Int} {z : Option Int} (h : r = ((a, b, c), x, y, z)) (hb : Below w.heap.size w w') :
    GivesLook w r (.returned (.tuple #[.agg #[.int .i64 a, .int .i64 b, .int .i64 c], .int .i64 x, .int .i64 y, errV z])) w' := by subst h; exact ⟨rfl, hb⟩

set_option maxRecDepth 100000 in
set_option maxHeartbeats 4000000 in
theorem look_c (g : Nat) (l : List UInt8) (t d : Int) {S : List Nat} (w : World) (hE : EnvH w) (h : FrAt w g l t d S) (hlm : l.length ≤ 140737488355328) :
    Calls Tryz.prog 62 #[.pointer (some ⟨g, 0, none⟩)] w (GivesLook w (frLook l)) := by
  obtain ⟨⟨v, c0, hv, ho⟩, c1, c2, c3, fr, lt, ltS, -, -⟩ := h
  obtain ⟨a, c, rfl⟩ := hv.slice
  have HE := hd hE; clear hE
  have hsp : frLook l = frLook l := rfl
  conv at hsp => rhs; rw [frLook]
  have hrg := @hGet_rng l
  generalize frLook l = R at hsp ⊢
  have Hsp := hd hsp; clear hsp
  have hgn : w.heap.size ≠ g := by omega
  go_enter Tryz.func62, Tryz.ntmps62
  go_wp2_with fail
  refine (hGet_c _ l 0 _ (HE.out.below ((Below.refl w.heap.size w).alloc (Nat.le_refl _) _) (Nat.le_refl _)) (hv.below' ((Below.refl _ w).alloc (Nat.le_refl _) _) (Nat.le_refl _))).mono ?_
  have hsp := Hsp.out; clear Hsp
  generalize hGet l 0 = r at hsp hrg ⊢
  obtain ⟨⟨k, f, n⟩, p, e⟩ := r
  simp only at hsp hrg ⊢
  have Hsp := hd hsp; clear hsp
  rintro e' w1 ⟨rfl, hb1⟩
  have hc1 := bcell hb1
  have hf1 := bfree hb1
  have hl1 : w.heap.size < w1.heap.size := by have := hb1.size; simp at this; omega
  have hb : Below w.heap.size w w1 := Below.up (by go_grown) hb1
  have hcg : w1.cell? ⟨g, 0, none⟩ = some (.slice a l.length c) := (bcell hb g 0 lt).trans c0
  have hlg : g < w1.heap.size := by omega
  have hbs := hb.size
  clear hb1 hv
  simp only []
  by_cases he2 : e = 2
  · subst he2
    clear hrg
    go_wp2_with fail
    refine (tooShort_c _).mono ?_
    rintro e' w2 ⟨rfl, rfl⟩
    go_wp2_with fail
    exact bodyPost_ret (lookRead (a := 0) (b := 0) (c := 0) (x := 0) (y := 0) (z := errV (some 2)) rfl rfl rfl rfl (by simp [go_sem, hc1, hl1]) (by simp [go_sem, hc1, hl1]) (by simp [go_sem, hc1, hl1])) rfl (GivesLook.mk (by rw [Hsp.out]; simp) (by go_grown))
  have he2b : (e == 2) = false := by simpa using he2
  by_cases he : e = 0
  rotate_left
  · have heb : (e != 0) = true := by simpa using he
    clear hrg
    go_wp2_with fail
    exact bodyPost_ret (lookRead (a := 0) (b := 0) (c := 0) (x := 0) (y := 0) (z := errV (some e)) rfl rfl rfl rfl (by simp [go_sem, hc1, hl1]) (by simp [go_sem, hc1, hl1]) (by simp [go_sem, hc1, hl1])) rfl (GivesLook.mk (by rw [Hsp.out, if_pos he]) (by go_grown))
  subst he
  obtain ⟨p0, p1, n0, n1⟩ := hrg rfl
  have hlt0 : ¬ ((l.length : Int) - p < n) ∨ (l.length : Int) - p < n := by omega
  have Hsp2 := hd (Hsp.out.trans (if_neg (by simp))); clear Hsp hrg
  clear hlt0
  by_cases hs : (l.length : Int) - p < n
  · go_wp2_with fail
    go_quiet (fail)
    go_wp2_with fail
    refine (tooShort_c _).mono ?_
    rintro e' w2 ⟨rfl, rfl⟩
    go_wp2_with fail
    exact bodyPost_ret (lookRead (a := 0) (b := 0) (c := 0) (x := 0) (y := 0) (z := errV (some 2)) rfl rfl rfl rfl (by simp [go_sem, hc1, hl1]) (by simp [go_sem, hc1, hl1]) (by simp [go_sem, hc1, hl1])) rfl (GivesLook.mk (by rw [Hsp2.out, if_pos hs]) ((((below_dn hb.box _).setCell (Nat.le_refl _) _).setCell (Nat.le_refl _) _).setCell (Nat.le_refl _) _))
  · go_wp2_with fail
    go_quiet (fail)
    go_wp2_with fail
    have hf0 : ∀ o, w1.frozen? ⟨w.heap.size, o, none⟩ = false := fun o => (hf1 _ o (by simp)).trans (by simp [go_sem])
    have hd0 := (hc1 w.heap.size 0 (by simp)).trans (World.cell?_alloc_new w _ _ 0)
    have hd1 := (hc1 w.heap.size 1 (by simp)).trans (World.cell?_alloc_new w _ _ 1)
    have hd2 := (hc1 w.heap.size 2 (by simp)).trans (World.cell?_alloc_new w _ _ 2)
    have z0 := hf0 0; have z1 := hf0 1; have z2 := hf0 2
    clear hc1 hf1 hf0
    go_region
    go_wp2_with fail
    exact bodyPost_ret (lookRead (a := k) (b := f) (c := n) (x := p) (y := p + n) (z := errV none) rfl rfl rfl rfl (by simp [go_sem, hd0, hd1, hd2, hl1]) (by simp [go_sem, hd0, hd1, hd2, hl1]) (by simp [go_sem, hd0, hd1, hd2, hl1])) rfl (GivesLook.mk (by rw [Hsp2.out, if_neg (by omega)]) (by
      first
        | exact ((((below_dn (below_dn hb.box _) _).setCell (Nat.le_refl _) _).setCell (Nat.le_refl _) _).setCell (Nat.le_refl _) _)
        | exact ((((below_dn hb.box _).setCell (Nat.le_refl _) _).setCell (Nat.le_refl _) _).setCell (Nat.le_refl _) _)
        | (refine below_dn (((?_ : Below _ _ _).setCell (Nat.le_refl _) _).setCell (Nat.le_refl _) _ |>.setCell (Nat.le_refl _) _) _; exact below_dn hb.box _)))
end Go.Proofs.YtjlnlgemngpelaaGreatDoor

/- append of a string's bytes onto a slice that is full (cap = len), the call's own or not. Of no function of the program. -/
namespace Go.Proofs.YtjlnlgemngpelaaGreatDoor
open Go.RowKit
set_option linter.unusedVariables false
set_option linter.unusedSimpArgs false

set_option maxRecDepth 100000 in
theorem run_appFull (a : Option Addr) (l : List UInt8) (s : ByteArray) (ty : TypeId) (w : World) (hv : Bs w (.slice a l.length l.length) l) (hlen : l.length + s.size ≤ 140737488355328) :
    ∃ v' w', (Builtin.append_ #[23, 9] ty #[.slice a l.length l.length, .string s]).run Tryz.prog w = .ok v' w' ∧
      (Owned w.heap.size w' v' (l ++ sB s) ∨ (s.size = 0 ∧ v' = .slice a l.length l.length ∧ w' = w)) ∧ Below w.heap.size w w' := by
  obtain ⟨i, hi, hz, hs1, hby⟩ := info_parts info_u8
  have hsl : (Lib.strCells s).length = s.size := Lib.strCells_length s
  have hxl : (l.map byteV).length = l.length := List.length_map ..
  have hmx : l.length + s.size ≤ maxLen := by unfold maxLen; omega
  cases a with
  | none =>
    have hl0 : l = [] := by
      obtain ⟨a', c', e, h1, h2, h3, h4⟩ := hv
      simp only [Value.slice.injEq] at e
      have := (h3 e.1.symm).2.2
      simpa using this
    subst hl0
    obtain ⟨v', w', h1, h2, h3, h4⟩ := Lib.run_append_own_string (P := Tryz.prog) w w.heap.size 23 9 ty 5 i Tryz.underlying23 Tryz.underlying9 hi hz hs1 hby (.slice none 0 0) 0 [] (World.ownsRow_nil w w.heap.size 5 1) s (by simpa using hmx) (by simpa using hlen) (Nat.le_refl _)
    refine ⟨v', w', h1, .inl ?_, (Below.refl _ w).grown h3 (Nat.le_refl _) (fun k e => by cases e)⟩
    unfold Owned
    rw [List.nil_append, sB_len, ← strCells_B]
    simpa using h2
  | some ad =>
    by_cases h0 : s.size = 0
    · refine ⟨_, w, ?_, .inr ⟨h0, rfl, rfl⟩, Below.refl _ _⟩
      have hf := Lib.run_firstCells_string (P := Tryz.prog) w 1 s
      have hn : Lib.strCells s = [] := List.eq_nil_of_length_eq_zero (by rw [hsl]; exact h0)
      rw [h0, hn] at hf
      simp [Builtin.append_, run_underlying Tryz.underlying23, run_underlying Tryz.underlying9, sizeOf, typeInfo, hi, hs1, Builtin.lenOf, h0, hf, storeCells]
    · have holds : ∀ j u, (l.map byteV)[j]? = some u → w.cell? (ad.add j) = some u := by
        obtain ⟨a', c', e, h1, h2, h3, h4⟩ := hv
        simp only [Value.slice.injEq] at e
        exact h4 ad e.1.symm
      have hr := Lib.run_append_grow_string (P := Tryz.prog) w 23 9 ty 5 i (.int .u8 0) Tryz.underlying23 Tryz.underlying9 hi hz ad l.length l.length (l.map byteV) (by rw [hs1]; simp) holds s (by omega) (by omega) (by rw [hby]; have := nextslicecap_le (need := l.length + s.size) (old := l.length) (by omega); omega)
      refine ⟨_, _, hr, .inl ?_, ⟨rfl, rfl, rfl, by simp, fun k hk => Below.heap_alloc w.drew _ k hk⟩⟩
      have hge := grownCap_ge w (l.length + s.size) l.length 5
      have hcm := grownCap_le_maxLen w (l.length + s.size) l.length 5 hmx
      unfold Owned
      rw [List.length_append, sB_len, List.map_append, ← strCells_B]
      have hll : (l.map byteV ++ Lib.strCells s).length = (l.length + s.size) * 1 := by rw [List.length_append, hsl, hxl, Nat.mul_one]
      refine ⟨hll, .inr ⟨w.heap.size, _, _, rfl, Nat.le_refl _, heap_alloc_new w.drew _, hge, hcm, ?_, ?_⟩⟩
      · have hz1 : (Value.int IntKind.u8 0).cells.size = 1 := rfl
        simp only [Array.size_append, List.size_toArray, size_zeroCells, hz1, hxl, hsl]
        omega
      · simp only [Array.toList_append, List.append_assoc]
        rw [← List.append_assoc, ← hll]
        exact List.take_left
end Go.Proofs.YtjlnlgemngpelaaGreatDoor

/- Packets out of chunks: Feed: the walk. -/
namespace Go.Proofs.YtjlnlgemngpelaaGreatDoor
open Go.RowKit
set_option linter.unusedVariables false
set_option linter.unusedSimpArgs false

theorem Owned.outOf {B : Nat} {w : World} {v : Value} {l : List UInt8} (h : Owned B w v l) {S : List Nat} (hS : ∀ k, k ∈ S → k < B) : OutOf v S := by
  intro a n c e hm
  unfold Owned World.ownsRow at h
  rcases h.2 with ⟨rfl, -⟩ | ⟨b, r, k, rfl, hb, -⟩
  · cases e
  · cases e
    have := hS _ hm
    simp at this
    omega

theorem wp_appFull {o : Oper} {a : Act} {w : World} {K : Act → World → Prop} {Q : Exit → Act → World → Prop} (s x : Operand)
    (ho : o.op = .call { callee := .builtin .append, args := #[s, x], argTypes := #[23, 9] })
    (ad : Option Addr) (l : List UInt8) (hv : a.eval s = .slice ad l.length l.length) (hb : Bs w (.slice ad l.length l.length) l) (str : ByteArray) (hx : a.eval x = .string str)
    (hlen : l.length + str.size ≤ 140737488355328)
    (h : ∀ v' w', (Owned w.heap.size w' v' (l ++ sB str) ∨ (str.size = 0 ∧ v' = .slice ad l.length l.length ∧ w' = w)) → Below w.heap.size w w' → K (a.put o.dst v') w') : Oper.wp Tryz.prog o a w K Q := by
  obtain ⟨v', w', hr, h2, h3⟩ := run_appFull ad l str o.type w hb hlen
  unfold Oper.wp execOp
  simp only [ho, resolve, invoke, builtin, Sem.run_bind, Sem.run_pure, Result.andThen_ok, List.map_toArray, List.map_cons, List.map_nil, hv, hx, hr]
  exact h v' w' h2 h3

/-- A slice cut to its length is as readable. -/
theorem Bs.cut {w : World} {a : Option Addr} {l : List UInt8} {c : Nat} (h : Bs w (.slice a l.length c) l) : Bs w (.slice a l.length l.length) l := by
  obtain ⟨a', c', e, h1, h2, h3, h4⟩ := h
  cases e
  exact ⟨a, l.length, rfl, Nat.le_refl _, by omega, fun h => ⟨(h3 h).1, (h3 h).1, (h3 h).2.2⟩, h4⟩

set_option maxRecDepth 100000 in
set_option maxHeartbeats 4000000 in
theorem feed_c (g : Nat) (l : List UInt8) (t d : Int) {S : List Nat} (s : ByteArray) (w : World) (h : FrAt w g l t d S) (hlen : l.length + s.size ≤ 140737488355328) :
    Calls Tryz.prog 28 #[.pointer (some ⟨g, 0, none⟩), .string s] w fun r w' => r = .returned (.int .i64 0) ∧ FrAt w' g (if d = 0 then l ++ sB s else l) t d S ∧ Keeps [g] w w' := by
  have H := hd h
  obtain ⟨⟨v, c0, hv, ho⟩, c1, c2, c3, fr, lt, ltS, sh, ty⟩ := h
  have SH := hd sh; have TY := hd ty; clear sh ty
  obtain ⟨a, c, rfl⟩ := hv.slice
  by_cases hdd : d = 0
  rotate_left
  · have hdb : (d != 0) = true := by simpa using hdd
    rw [if_neg hdd]
    clear hv fr ho hlen
    go_enter Tryz.func28, Tryz.ntmps28
    go_wp2_with fail
    refine (none_c g _ c3).mono ?_
    rintro e w' ⟨rfl, rfl⟩
    go_wp2_with fail
    go_ret
    exact ⟨rfl, H.out, Keeps.refl _ _⟩
  subst hdd
  rw [if_pos rfl]
  have hcap : l.length ≤ c := by
    obtain ⟨a', c', e, h1, h2, h3, h4⟩ := hv
    cases e
    exact h1
  have hcut := hd hv.cut
  have HL := hd hlen
  clear hlen H
  have HV := hd hv
  clear hv
  go_enter Tryz.func28, Tryz.ntmps28
  go_wp2_with fail
  refine (none_c g _ c3).mono ?_
  rintro e w' ⟨rfl, rfl⟩
  go_wp2_with fail
  refine wp_region_M (fun W => W.cell? ⟨g, 0, none⟩ = some (.slice a l.length c)) 20 [(0, false), (1, false), (2, false), (3, false), (4, false), (5, false), (6, false), (7, false), (8, false), (9, false), (10, false), (11, false), (12, false), (13, false), (14, false), (15, false), (16, false), (17, true), (18, false), (19, false), (20, true)] (by kernel_rfl) (by kernel_rfl) (fun _ _ _ _ h => h) c0 ?_
  iterate 17
    apply wpM_still (by rfl) (by rfl)
    · intro W hC
      go_simp
      rfl
    go_simp
  apply wpM_move (by rfl) (by rfl)
  intro K hK
  refine wp_appFull _ _ (by rfl) a l (by rfl) (hcut.out.below' (Below.refl _ _).drew (Nat.le_refl _)) s (by rfl) HL.out ?_
  rintro v5 w5 ho5 hb5
  have hin : ∃ a5 n5, v5 = .slice a5 (l ++ sB s).length n5 ∧ Bs w5 v5 (l ++ sB s) ∧ ((l ++ sB s) ≠ [] → OutOf v5 (g :: S)) ∧ ((l ++ sB s) ≠ [] → U8At w5 v5) := by
    rcases ho5 with h5 | ⟨hz, rfl, rfl⟩
    · obtain ⟨a5, n5, e⟩ := Owns.slice h5
      exact ⟨a5, n5, by rw [e], h5.bs, fun _ => h5.outOf (fun k hk => by rcases List.mem_cons.1 hk with rfl | hk; exact lt; exact ltS k hk), fun _ => h5.u8⟩
    · have e0 : sB s = [] := List.eq_nil_of_length_eq_zero (by rw [sB_len]; exact hz)
      rw [e0, List.append_nil]
      exact ⟨a, l.length, rfl, hcut.out.below' (Below.refl _ _).drew (Nat.le_refl _), fun hne a' n' c' e => by cases e; exact ho hne a' _ _ rfl, fun hne a' n' c' e => by cases e; exact (TY.out hne _ c0).below ((Below.refl _ _).drew) a' _ _ rfl⟩
  obtain ⟨a5, n5, rfl, hv5, hout, hty⟩ := hin
  have HTY := hd hty; clear hty
  have hb : Below w.heap.size w w5 := ⟨hb5.os, hb5.tape, hb5.output, hb5.size, hb5.block⟩
  clear ho5 hb5 hcut HV HL ho
  replace c0 := (bcell hb g 0 lt).trans c0
  replace c1 := (bcell hb g 1 lt).trans c1
  replace c2 := (bcell hb g 2 lt).trans c2
  replace c3 := (bcell hb g 3 lt).trans c3
  replace fr := fun o => (bfree hb g o lt).trans (fr o)
  have f0 := fr 0
  have hg5 : g < w5.heap.size := Nat.lt_of_lt_of_le lt hb.size
  have Hv5 := hd hv5; clear hv5
  have HOut := hd hout; clear hout
  have hltS : ∀ k, k ∈ S → k < w5.heap.size := fun k hk => Nat.lt_of_lt_of_le (ltS k hk) hb.size
  clear ltS
  generalize hm : (l ++ sB s).length = m at *
  refine hK _ _ (fun _ => c0) ?_
  clear hK K
  go_simp
  iterate 2
    apply wpM_still (by rfl) (by rfl)
    · intro W hC
      go_simp
      rfl
    go_simp
  apply wpM_move (by rfl) (by rfl)
  intro K hK
  go_simp
  refine hK _ _ (fun h => absurd h (by decide)) ?_
  clear hK K
  refine wpM_nil ?_
  have hk5 : Keeps [g] w5 (w5.setCell ⟨g, 0, none⟩ (.slice a5 m n5)) := (Keeps.refl _ _).setCell (.inl (by simp)) _
  go_wp2_with fail
  go_ret
  exact ⟨rfl, ⟨⟨_, by simp [go_sem, c0], Hv5.out.keepsL hk5 (fun h => (HOut.out h).head), HOut.out⟩, by simp [go_sem, c1], by simp [go_sem, c2], by simp [go_sem, c3], fun o => by simp [go_sem]; exact fr o, by simp [go_sem]; exact hg5, fun k hk => by simp [go_sem]; exact hltS k hk, by rw [shape_setCell]; exact (shape_of_block (hb.block g lt)).trans SH.out, fun hne v' e => by { have e2 : v' = .slice a5 m n5 := by { simp [go_sem, c0] at e; exact e.symm }; rw [e2]; exact (HTY.out hne).keeps hk5 ((HOut.out hne).head) }⟩, (Keeps.below hb).trans hk5⟩
end Go.Proofs.YtjlnlgemngpelaaGreatDoor

/- Packets out of chunks: Next: the walk. -/
namespace Go.Proofs.YtjlnlgemngpelaaGreatDoor
open Go.RowKit
set_option linter.unusedVariables false
set_option linter.unusedSimpArgs false

/-- a packet: its head and its body -/
abbrev Pk := (Int × Int × Int) × List UInt8
def pk0 : Pk := ((0, 0, 0), [])
def pkV (x : Pk) : Value := .agg #[.int .i64 x.1.1, .int .i64 x.1.2.1, .int .i64 x.1.2.2, .string (sOf x.2)]
/-- what waits, how many were taken, the error -/
abbrev FrS := List UInt8 × Int × Int
def frNext (s : FrS) : (Pk × Bool × Int) × FrS :=
  if s.2.2 ≠ 0 then ((pk0, false, s.2.2), s)
  else if (hGet s.1 0).2.2 = 2 then ((pk0, false, 0), s)
  else if (hGet s.1 0).2.2 ≠ 0 then ((pk0, false, (hGet s.1 0).2.2), ([], s.2.1, (hGet s.1 0).2.2))
  else if (s.1.length : Int) - (hGet s.1 0).2.1 < (hGet s.1 0).1.2.2 then ((pk0, false, 0), s)
  else ((((hGet s.1 0).1, (s.1.drop (hGet s.1 0).2.1.toNat).take (hGet s.1 0).1.2.2.toNat), true, 0),
    (s.1.drop ((hGet s.1 0).2.1 + (hGet s.1 0).1.2.2).toNat, s.2.1 + 1, 0))

theorem nextRead {w' : World} {gr : Nat} {tmps : Array Value} {a b c x : Int} {s : ByteArray} {ok : Bool} (h2 : tmps[2]?.getD undef = .pointer (some ⟨gr, 0, none⟩)) (h3 : tmps[3]?.getD undef = .bool ok) (h4 : tmps[4]?.getD undef = .int .i64 x)
    (c0 : w'.cell? ⟨gr, 0, none⟩ = some (.int .i64 a)) (c1 : w'.cell? ⟨gr, 1, none⟩ = some (.int .i64 b)) (c2 : w'.cell? ⟨gr, 2, none⟩ = some (.int .i64 c)) (c3 : w'.cell? ⟨gr, 3, none⟩ = some (.string s)) :
    (results Tryz.f40 tmps).run Tryz.prog w' = .ok (.tuple #[.agg #[.int .i64 a, .int .i64 b, .int .i64 c, .string s], .bool ok, .int .i64 x]) w' := by
  simp [results, Tryz.results40, go_sem, h2, h3, h4, c0, c1, c2, c3]

def GivesNext (w : World) (g : Nat) (r : (Pk × Bool × Int) × FrS) (e : Ending) (w' : World) (S : List Nat := []) : Prop :=
  e = .returned (.tuple #[pkV r.1.1, .bool r.1.2.1, .int .i64 r.1.2.2]) ∧ FrAt w' g r.2.1 r.2.2.1 r.2.2.2 S ∧ Keeps [g] w w'

theorem FrAt.below {w w' : World} {g : Nat} {l : List UInt8} {t d : Int} {S : List Nat} (h : FrAt w g l t d S) (hb : Below w.heap.size w w') : FrAt w' g l t d S := by
  obtain ⟨⟨v, c0, hv, ho⟩, c1, c2, c3, fr, lt, ltS, sh, ty⟩ := h
  exact ⟨⟨v, (bcell hb g 0 lt).trans c0, hv.below' hb (Nat.le_refl _), ho⟩, (bcell hb g 1 lt).trans c1, (bcell hb g 2 lt).trans c2, (bcell hb g 3 lt).trans c3, fun o => (bfree hb g o lt).trans (fr o), Nat.lt_of_lt_of_le lt hb.size, fun k hk => Nat.lt_of_lt_of_le (ltS k hk) hb.size, (shape_of_block (hb.block g lt)).trans sh, fun hl v' e => (ty hl v' ((bcell hb g 0 lt).symm.trans e)).below hb⟩

set_option maxRecDepth 100000 in
set_option maxHeartbeats 4000000 in
theorem nextDead_c (g : Nat) (l : List UInt8) (t d : Int) {S : List Nat} (w : World) (h : FrAt w g l t d S) (hd0 : d ≠ 0) :
    Calls Tryz.prog 40 #[.pointer (some ⟨g, 0, none⟩)] w (fun e w' => GivesNext w g ((pk0, false, d), (l, t, d)) e w' S) := by
  have H := hd h
  obtain ⟨⟨v, c0, hv, ho⟩, c1, c2, c3, fr, lt, ltS, -, -⟩ := h
  have hdb : (d != 0) = true := by simpa using hd0
  have hgn : w.heap.size ≠ g := by omega
  clear hv ho fr ltS
  go_enter Tryz.func40, Tryz.ntmps40
  go_wp2_with fail
  refine (none_c g _ (by simp [go_sem, c3, lt])).mono ?_
  rintro e w' ⟨rfl, rfl⟩
  go_wp2_with fail
  go_region
  go_wp2_with fail
  have hb : Below w.heap.size w (w.alloc (Obj.cells #[Value.int IntKind.i64 0, Value.int IntKind.i64 0, Value.int IntKind.i64 0, Value.string ⟨#[]⟩] 95)).drew := below_dn ((Below.refl _ w).alloc (Nat.le_refl _) _) 1
  exact bodyPost_ret (nextRead (a := 0) (b := 0) (c := 0) (x := d) (s := ⟨#[]⟩) (ok := false) rfl rfl rfl (by simp [go_sem]) (by simp [go_sem]) (by simp [go_sem]) (by simp [go_sem])) rfl ⟨rfl, H.out.below hb, Keeps.below hb⟩

theorem frNext_short {l : List UInt8} {t : Int} (h : (frLook l).2.2.2 = some 2) : frNext (l, t, 0) = ((pk0, false, 0), (l, t, 0)) := by
  unfold frLook at h
  rw [frNext, if_neg (by simp)]
  simp only
  split at h
  · rename_i h1
    simp only [Option.some.injEq] at h
    rw [if_pos h]
  · rename_i h1
    simp only [ne_eq, Decidable.not_not] at h1
    split at h
    · rename_i h2
      simp [h1, h2]
    · simp at h
theorem frNext_bad {l : List UInt8} {t e : Int} (h : (frLook l).2.2.2 = some e) (he : e ≠ 2) : e ≠ 0 ∧ frNext (l, t, 0) = ((pk0, false, e), ([], t, e)) := by
  unfold frLook at h
  rw [frNext, if_neg (by simp)]
  simp only
  split at h
  · rename_i h1
    simp only [Option.some.injEq] at h
    rw [if_neg (by rw [h]; exact he), if_pos h1, h]
    exact ⟨h ▸ h1, rfl⟩
  · split at h
    · simp only [Option.some.injEq] at h
      exact absurd h.symm he
    · simp at h
theorem frNext_ok {l : List UInt8} {t : Int} (h : (frLook l).2.2.2 = none) : 0 ≤ (frLook l).2.1 ∧ (frLook l).2.1 ≤ (frLook l).2.2.1 ∧ (frLook l).2.2.1 ≤ l.length ∧
    frNext (l, t, 0) = ((((frLook l).1, (l.drop (frLook l).2.1.toNat).take ((frLook l).2.2.1.toNat - (frLook l).2.1.toNat)), true, 0), (l.drop (frLook l).2.2.1.toNat, t + 1, 0)) := by
  have h1 : (hGet l 0).2.2 = 0 := by
    by_cases h1 : (hGet l 0).2.2 = 0
    · exact h1
    · unfold frLook at h; rw [if_pos h1] at h; simp at h
  obtain ⟨p0, p1, n0, n1⟩ := hGet_rng h1
  have h2 : ¬ ((l.length : Int) - (hGet l 0).2.1 < (hGet l 0).1.2.2) := fun h2 => by
    unfold frLook at h; rw [if_neg (by simp [h1]), if_pos h2] at h; simp at h
  have e : frLook l = ((hGet l 0).1, (hGet l 0).2.1, (hGet l 0).2.1 + (hGet l 0).1.2.2, none) := by unfold frLook; simp [h1, h2]
  rw [e]
  simp only
  refine ⟨by omega, by omega, by omega, ?_⟩
  rw [show ((hGet l 0).2.1 + (hGet l 0).1.2.2).toNat - (hGet l 0).2.1.toNat = (hGet l 0).1.2.2.toNat by omega, frNext]
  simp [h1, h2]

theorem EnvR.below {w w' : World} (h : EnvR w) (hb : Below w.heap.size w w') : EnvR w' := by
  have hlt : 1 < w.heap.size := by
    rcases Nat.lt_or_ge 1 w.heap.size with h' | h'
    · exact h'
    · unfold EnvR at h; simp [World.cell?, Array.getElem?_eq_none h'] at h
  unfold EnvR at h ⊢
  exact (bcell hb _ _ hlt).trans h

theorem run_fromO {w : World} {a : Option Addr} {n c : Nat} {l : List UInt8} (h : Bs w (.slice a n c) l) (I : Int) (i : Nat) (hI : I = i) (hi : i ≤ l.length) :
    ∃ a' c', (∀ W : World, (Instr.slice 23 (.slice a n c) (some (.int .i64 I)) none none).run Tryz.prog W = .ok (.slice a' (l.length - i) c') W) ∧ Bs w (.slice a' (l.length - i) c') (l.drop i) ∧ ∀ S, OutOf (.slice a n c) S → OutOf (.slice a' (l.length - i) c') S := by
  have hp := h.part i l.length hi (Nat.le_refl _)
  rw [List.take_of_length_le (by simp)] at hp
  obtain ⟨a0, c0, hv, h1, h2, h3, h4⟩ := h
  cases hv
  subst hI
  refine ⟨_, _, fun W => ?_, hp, fun S hS a'' n'' c'' e => ?_⟩
  · rw [run_slice_l W 23 a l.length c (by kernel_rfl) .i64 (i : Int) (by omega) (by omega)]
    obtain ⟨i0, hi, hz0, hz1, hz2⟩ := info_parts info_u8
    have he : Tryz.prog.elem 23 = 5 := by kernel_rfl
    simp [sizeOf, typeInfo, he, hi, hz1, sliced, Result.andThen]
  · simp only [Value.slice.injEq] at e
    have e1 := e.1
    cases a with
    | none => split at e1 <;> simp at e1
    | some ad =>
      split at e1
      · simp only [Option.some.injEq] at e1
        exact e1 ▸ hS ad _ _ rfl
      · simp only [Option.map_some, Option.some.injEq] at e1
        have : a''.block = ad.block := by rw [← e1]; unfold Addr.add; split <;> rfl
        rw [this]
        exact hS ad _ _ rfl

theorem FrAt.nilKeeps {S S' : List Nat} {w w' : World} {g : Nat} {t d : Int} (h : FrAt w g [] t d S') (hk : Keeps S w w') (hg : g ∉ S) : FrAt w' g [] t d S' := by
  obtain ⟨⟨v, c0, hv, ho⟩, c1, c2, c3, fr, lt, ltS, sh, -⟩ := h
  refine ⟨⟨v, (hk.cell lt hg).trans c0, ?_, ho⟩, (hk.cell lt hg).trans c1, (hk.cell lt hg).trans c2, (hk.cell lt hg).trans c3, fun o => (hk.free lt hg).trans (fr o), Nat.lt_of_lt_of_le lt hk.size, fun k hk' => Nat.lt_of_lt_of_le (ltS k hk') hk.size, (shape_of_block (hk.block g lt hg)).trans sh, fun h => absurd rfl h⟩
  obtain ⟨a, c, rfl, h1, h2, h3, h4⟩ := hv
  exact ⟨a, c, rfl, h1, h2, h3, fun ad _ j u hu => by simp at hu⟩

set_option maxRecDepth 100000 in
set_option maxHeartbeats 4000000 in
theorem nextLive_c (g : Nat) (l : List UInt8) (t : Int) {S : List Nat} (w : World) (hE : EnvH w) (hR : EnvR w) (h : FrAt w g l t 0 S) (hlm : l.length ≤ 140737488355328) (ht : 0 ≤ t ∧ t ≤ 140737488355328) :
    Calls Tryz.prog 40 #[.pointer (some ⟨g, 0, none⟩)] w (fun e w' => GivesNext w g (frNext (l, t, 0)) e w' S) := by
  have HE := hd hE; clear hE
  have HR := hd hR; clear hR
  have H := hd h
  have hlk := fun W => look_c g l t 0 (S := S) W
  have hS := @frNext_short l t
  have hB := fun e => @frNext_bad l t e
  have hO := @frNext_ok l t
  generalize frNext (l, t, 0) = N at *
  generalize frLook l = R at *
  obtain ⟨⟨k, f, n⟩, p, q, er⟩ := R
  simp only at hS hB hO
  have HS := hd hS; have HB := hd hB; have HO := hd hO
  clear hS hB hO
  have HL := hd hlk; clear hlk
  obtain ⟨⟨v, c0, hv, ho⟩, c1, c2, c3, fr, lt, ltS, -, ty⟩ := h
  have TY : Hd (l ≠ [] → U8At w v) := hd (fun hl => ty hl v c0); clear ty
  obtain ⟨a, c, rfl⟩ := hv.slice
  have hgn : w.heap.size ≠ g := by omega
  have HV := hd hv; have HOut := hd ho; have HLS := hd ltS
  clear hv ho ltS
  go_enter Tryz.func40, Tryz.ntmps40
  go_wp2_with fail
  refine (none_c g _ (by simp [go_sem, c3, lt])).mono ?_
  rintro e w' ⟨rfl, rfl⟩
  go_wp2_with fail
  have hb0 : Below w.heap.size w (w.alloc (Obj.cells #[Value.int IntKind.i64 0, Value.int IntKind.i64 0, Value.int IntKind.i64 0, Value.string ⟨#[]⟩] 95)) := (Below.refl _ w).alloc (Nat.le_refl _) _
  refine (HL.out _ (HE.out.below hb0 (Nat.le_refl _)) (H.out.below hb0) hlm).mono ?_
  rintro e w1 ⟨rfl, hb1⟩
  clear HL
  have HRR : Hd (EnvR w1 ∧ FrAt w1 g l t 0 S ∧ Below w.heap.size w w1) := hd (by
    have hb : Below w.heap.size w w1 := Below.up (by go_grown) hb1
    exact ⟨HR.out.below hb, H.out.below hb, hb⟩)
  have hl1 : w.heap.size < w1.heap.size := by have := hb1.size; simp at this; omega
  have q0 : ∀ o, w1.frozen? ⟨w.heap.size, o, none⟩ = false := fun o => (bfree hb1 w.heap.size o (by simp)).trans (by simp [go_sem])
  have z0 : w1.cell? ⟨w.heap.size, 0, none⟩ = some (.int .i64 0) := (bcell hb1 w.heap.size 0 (by simp)).trans (World.cell?_alloc_new w _ _ 0)
  have z1 : w1.cell? ⟨w.heap.size, 1, none⟩ = some (.int .i64 0) := (bcell hb1 w.heap.size 1 (by simp)).trans (World.cell?_alloc_new w _ _ 1)
  have z2 : w1.cell? ⟨w.heap.size, 2, none⟩ = some (.int .i64 0) := (bcell hb1 w.heap.size 2 (by simp)).trans (World.cell?_alloc_new w _ _ 2)
  have z3 : w1.cell? ⟨w.heap.size, 3, none⟩ = some (.string ⟨#[]⟩) := (bcell hb1 w.heap.size 3 (by simp)).trans (World.cell?_alloc_new w _ _ 3)
  have hb : Below w.heap.size w w1 := HRR.out.2.2
  replace c0 := (bcell hb g 0 lt).trans c0
  replace c1 := (bcell hb g 1 lt).trans c1
  replace c2 := (bcell hb g 2 lt).trans c2
  replace c3 := (bcell hb g 3 lt).trans c3
  replace fr := fun o => (bfree hb g o lt).trans (fr o)
  have hg1 : g < w1.heap.size := by omega
  have f0 := fr 0; have f1 := fr 1
  have qq0 := q0 0
  clear hb hb0 hb1 HE HR
  cases er with
  | some e =>
    have eV : errV (some e) = fV e := rfl
    simp only [eV]
    clear eV HO
    have hb2 : Below w1.heap.size w1 (w1.alloc (Obj.cells #[.int .i64 k, .int .i64 f, .int .i64 n] 85)) := (Below.refl _ _).alloc (Nat.le_refl _) _
    have HR2 : Hd (EnvR (w1.alloc (Obj.cells #[.int .i64 k, .int .i64 f, .int .i64 n] 85)) ∧ FrAt (w1.alloc (Obj.cells #[.int .i64 k, .int .i64 f, .int .i64 n] 85)) g l t 0 S ∧ Below w.heap.size w (w1.alloc (Obj.cells #[.int .i64 k, .int .i64 f, .int .i64 n] 85))) := hd ⟨HRR.out.1.below hb2, HRR.out.2.1.below hb2, HRR.out.2.2.trans (hb2.mono (Nat.le_of_lt hl1))⟩
    clear hb2
    go_wp2_with fail
    refine (tooShort_c _).mono ?_
    rintro r w2 ⟨rfl, rfl⟩
    go_wp2_with fail
    refine (errIs_c e 2 _).mono ?_
    rintro r w2 ⟨rfl, rfl⟩
    by_cases he : e = 2
    · subst he
      have HN := hd (HS.out rfl)
      clear HS HB HR2
      go_wp2_with fail
      refine bodyPost_ret (nextRead (a := 0) (b := 0) (c := 0) (x := 0) (s := ⟨#[]⟩) (ok := false) rfl rfl rfl (by simp [go_sem, z0, hl1]) (by simp [go_sem, z1, hl1]) (by simp [go_sem, z2, hl1]) (by simp [go_sem, z3, hl1])) rfl ?_
      rw [HN.out]
      have hbb : Below w.heap.size w (((((w1.setCell ⟨w.heap.size, 0, none⟩ (.int .i64 0)).setCell ⟨w.heap.size, 1, none⟩ (.int .i64 0)).setCell ⟨w.heap.size, 2, none⟩ (.int .i64 0)).setCell ⟨w.heap.size, 3, none⟩ (.string ⟨#[]⟩)).alloc (Obj.cells #[.int .i64 k, .int .i64 f, .int .i64 n] 85)) :=
        (((((HRR.out.2.2.setCell (Nat.le_refl _) _).setCell (Nat.le_refl _) _).setCell (Nat.le_refl _) _).setCell (Nat.le_refl _) _).alloc (by simp; omega) _)
      exact ⟨rfl, H.out.below hbb, Keeps.below hbb⟩
    · have heb : (e == 2) = false := by simpa using he
      have HN := hd (HB.out e rfl he)
      clear HS HB HRR
      unfold fV
      go_wp2_with fail
      refine (die_c g l t 0 e _ HR2.out.1 HR2.out.2.1).mono ?_
      rintro r w3 ⟨rfl, hF, hk⟩
      have hs3 := hk.size
      simp at hs3
      have hl3 : w.heap.size < w3.heap.size := by omega
      replace z0 := (hk.cell (b := w.heap.size) (o := 0) (by simp; omega) (by simpa using hgn)).trans ((World.cell?_alloc_lt _ _ ⟨w.heap.size, 0, none⟩ hl1).trans z0)
      replace z1 := (hk.cell (b := w.heap.size) (o := 1) (by simp; omega) (by simpa using hgn)).trans ((World.cell?_alloc_lt _ _ ⟨w.heap.size, 1, none⟩ hl1).trans z1)
      replace z2 := (hk.cell (b := w.heap.size) (o := 2) (by simp; omega) (by simpa using hgn)).trans ((World.cell?_alloc_lt _ _ ⟨w.heap.size, 2, none⟩ hl1).trans z2)
      replace z3 := (hk.cell (b := w.heap.size) (o := 3) (by simp; omega) (by simpa using hgn)).trans ((World.cell?_alloc_lt _ _ ⟨w.heap.size, 3, none⟩ hl1).trans z3)
      have hq : ∀ o, w3.frozen? ⟨w.heap.size, o, none⟩ = false := fun o => (hk.free (b := w.heap.size) (o := o) (by simp; omega) (by simpa using hgn)).trans (by simpa [go_sem, hl1] using q0 o)
      have y0 := hq 0; have y1 := hq 1; have y2 := hq 2; have y3 := hq 3
      clear q0 qq0 c0 c1 c2 c3 fr f0 f1 hq
      have HF := hd hF; have HK := hd hk
      clear hF hk
      go_wp2_with fail
      refine bodyPost_ret (nextRead (a := 0) (b := 0) (c := 0) (x := e) (s := ⟨#[]⟩) (ok := false) rfl rfl rfl (by simp [go_sem, z0, hl3]) (by simp [go_sem, z1, hl3]) (by simp [go_sem, z2, hl3]) (by simp [go_sem, z3, hl3])) rfl ?_
      rw [HN.out.2]
      have hk4 : Keeps [w.heap.size] w3 ((((w3.setCell ⟨w.heap.size, 0, none⟩ (.int .i64 0)).setCell ⟨w.heap.size, 1, none⟩ (.int .i64 0)).setCell ⟨w.heap.size, 2, none⟩ (.int .i64 0)).setCell ⟨w.heap.size, 3, none⟩ (.string ⟨#[]⟩)) :=
        (((((Keeps.refl _ _).setCell (.inl (by simp)) _).setCell (.inl (by simp)) _).setCell (.inl (by simp)) _).setCell (.inl (by simp)) _)
      exact ⟨rfl, HF.out.nilKeeps hk4 (by simpa using hgn.symm), (((((Keeps.below HR2.out.2.2).trans (S := [g]) ⟨HK.out.os, HK.out.tape, HK.out.output, HK.out.size, HK.out.block⟩).setCell (.inr (Nat.le_refl _)) _).setCell (.inr (Nat.le_refl _)) _).setCell (.inr (Nat.le_refl _)) _).setCell (.inr (Nat.le_refl _)) _⟩
  | none =>
    have eV : errV none = .nilIface := rfl
    simp only [eV]
    clear eV HS HB
    obtain ⟨p0, p1, p2, hN⟩ := HO.out rfl
    have HN := hd hN
    clear hN HO
    have hb2 : Below w1.heap.size w1 (w1.alloc (Obj.cells #[.int .i64 k, .int .i64 f, .int .i64 n] 85)) := (Below.refl _ _).alloc (Nat.le_refl _) _
    have hbw := HRR.out.2.2
    have hbs : Bs (w1.alloc (Obj.cells #[.int .i64 k, .int .i64 f, .int .i64 n] 85)).drew (.slice a l.length c) l := (HV.out.below' hbw (Nat.le_refl _)).below' (below_dn hb2 1) (Nat.le_refl _)
    obtain ⟨a1, c1', hsl, hbs1⟩ := run_part hbs p q p.toNat q.toNat (by omega) (by omega) (by omega) (by omega)
    obtain ⟨a2, c2', hsl2, hbs2, hout2⟩ := run_fromO HV.out q q.toNat (by omega) (by omega)
    have HO2 : Hd (l.drop q.toNat ≠ [] → OutOf (.slice a2 (l.length - q.toNat) c2') (g :: S)) := hd (fun hne => hout2 (g :: S) (HOut.out (fun e => hne (by rw [e]; simp))))
    have HT2 : Hd (l.drop q.toNat ≠ [] → U8At w (.slice a2 (l.length - q.toNat) c2')) := hd (fun hne => (TY.out (fun e => hne (by rw [e]; simp))).sub hout2)
    clear hout2
    have HB1 := hd hbs1; have HB2 := hd hbs2
    clear hb2 hbw hbs hbs1 hbs2
    go_wp2_with fail
    refine (tooShort_c _).mono ?_
    rintro r w2 ⟨rfl, rfl⟩
    go_wp2_with fail
    refine (errIsNil_c 2 _).mono ?_
    rintro r w2 ⟨rfl, rfl⟩
    go_wp2_with fail
    refine wp_region_M (fun W => W.cell? ⟨w1.heap.size, 0, none⟩ = some (.int .i64 k) ∧ W.cell? ⟨w1.heap.size, 1, none⟩ = some (.int .i64 f) ∧ W.cell? ⟨w1.heap.size, 2, none⟩ = some (.int .i64 n) ∧ W.cell? ⟨g, 0, none⟩ = some (.slice a l.length c) ∧ Bs W (.slice a1 (q.toNat - p.toNat) c1') ((l.drop p.toNat).take (q.toNat - p.toNat))) 11 [(0, false), (1, false), (2, false), (3, false), (4, false), (5, false), (6, false), (7, false), (8, false), (9, false), (10, true), (11, true)] (by kernel_rfl) (by kernel_rfl) (fun _ _ _ _ h => h) ⟨World.cell?_alloc_new _ _ _ 0, World.cell?_alloc_new _ _ _ 1, World.cell?_alloc_new _ _ _ 2, (World.cell?_alloc_lt _ _ ⟨g, 0, none⟩ hg1).trans c0, HB1.out⟩ ?_
    iterate 10
      apply wpM_still (by rfl) (by rfl)
      · intro W hC
        obtain ⟨d0, d1, d2, d3, d4⟩ := hC
        have hst := run_str d4
        clear d4
        go_simp
        rfl
      go_simp
    apply wpM_move (by rfl) (by rfl)
    intro K hK
    go_simp
    refine hK _ _ (fun _ => ?_) ?_
    · refine ⟨?_, ?_, ?_, ?_, HB1.out.below' ((Below.refl _ _).alloc (Nat.le_refl _) _) (Nat.le_refl _)⟩
      · simp [go_sem]
      · simp [go_sem]
      · simp [go_sem]
      · simp [go_sem, c0, hg1]
    clear hK K
    apply wpM_move (by rfl) (by rfl)
    intro K hK
    go_simp
    refine hK _ _ (fun h => absurd h (by decide)) ?_
    clear hK K
    refine wpM_nil ?_
    have hb5 : Below w1.heap.size w1 ((w1.alloc (Obj.cells #[.int .i64 k, .int .i64 f, .int .i64 n] 85)).alloc (Obj.cells #[.int .i64 k, .int .i64 f, .int .i64 n, .string ⟨((l.drop p.toNat).take (q.toNat - p.toNat)).toArray⟩] 95)).drew :=
      below_dn (((Below.refl _ _).alloc (Nat.le_refl _) _).alloc (by simp) _) 1
    have x0 : ((w1.alloc (Obj.cells #[.int .i64 k, .int .i64 f, .int .i64 n] 85)).alloc (Obj.cells #[.int .i64 k, .int .i64 f, .int .i64 n, .string ⟨((l.drop p.toNat).take (q.toNat - p.toNat)).toArray⟩] 95)).drew.cell? ⟨w1.heap.size + 1, 0, none⟩ = some (.int .i64 k) := by simp [go_sem]
    have x1 : ((w1.alloc (Obj.cells #[.int .i64 k, .int .i64 f, .int .i64 n] 85)).alloc (Obj.cells #[.int .i64 k, .int .i64 f, .int .i64 n, .string ⟨((l.drop p.toNat).take (q.toNat - p.toNat)).toArray⟩] 95)).drew.cell? ⟨w1.heap.size + 1, 1, none⟩ = some (.int .i64 f) := by simp [go_sem]
    have x2 : ((w1.alloc (Obj.cells #[.int .i64 k, .int .i64 f, .int .i64 n] 85)).alloc (Obj.cells #[.int .i64 k, .int .i64 f, .int .i64 n, .string ⟨((l.drop p.toNat).take (q.toNat - p.toNat)).toArray⟩] 95)).drew.cell? ⟨w1.heap.size + 1, 2, none⟩ = some (.int .i64 n) := by simp [go_sem]
    have x3 : ((w1.alloc (Obj.cells #[.int .i64 k, .int .i64 f, .int .i64 n] 85)).alloc (Obj.cells #[.int .i64 k, .int .i64 f, .int .i64 n, .string ⟨((l.drop p.toNat).take (q.toNat - p.toNat)).toArray⟩] 95)).drew.cell? ⟨w1.heap.size + 1, 3, none⟩ = some (.string (sOf ((l.drop p.toNat).take (q.toNat - p.toNat)))) := by simp [go_sem, sOf]
    have hs5 : ((w1.alloc (Obj.cells #[.int .i64 k, .int .i64 f, .int .i64 n] 85)).alloc (Obj.cells #[.int .i64 k, .int .i64 f, .int .i64 n, .string ⟨((l.drop p.toNat).take (q.toNat - p.toNat)).toArray⟩] 95)).drew.heap.size = w1.heap.size + 2 := by simp
    generalize ((w1.alloc (Obj.cells #[.int .i64 k, .int .i64 f, .int .i64 n] 85)).alloc (Obj.cells #[.int .i64 k, .int .i64 f, .int .i64 n, .string ⟨((l.drop p.toNat).take (q.toNat - p.toNat)).toArray⟩] 95)).drew = w5 at *
    clear HB1 hsl
    have SH5 := hd ((shape_of_block (hb5.block g hg1)).trans HRR.out.2.1.sh)
    replace c0 := (bcell hb5 g 0 hg1).trans c0
    replace c1 := (bcell hb5 g 1 hg1).trans c1
    replace c2 := (bcell hb5 g 2 hg1).trans c2
    replace c3 := (bcell hb5 g 3 hg1).trans c3
    replace fr := fun o => (bfree hb5 g o hg1).trans (fr o)
    have f0 := fr 0; have f1 := fr 1
    replace q0 := fun o => (bfree hb5 w.heap.size o hl1).trans (q0 o)
    have y0 := q0 0; have y1 := q0 1; have y2 := q0 2; have y3 := q0 3
    have hg5 : g < w5.heap.size := by omega
    replace z0 := (bcell hb5 w.heap.size 0 hl1).trans z0
    replace z1 := (bcell hb5 w.heap.size 1 hl1).trans z1
    replace z2 := (bcell hb5 w.heap.size 2 hl1).trans z2
    replace z3 := (bcell hb5 w.heap.size 3 hl1).trans z3
    have hl5 : w.heap.size < w5.heap.size := by omega
    have hne : w1.heap.size + 1 ≠ g := by omega
    have hne2 : w1.heap.size + 1 ≠ w.heap.size := by omega
    have hbw : Below w.heap.size w w5 := HRR.out.2.2.trans (hb5.mono (Nat.le_of_lt hl1))
    have HBW := hd hbw
    clear hb5 hbw qq0 HRR H
    go_wp2_with fail
    refine bodyPost_ret (nextRead (a := k) (b := f) (c := n) (x := 0) (s := sOf ((l.drop p.toNat).take (q.toNat - p.toNat))) (ok := true) rfl rfl rfl (by simp [go_sem, z0, z1, z2, z3, hl5, hgn]) (by simp [go_sem, z0, z1, z2, z3, hl5, hgn]) (by simp [go_sem, z0, z1, z2, z3, hl5, hgn]) (by simp [go_sem, z0, z1, z2, z3, hl5, hgn])) rfl ?_
    rw [HN.out]
    have hk6 : Keeps [g] w ((((((w5.setCell ⟨g, 0, none⟩ (.slice a2 (l.length - q.toNat) c2')).setCell ⟨g, 1, none⟩ (.int .i64 (t + 1))).setCell ⟨w.heap.size, 0, none⟩ (.int .i64 k)).setCell ⟨w.heap.size, 1, none⟩ (.int .i64 f)).setCell ⟨w.heap.size, 2, none⟩ (.int .i64 n)).setCell ⟨w.heap.size, 3, none⟩ (.string (sOf ((l.drop p.toNat).take (q.toNat - p.toNat))))) :=
      ((((((Keeps.below HBW.out).setCell (.inl (by simp)) _).setCell (.inl (by simp)) _).setCell (.inr (Nat.le_refl _)) _).setCell (.inr (Nat.le_refl _)) _).setCell (.inr (Nat.le_refl _)) _).setCell (.inr (Nat.le_refl _)) _
    exact ⟨rfl, ⟨⟨_, by simp [go_sem, c0, hgn], HB2.out.keepsL hk6 (fun h => (HO2.out h).head), HO2.out⟩, by simp [go_sem, c1, hgn], by simp [go_sem, c2, hgn], by simp [go_sem, c3, hgn], fun o => by simp [go_sem]; exact fr o, by simp [go_sem]; exact hg5, fun k hk => by have := HLS.out k hk; simp [go_sem]; omega, by simp only [shape_setCell]; exact SH5.out, fun hne v' e => by { have e2 : v' = .slice a2 (l.length - q.toNat) c2' := by { simp [go_sem, c0, hgn] at e; exact e.symm }; rw [e2]; exact (HT2.out hne).keeps hk6 ((HO2.out hne).head) }⟩, hk6⟩
end Go.Proofs.YtjlnlgemngpelaaGreatDoor
