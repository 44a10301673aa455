/- A bundle of texts (merged for the limit on files): PubRef, PubOf, ConAck, Keeps, Region, ConReader. -/
import Derived.Test.YtclicjokgfiegaaGreatDoorZa3
import Derived.WalkSpells
import Derived.StillTail
import Derived.Deep.Quiet
import Derived.KernelRfl
/- Messages: the reference's walks; what bytes tell; the numbers. -/
namespace Go.Proofs.YtclicjokgfiegaaGreatDoor
open Go.RowKit
set_option linter.unusedVariables false

end Go.Proofs.YtclicjokgfiegaaGreatDoor

/- Messages: what bytes tell: the walks. -/
namespace Go.Proofs.YtclicjokgfiegaaGreatDoor
open Go.RowKit
set_option linter.unusedVariables false
set_option linter.unusedSimpArgs false

set_option maxRecDepth 100000 in
/-- []byte(s), where the walk stands at it. -/
theorem upon_bytes {o : Oper} {a : Act} {K : Act → World → Prop} {Q : Exit → Act → World → Prop} {W : World} {s : ByteArray} {f : Value → World → Result Next} (hs : s.size ≤ 140737488355327)
    (h : ∀ ad c W', Bs W' (.slice ad (sB s).length c) (sB s) → Below W.heap.size W W' → Oper.upon Tryz.prog o a K Q ((Result.ok (.slice ad (sB s).length c) W').andThen f)) :
    Oper.upon Tryz.prog o a K Q ((Sem.run Tryz.prog (convert 9 79 (.string s)) W).andThen f) := by
  obtain ⟨c, W', hr, hB, hb⟩ := run_bytes s hs W
  rw [hr]
  exact h _ c W' hB hb

/-- The message that bytes tell. -/
def GivesM (w : World) (l : List UInt8) (q : Int) (e : Ending) (w' : World) : Prop :=
  e = .returned (.tuple #[.agg #[.string (sOf (pOf l q).1), .string (sOf (pOf l q).2.1), .int .i64 (pOfQ l q), .bool false], .int .i64 (pOf l q).2.2.1, .int .i64 (pOf l q).2.2.2]) ∧ Below w.heap.size w w'
theorem GivesM.nil {w w' : World} {l : List UInt8} {q : Int} (e : Int) (h : pOf l q = ([], [], 0, e)) (h0 : e ≠ 0) (hb : Below w.heap.size w w') :
    GivesM w l q (.returned (.tuple #[.agg #[.string ⟨#[]⟩, .string ⟨#[]⟩, .int .i64 0, .bool false], .int .i64 0, .int .i64 e])) w' := by
  unfold GivesM pOfQ
  rw [h]
  simp only
  rw [if_neg h0]
  exact ⟨rfl, hb⟩

theorem uGet_len (l : List UInt8) (k : Int) : (uGet l k).1.length ≤ 65535 := by
  unfold uGet
  have := uGetRaw_len l k
  repeat' split
  all_goals (first | exact this | simp)

theorem extract_drop (b : ByteArray) (n : Nat) : b.extract n b.size = sOf ((sB b).drop n) := by
  apply ByteArray.ext
  rw [ByteArray.data_extract]
  show b.data.extract n b.size = ((b.data.toList).drop n).toArray
  apply Array.toList_inj.1
  rw [Array.toList_extract]
  show ((b.data.toList).drop n).take (b.size - n) = (b.data.toList).drop n
  have : b.data.toList.length = b.size := Array.length_toList
  exact List.take_of_length_le (by rw [List.length_drop]; omega)

set_option maxRecDepth 100000 in
set_option maxHeartbeats 1000000 in
theorem pubOf_c (b : ByteArray) (q : Int) (w : World) (hE : EnvU w) (hs : b.size ≤ 140737488351232) :
    Calls Tryz.prog 158 #[.string b, .int .i64 q] w (GivesM w (sB b) q) := by
  have HE := hd hE; clear hE
  go_enter Tryz.func158, Tryz.ntmps158
  go_wp2_with fail
  refine (leveled_c q _).mono ?_
  by_cases hq : q < 0 ∨ 2 < q
  · rw [show (decide (0 ≤ q) && decide (q ≤ 2)) = false from by simp; omega]
    rintro e w' ⟨rfl, rfl⟩
    go_wp2_with fail
    exact bodyPost_ret (v := .tuple #[.agg #[.string ⟨#[]⟩, .string ⟨#[]⟩, .int .i64 0, .bool false], .int .i64 0, .int .i64 10]) (by simp [results, Tryz.results158, go_sem]) rfl (GivesM.nil 10 (by rw [pOf, if_pos hq]) (by decide) (by go_grown))
  rw [show (decide (0 ≤ q) && decide (q ≤ 2)) = true from by simp; omega]
  rintro e w' ⟨rfl, rfl⟩
  go_wp2_with fail
  refine upon_bytes (by omega) fun d1 k1 w1 hs1 hb1 => ?_
  have hc1 := bcell hb1
  have hf1 := bfree hb1
  have hl1 : w.heap.size < w1.heap.size := by have := hb1.size; simp at this; omega
  have hb : Below w.heap.size w w1 := Below.up (by go_grown) hb1
  go_wp2_with fail
  refine (Get_c _ (sB b) 0 _ (HE.out.below hb) hs1).mono ?_
  rintro e w2 ⟨rfl, hb2⟩
  have hc2 := bcell hb2
  have hf2 := bfree hb2
  have hl2 : w.heap.size < w2.heap.size := by have := hb2.size; omega
  replace hb := Below.up hb hb2
  have hg := @uGet_rng (sB b) 0
  have hgl := uGet_len (sB b) 0
  have hof : pOf (sB b) q = pOf (sB b) q := rfl
  conv at hof => rhs; rw [pOf, if_neg hq]
  generalize uGet (sB b) 0 = g at hg hgl hof ⊢
  obtain ⟨T, k, e⟩ := g
  simp only at hg hgl hof ⊢
  have Hof := hd hof; clear hof
  by_cases he : e = 0
  rotate_left
  · have heb : (e != 0) = true := by simpa using he
    go_wp2_with fail
    exact bodyPost_ret (v := .tuple #[.agg #[.string ⟨#[]⟩, .string ⟨#[]⟩, .int .i64 0, .bool false], .int .i64 0, .int .i64 e]) (by simp [results, Tryz.results158, go_sem, hc1, hc2, hl1, hl2]) rfl (GivesM.nil e (by rw [Hof.out, if_pos he]) he (by go_grown))
  subst he
  have hrg := hg rfl; clear hg
  have hbl := sB_len b
  have hk0 : 0 ≤ k := by omega
  have hk1 : k ≤ (b.size : Int) := by omega
  clear hbl
  go_wp2_with fail
  refine (named_c (sOf T) _ (by rw [sOf_size]; omega)).mono ?_
  rw [sB_sOf]
  have hl1' := hl1
  by_cases hn : pName T = false
  · rw [hn]
    rintro e w3 ⟨rfl, hb3⟩
    have hc3 := bcell hb3
    have hf3 := bfree hb3
    have hl3 : w.heap.size < w3.heap.size := by have := hb3.size; omega
    go_wp2_with fail
    exact bodyPost_ret (v := .tuple #[.agg #[.string ⟨#[]⟩, .string ⟨#[]⟩, .int .i64 0, .bool false], .int .i64 0, .int .i64 13]) (by simp [results, Tryz.results158, go_sem, hc1, hc2, hc3, hl1, hl2, hl3]) rfl (GivesM.nil 13 (by rw [Hof.out, if_neg (by decide), if_pos hn]) (by decide) (by have := Below.up hb hb3; go_grown))
  rw [show pName T = true from by simpa using hn]
  rintro e w3 ⟨rfl, hb3⟩
  have hc3 := bcell hb3
  have hf3 := bfree hb3
  have hl3 : w.heap.size < w3.heap.size := by have := hb3.size; omega
  have hs3 := hs1.below' (hb2.trans (hb3.mono hb2.size)) (Nat.le_refl _)
  replace hb := Below.up hb hb3
  clear hs1 hb1 hb2
  by_cases h : q = 0
  · subst h
    go_wp2_with fail
    refine bodyPost_ret (v := .tuple #[.agg #[.string (sOf T), .string (b.extract k.toNat b.size), .int .i64 0, .bool false], .int .i64 0, .int .i64 0]) (by simp [results, Tryz.results158, go_sem, hc1, hc2, hc3, hl1, hl2, hl3]) rfl ?_
    have hr : pOf (sB b) 0 = (T, (sB b).drop k.toNat, 0, 0) := by rw [Hof.out, if_neg (by decide), if_neg hn, if_pos trivial]
    unfold GivesM pOfQ
    rw [hr]
    exact ⟨by rw [extract_drop]; rfl, by go_grown⟩
  have hqz : (0 : Int) < q := by omega
  go_wp2_with fail
  refine upon_bytes (by omega) fun d4 k4 w4 hs4 hb4 => ?_
  have hc4 := bcell hb4
  have hf4 := bfree hb4
  have hl4 : w.heap.size < w4.heap.size := by have := hb4.size; omega
  replace hb := Below.up hb hb4
  go_wp2_with fail
  refine (Get2_c _ (sB b) k _ hs4).mono ?_
  rintro e w5 ⟨rfl, hb5⟩
  have hc5 := bcell hb5
  have hf5 := bfree hb5
  have hl5 : w.heap.size < w5.heap.size := by have := hb5.size; omega
  replace hb := Below.up hb hb5
  have hof := Hof.out; clear Hof
  rw [if_neg (by decide), if_neg hn, if_neg h] at hof
  have hg2 := @uGet2_ok (sB b) k
  generalize uGet2 (sB b) k = g at hof hg2 ⊢
  obtain ⟨id, k2, e⟩ := g
  simp only at hof hg2 ⊢
  have Hof := hd hof; clear hof
  by_cases he : e = 0
  rotate_left
  · have heb : (e != 0) = true := by simpa using he
    go_wp2_with fail
    exact bodyPost_ret (v := .tuple #[.agg #[.string ⟨#[]⟩, .string ⟨#[]⟩, .int .i64 0, .bool false], .int .i64 0, .int .i64 e]) (by simp [results, Tryz.results158, go_sem, hc1, hc2, hc3, hc4, hc5, hl1, hl2, hl3, hl4]) rfl (GivesM.nil e (by rw [Hof.out, if_pos he]) he (by go_grown))
  subst he
  obtain ⟨g1, g2, rfl, g4, g5⟩ := hg2 rfl
  clear hg2
  go_wp2_with fail
  refine (numbered_c id _).mono ?_
  by_cases hid : id = 0
  · rw [show (decide (1 ≤ id) && decide (id ≤ 65535)) = false from by rw [hid]; decide]
    rintro e w' ⟨rfl, rfl⟩
    go_wp2_with fail
    exact bodyPost_ret (v := .tuple #[.agg #[.string ⟨#[]⟩, .string ⟨#[]⟩, .int .i64 0, .bool false], .int .i64 0, .int .i64 1]) (by simp [results, Tryz.results158, go_sem, hc1, hc2, hc3, hc4, hc5, hl1, hl2, hl3, hl4]) rfl (GivesM.nil 1 (by rw [Hof.out, if_neg (by decide), if_pos hid]) (by decide) (by go_grown))
  rw [show (decide (1 ≤ id) && decide (id ≤ 65535)) = true from by simp; omega]
  rintro e w' ⟨rfl, rfl⟩
  have hk20 : 0 ≤ k + 2 := by omega
  have hk21 : k + 2 ≤ (b.size : Int) := by have := sB_len b; omega
  go_wp2_with fail
  refine bodyPost_ret (v := .tuple #[.agg #[.string (sOf T), .string (b.extract (k + 2).toNat b.size), .int .i64 q, .bool false], .int .i64 id, .int .i64 0]) (by simp [results, Tryz.results158, go_sem, hc1, hc2, hc3, hc4, hc5, hl1, hl2, hl3, hl4]) rfl ?_
  have hr : pOf (sB b) q = (T, (sB b).drop (k + 2).toNat, id, 0) := by rw [Hof.out, if_neg (by decide), if_neg hid]
  unfold GivesM pOfQ
  rw [hr]
  exact ⟨by rw [extract_drop]; rfl, by go_grown⟩
end Go.Proofs.YtclicjokgfiegaaGreatDoor

/- Who comes: what is answered: the walks. -/
namespace Go.Proofs.YtclicjokgfiegaaGreatDoor
open Go.RowKit
set_option linter.unusedVariables false
set_option linter.unusedSimpArgs false

set_option maxRecDepth 100000 in
set_option maxHeartbeats 1000000 in
theorem bit_c (b : Bool) (n : Int) (w : World) : Calls Tryz.prog 168 #[.bool b, .int .i64 n] w fun e w' => e = .returned (.int .i64 (bI b n)) ∧ w = w' := by
  unfold bI
  cases b
  all_goals
    go_enter Tryz.func168, Tryz.ntmps168
    go_wp2_with fail
    go_ret
    exact ⟨rfl, rfl⟩

theorem aPut_nil {p : Bool} {k : Int} {w w' : World} (e : Int) (he : aPutE p k = e) (h0 : e ≠ 0) (hb : Below w.heap.size w w') :
    GivesB w (aPutB p k) (aPutE p k) (.returned (.tuple #[.slice none 0 0, .int .i64 e])) w' := by
  unfold aPutB
  rw [he, if_neg h0]
  exact GivesB.nil hb

theorem gives_lit (w : World) (l : List UInt8) (E : Int) (hE : E = 0) (L : List UInt8) (hL : L = l) (cs : List Value) (hc : cs = l.map byteV) (hm : l.length ≤ maxLen) (n : Nat) (hn : n = l.length) :
    GivesB w L E (.returned (.tuple #[.slice (some ⟨w.heap.size, 0, none⟩) n n, .int .i64 0])) (w.alloc (.cells cs.toArray 5)) := by
  subst hE hL
  exact ⟨_, rfl, owned_lit w.heap.size w L w.heap.size rfl (Nat.le_refl _) hm cs hc n hn, by go_grown⟩

set_option maxRecDepth 100000 in
set_option maxHeartbeats 1000000 in
theorem PutAck_c (p : Bool) (k : Int) (w : World) : Calls Tryz.prog 142 #[.bool p, .int .i64 k] w (GivesB w (aPutB p k) (aPutE p k)) := by
  by_cases h1 : k < 0 ∨ 5 < k
  · have hs : aPutE p k = 1 := by rw [aPutE, if_pos h1]
    rcases h1 with h1 | h1
    all_goals
      go_enter Tryz.func142, Tryz.ntmps142
      go_wp2_with fail
      go_ret2
      exact aPut_nil 1 hs (by decide) (by go_grown)
  have hk0 : 0 ≤ k := by omega
  have hk1 : k ≤ 5 := by omega
  cases p
  · have hs : aPutE false k = 0 := by rw [aPutE, if_neg h1, if_neg (by simp)]
    have hB : aPutB false k = [0, B8 k.toNat] := by rw [aPutB, if_pos hs]; rfl
    have Hs := hd hs; have HB := hd hB; clear hs hB h1
    go_enter Tryz.func142, Tryz.ntmps142
    go_wp2_with fail
    refine (bit_c false 1 _).mono ?_
    rintro e w' ⟨rfl, rfl⟩
    rw [show bI false 1 = 0 from rfl]
    go_wp2_with fail
    go_ret2
    exact gives_lit w _ _ Hs.out _ HB.out [.int .u8 0, .int .u8 k] (by simp only [List.map]; rw [byteV_B8 (x := k) (by omega) (by omega)]; rfl) (by unfold maxLen; simp) 2 rfl
  · by_cases h2 : k = 0
    · subst h2
      have hs : aPutE true 0 = 0 := by decide
      have hB : aPutB true 0 = [1, 0] := by decide
      have Hs := hd hs; have HB := hd hB; clear hs hB h1
      go_enter Tryz.func142, Tryz.ntmps142
      go_wp2_with fail
      refine (bit_c true 1 _).mono ?_
      rintro e w' ⟨rfl, rfl⟩
      rw [show bI true 1 = 1 from rfl]
      go_wp2_with fail
      go_ret2
      exact gives_lit w _ _ Hs.out _ HB.out [.int .u8 1, .int .u8 0] rfl (by unfold maxLen; simp) 2 rfl
    · have hs : aPutE true k = 4 := by rw [aPutE, if_neg h1, if_pos ⟨rfl, h2⟩]
      have hkb : (k != 0) = true := by simpa using h2
      go_enter Tryz.func142, Tryz.ntmps142
      go_wp2_with fail
      go_ret2
      exact aPut_nil 4 hs (by decide) (by go_grown)

/-- What an answer's bytes tell. -/
def GivesA (w : World) (l : List UInt8) (e : Ending) (w' : World) : Prop :=
  e = .returned (.tuple #[.bool (aOf l).1, .int .i64 (aOf l).2.1, .int .i64 (aOf l).2.2]) ∧ Below w.heap.size w w'
theorem GivesA.mk {w w' : World} {l : List UInt8} {p : Bool} {k e : Int} (h : aOf l = (p, k, e)) (hb : Below w.heap.size w w') : GivesA w l (.returned (.tuple #[.bool p, .int .i64 k, .int .i64 e])) w' := by
  unfold GivesA
  rw [h]
  exact ⟨rfl, hb⟩

set_option maxRecDepth 100000 in
set_option maxHeartbeats 1000000 in
theorem OfAck_c (b : ByteArray) (w : World) : Calls Tryz.prog 156 #[.string b] w (GivesA w (sB b)) := by
  by_cases hl : b.size = 2
  rotate_left
  · have hr : aOf (sB b) = (false, 0, 4) := by rw [aOf, sB_len, if_pos (Or.inl hl)]
    have hlb : (((b.size : Nat) : Int) != 2) = true := by simp; omega
    go_enter Tryz.func156, Tryz.ntmps156
    go_wp2_with fail
    go_ret3
    exact GivesA.mk hr (by go_grown)
  have hlb : (((b.size : Nat) : Int) != 2) = false := by simp; omega
  have hx0 : ∀ W : World, (Instr.index 9 (.string b) (.int .i64 0)).run Tryz.prog W = .ok (.int .u8 (bN (sB b) 0)) W := fun W => run_at b 0 0 rfl (by omega) W
  have hx1 : ∀ W : World, (Instr.index 9 (.string b) (.int .i64 1)).run Tryz.prog W = .ok (.int .u8 (bN (sB b) 1)) W := fun W => run_at b 1 1 rfl (by omega) W
  have b0 := bN_lt (sB b) 0
  have b1 := bN_lt (sB b) 1
  have hof : aOf (sB b) = aOf (sB b) := rfl
  conv at hof => rhs; rw [aOf, sB_len]
  generalize bN (sB b) 0 = x at *
  generalize bN (sB b) 1 = y at *
  by_cases hx : 1 < x
  · rw [if_pos (Or.inr hx)] at hof
    clear hl
    go_enter Tryz.func156, Tryz.ntmps156
    go_wp2_with fail
    go_ret3
    exact GivesA.mk hof (by go_grown)
  rw [if_neg (by omega)] at hof
  have Hof := hd hof; clear hof hl
  have hxx : x = 0 ∨ x = 1 := by omega
  rcases hxx with rfl | rfl
  all_goals
    go_enter Tryz.func156, Tryz.ntmps156
    go_wp2_with fail
    go_region
    go_wp2_with fail
    refine (PutAck_c _ (y : Int) _).mono ?_
    have hof := Hof.out
    simp only [Nat.zero_ne_one, decide_false, decide_true] at hof
    clear Hof
    rintro e w1 ⟨v1, rfl, ho1, hb1⟩
    have hb : Below w.heap.size w w1 := Below.up (by go_grown) hb1
    generalize aPutE _ (y : Int) = E at hof ⊢
    by_cases hE : E = 0
    · subst hE
      rw [if_neg (by decide)] at hof
      have Hof := hd hof; clear hof
      go_wp2_with fail
      go_ret3
      exact GivesA.mk Hof.out hb
    · rw [if_pos hE] at hof
      have hEb : (E != 0) = true := by simpa using hE
      have Hof := hd hof; clear hof
      go_wp2_with fail
      go_ret3
      exact GivesA.mk Hof.out hb

set_option maxRecDepth 100000 in
set_option maxHeartbeats 1000000 in
theorem refOfAck_c (b : ByteArray) (w : World) : Calls Tryz.prog 92 #[.string b] w (GivesA w (sB b)) := by
  by_cases hl : b.size = 2
  rotate_left
  · have hr : aOf (sB b) = (false, 0, 4) := by rw [aOf, sB_len, if_pos (Or.inl hl)]
    have hlb : (((b.size : Nat) : Int) != 2) = true := by simp; omega
    go_enter Tryz.func92, Tryz.ntmps92
    go_wp2_with fail
    go_ret3
    exact GivesA.mk hr (by go_grown)
  have hlb : (((b.size : Nat) : Int) != 2) = false := by simp; omega
  have hx0 : ∀ W : World, (Instr.index 9 (.string b) (.int .i64 0)).run Tryz.prog W = .ok (.int .u8 (bN (sB b) 0)) W := fun W => run_at b 0 0 rfl (by omega) W
  have hx1 : ∀ W : World, (Instr.index 9 (.string b) (.int .i64 1)).run Tryz.prog W = .ok (.int .u8 (bN (sB b) 1)) W := fun W => run_at b 1 1 rfl (by omega) W
  have b0 := bN_lt (sB b) 0
  have b1 := bN_lt (sB b) 1
  have hof : aOf (sB b) = aOf (sB b) := rfl
  conv at hof => rhs; rw [aOf, sB_len]
  generalize bN (sB b) 0 = x at *
  generalize bN (sB b) 1 = y at *
  by_cases hx : 1 < x
  · rw [if_pos (Or.inr hx)] at hof
    clear hl
    go_enter Tryz.func92, Tryz.ntmps92
    go_wp2_with fail
    go_ret3
    exact GivesA.mk hof (by go_grown)
  rw [if_neg (by omega)] at hof
  by_cases hy : 5 < y
  · have h4 : ∀ p, aPutE p (y : Int) = 1 := fun p => by rw [aPutE, if_pos (by omega)]
    rw [h4, if_pos (by decide)] at hof
    clear hl h4
    go_enter Tryz.func92, Tryz.ntmps92
    go_wp2_with fail
    go_ret3
    exact GivesA.mk hof (by go_grown)
  have hxx : x = 0 ∨ x = 1 := by omega
  rcases hxx with rfl | rfl
  · have h4 : aPutE (decide ((0 : Nat) = 1)) (y : Int) = 0 := by rw [aPutE, if_neg (by omega), if_neg (by simp)]
    rw [h4, if_neg (by decide)] at hof
    have Hof := hd hof
    clear hl h4 hof
    go_enter Tryz.func92, Tryz.ntmps92
    go_wp2_with fail
    try go_region
    go_wp2_with fail
    go_ret3
    exact GivesA.mk Hof.out (by go_grown)
  · by_cases hy0 : y = 0
    · subst hy0
      have h4 : aPutE (decide ((1 : Nat) = 1)) ((0 : Nat) : Int) = 0 := by decide
      rw [h4, if_neg (by decide)] at hof
      have Hof := hd hof
      clear hl h4 hof
      go_enter Tryz.func92, Tryz.ntmps92
      go_wp2_with fail
      try go_region
      go_wp2_with fail
      go_ret3
      exact GivesA.mk Hof.out (by go_grown)
    · have hyb : ((y : Int) != 0) = true := by simp; omega
      have h4 : aPutE (decide ((1 : Nat) = 1)) (y : Int) = 4 := by rw [aPutE, if_neg (by omega), if_pos ⟨rfl, by omega⟩]
      rw [h4, if_pos (by decide)] at hof
      have Hof := hd hof
      clear hl h4 hof
      go_enter Tryz.func92, Tryz.ntmps92
      go_wp2_with fail
      go_ret3
      exact GivesA.mk Hof.out (by go_grown)
end Go.Proofs.YtclicjokgfiegaaGreatDoor

/- A frame: of what was there only the blocks of a list, and new ones, have turned. Of no function of the program. -/
namespace Go.Proofs.YtclicjokgfiegaaGreatDoor
open Go.RowKit
set_option linter.unusedVariables false

structure Keeps (S : List Nat) (w w' : World) : Prop where
  os : w'.os = w.os
  tape : w'.tape = w.tape
  output : w'.output = w.output
  size : w.heap.size ≤ w'.heap.size
  block : ∀ k, k < w.heap.size → k ∉ S → w'.heap[k]? = w.heap[k]?

theorem Keeps.refl (S : List Nat) (w : World) : Keeps S w w := ⟨rfl, rfl, rfl, Nat.le_refl _, fun _ _ _ => rfl⟩
theorem Keeps.trans {S : List Nat} {a b c : World} (h : Keeps S a b) (k : Keeps S b c) : Keeps S a c :=
  ⟨k.os.trans h.os, k.tape.trans h.tape, k.output.trans h.output, Nat.le_trans h.size k.size, fun i hi hn => (k.block i (Nat.lt_of_lt_of_le hi h.size) hn).trans (h.block i hi hn)⟩
theorem Keeps.mono {S S' : List Nat} {w w' : World} (h : Keeps S w w') (hs : ∀ k, k ∈ S → k ∈ S') : Keeps S' w w' :=
  ⟨h.os, h.tape, h.output, h.size, fun k hk hn => h.block k hk (fun hm => hn (hs k hm))⟩
theorem Keeps.below {S : List Nat} {w w' : World} (h : Below w.heap.size w w') : Keeps S w w' := ⟨h.os, h.tape, h.output, h.size, fun k hk _ => h.block k hk⟩
theorem Keeps.alloc {S : List Nat} {a w : World} (h : Keeps S a w) (o : Obj) : Keeps S a (w.alloc o) :=
  h.trans ⟨rfl, rfl, rfl, by simp, fun k hk _ => Below.heap_alloc _ _ _ hk⟩
theorem Keeps.setCell {S : List Nat} {a w : World} (h : Keeps S a w) {p : Addr} (hp : p.block ∈ S ∨ a.heap.size ≤ p.block) (u : Value) : Keeps S a (w.setCell p u) :=
  ⟨h.os, h.tape, h.output, by simpa [World.setCell] using h.size, fun k hk hn => (Below.heap_setCell _ _ _ _ (fun e => by
    rcases hp with hp | hp
    · exact hn (e ▸ hp)
    · omega)).trans (h.block k hk hn)⟩
theorem Keeps.drewN {S : List Nat} {a w : World} (h : Keeps S a w) (n : Nat) : Keeps S a (w.drewN n) := ⟨h.os, h.tape, h.output, h.size, h.block⟩
theorem Keeps.drew {S : List Nat} {a w : World} (h : Keeps S a w) : Keeps S a w.drew := ⟨h.os, h.tape, h.output, h.size, h.block⟩
theorem Keeps.cell {S : List Nat} {w w' : World} (h : Keeps S w w') {b o : Nat} (hb : b < w.heap.size) (hn : b ∉ S) : w'.cell? ⟨b, o, none⟩ = w.cell? ⟨b, o, none⟩ := World.cell?_of_block (w := w) (h.block b hb hn)
theorem Keeps.free {S : List Nat} {w w' : World} (h : Keeps S w w') {b o : Nat} (hb : b < w.heap.size) (hn : b ∉ S) : w'.frozen? ⟨b, o, none⟩ = w.frozen? ⟨b, o, none⟩ := World.frozen?_of_block (w := w) (h.block b hb hn)
/-- What a call that makes nothing turn below its own start leaves of it all. -/
theorem Keeps.toBelow {S : List Nat} {B : Nat} {w w' : World} (h : Keeps S w w') (hB : B ≤ w.heap.size) (hS : ∀ k, k ∈ S → B ≤ k) : Below B w w' :=
  ⟨h.os, h.tape, h.output, h.size, fun k hk => h.block k (by omega) (fun hm => by have := hS k hm; omega)⟩

/-- A slice that points into none of these blocks. -/
def OutOf (v : Value) (S : List Nat) : Prop := ∀ a n c, v = .slice (some a) n c → a.block ∉ S
theorem Rd.keeps {S : List Nat} {w w' : World} {v : Value} {n : Nat} {xs : List Value} (h : Rd w v n xs) (hk : Keeps S w w') (ho : OutOf v S) : Rd w' v n xs := by
  by_cases hx : xs = []
  · subst hx
    obtain ⟨a, c, rfl, h1, h2, h3, h4⟩ := h
    exact ⟨a, c, rfl, h1, h2, h3, fun ad _ j u hu => by simp at hu⟩
  · have hblk := h.block hx
    obtain ⟨a, c, rfl, h1, h2, h3, h4⟩ := h
    refine ⟨a, c, rfl, h1, h2, h3, fun ad had j u hu => ?_⟩
    subst had
    have hlt := hblk ad _ _ rfl
    have hno := ho ad _ _ rfl
    have e : w'.cell? (ad.add j) = w.cell? (ad.add j) := World.cell?_of_block (w := w) (by
      have : (ad.add j).block = ad.block := by unfold Addr.add; split <;> rfl
      rw [this]
      exact hk.block _ hlt hno)
    rw [e]
    exact h4 ad rfl j u hu
theorem Bs.keeps {S : List Nat} {w w' : World} {v : Value} {l : List UInt8} (h : Bs w v l) (hk : Keeps S w w') (ho : OutOf v S) : Bs w' v l := Rd.keeps h hk ho
end Go.Proofs.YtclicjokgfiegaaGreatDoor

/- A region that draws its order, whose operations part into still ones (each yields one value in every world of a class, and leaves the world) and movers, whose order among themselves is forced: one walk in a given order serves every order. Of no program. -/
namespace Go.Proofs.YtclicjokgfiegaaGreatDoor

section
variable {P : Program} {ops : Array Oper} {md : Region.Mode} {Q : Exit → Act → World → Prop} {C : World → Prop} {n : Nat}

def wpAnyC (P : Program) (md : Region.Mode) (ops : Array Oper) (n : Nat) (C : World → Prop) (Q : Exit → Act → World → Prop) : Nat → Array Bool → Act → World → Prop
  | 0, listed, a, w => Region.ready md ops listed = [] ∧ Q .normal a w
  | f + 1, listed, a, w => (Region.ready md ops listed = [] → Q .normal a w) ∧
      ∀ i ∈ Region.ready md ops listed, wpOp P ops Q i (fun a' w' => (i < n → C w') ∧ wpAnyC P md ops n C Q f (listed.setIfInBounds i true) a' w') a w

theorem wpAny_of_C : ∀ (f : Nat) (listed : Array Bool) (a : Act) (w : World), wpAnyC P md ops n C Q f listed a w → wpAny P md ops Q f listed a w
  | 0, _, _, _, h => h
  | f + 1, _, _, _, h => ⟨h.1, fun i hi => wpOp_mono (fun a' w' h' => wpAny_of_C f _ a' w' h'.2) (h.2 i hi)⟩

def YieldsC (P : Program) (ops : Array Oper) (C : World → Prop) (o : Oper) (v : Value) (a : Act) : Prop :=
  (Region.wanted o (yielded ops a.tmps) = true ∧ ∀ w, C w → (execOp a.eval o).run P w = .ok (.value v) w) ∨
  (Region.wanted o (yielded ops a.tmps) = false ∧ v = undef)

theorem YieldsC.wpOp {i : Nat} {o : Oper} {v : Value} {a : Act} (hi : ops[i]? = some o) (hy : YieldsC P ops C o v a)
    {K : Act → World → Prop} {w : World} (hC : C w) (h : K (a.put o.dst v) w) : wpOp P ops Q i K a w := by
  unfold Go.wpOp
  simp only [hi]
  rcases hy with ⟨hw, hv⟩ | ⟨hw, rfl⟩
  · simp only [hw, if_true, Oper.wp, hv w hC, Oper.upon]; exact .inl h
  · simp only [hw, Bool.false_eq_true, if_false]; exact h

theorem YieldsC.of_same {o : Oper} {v : Value} {a a' : Act} (hy : YieldsC P ops C o v a) (he : execOp a'.eval o = execOp a.eval o)
    (hw : Region.wanted o (yielded ops a'.tmps) = Region.wanted o (yielded ops a.tmps)) : YieldsC P ops C o v a' := by
  unfold YieldsC at *
  rw [he, hw]
  exact hy

theorem wpOp_putC {j : Nat} {oi oj : Oper} {v : Value} (hj : ops[j]? = some oj) (hap : oi.apart ops oj = true)
    (hsi : ∀ cs b, oi.op ≠ .select cs b) (hsj : ∀ cs b, oj.op ≠ .select cs b)
    (hQ : ∀ c a w, Q (.panic c) (a.put oi.dst v) w → Q (.panic c) a w) {K : Act → World → Prop} {a : Act} {w : World}
    (hy : YieldsC P ops C oi v a) (h : wpOp P ops Q j K (a.put oi.dst v) w) :
    wpOp P ops Q j (fun a' w' => YieldsC P ops C oi v a' ∧ K (a'.put oi.dst v) w') a w := by
  obtain ⟨h1, h2, h3⟩ := Oper.apart_spec hap
  have keep : ∀ (a : Act), YieldsC P ops C oi v a → ∀ u, YieldsC P ops C oi v (a.put oj.dst u) := fun a hy u =>
    hy.of_same (execOp_put oi hsi a oj.dst u h3) (wanted_put oi a oj.dst u h3)
  have keepD : ∀ d, YieldsC P ops C oi v { a with defers := d :: a.defers } := fun d => hy.of_same rfl rfl
  unfold Go.wpOp at *
  simp only [hj] at *
  rw [wanted_put oj a oi.dst v h1] at h
  split
  · rename_i hw
    simp only [hw, if_true] at h
    rcases h with h | ⟨hasks, hlets⟩
    case inr => exact .inr ⟨by unfold Oper.asks at *; rw [execOp_put oj hsj a oi.dst v h1] at hasks; exact hasks, hlets⟩
    refine .inl ?_
    unfold Oper.wp at *
    rw [execOp_put oj hsj a oi.dst v h1] at h
    generalize (execOp a.eval oj).run P w = r at *
    cases r with
    | ok n w' =>
      cases n <;> simp only [Oper.upon] at h ⊢
      case value u => exact ⟨keep a hy u, by rw [← Act.put_comm a v u h2]; exact h⟩
      case skip => exact ⟨keep a hy _, by rw [← Act.put_comm a v undef h2]; exact h⟩
      case defer d =>
        refine ⟨keep _ (keepD d) _, ?_⟩
        rw [← Act.put_comm _ v undef h2, ← Act.put_defers]
        exact h
      case enter f args =>
        refine Calls.mono h fun e w'' he => ?_
        cases e with
        | returned u => exact ⟨keep a hy u, by rw [← Act.put_comm a v u h2]; exact he⟩
        | panicked c => exact hQ _ _ _ he
        | outgrown => exact he
      case row row args => exact Rows.mono h fun u w'' he => ⟨keep a hy u, by rw [← Act.put_comm a v u h2]; exact he⟩
    | halt x w' =>
      cases x <;> simp only [Oper.upon] at h ⊢
      case panic u => exact hQ _ _ _ h
  · rename_i hw
    simp only [hw] at h
    exact ⟨keep a hy _, by rw [← Act.put_comm a v undef h2]; exact h⟩

theorem first_C {i : Nat} {oi : Oper} {v : Value} (hi : ops[i]? = some oi) (hsel : ∀ (j : Nat) (o : Oper) cs b, ops[j]? = some o → o.op ≠ .select cs b)
    (hQ : ∀ c a w, Q (.panic c) (a.put oi.dst v) w → Q (.panic c) a w) (hs : Region.sinkB md ops n = true) (hc : Region.chainB md ops n = true) (hn : n < ops.size) (hin : i < n) :
    ∀ (fuel : Nat) (listed : Array Bool) (a : Act) (w : World), HeadInv md ops n listed →
      (∀ j oj, ops[j]? = some oj → j ≠ i → listed.getD j true = false → (∀ e ∈ oj.after, Region.binds md e = true → e.on ≠ i) → oi.apart ops oj = true) →
      i ∈ Region.ready md ops listed → YieldsC P ops C oi v a → C w →
      wpAnyC P md ops n C Q fuel (listed.setIfInBounds i true) (a.put oi.dst v) w → wpAnyC P md ops n C Q (fuel + 1) listed a w := by
  intro fuel
  induction fuel with
  | zero =>
    intro listed a w _ _ hr hy hC H
    refine ⟨fun h => (by rw [h] at hr; cases hr), fun j hj => ?_⟩
    by_cases hji : j = i
    · subst hji; exact hy.wpOp hi hC ⟨fun _ => hC, H⟩
    · have := ready_mono hj hji
      rw [H.1] at this
      cases this
  | succ f ih =>
    intro listed a w inv hfree hr hy hC H
    have hun := (mem_ready.1 hr).1
    refine ⟨fun h => (by rw [h] at hr; cases hr), fun j hj => ?_⟩
    by_cases hji : j = i
    · subst hji; exact hy.wpOp hi hC ⟨fun _ => hC, H⟩
    · have hjn : j < n := by
        rcases Nat.lt_or_ge j n with h | h
        · exact h
        · exact absurd hj (tail_waits hs hc hn inv _ i rfl hin hun j h)
      have h1 := H.2 j (ready_mono hj hji)
      obtain ⟨hjun, oj, hoj, hall⟩ := mem_ready.1 hj
      have hnot : ∀ e ∈ oj.after, Region.binds md e = true → e.on ≠ i := fun e he hb heq => by
        have h1 := hall e he hb
        rw [heq, getD_both hun] at h1
        cases h1
      have h2 := wpOp_putC hoj (hfree j oj hoj hji hjun hnot) (fun cs b => hsel i oi cs b hi) (fun cs b => hsel j oj cs b hoj) hQ hy h1
      have hfree' : ∀ k ok, ops[k]? = some ok → k ≠ i → (listed.setIfInBounds j true).getD k true = false →
          (∀ e ∈ ok.after, Region.binds md e = true → e.on ≠ i) → oi.apart ops ok = true := fun k ok hk hki hun' hno => by
        refine hfree k ok hk hki ?_ hno
        by_cases hjk : j = k
        · subst hjk; exact hjun
        · rw [getD_set_ne true hjk] at hun'; exact hun'
      refine wpOp_mono (fun a' w' h3 => ⟨fun _ => h3.2.1 hjn, ih (listed.setIfInBounds j true) a' w' (inv.set hj hjn) hfree' (ready_mono hr (Ne.symm hji)) h3.1 (h3.2.1 hjn) ?_⟩) h2
      rw [Array.setIfInBounds_comm _ _ hji]
      exact h3.2.2

/-- The order in which the walk goes: (number, is it a mover?). -/
def okM (md : Region.Mode) (ops : Array Oper) (n : Nat) : List (Nat × Bool) → Array Bool → Bool
  | [], listed => (Region.ready md ops listed).isEmpty
  | (k, false) :: r, listed => (Region.ready md ops listed).contains k && (Region.free md ops listed k && (decide (k < n) && okM md ops n r (listed.setIfInBounds k true)))
  | (k, true) :: r, listed => (Region.ready md ops listed == [k]) && ((decide (k < n) || r.all (·.2)) && okM md ops n r (listed.setIfInBounds k true))

def wpM (P : Program) (ops : Array Oper) (n : Nat) (C : World → Prop) (Q : Exit → Act → World → Prop) : List (Nat × Bool) → Act → World → Prop
  | [], a, w => Q .normal a w
  | (k, false) :: r, a, w => ∃ o, ops[k]? = some o ∧ ∃ v, YieldsC P ops C o v a ∧ wpM P ops n C Q r (a.put o.dst v) w
  | (k, true) :: r, a, w => wpOp P ops Q k (fun a' w' => (k < n → C w') ∧ wpM P ops n C Q r a' w') a w

theorem movers_C : ∀ (σ : List (Nat × Bool)) (listed : Array Bool) (a : Act) (w : World), σ.all (·.2) = true → okM md ops n σ listed = true → wpM P ops n C Q σ a w → wpAnyC P md ops n C Q σ.length listed a w
  | [], listed, a, w, _, hok, h => ⟨by simpa [okM] using hok, h⟩
  | (k, false) :: r, listed, a, w, hall, _, _ => by simp at hall
  | (k, true) :: r, listed, a, w, hall, hok, h => by
    simp only [okM, Bool.and_eq_true, beq_iff_eq] at hok
    obtain ⟨hr, _, hok'⟩ := hok
    have hall' : r.all (·.2) = true := by simpa using hall
    refine ⟨fun h0 => (by rw [hr] at h0; cases h0), fun i hi => ?_⟩
    rw [hr] at hi
    obtain rfl : i = k := by simpa using hi
    exact wpOp_mono (fun a' w' h' => ⟨h'.1, movers_C r _ a' w' hall' hok' h'.2⟩) h

theorem hQ_put (hQ : ∀ c (a : Act) (T : Array Value) w, Q (.panic c) { a with tmps := T } w → Q (.panic c) a w) {c} {a : Act} {d : Option Tmp} {v : Value} {w : World} (h : Q (.panic c) (a.put d v) w) : Q (.panic c) a w := by
  cases d with
  | none => exact h
  | some d => exact hQ c a _ w h

theorem walk_C (hsel : ∀ (j : Nat) (o : Oper) cs b, ops[j]? = some o → o.op ≠ .select cs b) (hQ : ∀ c (a : Act) (T : Array Value) w, Q (.panic c) { a with tmps := T } w → Q (.panic c) a w)
    (hs : Region.sinkB md ops n = true) (hc : Region.chainB md ops n = true) (hn : n < ops.size) :
    ∀ (σ : List (Nat × Bool)) (listed : Array Bool) (a : Act) (w : World), HeadInv md ops n listed → C w → okM md ops n σ listed = true → wpM P ops n C Q σ a w → wpAnyC P md ops n C Q σ.length listed a w
  | [], listed, a, w, _, _, hok, h => ⟨by simpa [okM] using hok, h⟩
  | (k, false) :: r, listed, a, w, inv, hC, hok, h => by
    simp only [okM, Bool.and_eq_true, decide_eq_true_eq] at hok
    obtain ⟨hr, hf, hk, hok'⟩ := hok
    obtain ⟨o, ho, v, hy, hK⟩ := h
    have hr' : k ∈ Region.ready md ops listed := by simpa using hr
    exact first_C ho hsel (fun c a w h => hQ_put hQ h) hs hc hn hk r.length listed a w inv (Region.free_spec ho hf) hr' hy hC
      (walk_C hsel hQ hs hc hn r _ _ w (inv.set hr' hk) hC hok' hK)
  | (k, true) :: r, listed, a, w, inv, hC, hok, h => by
    by_cases hk : k < n
    · simp only [okM, Bool.and_eq_true, beq_iff_eq] at hok
      obtain ⟨hr, _, hok'⟩ := hok
      refine ⟨fun h0 => (by rw [hr] at h0; cases h0), fun i hi => ?_⟩
      have hi' := hi
      rw [hr] at hi
      obtain rfl : i = k := by simpa using hi
      exact wpOp_mono (fun a' w' h' => ⟨h'.1, walk_C hsel hQ hs hc hn r _ a' w' (inv.set hi' hk) (h'.1 hk) hok' h'.2⟩) h
    · have hall : ((k, true) :: r).all (·.2) = true := by
        simp only [okM, Bool.and_eq_true, decide_eq_false hk, Bool.false_or] at hok
        simpa using hok.2.1
      exact movers_C _ listed a w hall hok h

theorem headInv_start : HeadInv md ops n (Array.replicate ops.size false) :=
  ⟨by simp, (fun j oj _ hl => by rw [getD_replicate_false] at hl; cases hl), (fun t _ ht => by simp [ht])⟩

/-- The whole: a region that draws its order. -/
theorem wp_region_M {id : Nat} {a : Act} {w : World} (C : World → Prop) (n : Nat) (σ : List (Nat × Bool)) (hm : P.follows .mixedOrders = true)
    (hB : (Region.noSelect ops && (Region.sinkB .any ops n && (Region.chainB .any ops n && (decide (n < ops.size) && (okM .any ops n σ (Array.replicate ops.size false) && (σ.length == ops.size)))))) = true)
    (hQ : ∀ c (a : Act) (T : Array Value) w, Q (.panic c) { a with tmps := T } w → Q (.panic c) a w) (hC : C w.drew)
    (h : wpM P ops n C Q σ a w.drew) : (Code.region id ops true).wp P Q a w := by
  simp only [Bool.and_eq_true, decide_eq_true_eq, beq_iff_eq] at hB
  obtain ⟨h1, h2, h3, h4, h5, h6⟩ := hB
  refine wp_region_any hm (wpAny_of_C _ _ _ _ (n := n) (C := C) ?_)
  have := walk_C (P := P) (Q := Q) (C := C) (Region.noSelect_spec h1) hQ h2 h3 h4 σ _ a w.drew headInv_start hC h5 h
  rw [h6] at this
  exact this

theorem wpM_still {k : Nat} {r : List (Nat × Bool)} {o : Oper} {v : Value} {a : Act} {w : World} (ho : ops[k]? = some o) (hw : Region.wanted o (yielded ops a.tmps) = true)
    (h : ∀ w', C w' → (execOp a.eval o).run P w' = .ok (.value v) w') (hr : wpM P ops n C Q r (a.put o.dst v) w) : wpM P ops n C Q ((k, false) :: r) a w :=
  ⟨o, ho, v, .inl ⟨hw, h⟩, hr⟩
theorem wpM_skip {k : Nat} {r : List (Nat × Bool)} {o : Oper} {a : Act} {w : World} (ho : ops[k]? = some o) (hw : Region.wanted o (yielded ops a.tmps) = false)
    (hr : wpM P ops n C Q r (a.put o.dst undef) w) : wpM P ops n C Q ((k, false) :: r) a w :=
  ⟨o, ho, undef, .inr ⟨hw, rfl⟩, hr⟩
theorem wpM_move {k : Nat} {r : List (Nat × Bool)} {o : Oper} {a : Act} {w : World} (ho : ops[k]? = some o) (hw : Region.wanted o (yielded ops a.tmps) = true)
    (h : ∀ K : Act → World → Prop, (∀ a' w', (k < n → C w') → wpM P ops n C Q r a' w' → K a' w') → o.wp P a w K Q) : wpM P ops n C Q ((k, true) :: r) a w := by
  show wpOp P ops Q k _ a w
  unfold Go.wpOp
  simp only [ho, hw, if_true]
  exact .inl (h _ fun a' w' h1 h2 => ⟨h1, h2⟩)
theorem wpM_nil {a : Act} {w : World} (h : Q .normal a w) : wpM P ops n C Q [] a w := h
end
end Go.Proofs.YtclicjokgfiegaaGreatDoor

/- Who comes: bytes that are read: the walks of the reader (printed by wip/gen/conreader.py). -/
namespace Go.Proofs.YtclicjokgfiegaaGreatDoor
open Go.RowKit
set_option linter.unusedVariables false
set_option linter.unusedSimpArgs false

def rFail (st : Int × Int) (E : Int) : Int × Int := (st.1, if st.2 = 0 then E else st.2)
def rOneV (l : List UInt8) (st : Int × Int) : Int := if st.2 ≠ 0 then 0 else if (l.length : Int) ≤ st.1 then 0 else bN l st.1.toNat
def rOneS (l : List UInt8) (st : Int × Int) : Int × Int := if st.2 ≠ 0 then st else if (l.length : Int) ≤ st.1 then (st.1, 2) else (st.1 + 1, 0)
def rTwoV (l : List UInt8) (st : Int × Int) : Int := if st.2 ≠ 0 then 0 else (uGet2 l st.1).1
def rTwoS (l : List UInt8) (st : Int × Int) : Int × Int := if st.2 ≠ 0 then st else ((uGet2 l st.1).2.1, (uGet2 l st.1).2.2)
def rTextV (g : List UInt8 × Int × Int) (is : Bool) (st : Int × Int) : List UInt8 := if is = false then [] else if st.2 ≠ 0 then [] else g.1
def rTextS (g : List UInt8 × Int × Int) (is : Bool) (st : Int × Int) : Int × Int := if is = false then st else if st.2 ≠ 0 then st else (g.2.1, g.2.2)

/-- A reader's cells. -/
def RdAt (w : World) (g : Nat) (v : Value) (l : List UInt8) (st : Int × Int) : Prop :=
  w.cell? ⟨g, 0, none⟩ = some v ∧ Bs w v l ∧ w.cell? ⟨g, 1, none⟩ = some (.int .i64 st.1) ∧ w.cell? ⟨g, 2, none⟩ = some (.int .i64 st.2) ∧ w.frozen? ⟨g, 1, none⟩ = false ∧ w.frozen? ⟨g, 2, none⟩ = false ∧ g < w.heap.size ∧ OutOf v [g]
theorem RdAt.keeps {S : List Nat} {w w' : World} {g : Nat} {v : Value} {l : List UInt8} {st : Int × Int} (h : RdAt w g v l st) (hk : Keeps S w w') (hg : g ∉ S) (ho : OutOf v S) : RdAt w' g v l st := by
  obtain ⟨h0, h1, h2, h3, h4, h5, h6, h7⟩ := h
  exact ⟨(hk.cell h6 hg).trans h0, h1.keeps hk ho, (hk.cell h6 hg).trans h2, (hk.cell h6 hg).trans h3, (hk.free h6 hg).trans h4, (hk.free h6 hg).trans h5, Nat.lt_of_lt_of_le h6 hk.size, h7⟩
theorem RdAt.step {w w' : World} {g : Nat} {v : Value} {l : List UInt8} {st st' : Int × Int} (h : RdAt w g v l st) (hk : Keeps [g] w w') (c0 : w'.cell? ⟨g, 0, none⟩ = some v) (c1 : w'.cell? ⟨g, 1, none⟩ = some (.int .i64 st'.1)) (c2 : w'.cell? ⟨g, 2, none⟩ = some (.int .i64 st'.2))
    (f1 : w'.frozen? ⟨g, 1, none⟩ = false) (f2 : w'.frozen? ⟨g, 2, none⟩ = false) : RdAt w' g v l st' := by
  obtain ⟨h0, h1, h2, h3, h4, h5, h6, h7⟩ := h
  exact ⟨c0, h1.keeps hk h7, c1, c2, f1, f2, Nat.lt_of_lt_of_le h6 hk.size, h7⟩
theorem OutOf.nil (v : Value) : OutOf v [] := fun _ _ _ _ h => by cases h

set_option maxRecDepth 100000 in
set_option maxHeartbeats 1000000 in
theorem fail_c (E : Int) (g : Nat) (v : Value) (l : List UInt8) (st : Int × Int) (w : World) (hR : RdAt w g v l st) :
    Calls Tryz.prog 190 #[.pointer (some ⟨g, 0, none⟩), .int .i64 E] w fun r w' => r = .returned (.tuple #[]) ∧ RdAt w' g v l (rFail st E) ∧ Keeps [g] w w' := by
  obtain ⟨at', e⟩ := st
  have hR' := hR
  obtain ⟨h0, h1, h2, h3, h4, h5, h6, h7⟩ := hR
  simp only at h2 h3
  by_cases he : e = 0
  · subst he
    clear hR'
    go_enter Tryz.func190, Tryz.ntmps190
    go_wp2_with fail
    go_end0
    have hk : Keeps [g] w (w.setCell ⟨g, 2, none⟩ (.int .i64 E)) := (Keeps.refl _ _).setCell (.inl (by simp)) _
    exact ⟨rfl, ⟨by simp [go_sem, h0], h1.keeps hk h7, by simp [go_sem, h2, rFail], by simp [go_sem, h3, rFail], by simp [go_sem, h4], by simp [go_sem, h5], by simpa [go_sem] using h6, h7⟩, hk⟩
  · have heb : (e == 0) = false := by simpa using he
    have hs : rFail (at', e) E = (at', e) := by unfold rFail; simp [he]
    rw [hs]
    have HR := hd hR'; clear hR' hs
    go_enter Tryz.func190, Tryz.ntmps190
    go_wp2_with fail
    go_end0
    exact ⟨rfl, HR.out, Keeps.refl _ _⟩

set_option maxRecDepth 100000 in
set_option maxHeartbeats 2000000 in
theorem one_c (g : Nat) (v : Value) (l : List UInt8) (st : Int × Int) (w : World) (hR : RdAt w g v l st) (hp : 0 ≤ st.1 ∧ st.1 ≤ 140737488355328) :
    Calls Tryz.prog 191 #[.pointer (some ⟨g, 0, none⟩)] w fun r w' => r = .returned (.int .i64 (rOneV l st)) ∧ RdAt w' g v l (rOneS l st) ∧ Keeps [g] w w' := by
  obtain ⟨at', e⟩ := st
  have hR' := hR
  obtain ⟨h0, h1, h2, h3, h4, h5, h6, h7⟩ := hR
  simp only at h2 h3 hp
  obtain ⟨p0, p1⟩ := hp
  by_cases he : e = 0
  rotate_left
  · have heb : (e != 0) = true := by simpa using he
    have hs : rOneS l (at', e) = (at', e) := by rw [rOneS, if_pos he]
    have hv : rOneV l (at', e) = 0 := by rw [rOneV, if_pos he]
    rw [hs, hv]
    have HR := hd hR'; clear hR' hs hv
    go_enter Tryz.func191, Tryz.ntmps191
    go_wp2_with fail
    go_ret
    exact ⟨rfl, HR.out, Keeps.refl _ _⟩
  subst he
  obtain ⟨a, c, rfl⟩ := h1.slice
  by_cases hl : (l.length : Int) ≤ at'
  · have hs : rOneS l (at', 0) = rFail (at', 0) 2 := by rw [rOneS, if_neg (by simp), if_pos hl]; rfl
    have hv : rOneV l (at', 0) = 0 := by rw [rOneV, if_neg (by simp), if_pos hl]
    rw [hs, hv]
    have HR := hd hR'; clear hR' hs hv
    go_enter Tryz.func191, Tryz.ntmps191
    go_wp2_with fail
    go_quiet (fail)
    go_wp2_with fail
    refine (fail_c 2 g _ l (at', 0) _ (HR.out.keeps ((Keeps.refl [] _).drewN _) (by simp) (OutOf.nil _))).mono ?_
    rintro r w' ⟨rfl, hR1, hk1⟩
    go_wp2_with fail
    go_ret
    exact ⟨rfl, hR1, ((Keeps.refl _ _).drewN _).trans hk1⟩
  · have hs : rOneS l (at', 0) = (at' + 1, 0) := by rw [rOneS, if_neg (by simp), if_neg hl]
    have hv : rOneV l (at', 0) = bN l at'.toNat := by rw [rOneV, if_neg (by simp), if_neg hl]
    rw [hs, hv]
    have HR := hd hR'
    clear hR' hs hv
    obtain ⟨k, rfl⟩ := Int.eq_ofNat_of_zero_le p0
    have hkl : k < l.length := by omega
    have hll : l.length ≤ 9223372036854775807 := by have := h1.len; unfold maxLen at this; omega
    have hu : ∀ W, Bs W (.slice a l.length c) l → ∃ b o', a = some ⟨b, o', none⟩ ∧ W.cell? ⟨b, o' + k, none⟩ = some (.int .u8 (bN l k)) := fun W hW => by
      rcases hW.split with ⟨hn, _⟩ | ⟨_, b, o', c', hv, _, _, _, hcell⟩
      · rw [hn] at hkl; simp at hkl
      · simp only [Value.slice.injEq] at hv
        exact ⟨b, o', hv.1, hcell k hkl⟩
    obtain ⟨b, o', rfl, hcell⟩ := hu w h1
    have hbg : b ≠ g := fun e => h7 _ _ _ rfl (by simp [e])
    clear hu
    rw [Int.toNat_natCast]
    have hbN := bN_lt l k
    generalize hx : bN l k = x at *
    clear hx
    go_enter Tryz.func191, Tryz.ntmps191
    go_wp2_with fail
    go_quiet (fail)
    go_wp2_with fail
    have hbg2 : (⟨b, o' + k, none⟩ : Addr) ≠ ⟨g, 1, none⟩ := by simp [hbg]
    go_quiet (fail)
    go_wp2_with fail
    go_ret
    refine ⟨rfl, RdAt.step HR.out ((((Keeps.refl _ _).drewN _).setCell (.inl (by simp)) _).drewN _) ?_ ?_ ?_ ?_ ?_, (((Keeps.refl _ _).drewN _).setCell (.inl (by simp)) _).drewN _⟩
    all_goals simp [go_sem, h0, h2, h3, h4, h5]

set_option maxRecDepth 100000 in
set_option maxHeartbeats 2000000 in
theorem two_c (g : Nat) (v : Value) (l : List UInt8) (st : Int × Int) (w : World) (hR : RdAt w g v l st) :
    Calls Tryz.prog 203 #[.pointer (some ⟨g, 0, none⟩)] w fun r w' => r = .returned (.int .i64 (rTwoV l st)) ∧ RdAt w' g v l (rTwoS l st) ∧ Keeps [g] w w' := by
  obtain ⟨at', e⟩ := st
  have hR' := hR
  obtain ⟨h0, h1, h2, h3, h4, h5, h6, h7⟩ := hR
  simp only at h2 h3
  by_cases he : e = 0
  rotate_left
  · have heb : (e != 0) = true := by simpa using he
    have hs : rTwoS l (at', e) = (at', e) := by rw [rTwoS, if_pos he]
    have hv : rTwoV l (at', e) = 0 := by rw [rTwoV, if_pos he]
    rw [hs, hv]
    have HR := hd hR'; clear hR' hs hv
    go_enter Tryz.func203, Tryz.ntmps203
    go_wp2_with fail
    go_ret
    exact ⟨rfl, HR.out, Keeps.refl _ _⟩
  subst he
  have hs : rTwoS l (at', 0) = ((uGet2 l at').2.1, (uGet2 l at').2.2) := by rw [rTwoS, if_neg (by simp)]
  have hv : rTwoV l (at', 0) = (uGet2 l at').1 := by rw [rTwoV, if_neg (by simp)]
  rw [hs, hv]
  obtain ⟨a, c, rfl⟩ := h1.slice
  have HR := hd hR'
  clear hs hv hR'
  go_enter Tryz.func203, Tryz.ntmps203
  go_wp2_with fail
  refine wp_region_M (fun W => W.cell? ⟨g, 0, none⟩ = some (.slice a l.length c) ∧ W.cell? ⟨g, 1, none⟩ = some (.int .i64 at')) 15 [(0, false), (1, false), (2, false), (3, false), (4, false), (5, false), (6, false), (7, false), (8, true), (9, false), (10, false), (11, false), (12, false), (13, false), (14, false), (15, true)] (by kernel_rfl) (by kernel_rfl) (fun _ _ _ _ h => h) ⟨h0, h2⟩ ?_
  iterate 8
    apply wpM_still (by rfl) (by rfl)
    · intro W hC
      obtain ⟨d0, d1⟩ := hC
      go_simp
      rfl
    go_simp
  apply wpM_move (by rfl) (by rfl)
  intro K hK
  go_simp
  refine (Get2_c _ l at' _ (h1.keeps (Keeps.refl [] _).drew (OutOf.nil _))).mono ?_
  rintro r w1 ⟨rfl, hb1⟩
  have hk1 : Keeps [] w w1 := (Keeps.refl [] w).drew.trans (Keeps.below hb1)
  have HR1 := HR.out.keeps hk1 (by simp) (OutOf.nil _)
  have HR2 := hd HR1
  obtain ⟨i0, i1, i2, i3, i4, i5, i6, i7⟩ := HR1
  simp only []
  refine hK _ _ (fun _ => ⟨i0, i2⟩) ?_
  clear hK K hb1 h0 h1 h2 h3 h4 h5 h6
  generalize hq : uGet2 l at' = q
  obtain ⟨qn, qk, qe⟩ := q
  have Hq := hd hq; clear hq
  simp only
  iterate 6
    apply wpM_still (by rfl) (by rfl)
    · intro W hC
      obtain ⟨d0, d1⟩ := hC
      go_simp
      rfl
    go_simp
  apply wpM_move (by rfl) (by rfl)
  intro K hK
  go_simp
  refine hK _ _ (fun h => absurd h (by decide)) ?_
  clear hK K
  refine wpM_nil ?_
  go_wp2_with fail
  refine (fail_c qe g _ l (at', 0) _ HR2.out).mono ?_
  rintro r w2 ⟨rfl, hR3, hk2⟩
  have HR3 := hd hR3
  obtain ⟨j0, j1, j2, j3, j4, j5, j6, j7⟩ := hR3
  simp only [rFail, if_true] at j2 j3
  go_wp2_with fail
  go_ret
  rw [Hq.out]
  refine ⟨rfl, RdAt.step HR3.out ((Keeps.refl _ _).setCell (.inl (by simp)) _) ?_ ?_ ?_ ?_ ?_, ((hk1.mono (by simp)).trans hk2).setCell (.inl (by simp)) _⟩
  all_goals simp [go_sem, j0, j2, j3, j4, j5]

set_option maxRecDepth 100000 in
set_option maxHeartbeats 2000000 in
theorem textT_c (is : Bool) (g : Nat) (v : Value) (l : List UInt8) (st : Int × Int) (w : World) (hE : EnvU w) (hR : RdAt w g v l st) :
    Calls Tryz.prog 188 #[.pointer (some ⟨g, 0, none⟩), .bool is, .func (.func 189) #[] #[]] w fun r w' => r = .returned (.string (sOf (rTextV (uGet l st.1) is st))) ∧ RdAt w' g v l (rTextS (uGet l st.1) is st) ∧ Keeps [g] w w' := by
  have HE := hd hE; clear hE
  obtain ⟨at', e⟩ := st
  have hR' := hR
  obtain ⟨h0, h1, h2, h3, h4, h5, h6, h7⟩ := hR
  simp only at h2 h3
  simp only []
  cases is
  · have hs : rTextS (uGet l at') false (at', e) = (at', e) := rfl
    have hv : rTextV (uGet l at') false (at', e) = [] := rfl
    rw [hs, hv]
    have HR := hd hR'; clear hR' hs hv
    go_enter Tryz.func188, Tryz.ntmps188
    go_wp2_with fail
    go_ret
    exact ⟨rfl, HR.out, Keeps.refl _ _⟩
  by_cases he : e = 0
  rotate_left
  · have heb : (e != 0) = true := by simpa using he
    have hs : rTextS (uGet l at') true (at', e) = (at', e) := by rw [rTextS, if_neg (by simp), if_pos he]
    have hv : rTextV (uGet l at') true (at', e) = [] := by rw [rTextV, if_neg (by simp), if_pos he]
    rw [hs, hv]
    have HR := hd hR'; clear hR' hs hv
    go_enter Tryz.func188, Tryz.ntmps188
    go_wp2_with fail
    go_ret
    exact ⟨rfl, HR.out, Keeps.refl _ _⟩
  subst he
  have hs : rTextS (uGet l at') true (at', 0) = ((uGet l at').2.1, (uGet l at').2.2) := by rw [rTextS, if_neg (by simp), if_neg (by simp)]
  have hv : rTextV (uGet l at') true (at', 0) = (uGet l at').1 := by rw [rTextV, if_neg (by simp), if_neg (by simp)]
  rw [hs, hv]
  obtain ⟨a, c, rfl⟩ := h1.slice
  have HR := hd hR'
  clear hs hv hR'
  go_enter Tryz.func188, Tryz.ntmps188
  go_wp2_with fail
  refine wp_region_M (fun W => W.cell? ⟨g, 0, none⟩ = some (.slice a l.length c) ∧ W.cell? ⟨g, 1, none⟩ = some (.int .i64 at')) 16 [(0, false), (1, false), (2, false), (3, false), (4, false), (5, false), (6, false), (7, false), (8, false), (9, true), (10, false), (11, false), (12, false), (13, false), (14, false), (15, false), (16, true)] (by kernel_rfl) (by kernel_rfl) (fun _ _ _ _ h => h) ⟨h0, h2⟩ ?_
  iterate 9
    apply wpM_still (by rfl) (by rfl)
    · intro W hC
      obtain ⟨d0, d1⟩ := hC
      go_simp
      rfl
    go_simp
  apply wpM_move (by rfl) (by rfl)
  intro K hK
  go_simp
  refine (Get_c _ l at' _ (HE.out.below ((Below.refl _ w).drew)) (h1.keeps (Keeps.refl [] _).drew (OutOf.nil _))).mono ?_
  rintro r w1 ⟨rfl, hb1⟩
  have hk1 : Keeps [] w w1 := (Keeps.refl [] w).drew.trans (Keeps.below hb1)
  have HR1 := HR.out.keeps hk1 (by simp) (OutOf.nil _)
  have HR2 := hd HR1
  obtain ⟨i0, i1, i2, i3, i4, i5, i6, i7⟩ := HR1
  simp only []
  refine hK _ _ (fun _ => ⟨i0, i2⟩) ?_
  clear hK K hb1 h0 h1 h2 h3 h4 h5 h6
  generalize hq : uGet l at' = q
  obtain ⟨qn, qk, qe⟩ := q
  have Hq := hd hq; clear hq
  simp only
  iterate 6
    apply wpM_still (by rfl) (by rfl)
    · intro W hC
      obtain ⟨d0, d1⟩ := hC
      go_simp
      rfl
    go_simp
  apply wpM_move (by rfl) (by rfl)
  intro K hK
  go_simp
  refine hK _ _ (fun h => absurd h (by decide)) ?_
  clear hK K
  refine wpM_nil ?_
  go_wp2_with fail
  refine (fail_c qe g _ l (at', 0) _ HR2.out).mono ?_
  rintro r w2 ⟨rfl, hR3, hk2⟩
  have HR3 := hd hR3
  obtain ⟨j0, j1, j2, j3, j4, j5, j6, j7⟩ := hR3
  simp only [rFail, if_true] at j2 j3
  go_wp2_with fail
  go_ret
  rw [Hq.out]
  refine ⟨rfl, RdAt.step HR3.out ((Keeps.refl _ _).setCell (.inl (by simp)) _) ?_ ?_ ?_ ?_ ?_, ((hk1.mono (by simp)).trans hk2).setCell (.inl (by simp)) _⟩
  all_goals simp [go_sem, j0, j2, j3, j4, j5]

set_option maxRecDepth 100000 in
set_option maxHeartbeats 2000000 in
theorem textR_c (is : Bool) (g : Nat) (v : Value) (l : List UInt8) (st : Int × Int) (w : World) (hE : EnvU w) (hR : RdAt w g v l st) :
    Calls Tryz.prog 188 #[.pointer (some ⟨g, 0, none⟩), .bool is, .func (.func 201) #[] #[]] w fun r w' => r = .returned (.string (sOf (rTextV (uGetRaw l st.1) is st))) ∧ RdAt w' g v l (rTextS (uGetRaw l st.1) is st) ∧ Keeps [g] w w' := by
  have HE := hd hE; clear hE
  obtain ⟨at', e⟩ := st
  have hR' := hR
  obtain ⟨h0, h1, h2, h3, h4, h5, h6, h7⟩ := hR
  simp only at h2 h3
  simp only []
  cases is
  · have hs : rTextS (uGetRaw l at') false (at', e) = (at', e) := rfl
    have hv : rTextV (uGetRaw l at') false (at', e) = [] := rfl
    rw [hs, hv]
    have HR := hd hR'; clear hR' hs hv
    go_enter Tryz.func188, Tryz.ntmps188
    go_wp2_with fail
    go_ret
    exact ⟨rfl, HR.out, Keeps.refl _ _⟩
  by_cases he : e = 0
  rotate_left
  · have heb : (e != 0) = true := by simpa using he
    have hs : rTextS (uGetRaw l at') true (at', e) = (at', e) := by rw [rTextS, if_neg (by simp), if_pos he]
    have hv : rTextV (uGetRaw l at') true (at', e) = [] := by rw [rTextV, if_neg (by simp), if_pos he]
    rw [hs, hv]
    have HR := hd hR'; clear hR' hs hv
    go_enter Tryz.func188, Tryz.ntmps188
    go_wp2_with fail
    go_ret
    exact ⟨rfl, HR.out, Keeps.refl _ _⟩
  subst he
  have hs : rTextS (uGetRaw l at') true (at', 0) = ((uGetRaw l at').2.1, (uGetRaw l at').2.2) := by rw [rTextS, if_neg (by simp), if_neg (by simp)]
  have hv : rTextV (uGetRaw l at') true (at', 0) = (uGetRaw l at').1 := by rw [rTextV, if_neg (by simp), if_neg (by simp)]
  rw [hs, hv]
  obtain ⟨a, c, rfl⟩ := h1.slice
  have HR := hd hR'
  clear hs hv hR'
  go_enter Tryz.func188, Tryz.ntmps188
  go_wp2_with fail
  refine wp_region_M (fun W => W.cell? ⟨g, 0, none⟩ = some (.slice a l.length c) ∧ W.cell? ⟨g, 1, none⟩ = some (.int .i64 at')) 16 [(0, false), (1, false), (2, false), (3, false), (4, false), (5, false), (6, false), (7, false), (8, false), (9, true), (10, false), (11, false), (12, false), (13, false), (14, false), (15, false), (16, true)] (by kernel_rfl) (by kernel_rfl) (fun _ _ _ _ h => h) ⟨h0, h2⟩ ?_
  iterate 9
    apply wpM_still (by rfl) (by rfl)
    · intro W hC
      obtain ⟨d0, d1⟩ := hC
      go_simp
      rfl
    go_simp
  apply wpM_move (by rfl) (by rfl)
  intro K hK
  go_simp
  refine (GetRaw_c _ l at' _ (h1.keeps (Keeps.refl [] _).drew (OutOf.nil _))).mono ?_
  rintro r w1 ⟨rfl, hb1⟩
  have hk1 : Keeps [] w w1 := (Keeps.refl [] w).drew.trans (Keeps.below hb1)
  have HR1 := HR.out.keeps hk1 (by simp) (OutOf.nil _)
  have HR2 := hd HR1
  obtain ⟨i0, i1, i2, i3, i4, i5, i6, i7⟩ := HR1
  simp only []
  refine hK _ _ (fun _ => ⟨i0, i2⟩) ?_
  clear hK K hb1 h0 h1 h2 h3 h4 h5 h6
  generalize hq : uGetRaw l at' = q
  obtain ⟨qn, qk, qe⟩ := q
  have Hq := hd hq; clear hq
  simp only
  iterate 6
    apply wpM_still (by rfl) (by rfl)
    · intro W hC
      obtain ⟨d0, d1⟩ := hC
      go_simp
      rfl
    go_simp
  apply wpM_move (by rfl) (by rfl)
  intro K hK
  go_simp
  refine hK _ _ (fun h => absurd h (by decide)) ?_
  clear hK K
  refine wpM_nil ?_
  go_wp2_with fail
  refine (fail_c qe g _ l (at', 0) _ HR2.out).mono ?_
  rintro r w2 ⟨rfl, hR3, hk2⟩
  have HR3 := hd hR3
  obtain ⟨j0, j1, j2, j3, j4, j5, j6, j7⟩ := hR3
  simp only [rFail, if_true] at j2 j3
  go_wp2_with fail
  go_ret
  rw [Hq.out]
  refine ⟨rfl, RdAt.step HR3.out ((Keeps.refl _ _).setCell (.inl (by simp)) _) ?_ ?_ ?_ ?_ ?_, ((hk1.mono (by simp)).trans hk2).setCell (.inl (by simp)) _⟩
  all_goals simp [go_sem, j0, j2, j3, j4, j5]

end Go.Proofs.YtclicjokgfiegaaGreatDoor
