/- Messages: what bytes tell: the walks. -/
import Derived.Test.YtinfcjnmloglhaaDoorPubRef
namespace Go.Proofs.YtinfcjnmloglhaaDoor
open Go.RowKit
set_option linter.unusedVariables false
set_option linter.unusedSimpArgs false

/-- []byte(s), where the walk stands at it. -/
theorem upon_bytes {o : Oper} {a : Act} {K : Act → World → Prop} {Q : Exit → Act → World → Prop} {W : World} {s : ByteArray} {f : Value → World → Result Next} (hs : s.size ≤ 140737488355327)
    (h : ∀ ad c W', Bs W' (.slice ad (sB s).length c) (sB s) → Below W.heap.size W W' → Oper.upon Tryd.prog o a K Q ((Result.ok (.slice ad (sB s).length c) W').andThen f)) :
    Oper.upon Tryd.prog o a K Q ((Sem.run Tryd.prog (convert 9 22 (.string s)) W).andThen f) := by
  obtain ⟨c, W', hr, hB, hb⟩ := run_bytes s hs W
  rw [hr]
  exact h _ c W' hB hb

/-- The message that bytes tell. -/
def GivesM (w : World) (l : List UInt8) (q : Int) (e : Ending) (w' : World) : Prop :=
  e = .returned (.tuple #[.agg #[.string (sOf (pOf l q).1), .string (sOf (pOf l q).2.1), .int .i64 (pOfQ l q), .bool false], .int .i64 (pOf l q).2.2.1, .int .i64 (pOf l q).2.2.2]) ∧ Below w.heap.size w w'
theorem GivesM.nil {w w' : World} {l : List UInt8} {q : Int} (e : Int) (h : pOf l q = ([], [], 0, e)) (h0 : e ≠ 0) (hb : Below w.heap.size w w') :
    GivesM w l q (.returned (.tuple #[.agg #[.string ⟨#[]⟩, .string ⟨#[]⟩, .int .i64 0, .bool false], .int .i64 0, .int .i64 e])) w' := by
  unfold GivesM pOfQ
  rw [h]
  simp only
  rw [if_neg h0]
  exact ⟨rfl, hb⟩

theorem uGet_len (l : List UInt8) (k : Int) : (uGet l k).1.length ≤ 65535 := by
  unfold uGet
  have := uGetRaw_len l k
  repeat' split
  all_goals (first | exact this | simp)

theorem extract_drop (b : ByteArray) (n : Nat) : b.extract n b.size = sOf ((sB b).drop n) := by
  apply ByteArray.ext
  rw [ByteArray.data_extract]
  show b.data.extract n b.size = ((b.data.toList).drop n).toArray
  apply Array.toList_inj.1
  rw [Array.toList_extract]
  show ((b.data.toList).drop n).take (b.size - n) = (b.data.toList).drop n
  have : b.data.toList.length = b.size := Array.length_toList
  exact List.take_of_length_le (by rw [List.length_drop]; omega)

set_option maxRecDepth 100000 in
set_option maxHeartbeats 1000000 in
theorem pubOf_c (b : ByteArray) (q : Int) (w : World) (hE : EnvU w) (hs : b.size ≤ 140737488351232) :
    Calls Tryd.prog 44 #[.string b, .int .i64 q] w (GivesM w (sB b) q) := by
  have HE := hd hE; clear hE
  go_enter Tryd.func44, Tryd.ntmps44
  go_wp2_with fail
  refine (leveled_c q _).mono ?_
  by_cases hq : q < 0 ∨ 2 < q
  · rw [show (decide (0 ≤ q) && decide (q ≤ 2)) = false from by simp; omega]
    rintro e w' ⟨rfl, rfl⟩
    go_wp2_with fail
    exact bodyPost_ret (v := .tuple #[.agg #[.string ⟨#[]⟩, .string ⟨#[]⟩, .int .i64 0, .bool false], .int .i64 0, .int .i64 10]) (by simp [results, Tryd.results44, go_sem]) rfl (GivesM.nil 10 (by rw [pOf, if_pos hq]) (by decide) (by go_grown))
  rw [show (decide (0 ≤ q) && decide (q ≤ 2)) = true from by simp; omega]
  rintro e w' ⟨rfl, rfl⟩
  go_wp2_with fail
  refine upon_bytes (by omega) fun d1 k1 w1 hs1 hb1 => ?_
  have hc1 := bcell hb1
  have hf1 := bfree hb1
  have hl1 : w.heap.size < w1.heap.size := by have := hb1.size; simp at this; omega
  have hb : Below w.heap.size w w1 := Below.up (by go_grown) hb1
  go_wp2_with fail
  refine (Get_c _ (sB b) 0 _ (HE.out.below hb) hs1).mono ?_
  rintro e w2 ⟨rfl, hb2⟩
  have hc2 := bcell hb2
  have hf2 := bfree hb2
  have hl2 : w.heap.size < w2.heap.size := by have := hb2.size; omega
  replace hb := Below.up hb hb2
  have hg := @uGet_rng (sB b) 0
  have hgl := uGet_len (sB b) 0
  have hof : pOf (sB b) q = pOf (sB b) q := rfl
  conv at hof => rhs; rw [pOf, if_neg hq]
  generalize uGet (sB b) 0 = g at hg hgl hof ⊢
  obtain ⟨T, k, e⟩ := g
  simp only at hg hgl hof ⊢
  have Hof := hd hof; clear hof
  by_cases he : e = 0
  rotate_left
  · have heb : (e != 0) = true := by simpa using he
    go_wp2_with fail
    exact bodyPost_ret (v := .tuple #[.agg #[.string ⟨#[]⟩, .string ⟨#[]⟩, .int .i64 0, .bool false], .int .i64 0, .int .i64 e]) (by simp [results, Tryd.results44, go_sem, hc1, hc2, hl1, hl2]) rfl (GivesM.nil e (by rw [Hof.out, if_pos he]) he (by go_grown))
  subst he
  have hrg := hg rfl; clear hg
  have hbl := sB_len b
  have hk0 : 0 ≤ k := by omega
  have hk1 : k ≤ (b.size : Int) := by omega
  clear hbl
  go_wp2_with fail
  refine (named_c (sOf T) _ (by rw [sOf_size]; omega)).mono ?_
  rw [sB_sOf]
  have hl1' := hl1
  by_cases hn : pName T = false
  · rw [hn]
    rintro e w3 ⟨rfl, hb3⟩
    have hc3 := bcell hb3
    have hf3 := bfree hb3
    have hl3 : w.heap.size < w3.heap.size := by have := hb3.size; omega
    go_wp2_with fail
    exact bodyPost_ret (v := .tuple #[.agg #[.string ⟨#[]⟩, .string ⟨#[]⟩, .int .i64 0, .bool false], .int .i64 0, .int .i64 13]) (by simp [results, Tryd.results44, go_sem, hc1, hc2, hc3, hl1, hl2, hl3]) rfl (GivesM.nil 13 (by rw [Hof.out, if_neg (by decide), if_pos hn]) (by decide) (by have := Below.up hb hb3; go_grown))
  rw [show pName T = true from by simpa using hn]
  rintro e w3 ⟨rfl, hb3⟩
  have hc3 := bcell hb3
  have hf3 := bfree hb3
  have hl3 : w.heap.size < w3.heap.size := by have := hb3.size; omega
  have hs3 := hs1.below' (hb2.trans (hb3.mono hb2.size)) (Nat.le_refl _)
  replace hb := Below.up hb hb3
  clear hs1 hb1 hb2
  by_cases h : q = 0
  · subst h
    go_wp2_with fail
    refine bodyPost_ret (v := .tuple #[.agg #[.string (sOf T), .string (b.extract k.toNat b.size), .int .i64 0, .bool false], .int .i64 0, .int .i64 0]) (by simp [results, Tryd.results44, go_sem, hc1, hc2, hc3, hl1, hl2, hl3]) rfl ?_
    have hr : pOf (sB b) 0 = (T, (sB b).drop k.toNat, 0, 0) := by rw [Hof.out, if_neg (by decide), if_neg hn, if_pos trivial]
    unfold GivesM pOfQ
    rw [hr]
    exact ⟨by rw [extract_drop]; rfl, by go_grown⟩
  have hqz : (0 : Int) < q := by omega
  go_wp2_with fail
  refine upon_bytes (by omega) fun d4 k4 w4 hs4 hb4 => ?_
  have hc4 := bcell hb4
  have hf4 := bfree hb4
  have hl4 : w.heap.size < w4.heap.size := by have := hb4.size; omega
  replace hb := Below.up hb hb4
  go_wp2_with fail
  refine (Get2_c _ (sB b) k _ hs4).mono ?_
  rintro e w5 ⟨rfl, hb5⟩
  have hc5 := bcell hb5
  have hf5 := bfree hb5
  have hl5 : w.heap.size < w5.heap.size := by have := hb5.size; omega
  replace hb := Below.up hb hb5
  have hof := Hof.out; clear Hof
  rw [if_neg (by decide), if_neg hn, if_neg h] at hof
  have hg2 := @uGet2_ok (sB b) k
  generalize uGet2 (sB b) k = g at hof hg2 ⊢
  obtain ⟨id, k2, e⟩ := g
  simp only at hof hg2 ⊢
  have Hof := hd hof; clear hof
  by_cases he : e = 0
  rotate_left
  · have heb : (e != 0) = true := by simpa using he
    go_wp2_with fail
    exact bodyPost_ret (v := .tuple #[.agg #[.string ⟨#[]⟩, .string ⟨#[]⟩, .int .i64 0, .bool false], .int .i64 0, .int .i64 e]) (by simp [results, Tryd.results44, go_sem, hc1, hc2, hc3, hc4, hc5, hl1, hl2, hl3, hl4]) rfl (GivesM.nil e (by rw [Hof.out, if_pos he]) he (by go_grown))
  subst he
  obtain ⟨g1, g2, rfl, g4, g5⟩ := hg2 rfl
  clear hg2
  go_wp2_with fail
  refine (numbered_c id _).mono ?_
  by_cases hid : id = 0
  · rw [show (decide (1 ≤ id) && decide (id ≤ 65535)) = false from by rw [hid]; decide]
    rintro e w' ⟨rfl, rfl⟩
    go_wp2_with fail
    exact bodyPost_ret (v := .tuple #[.agg #[.string ⟨#[]⟩, .string ⟨#[]⟩, .int .i64 0, .bool false], .int .i64 0, .int .i64 1]) (by simp [results, Tryd.results44, go_sem, hc1, hc2, hc3, hc4, hc5, hl1, hl2, hl3, hl4]) rfl (GivesM.nil 1 (by rw [Hof.out, if_neg (by decide), if_pos hid]) (by decide) (by go_grown))
  rw [show (decide (1 ≤ id) && decide (id ≤ 65535)) = true from by simp; omega]
  rintro e w' ⟨rfl, rfl⟩
  have hk20 : 0 ≤ k + 2 := by omega
  have hk21 : k + 2 ≤ (b.size : Int) := by have := sB_len b; omega
  go_wp2_with fail
  refine bodyPost_ret (v := .tuple #[.agg #[.string (sOf T), .string (b.extract (k + 2).toNat b.size), .int .i64 q, .bool false], .int .i64 id, .int .i64 0]) (by simp [results, Tryd.results44, go_sem, hc1, hc2, hc3, hc4, hc5, hl1, hl2, hl3, hl4]) rfl ?_
  have hr : pOf (sB b) q = (T, (sB b).drop (k + 2).toNat, id, 0) := by rw [Hof.out, if_neg (by decide), if_neg hid]
  unfold GivesM pOfQ
  rw [hr]
  exact ⟨by rw [extract_drop]; rfl, by go_grown⟩
end Go.Proofs.YtinfcjnmloglhaaDoor
