/- Messages: what lays one: the walks. -/
import Derived.Test.YtinfcjnmloglhaaDoorPub
namespace Go.Proofs.YtinfcjnmloglhaaDoor
open Go.RowKit
set_option linter.unusedVariables false

theorem uPutB_len {l : List UInt8} : (uPutB l).length ≤ 65537 := by
  unfold uPutB
  split
  · rename_i h
    have := uRight_len h
    rw [uPutRawB_len this]
    omega
  · simp
theorem pNumB_len (q id : Int) : (pNumB q id).length ≤ 2 := by
  unfold pNumB pIdB uPut2B
  repeat' split
  all_goals simp

/-- What was there reads as it did. -/
theorem bcell {B : Nat} {W w1 : World} (hb : Below B W w1) : ∀ b o, b < B → w1.cell? ⟨b, o, none⟩ = W.cell? ⟨b, o, none⟩ :=
  fun b o h => hb.cell (p := ⟨b, o, none⟩) h
theorem bfree {B : Nat} {W w1 : World} (hb : Below B W w1) : ∀ b o, b < B → w1.frozen? ⟨b, o, none⟩ = W.frozen? ⟨b, o, none⟩ :=
  fun b o h => hb.frozen (p := ⟨b, o, none⟩) h

/-- A step more. -/
theorem _root_.Go.RowKit.Below.up {w w0 w1 : World} (h : Below w.heap.size w w0) (hb : Below w0.heap.size w0 w1) : Below w.heap.size w w1 := h.trans (hb.mono h.size)

/-- A box, then a step more. -/
theorem _root_.Go.RowKit.Below.upA {w w0 w1 : World} {o : Obj} (h : Below w.heap.size w w0) (hb : Below (w0.alloc o).heap.size (w0.alloc o) w1) : Below w.heap.size w w1 := (h.alloc h.size o).up hb
theorem _root_.Go.RowKit.Below.box {w w0 : World} {o : Obj} (h : Below w.heap.size w w0) : Below w.heap.size w (w0.alloc o) := h.alloc h.size o

theorem pPut_nil {T X : List UInt8} {q id : Int} {w w' : World} (e : Int) (he : pPutE T X q id = e) (h0 : e ≠ 0) (hb : Below w.heap.size w w') :
    GivesB w (pPutB T X q id) (pPutE T X q id) (.returned (.tuple #[.slice none 0 0, .int .i64 e])) w' := by
  unfold pPutB
  rw [he, if_neg h0]
  exact GivesB.nil hb

theorem lay1_c {q : Int} (h : 0 < q) (id : Int) (W : World) : Calls Tryd.prog 36 #[.int .i64 id] W (GivesB W (pNumB q id) (pNumE q id)) := by
  unfold pNumB pNumE
  rw [if_pos h, if_pos h]
  exact PutId_c id W
theorem lay0_c {q : Int} (h : ¬ 0 < q) (id : Int) (W : World) : Calls Tryd.prog 69 #[.int .i64 id] W (GivesB W (pNumB q id) (pNumE q id)) := by
  unfold pNumB pNumE
  rw [if_neg h, if_neg h]
  exact number1_c id W

set_option maxRecDepth 100000 in
set_option maxHeartbeats 1000000 in
theorem pubPut_c (T X : ByteArray) (q : Int) (R : Bool) (id : Int) (w : World) (hE : EnvU w) (hT : T.size ≤ 140737488351232) (hX : X.size ≤ 140737488351232) :
    Calls Tryd.prog 30 #[.agg #[.string T, .string X, .int .i64 q, .bool R], .int .i64 id] w (GivesB w (pPutB (sB T) (sB X) q id) (pPutE (sB T) (sB X) q id)) := by
  have HE := hd hE; clear hE
  go_enter Tryd.func30, Tryd.ntmps30
  go_wp2_with fail
  refine (leveled_c q _).mono ?_
  by_cases hq : q < 0 ∨ 2 < q
  · rw [show (decide (0 ≤ q) && decide (q ≤ 2)) = false from by simp; omega]
    rintro e w' ⟨rfl, rfl⟩
    go_wp2_with fail
    go_ret2
    exact pPut_nil 10 (by rw [pPutE, if_pos hq]) (by decide) (by go_grown)
  rw [show (decide (0 ≤ q) && decide (q ≤ 2)) = true from by simp; omega]
  rintro e w' ⟨rfl, rfl⟩
  go_wp2_with fail
  refine (named_c T _ (by omega)).mono ?_
  by_cases hn : pName (sB T) = false
  · rw [hn]
    rintro e w1 ⟨rfl, hb1⟩
    go_wp2_with fail
    go_ret2
    exact pPut_nil 13 (by rw [pPutE, if_neg hq, if_pos hn]) (by decide) (Below.up (by go_grown) hb1)
  rw [show pName (sB T) = true from by simpa using hn]
  rintro e w1 ⟨rfl, hb1⟩
  have hc1 := bcell hb1
  have hl1 : w.heap.size < w1.heap.size := by have := hb1.size; simp at this; omega
  have hb : Below w.heap.size w w1 := Below.up (by go_grown) hb1
  go_wp2_with fail
  refine (Put_c T _ (HE.out.below hb) (by omega)).mono ?_
  rintro e w2 ⟨v2, rfl, ho2, hb2⟩
  have hc2 := bcell hb2
  have hz2 := hb2.size
  have hl2 : w.heap.size < w2.heap.size := by omega
  replace hb := Below.up hb hb2
  obtain ⟨a2, k2, rfl⟩ := Owns.slice ho2
  by_cases he : uPutE (sB T) = 0
  rotate_left
  · have heb : (uPutE (sB T) != 0) = true := by simpa using he
    go_wp2_with fail
    go_ret2
    exact pPut_nil _ (by rw [pPutE, if_neg hq, if_neg hn, if_pos he]) he hb
  rw [he]
  go_wp2_with fail
  refine (number_c q _).mono ?_
  have hB2 := @uPutB_len (sB T)
  have hB3 := pNumB_len q id
  by_cases h : 0 < q
  all_goals first
    | (rw [if_pos h]; rintro e w' ⟨rfl, rfl⟩; go_wp2_with fail; refine (lay1_c (q := q) (by omega) id _).mono ?_)
    | (rw [if_neg h]; rintro e w' ⟨rfl, rfl⟩; go_wp2_with fail; refine (lay0_c (q := q) (by omega) id _).mono ?_)
  all_goals
    rintro e w3 ⟨v3, rfl, ho3, hb3⟩
    have hc3 := bcell hb3
    have hz3 := hb3.size
    have hl3 : w.heap.size < w3.heap.size := by omega
    obtain ⟨a3, k3, rfl⟩ := Owns.slice ho3
    by_cases hnE : pNumE q id = 0
    rotate_left
    · have heb : (pNumE q id != 0) = true := by simpa using hnE
      go_wp2_with fail
      go_ret2
      exact pPut_nil _ (by rw [pPutE, if_neg hq, if_neg hn, if_neg (by omega), if_pos hnE]) hnE (Below.up hb hb3)
    rw [hnE]
    have ho2' := Owned.kept ho2 hb3 (Nat.le_refl _)
    have hs3 := ho3.bs
    replace hb := Below.up hb hb3
    clear h ho3 hb3
    by_cases hlen : (4096 : Int) - ((uPutB (sB T)).length + (pNumB q id).length) < X.size
    · have hspec : pPutE (sB T) (sB X) q id = 3 := by rw [pPutE, if_neg hq, if_neg hn, if_neg (by omega), if_neg (by omega), sB_len, if_pos hlen]
      have Hs := hd hspec; clear hspec
      generalize uPutB (sB T) = B2 at *
      generalize pNumB q id = B3 at *
      go_wp2_with (at_builtin; refine wp_appB rfl _ _ rfl w1.heap.size _ B2 rfl ho2' _ B3 rfl hs3 (by omega) (by omega) ?_; intro v4 w4 ho4 hb4; obtain ⟨a4, k4, rfl⟩ := Owns.slice ho4; rw [List.length_append] at ho4; have hc4 := bcell hb4; have hz4 := hb4.size; have hl4 : w.heap.size < w4.heap.size := (by omega))
      go_ret2
      exact pPut_nil 3 Hs.out (by decide) (hb.trans (hb4.mono (by omega)))
    have hspec : pPutE (sB T) (sB X) q id = 0 := by rw [pPutE, if_neg hq, if_neg hn, if_neg (by omega), if_neg (by omega), sB_len, if_neg hlen]
    have hspecB : pPutB (sB T) (sB X) q id = uPutB (sB T) ++ pNumB q id ++ sB X := by rw [pPutB, if_pos hspec]
    have Hs := hd hspec; have HsB := hd hspecB; clear hspec hspecB
    generalize uPutB (sB T) = B2 at *
    generalize pNumB q id = B3 at *
    go_wp2_with (first
      | (at_builtin; refine wp_appB rfl _ _ rfl w1.heap.size _ B2 rfl ho2' _ B3 rfl hs3 (by omega) (by omega) ?_; intro v4 w4 ho4 hb4; obtain ⟨a4, k4, rfl⟩ := Owns.slice ho4; rw [List.length_append] at ho4; have hc4 := bcell hb4; have hz4 := hb4.size; have hl4 : w.heap.size < w4.heap.size := (by omega); clear ho2')
      | (at_builtin; refine wp_appS rfl _ _ rfl w1.heap.size _ (B2 ++ B3) rfl ho4 X rfl (by rw [List.length_append]; omega) (by omega) ?_; intro v5 w5 ho5 hb5))
    go_ret2
    rw [Hs.out, HsB.out]
    exact ⟨_, rfl, Owned.le ho5 (Nat.le_of_lt hl1), hb.trans ((hb4.trans hb5).mono (Nat.le_of_lt hl1))⟩
end Go.Proofs.YtinfcjnmloglhaaDoor
