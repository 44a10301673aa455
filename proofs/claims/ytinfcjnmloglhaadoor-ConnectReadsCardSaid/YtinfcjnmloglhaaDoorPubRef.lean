/- Messages: the reference's walks; what bytes tell; the numbers. -/
import Derived.Test.YtinfcjnmloglhaaDoorPubPut
import Derived.Test.YtinfcjnmloglhaaDoorPubOfPlain
import Derived.WalkSpells
namespace Go.Proofs.YtinfcjnmloglhaaDoor
open Go.RowKit
set_option linter.unusedVariables false

set_option maxRecDepth 100000 in
set_option maxHeartbeats 1000000 in
theorem refPubPut_c (T X : ByteArray) (q : Int) (R : Bool) (id : Int) (w : World) (hT : T.size ≤ 140737488351232) (hX : X.size ≤ 140737488351232) :
    Calls Tryd.prog 31 #[.agg #[.string T, .string X, .int .i64 q, .bool R], .int .i64 id] w (GivesB w (pPutB (sB T) (sB X) q id) (pPutE (sB T) (sB X) q id)) := by
  by_cases hq : q < 0 ∨ 2 < q
  · have hs : pPutE (sB T) (sB X) q id = 10 := by rw [pPutE, if_pos hq]
    rcases hq with hq | hq
    all_goals
      go_enter Tryd.func31, Tryd.ntmps31
      go_wp2_with fail
      go_ret2
      exact pPut_nil 10 hs (by decide) (by go_grown)
  have hq1 : 0 ≤ q := by omega
  have hq2 : q ≤ 2 := by omega
  go_enter Tryd.func31, Tryd.ntmps31
  go_wp2_with fail
  refine (refNamed_c T _ (by omega)).mono ?_
  by_cases hn : pName (sB T) = false
  · rw [hn]
    rintro e w1 ⟨rfl, hb1⟩
    go_wp2_with fail
    go_ret2
    exact pPut_nil 13 (by rw [pPutE, if_neg hq, if_pos hn]) (by decide) (Below.up (by go_grown) hb1)
  rw [show pName (sB T) = true from by simpa using hn]
  rintro e w1 ⟨rfl, hb1⟩
  have hc1 := bcell hb1
  have hl1 : w.heap.size < w1.heap.size := by have := hb1.size; simp at this; omega
  have hb : Below w.heap.size w w1 := Below.up (by go_grown) hb1
  go_wp2_with fail
  refine (refPut_c T _ (by omega)).mono ?_
  rintro e w2 ⟨v2, rfl, ho2, hb2⟩
  have hc2 := bcell hb2
  have hz2 := hb2.size
  have hl2 : w.heap.size < w2.heap.size := by omega
  replace hb := Below.up hb hb2
  obtain ⟨a2, k2, rfl⟩ := Owns.slice ho2
  by_cases he : uPutE (sB T) = 0
  rotate_left
  · have heb : (uPutE (sB T) != 0) = true := by simpa using he
    go_wp2_with fail
    go_ret2
    exact pPut_nil _ (by rw [pPutE, if_neg hq, if_neg hn, if_pos he]) he hb
  rw [he]
  have hB2 := @uPutB_len (sB T)
  have hB3 := pNumB_len q id
  by_cases h : q = 0
  · subst h
    have hN : pNumB 0 id = [] := by rw [pNumB, if_neg (by omega)]
    by_cases hid : id = 0
    rotate_left
    · have hidb : (id != 0) = true := by simpa using hid
      go_wp2_with fail
      go_ret2
      have hNE : pNumE 0 id = 1 := by rw [pNumE, if_neg (by omega), if_pos hid]
      exact pPut_nil 1 (by rw [pPutE, if_neg hq, if_neg hn, if_neg (by omega), hNE, if_pos (by decide)]) (by decide) hb
    subst hid
    have hNE : pNumE 0 0 = 0 := by decide
    by_cases hlen : (4096 : Int) - (uPutB (sB T)).length < X.size
    · have hspec : pPutE (sB T) (sB X) 0 0 = 3 := by rw [pPutE, if_neg hq, if_neg hn, if_neg (by omega), if_neg (by omega), sB_len, hN, if_pos (by simpa using hlen)]
      have Hs := hd hspec; clear hspec hN hNE
      generalize uPutB (sB T) = B2 at *
      go_wp2_with fail
      go_ret2
      exact pPut_nil 3 Hs.out (by decide) hb
    have hspec : pPutE (sB T) (sB X) 0 0 = 0 := by rw [pPutE, if_neg hq, if_neg hn, if_neg (by omega), if_neg (by omega), sB_len, hN, if_neg (by simpa using hlen)]
    have hspecB : pPutB (sB T) (sB X) 0 0 = uPutB (sB T) ++ sB X := by rw [pPutB, if_pos hspec, hN, List.append_nil]
    have Hs := hd hspec; have HsB := hd hspecB; clear hspec hspecB hN hNE
    generalize uPutB (sB T) = B2 at *
    go_wp2_with (at_builtin; refine wp_appS rfl _ _ rfl w1.heap.size _ B2 rfl ho2 X rfl (by omega) (by omega) ?_; intro v5 w5 ho5 hb5)
    go_ret2
    rw [Hs.out, HsB.out]
    exact ⟨_, rfl, Owned.le ho5 (Nat.le_of_lt hl1), hb.trans (hb5.mono (Nat.le_of_lt hl1))⟩
  have hN : pNumB q id = pIdB id := by rw [pNumB, if_pos (by omega)]
  have hNE : pNumE q id = pIdE id := by rw [pNumE, if_pos (by omega)]
  rw [hN] at hB3
  have HN := hd hN; have HNE := hd hNE; clear hN hNE
  have hqz : (q == 0) = false := by simpa using h
  have hq0 : 0 < q := by omega
  go_wp2_with fail
  refine (refPutId_c id _).mono ?_
  rintro e w3 ⟨v3, rfl, ho3, hb3⟩
  have hc3 := bcell hb3
  have hz3 := hb3.size
  have hl3 : w.heap.size < w3.heap.size := by omega
  obtain ⟨a3, k3, rfl⟩ := Owns.slice ho3
  by_cases hnE : pIdE id = 0
  rotate_left
  · have heb : (pIdE id != 0) = true := by simpa using hnE
    go_wp2_with fail
    go_ret2
    exact pPut_nil _ (by rw [pPutE, if_neg hq, if_neg hn, if_neg (by omega), HNE.out, if_pos hnE]) hnE (Below.up hb hb3)
  rw [hnE]
  have ho2' := Owned.kept ho2 hb3 (Nat.le_refl _)
  have hs3 := ho3.bs
  replace hb := Below.up hb hb3
  clear ho3 hb3
  by_cases hlen : (4096 : Int) - ((uPutB (sB T)).length + (pIdB id).length) < X.size
  · have hspec : pPutE (sB T) (sB X) q id = 3 := by rw [pPutE, if_neg hq, if_neg hn, if_neg (by omega), HNE.out, if_neg (by omega), HN.out, sB_len, if_pos hlen]
    have Hs := hd hspec; clear hspec
    generalize uPutB (sB T) = B2 at *
    generalize pIdB id = B3 at *
    go_wp2_with (at_builtin; refine wp_appB rfl _ _ rfl w1.heap.size _ B2 rfl ho2' _ B3 rfl hs3 (by omega) (by omega) ?_; intro v4 w4 ho4 hb4; obtain ⟨a4, k4, rfl⟩ := Owns.slice ho4; rw [List.length_append] at ho4; have hc4 := bcell hb4; have hz4 := hb4.size; have hl4 : w.heap.size < w4.heap.size := (by omega))
    go_ret2
    exact pPut_nil 3 Hs.out (by decide) (hb.trans (hb4.mono (by omega)))
  have hspec : pPutE (sB T) (sB X) q id = 0 := by rw [pPutE, if_neg hq, if_neg hn, if_neg (by omega), HNE.out, if_neg (by omega), HN.out, sB_len, if_neg hlen]
  have hspecB : pPutB (sB T) (sB X) q id = uPutB (sB T) ++ pIdB id ++ sB X := by rw [pPutB, if_pos hspec, HN.out]
  have Hs := hd hspec; have HsB := hd hspecB; clear hspec hspecB
  generalize uPutB (sB T) = B2 at *
  generalize pIdB id = B3 at *
  go_wp2_with (first
    | (at_builtin; refine wp_appB rfl _ _ rfl w1.heap.size _ B2 rfl ho2' _ B3 rfl hs3 (by omega) (by omega) ?_; intro v4 w4 ho4 hb4; obtain ⟨a4, k4, rfl⟩ := Owns.slice ho4; rw [List.length_append] at ho4; have hc4 := bcell hb4; have hz4 := hb4.size; have hl4 : w.heap.size < w4.heap.size := (by omega); clear ho2')
    | (at_builtin; refine wp_appS rfl _ _ rfl w1.heap.size _ (B2 ++ B3) rfl ho4 X rfl (by rw [List.length_append]; omega) (by omega) ?_; intro v5 w5 ho5 hb5))
  go_ret2
  rw [Hs.out, HsB.out]
  exact ⟨_, rfl, Owned.le ho5 (Nat.le_of_lt hl1), hb.trans ((hb4.trans hb5).mono (Nat.le_of_lt hl1))⟩

end Go.Proofs.YtinfcjnmloglhaaDoor
