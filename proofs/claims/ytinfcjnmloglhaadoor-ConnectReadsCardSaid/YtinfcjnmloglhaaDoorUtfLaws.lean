/- The laws of texts. -/
import Derived.Test.YtinfcjnmloglhaaDoorUtf5
namespace Go.Proofs.YtinfcjnmloglhaaDoor
open Go.RowKit
set_option linter.unusedVariables false

set_option maxRecDepth 100000 in
set_option maxHeartbeats 1000000 in
theorem UtfTexts_w (s : ByteArray) (w : World) (hE : EnvU w) (hs : s.size ≤ 140737488355327) :
    Calls Tryd.prog 3 #[.string s] w fun e w' => e = .returned (.bool true) ∧ Below w.heap.size w w' := by
  have HE := hd hE; clear hE
  go_enter Tryd.func3, Tryd.ntmps3
  go_wp2_with fail
  refine (Put_c s _ HE.out hs).mono ?_
  rintro e w1 ⟨v1, rfl, ho1, hb1⟩
  go_wp2_with fail
  refine (refPut_c s _ hs).mono ?_
  rintro e w2 ⟨v2, rfl, ho2, hb2⟩
  have hs1 := ho1.bs.below' hb2 (Nat.le_refl _)
  have hb2' := hb1.trans (hb2.mono hb1.size)
  clear ho1 hb1 hb2
  go_wp2_with fail
  refine (PutRaw_c s _ hs).mono ?_
  rintro e w3 ⟨v3, rfl, ho3, hb3⟩
  have hs1 := hs1.below' hb3 (Nat.le_refl _)
  have hs2 := ho2.bs.below' hb3 (Nat.le_refl _)
  have hb3' := hb2'.trans (hb3.mono hb2'.size)
  clear ho2 hb2' hb3
  go_wp2_with fail
  refine (refPutRaw_c s _ hs).mono ?_
  rintro e w4 ⟨v4, rfl, ho4, hb4⟩
  have hs1 := hs1.below' hb4 (Nat.le_refl _)
  have hs2 := hs2.below' hb4 (Nat.le_refl _)
  have hs3 := ho3.bs.below' hb4 (Nat.le_refl _)
  have hs4 := ho4.bs
  have hb4' := hb3'.trans (hb4.mono hb3'.size)
  clear ho3 ho4 hb3' hb4
  go_wp2_with fail
  refine (Right_c s _ (HE.out.below hb4') (by omega)).mono ?_
  rintro e w5 ⟨rfl, hb5⟩
  go_wp2_with fail
  refine (refRight_c s _ (by omega)).mono ?_
  rintro e w6 ⟨rfl, hb6⟩
  have hb46 := hb5.trans (hb6.mono hb5.size)
  have t1 := run_str (hs1.below' hb46 (Nat.le_refl _))
  have t2 := run_str (hs2.below' hb46 (Nat.le_refl _))
  have t3 := run_str (hs3.below' hb46 (Nat.le_refl _))
  have t4 := run_str (hs4.below' hb46 (Nat.le_refl _))
  have hb6' := hb4'.trans (hb46.mono hb4'.size)
  clear hs1 hs2 hs3 hs4 hb46 hb4' hb5 hb6
  go_wp2_with fail
  refine (awake_c _ (HE.out.below hb6')).mono ?_
  rintro e w7 ⟨rfl, hb7⟩
  have hb8 := hb6'.trans (hb7.mono hb6'.size)
  go_wp2_with fail
  go_ret
  exact ⟨ret_bool (by simp), hb8⟩

theorem GivesB.out {w w' : World} {l : List UInt8} {err : Int} {e : Ending} (h : GivesB w l err e w') : ∃ v, e = .returned (.tuple #[v, .int .i64 err]) ∧ Bs w' v l ∧ Below w.heap.size w w' := by
  obtain ⟨v, he, ho, hb⟩ := h
  exact ⟨v, he, ho.bs, hb⟩

set_option maxRecDepth 100000 in
set_option maxHeartbeats 1000000 in
theorem UtfReads_w (v : Value) (l : List UInt8) (at' n : Int) (w : World) (hE : EnvU w) (hv : Bs w v l) :
    Calls Tryd.prog 5 #[v, .int .i64 at', .int .i64 n] w fun e w' => e = .returned (.bool true) ∧ Below w.heap.size w w' := by
  have HE := hd hE; clear hE
  go_enter Tryd.func5, Tryd.ntmps5
  go_wp2_with fail
  refine (Get_c v l at' _ HE.out hv).mono ?_
  rintro e w1 ⟨rfl, hb1⟩
  go_wp2_with fail
  refine (refGet_c v l at' _ (hv.below' hb1 (Nat.le_refl _))).mono ?_
  rintro e w2 ⟨rfl, hb2⟩
  have hb12 := hb1.trans (hb2.mono hb1.size)
  clear hb1 hb2
  go_wp2_with fail
  refine (GetRaw_c v l at' _ (hv.below' hb12 (Nat.le_refl _))).mono ?_
  rintro e w3 ⟨rfl, hb3⟩
  have hb13 := hb12.trans (hb3.mono hb12.size)
  clear hb12 hb3
  go_wp2_with fail
  refine (refGetRaw_c v l at' _ (hv.below' hb13 (Nat.le_refl _))).mono ?_
  rintro e w4 ⟨rfl, hb4⟩
  have hb14 := hb13.trans (hb4.mono hb13.size)
  clear hb13 hb4
  go_wp2_with fail
  refine (Get2_c v l at' _ (hv.below' hb14 (Nat.le_refl _))).mono ?_
  rintro e w5 ⟨rfl, hb5⟩
  have hb15 := hb14.trans (hb5.mono hb14.size)
  clear hb14 hb5
  go_wp2_with fail
  refine (refGet2_c v l at' _ (hv.below' hb15 (Nat.le_refl _))).mono ?_
  rintro e w6 ⟨rfl, hb6⟩
  have hb16 := hb15.trans (hb6.mono hb15.size)
  clear hb15 hb6
  go_wp2_with fail
  refine (Put2_c n _).mono ?_
  rintro e w7 h7
  obtain ⟨v7, rfl, hs7, hb7⟩ := h7.out
  have hb17 := hb16.trans (hb7.mono hb16.size)
  clear hb16 hb7 h7
  go_wp2_with fail
  refine (refPut2_c n _).mono ?_
  rintro e w8 h8
  obtain ⟨v8, rfl, hs8, hb8⟩ := h8.out
  have t7 := run_str (hs7.below' hb8 (Nat.le_refl _))
  have t8 := run_str hs8
  have hb18 := hb17.trans (hb8.mono hb17.size)
  clear hb17 hb8 h8 hs7 hs8
  go_wp2_with fail
  refine (awake_c _ (HE.out.below hb18)).mono ?_
  rintro e w9 ⟨rfl, hb9⟩
  have hb19 := hb18.trans (hb9.mono hb18.size)
  go_wp2_with fail
  go_ret
  exact ⟨ret_bool (by simp), hb19⟩

end Go.Proofs.YtinfcjnmloglhaaDoor
