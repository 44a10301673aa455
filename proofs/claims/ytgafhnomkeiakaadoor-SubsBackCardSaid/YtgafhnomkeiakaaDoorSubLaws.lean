/- The laws of wishes: what is laid: the walks. -/
import Derived.Test.YtgafhnomkeiakaaDoorSubPut2
import Derived.Test.YtgafhnomkeiakaaDoorUtfLaws
namespace Go.Proofs.YtgafhnomkeiakaaDoor
open Go.RowKit
set_option linter.unusedVariables false
set_option linter.unusedSimpArgs false

set_option maxRecDepth 100000 in
set_option maxHeartbeats 2000000 in
theorem awake15_c (w : World) (hE : EnvU w) : Calls Tryd.prog 14 #[] w fun e w' => e = .returned (.bool true) ∧ Below w.heap.size w w' := by
  have HE := hd hE; clear hE
  have hv : Ws (w.alloc (.cells #[.string ⟨#[97]⟩, .int .i64 2] 47)) (.slice (some ⟨w.heap.size, 0, none⟩) 1 1) [(⟨#[97]⟩, 2)] :=
    Owns.rd (owns_lit 0 47 w 2 1 [.string ⟨#[97]⟩, .int .i64 2] w.heap.size rfl (Nat.zero_le _) (by unfold maxLen; simp) rfl)
  have h := subsPut_c 1 _ _ false _ (HE.out.below ((Below.refl _ w).alloc (Nat.le_refl _) _)) hv (by intro f hf; simp at hf; subst hf; decide)
  have e1 : sbPutB 1 [(⟨#[97]⟩, 2)] false = [0, 1, 0, 1, 97, 2] := by decide +kernel
  have e2 : sbPutE 1 [(⟨#[97]⟩, 2)] false = 0 := by decide +kernel
  rw [e1, e2] at h
  have H := hd h
  clear h e1 e2 hv
  go_enter Tryd.func14, Tryd.ntmps14
  go_wp2_with fail
  refine H.out.mono ?_
  rintro e w1 ⟨v, rfl, ho, hb⟩
  have hstr := run_str ho.bs
  clear ho
  go_wp2_with fail
  go_ret
  exact ⟨rfl, Below.up (by go_grown) hb⟩

set_option maxRecDepth 100000 in
set_option maxHeartbeats 2000000 in
theorem SubsPuts_w (id : Int) (v : Value) (l : List Wish) (ends : Bool) (w : World) (hE : EnvU w) (hv : Ws w v l) (hs : ∀ f ∈ l, f.1.size ≤ 140737488351232) :
    Calls Tryd.prog 3 #[.int .i64 id, v, .bool ends] w fun e w' => e = .returned (.bool true) ∧ Below w.heap.size w w' := by
  have HE := hd hE; clear hE
  have h1 := subsPut_c id v l ends w HE.out hv hs
  have h2 := fun W hW => refSubsPut_c id v l ends W hW hs
  generalize sbPutB id l ends = L at *
  generalize sbPutE id l ends = E at *
  have H1 := hd h1; have H2 := hd h2; have HV := hd hv; clear h1 h2 hv
  go_enter Tryd.func3, Tryd.ntmps3
  go_wp2_with fail
  refine H1.out.mono ?_
  rintro e w1 ⟨v1, rfl, ho1, hb1⟩
  go_wp2_with fail
  refine (H2.out _ (HV.out.below' hb1 (Nat.le_refl _))).mono ?_
  rintro e w2 ⟨v2, rfl, ho2, hb2⟩
  have t1 := run_str (ho1.bs.below' hb2 (Nat.le_refl _))
  have t2 := run_str ho2.bs
  have hb := Below.up hb1 hb2
  clear ho1 ho2 hb1 hb2
  go_wp2_with fail
  refine (awake15_c _ (HE.out.below hb)).mono ?_
  rintro e w3 ⟨rfl, hb3⟩
  go_wp2_with fail
  go_ret
  exact ⟨ret_bool (by simp), Below.up hb hb3⟩
end Go.Proofs.YtgafhnomkeiakaaDoor
