/- Who comes: the law of any bytes: the walk. -/
import Derived.Test.YtinfcjnmloglhaaDoorConRefOf
import Derived.Test.YtinfcjnmloglhaaDoorConLaws
namespace Go.Proofs.YtinfcjnmloglhaaDoor
open Go.RowKit
set_option linter.unusedVariables false
set_option linter.unusedSimpArgs false

set_option maxRecDepth 100000 in
set_option maxHeartbeats 4000000 in
theorem ConnectReads_w (b : ByteArray) (w : World) (hE : EnvU w) (hs : b.size ≤ 140737488351232) :
    Calls Tryd.prog 13 #[.string b] w fun e w' => e = .returned (.bool true) ∧ Below w.heap.size w w' := by
  have HE := hd hE; clear hE
  have h1 := fun W hW => conOf_c b W hW hs
  have h2 := fun W => refConOf_c b W hs
  unfold GivesC at h1 h2
  generalize cOf (sB b) = X at h1 h2
  obtain ⟨⟨x0, x1, x2, x3, x4, x5, x6, x7, x8, x9, x10, x11, x12⟩, xe⟩ := X
  simp only [Con.cells] at h1 h2
  have H1 := hd h1; have H2 := hd h2; clear h1 h2
  go_enter Tryd.func13, Tryd.ntmps13
  go_wp2_with fail
  refine (H1.out _ (HE.out.below (by go_grown))).mono ?_
  rintro e w1 ⟨rfl, hb1⟩
  have hb : Below w.heap.size w w1 := hb1
  have hsz := hb.size
  clear hb1 H1
  go_wp2_with fail
  refine (H2.out _).mono ?_
  rintro e w2 ⟨rfl, hb2⟩
  have hc2 := bcell hb2
  have hl2 : w1.heap.size < w2.heap.size := by have := hb2.size; simp at this; omega
  replace hb : Below w.heap.size w w2 := Below.up (by go_grown) hb2
  clear H2 hb2
  go_wp2_with fail
  refine (awake13_c _ (HE.out.below (by go_grown))).mono ?_
  rintro e w3 ⟨rfl, hb3⟩
  go_wp2_with fail
  go_ret
  exact ⟨ret_bool (by simp), Below.up (by go_grown) hb3⟩
end Go.Proofs.YtinfcjnmloglhaaDoor
