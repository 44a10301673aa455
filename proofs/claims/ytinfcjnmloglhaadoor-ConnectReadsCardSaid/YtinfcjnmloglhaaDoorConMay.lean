/- Who comes: which flags may be: the walks (printed by wip/gen/conrest.py). -/
import Derived.Test.YtinfcjnmloglhaaDoorConReader
import Derived.Test.YtinfcjnmloglhaaDoorConPut
namespace Go.Proofs.YtinfcjnmloglhaaDoor
open Go.RowKit
set_option linter.unusedVariables false
set_option linter.unusedSimpArgs false

/-- A bit of the flags. -/
def fb (f : Int) (n : Int) : Bool := bits .and .i64 f n != 0
def cMay (f : Int) : Bool := !(f % 2 == 1) && (!(f / 8 % 4 == 3) && ((f / 4 % 2 == 1 || (f / 8 % 4 == 0 && f / 32 % 2 == 0)) && (f / 64 % 2 == 0 || f / 128 % 2 == 1)))

theorem bits_nat : ∀ f : Fin 256, bits .and .i64 (f.val : Int) 1 = (f.val : Int) % 2 ∧ bits .and .i64 (f.val : Int) 2 = (f.val : Int) / 2 % 2 * 2 ∧ bits .and .i64 (f.val : Int) 4 = (f.val : Int) / 4 % 2 * 4 ∧
    bits .and .i64 (f.val : Int) 32 = (f.val : Int) / 32 % 2 * 32 ∧ bits .and .i64 (f.val : Int) 64 = (f.val : Int) / 64 % 2 * 64 ∧ bits .and .i64 (f.val : Int) 128 = (f.val : Int) / 128 % 2 * 128 ∧ bits .and .i64 ((f.val : Int) / 8) 3 = (f.val : Int) / 8 % 4 := by decide +kernel
theorem bits_of {f : Int} (h0 : 0 ≤ f) (h1 : f ≤ 255) : bits .and .i64 f 1 = f % 2 ∧ bits .and .i64 f 2 = f / 2 % 2 * 2 ∧ bits .and .i64 f 4 = f / 4 % 2 * 4 ∧
    bits .and .i64 f 32 = f / 32 % 2 * 32 ∧ bits .and .i64 f 64 = f / 64 % 2 * 64 ∧ bits .and .i64 f 128 = f / 128 % 2 * 128 ∧ bits .and .i64 (f / 8) 3 = f / 8 % 4 := by
  obtain ⟨n, rfl⟩ := Int.eq_ofNat_of_zero_le h0
  exact bits_nat ⟨n, by omega⟩

set_option maxRecDepth 100000 in
set_option maxHeartbeats 4000000 in
theorem may_c (f : Int) (h0 : 0 ≤ f) (h1 : f ≤ 255) (w : World) : Calls Tryd.prog 70 #[.int .i64 f] w fun e w' => e = .returned (.bool (cMay f)) ∧ w = w' := by
  obtain ⟨b1, -, b4, b32, b64, b128, b8⟩ := bits_of h0 h1
  have a1 : f % 2 = 0 ∨ f % 2 = 1 := by omega
  have a4 : f / 4 % 2 = 0 ∨ f / 4 % 2 = 1 := by omega
  have a32 : f / 32 % 2 = 0 ∨ f / 32 % 2 = 1 := by omega
  have a64 : f / 64 % 2 = 0 ∨ f / 64 % 2 = 1 := by omega
  have a128 : f / 128 % 2 = 0 ∨ f / 128 % 2 = 1 := by omega
  have a8 : f / 8 % 4 = 0 ∨ f / 8 % 4 = 1 ∨ f / 8 % 4 = 2 ∨ f / 8 % 4 = 3 := by omega
  have hm : cMay f = cMay f := rfl
  conv at hm => rhs; rw [cMay]
  rcases a1 with a1 | a1
  rotate_left
  · rw [a1] at b1 hm
    have Hm : Hd (cMay f = false) := by rw [hm]; rfl
    clear b4 b32 b64 b128 b8 a4 a32 a64 a128 a8 hm a1
    go_enter Tryd.func70, Tryd.ntmps70
    go_wp2_with fail
    go_ret
    exact ⟨ret_bool Hm.out.symm, rfl⟩
  rw [a1] at b1 hm
  rcases a8 with a8 | a8 | a8 | a8
  all_goals
    rw [a8] at b8 hm
    rcases a4 with a4 | a4
    all_goals
      rw [a4] at b4 hm
      rcases a32 with a32 | a32
      all_goals
        rw [a32] at b32 hm
        rcases a64 with a64 | a64
        all_goals
          rw [a64] at b64 hm
          rcases a128 with a128 | a128
          all_goals
            rw [a128] at b128 hm
            have Hm := hd (show cMay f = _ from hm.trans (by rfl : _ = _))
            clear hm a1 a8 a4 a32 a64 a128
            simp only [Int.zero_mul, Int.one_mul] at b4 b32 b64 b128
            go_enter Tryd.func70, Tryd.ntmps70
            go_wp2_with fail
            go_ret
            exact ⟨ret_bool (by rw [Hm.out]; rfl), rfl⟩

end Go.Proofs.YtinfcjnmloglhaaDoor
