/- Wishes: what lays them: the walks of the program and of the reference. -/
import Derived.Test.YtgafhnomkeiakaaDoorSubPlain
import Derived.Test.YtgafhnomkeiakaaDoorPub
import Derived.Test.YtgafhnomkeiakaaDoorPubOf
import Derived.Test.YtgafhnomkeiakaaDoorUtf5
namespace Go.Proofs.YtgafhnomkeiakaaDoor
open Go.RowKit
set_option linter.unusedVariables false
set_option linter.unusedSimpArgs false

theorem u8_wrap {n : Int} (h : 0 ≤ n ∧ n ≤ 255) : IntKind.u8.wrap n = n := by
  have e : IntKind.u8.wrap n = n % 256 := by simp [IntKind.wrap, IntKind.signed, IntKind.bits]
  rw [e]; omega

set_option maxRecDepth 100000 in
set_option maxHeartbeats 1000000 in
theorem subNumbered_c (id : Int) (w : World) : Calls Tryd.prog 36 #[.int .i64 id] w (GivesB w (pIdB id) (pIdE id)) := by
  unfold pIdB pIdE
  by_cases h : 1 ≤ id ∧ id ≤ 65535
  · rw [if_pos h, if_pos h]
    obtain ⟨h1, h2⟩ := h
    go_enter Tryd.func36, Tryd.ntmps36
    go_wp2_with fail
    refine (Put2_c id _).mono ?_
    have hE : uPut2E id = 0 := by unfold uPut2E; rw [if_neg (by omega)]
    rw [hE]
    rintro e w2 ⟨v, rfl, ho, hb⟩
    go_wp2_with fail
    go_ret2
    exact ⟨_, rfl, ho, hb⟩
  · rw [if_neg h, if_neg h]
    have h' : id < 1 ∨ 65535 < id := by omega
    clear h
    rcases h' with h | h
    all_goals
      go_enter Tryd.func36, Tryd.ntmps36
      go_wp2_with fail
      go_ret2
      exact GivesB.nil (by go_grown)

set_option maxRecDepth 100000 in
theorem many_c (n : Int) (w : World) : Calls Tryd.prog 37 #[.int .i64 n] w fun e w' => e = .returned (.int .i64 (sbMany n)) ∧ w = w' := by
  unfold sbMany
  by_cases h1 : n < 1
  · rw [if_pos h1]
    go_enter Tryd.func37, Tryd.ntmps37
    go_wp2_with fail
    go_ret
    exact ⟨rfl, rfl⟩
  · rw [if_neg h1]
    by_cases h2 : 8 < n
    all_goals
      first | rw [if_pos h2] | rw [if_neg h2]
      go_enter Tryd.func37, Tryd.ntmps37
      go_wp2_with fail
      go_ret
      exact ⟨rfl, rfl⟩

set_option maxRecDepth 100000 in
set_option maxHeartbeats 2000000 in
theorem wish_c (s : ByteArray) (q : Int) (ends : Bool) (w : World) (hE : EnvU w) (hs : s.size ≤ 140737488351232) :
    Calls Tryd.prog 38 #[.agg #[.string s, .int .i64 q], .bool ends] w (GivesB w (sbWish ends (s, q)).1 (sbWish ends (s, q)).2) := by
  have HE := hd hE; clear hE
  by_cases h0 : ends = false ∧ (q < 0 ∨ 2 < q)
  · have hsp : sbWish ends (s, q) = ([], 5) := by rw [sbWish, if_pos h0]
    rw [hsp]
    obtain ⟨rfl, hq⟩ := h0
    rcases hq with hq | hq
    all_goals
      go_enter Tryd.func38, Tryd.ntmps38
      go_wp2_with fail
      go_ret2
      exact GivesB.nil (by go_grown)
  have hsp : sbWish ends (s, q) = if uPutE (sB s) ≠ 0 then ([], uPutE (sB s)) else (uPutB (sB s) ++ (if ends = true then [] else [B8 q.toNat]), 0) := by rw [sbWish, if_neg h0]
  have hll := uPutB_short (sB s)
  have hp := fun W hW => Put_c s W hW (by omega)
  generalize uPutB (sB s) = L at *
  generalize uPutE (sB s) = E at *
  have HP := hd hp; clear hp
  have Hsp := hd hsp; clear hsp
  have hq : ends = false → 0 ≤ q ∧ q ≤ 2 := fun h => by
    rw [not_and] at h0
    have := h0 h
    omega
  clear h0
  by_cases he : E = 0
  rotate_left
  · have heb : (E != 0) = true := by simpa using he
    cases ends
    all_goals
      first
        | (have hq2 := hq rfl; obtain ⟨q0, q1⟩ := hq2)
        | skip
      rw [Hsp.out, if_pos he]
      clear Hsp hq
      go_enter Tryd.func38, Tryd.ntmps38
      go_wp2_with fail
      refine (HP.out _ (HE.out.below (by go_grown))).mono ?_
      rintro e w1 ⟨v, rfl, ho, hb⟩
      go_wp2_with fail
      go_ret2
      exact GivesB.nil (Below.up (by go_grown) hb)
  subst he
  rw [Hsp.out, if_neg (by simp)]
  clear Hsp
  cases ends
  · obtain ⟨q0, q1⟩ := hq rfl
    clear hq
    rw [if_neg (by simp)]
    have hq8 := u8_wrap (n := q) (by omega)
    have hbv := byteV_B8 (n := q.toNat) (by omega) (x := q) (by omega)
    go_enter Tryd.func38, Tryd.ntmps38
    go_wp2_with fail
    refine (HP.out _ (HE.out.below (by go_grown))).mono ?_
    rintro e w1 ⟨v, rfl, ho, hb⟩
    have hc1 := bcell hb
    have hl1 : w.heap.size < w1.heap.size := by have := hb.size; simp at this; omega
    have hb' : Below w.heap.size w w1 := Below.up (by go_grown) hb
    replace ho := ho.le (B' := w.heap.size) (by simp)
    have hbs := hb'.size
    clear hb
    go_wp2_with (first
      | (at_builtin; refine wp_appB1 rfl _ _ rfl w.heap.size _ L rfl ho q (B8 q.toNat) hbv.symm rfl (by omega) hbs ?_; intro v2 w2 ho2 hb2))
    go_ret2
    exact ⟨_, rfl, ho2, hb'.trans hb2⟩
  · rw [if_pos rfl, List.append_nil]
    clear hq
    go_enter Tryd.func38, Tryd.ntmps38
    go_wp2_with fail
    refine (HP.out _ (HE.out.below (by go_grown))).mono ?_
    rintro e w1 ⟨v, rfl, ho, hb⟩
    have hb' : Below w.heap.size w w1 := Below.up (by go_grown) hb
    replace ho := ho.le (B' := w.heap.size) (by simp)
    clear hb
    go_wp2_with fail
    go_ret2
    exact ⟨_, rfl, ho, hb'⟩

end Go.Proofs.YtgafhnomkeiakaaDoor
