/- A bundle of texts (merged for the limit on files): ConFlags. -/
import Derived.Test.YtjlnlgemngpelaaGreatDoorZa7
/- Who comes: the flags: the walks. -/
namespace Go.Proofs.YtjlnlgemngpelaaGreatDoor
open Go.RowKit
set_option linter.unusedVariables false
set_option linter.unusedSimpArgs false

theorem cErr_ok {c : Con} (h : cErr c = 0) : c.level = 4 ∧ (0 ≤ c.keep ∧ c.keep ≤ 65535) ∧ (0 ≤ c.qos ∧ c.qos ≤ 2) ∧ (c.hasPass = true → c.hasUser = true) ∧
    (c.hasWill = false → c.topic = ⟨#[]⟩ ∧ c.text = ⟨#[]⟩ ∧ c.qos = 0 ∧ c.retain = false) ∧ (c.hasUser = false → c.user = ⟨#[]⟩) ∧ (c.hasPass = false → c.pass = ⟨#[]⟩) := by
  unfold cErr at h
  by_cases h1 : c.level ≠ 4
  · rw [if_pos h1] at h; simp at h
  rw [if_neg h1] at h
  by_cases h2 : c.keep < 0 ∨ 65535 < c.keep
  · rw [if_pos h2] at h; simp at h
  rw [if_neg h2] at h
  by_cases h3 : c.qos < 0 ∨ 2 < c.qos
  · rw [if_pos h3] at h; simp at h
  rw [if_neg h3] at h
  by_cases h4 : (c.hasPass && !c.hasUser) = true
  · rw [if_pos h4] at h; simp at h
  rw [if_neg h4] at h
  by_cases h5 : (!c.hasWill && !c.noWill) = true
  · rw [if_pos h5] at h; simp at h
  rw [if_neg h5] at h
  by_cases h6 : (!c.hasUser && !emB c.user) = true
  · rw [if_pos h6] at h; simp at h
  rw [if_neg h6] at h
  by_cases h7 : (!c.hasPass && !emB c.pass) = true
  · rw [if_pos h7] at h; simp at h
  refine ⟨by simpa using h1, by omega, by omega, fun k => ?_, fun k => ?_, fun k => ?_, fun k => ?_⟩
  · rw [k] at h4; simpa using h4
  · rw [k] at h5
    have : c.noWill = true := by simpa using h5
    unfold Con.noWill at this
    simp only [Bool.and_eq_true, beq_iff_eq, Bool.not_eq_true'] at this
    exact ⟨emB_nil this.1.1.1, emB_nil this.1.1.2, this.1.2, this.2⟩
  · rw [k] at h6; exact emB_nil (by simpa using h6)
  · rw [k] at h7; exact emB_nil (by simpa using h7)

theorem quiet_left {P : Program} {f : FuncId} {args : Array Value} {w : World} {n : Nat} {v : Value} (h : Calls P f args (w.drewN n) fun e w' => e = .returned v ∧ w.drewN n = w') : Calls P f args (w.drewN n) fun e w' => e = .returned v ∧ ∃ m, w' = w.drewN m :=
  h.mono fun _ _ ⟨he, hm⟩ => ⟨he, n, hm.symm⟩

set_option maxRecDepth 100000 in
set_option maxHeartbeats 4000000 in
theorem flags_c (c : Con) (w : World) (hq : 0 ≤ c.qos ∧ c.qos ≤ 2) : Calls Tryz.prog 108 #[.agg c.cells.toArray] w fun e w' => e = .returned (.int .i64 (cFlags c)) ∧ ∃ n, w' = (w.alloc (Obj.cells c.cells.toArray 32)).drewN n := by
  rw [← cBits_eq hq]
  obtain ⟨lv, cl, ke, cn, hw, tp, tx, q, rt, hu, us, hp, ps⟩ := c
  simp only at hq
  obtain ⟨q0, q1⟩ := hq
  simp only [Con.cells, cBits]
  go_enter Tryz.func108, Tryz.ntmps108
  go_wp2_with fail
  go_quiet ((go_at_call 110; exact quiet_left (bit_c _ _ _)))
  go_wp2_with fail
  go_ret
  exact ⟨rfl, nq, rfl⟩

end Go.Proofs.YtjlnlgemngpelaaGreatDoor
