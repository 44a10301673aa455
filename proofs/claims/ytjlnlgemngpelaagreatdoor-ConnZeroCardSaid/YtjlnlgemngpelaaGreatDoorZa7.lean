/- A bundle of texts (merged for the limit on files): ConWrong. -/
import Derived.Test.YtjlnlgemngpelaaGreatDoorZa6
/- Who comes: who may not come so: the walks (printed by wip/gen/conwrong.py). -/
namespace Go.Proofs.YtjlnlgemngpelaaGreatDoor
open Go.RowKit
set_option linter.unusedVariables false
set_option linter.unusedSimpArgs false

theorem emB_nil {s : ByteArray} (h : emB s = true) : s = ⟨#[]⟩ := by
  unfold emB sB at h
  cases s with
  | mk d =>
    have : d.toList = [] := by simpa using h
    have : d = #[] := by simpa using this
    rw [this]
theorem emB_not {s : ByteArray} (h : emB s = false) : s.toList.isEmpty = false := by
  rw [ByteArray.toList_eq]
  exact h
theorem emB_not' {s : ByteArray} (h : emB s = false) : ¬ s.toList = [] := by
  have := emB_not h
  intro h2
  rw [h2] at this
  simp at this
theorem emB_e : emB ⟨#[]⟩ = true := rfl
theorem em_list : (⟨#[]⟩ : ByteArray).toList = [] := ByteArray.toList_mk []


set_option maxRecDepth 100000 in
set_option maxHeartbeats 6000000 in
theorem wrong_c (c : Con) (w : World) : Calls Tryz.prog 105 #[.agg c.cells.toArray] w fun e w' => e = .returned (.int .i64 (cErr c)) ∧ Below w.heap.size w w' := by
  obtain ⟨lv, cl, ke, cn, hw, tp, tx, q, rt, hu, us, hp, ps⟩ := c
  simp only [Con.cells]
  have hem := em_list
  by_cases h1 : lv = 4
  rotate_left
  · have hr : cErr ⟨lv, cl, ke, cn, hw, tp, tx, q, rt, hu, us, hp, ps⟩ = 15 := by rw [cErr, if_pos h1]
    have h1b : (lv != 4) = true := by simpa using h1
    go_enter Tryz.func105, Tryz.ntmps105
    go_wp2_with fail
    go_ret
    exact ⟨ret_int hr.symm, by go_grown⟩
  subst h1
  by_cases h2 : ke < 0 ∨ 65535 < ke
  · have hr : cErr ⟨4, cl, ke, cn, hw, tp, tx, q, rt, hu, us, hp, ps⟩ = 1 := by rw [cErr, if_neg (by simp), if_pos h2]
    rcases h2 with h2 | h2
    all_goals
      go_enter Tryz.func105, Tryz.ntmps105
      go_wp2_with fail
      go_ret
      exact ⟨ret_int hr.symm, by go_grown⟩
  have k1 : ¬ ke < 0 := by omega
  have k2 : ¬ 65535 < ke := by omega
  have h20 : 0 ≤ ke := by omega
  have h21 : ke ≤ 65535 := by omega
  clear h2
  by_cases h3 : q < 0 ∨ 2 < q
  · have hr : cErr ⟨4, cl, ke, cn, hw, tp, tx, q, rt, hu, us, hp, ps⟩ = 10 := by rw [cErr, if_neg (by simp), if_neg (by simp only; omega), if_pos h3]
    clear k1 k2
    rcases h3 with h3 | h3
    all_goals
      go_enter Tryz.func105, Tryz.ntmps105
      go_wp2_with fail
      go_ret
      exact ⟨ret_int hr.symm, by go_grown⟩
  have k3 : ¬ q < 0 := by omega
  have k4 : ¬ 2 < q := by omega
  have h30 : 0 ≤ q := by omega
  have h31 : q ≤ 2 := by omega
  clear h3
  cases hp
  · cases hu
    · skip
      cases hw
      · cases ytp : emB tp
        · have mtp := emB_not' ytp
          have hr : cErr ⟨4, cl, ke, cn, false, tp, tx, q, rt, false, us, false, ps⟩ = 4 := by simp [cErr, Con.noWill, emB_e, k1, k2, k3, k4, ytp]
          have Hr := hd hr; clear hr k1 k2 k3 k4
          go_enter Tryz.func105, Tryz.ntmps105
          go_wp2_with fail
          go_ret
          exact ⟨ret_int Hr.out.symm, by go_grown⟩
        · obtain rfl := emB_nil ytp
          clear ytp
          cases ytx : emB tx
          · have mtx := emB_not' ytx
            have hr : cErr ⟨4, cl, ke, cn, false, ⟨#[]⟩, tx, q, rt, false, us, false, ps⟩ = 4 := by simp [cErr, Con.noWill, emB_e, k1, k2, k3, k4, ytx]
            have Hr := hd hr; clear hr k1 k2 k3 k4
            go_enter Tryz.func105, Tryz.ntmps105
            go_wp2_with fail
            go_ret
            exact ⟨ret_int Hr.out.symm, by go_grown⟩
          · obtain rfl := emB_nil ytx
            clear ytx
            by_cases yq : q = 0
            rotate_left
            · have yqb : (q == 0) = false := by simpa using yq
              have hr : cErr ⟨4, cl, ke, cn, false, ⟨#[]⟩, ⟨#[]⟩, q, rt, false, us, false, ps⟩ = 4 := by simp [cErr, Con.noWill, emB_e, k1, k2, k3, k4, yq, yqb]
              have Hr := hd hr; clear hr k1 k2 k3 k4
              go_enter Tryz.func105, Tryz.ntmps105
              go_wp2_with fail
              go_ret
              exact ⟨ret_int Hr.out.symm, by go_grown⟩
            subst yq
            cases rt
            rotate_left
            · skip
              have hr : cErr ⟨4, cl, ke, cn, false, ⟨#[]⟩, ⟨#[]⟩, 0, true, false, us, false, ps⟩ = 4 := by simp [cErr, Con.noWill, emB_e, k1, k2, k3, k4]
              have Hr := hd hr; clear hr k1 k2 k3 k4
              go_enter Tryz.func105, Tryz.ntmps105
              go_wp2_with fail
              go_ret
              exact ⟨ret_int Hr.out.symm, by go_grown⟩
            cases yus : emB us
            · have mus := emB_not yus
              have hr : cErr ⟨4, cl, ke, cn, false, ⟨#[]⟩, ⟨#[]⟩, 0, false, false, us, false, ps⟩ = 4 := by simp [cErr, Con.noWill, emB_e, k1, k2, k3, k4, yus]
              have Hr := hd hr; clear hr k1 k2 k3 k4
              go_enter Tryz.func105, Tryz.ntmps105
              go_wp2_with fail
              go_ret
              exact ⟨ret_int Hr.out.symm, by go_grown⟩
            · obtain rfl := emB_nil yus
              clear yus
              cases yps : emB ps
              · have mps := emB_not yps
                have hr : cErr ⟨4, cl, ke, cn, false, ⟨#[]⟩, ⟨#[]⟩, 0, false, false, ⟨#[]⟩, false, ps⟩ = 4 := by simp [cErr, Con.noWill, emB_e, k1, k2, k3, k4, yps]
                have Hr := hd hr; clear hr k1 k2 k3 k4
                go_enter Tryz.func105, Tryz.ntmps105
                go_wp2_with fail
                go_ret
                exact ⟨ret_int Hr.out.symm, by go_grown⟩
              · obtain rfl := emB_nil yps
                clear yps
                have hr : cErr ⟨4, cl, ke, cn, false, ⟨#[]⟩, ⟨#[]⟩, 0, false, false, ⟨#[]⟩, false, ⟨#[]⟩⟩ = 0 := by simp [cErr, Con.noWill, emB_e, k1, k2, k3, k4]
                have Hr := hd hr; clear hr k1 k2 k3 k4
                go_enter Tryz.func105, Tryz.ntmps105
                go_wp2_with fail
                go_ret
                exact ⟨ret_int Hr.out.symm, by go_grown⟩
      · skip
        cases yus : emB us
        · have mus := emB_not yus
          have hr : cErr ⟨4, cl, ke, cn, true, tp, tx, q, rt, false, us, false, ps⟩ = 4 := by simp [cErr, Con.noWill, emB_e, k1, k2, k3, k4, yus]
          have Hr := hd hr; clear hr k1 k2 k3 k4
          go_enter Tryz.func105, Tryz.ntmps105
          go_wp2_with fail
          go_ret
          exact ⟨ret_int Hr.out.symm, by go_grown⟩
        · obtain rfl := emB_nil yus
          clear yus
          cases yps : emB ps
          · have mps := emB_not yps
            have hr : cErr ⟨4, cl, ke, cn, true, tp, tx, q, rt, false, ⟨#[]⟩, false, ps⟩ = 4 := by simp [cErr, Con.noWill, emB_e, k1, k2, k3, k4, yps]
            have Hr := hd hr; clear hr k1 k2 k3 k4
            go_enter Tryz.func105, Tryz.ntmps105
            go_wp2_with fail
            go_ret
            exact ⟨ret_int Hr.out.symm, by go_grown⟩
          · obtain rfl := emB_nil yps
            clear yps
            have hr : cErr ⟨4, cl, ke, cn, true, tp, tx, q, rt, false, ⟨#[]⟩, false, ⟨#[]⟩⟩ = 0 := by simp [cErr, Con.noWill, emB_e, k1, k2, k3, k4]
            have Hr := hd hr; clear hr k1 k2 k3 k4
            go_enter Tryz.func105, Tryz.ntmps105
            go_wp2_with fail
            go_ret
            exact ⟨ret_int Hr.out.symm, by go_grown⟩
    · skip
      cases hw
      · cases ytp : emB tp
        · have mtp := emB_not' ytp
          have hr : cErr ⟨4, cl, ke, cn, false, tp, tx, q, rt, true, us, false, ps⟩ = 4 := by simp [cErr, Con.noWill, emB_e, k1, k2, k3, k4, ytp]
          have Hr := hd hr; clear hr k1 k2 k3 k4
          go_enter Tryz.func105, Tryz.ntmps105
          go_wp2_with fail
          go_ret
          exact ⟨ret_int Hr.out.symm, by go_grown⟩
        · obtain rfl := emB_nil ytp
          clear ytp
          cases ytx : emB tx
          · have mtx := emB_not' ytx
            have hr : cErr ⟨4, cl, ke, cn, false, ⟨#[]⟩, tx, q, rt, true, us, false, ps⟩ = 4 := by simp [cErr, Con.noWill, emB_e, k1, k2, k3, k4, ytx]
            have Hr := hd hr; clear hr k1 k2 k3 k4
            go_enter Tryz.func105, Tryz.ntmps105
            go_wp2_with fail
            go_ret
            exact ⟨ret_int Hr.out.symm, by go_grown⟩
          · obtain rfl := emB_nil ytx
            clear ytx
            by_cases yq : q = 0
            rotate_left
            · have yqb : (q == 0) = false := by simpa using yq
              have hr : cErr ⟨4, cl, ke, cn, false, ⟨#[]⟩, ⟨#[]⟩, q, rt, true, us, false, ps⟩ = 4 := by simp [cErr, Con.noWill, emB_e, k1, k2, k3, k4, yq, yqb]
              have Hr := hd hr; clear hr k1 k2 k3 k4
              go_enter Tryz.func105, Tryz.ntmps105
              go_wp2_with fail
              go_ret
              exact ⟨ret_int Hr.out.symm, by go_grown⟩
            subst yq
            cases rt
            rotate_left
            · skip
              have hr : cErr ⟨4, cl, ke, cn, false, ⟨#[]⟩, ⟨#[]⟩, 0, true, true, us, false, ps⟩ = 4 := by simp [cErr, Con.noWill, emB_e, k1, k2, k3, k4]
              have Hr := hd hr; clear hr k1 k2 k3 k4
              go_enter Tryz.func105, Tryz.ntmps105
              go_wp2_with fail
              go_ret
              exact ⟨ret_int Hr.out.symm, by go_grown⟩
            cases yps : emB ps
            · have mps := emB_not yps
              have hr : cErr ⟨4, cl, ke, cn, false, ⟨#[]⟩, ⟨#[]⟩, 0, false, true, us, false, ps⟩ = 4 := by simp [cErr, Con.noWill, emB_e, k1, k2, k3, k4, yps]
              have Hr := hd hr; clear hr k1 k2 k3 k4
              go_enter Tryz.func105, Tryz.ntmps105
              go_wp2_with fail
              go_ret
              exact ⟨ret_int Hr.out.symm, by go_grown⟩
            · obtain rfl := emB_nil yps
              clear yps
              have hr : cErr ⟨4, cl, ke, cn, false, ⟨#[]⟩, ⟨#[]⟩, 0, false, true, us, false, ⟨#[]⟩⟩ = 0 := by simp [cErr, Con.noWill, emB_e, k1, k2, k3, k4]
              have Hr := hd hr; clear hr k1 k2 k3 k4
              go_enter Tryz.func105, Tryz.ntmps105
              go_wp2_with fail
              go_ret
              exact ⟨ret_int Hr.out.symm, by go_grown⟩
      · skip
        cases yps : emB ps
        · have mps := emB_not yps
          have hr : cErr ⟨4, cl, ke, cn, true, tp, tx, q, rt, true, us, false, ps⟩ = 4 := by simp [cErr, Con.noWill, emB_e, k1, k2, k3, k4, yps]
          have Hr := hd hr; clear hr k1 k2 k3 k4
          go_enter Tryz.func105, Tryz.ntmps105
          go_wp2_with fail
          go_ret
          exact ⟨ret_int Hr.out.symm, by go_grown⟩
        · obtain rfl := emB_nil yps
          clear yps
          have hr : cErr ⟨4, cl, ke, cn, true, tp, tx, q, rt, true, us, false, ⟨#[]⟩⟩ = 0 := by simp [cErr, Con.noWill, emB_e, k1, k2, k3, k4]
          have Hr := hd hr; clear hr k1 k2 k3 k4
          go_enter Tryz.func105, Tryz.ntmps105
          go_wp2_with fail
          go_ret
          exact ⟨ret_int Hr.out.symm, by go_grown⟩
  · cases hu
    · skip
      have hr : cErr ⟨4, cl, ke, cn, hw, tp, tx, q, rt, false, us, true, ps⟩ = 10 := by simp [cErr, Con.noWill, emB_e, k1, k2, k3, k4]
      have Hr := hd hr; clear hr k1 k2 k3 k4
      go_enter Tryz.func105, Tryz.ntmps105
      go_wp2_with fail
      go_ret
      exact ⟨ret_int Hr.out.symm, by go_grown⟩
    · skip
      cases hw
      · cases ytp : emB tp
        · have mtp := emB_not' ytp
          have hr : cErr ⟨4, cl, ke, cn, false, tp, tx, q, rt, true, us, true, ps⟩ = 4 := by simp [cErr, Con.noWill, emB_e, k1, k2, k3, k4, ytp]
          have Hr := hd hr; clear hr k1 k2 k3 k4
          go_enter Tryz.func105, Tryz.ntmps105
          go_wp2_with fail
          go_ret
          exact ⟨ret_int Hr.out.symm, by go_grown⟩
        · obtain rfl := emB_nil ytp
          clear ytp
          cases ytx : emB tx
          · have mtx := emB_not' ytx
            have hr : cErr ⟨4, cl, ke, cn, false, ⟨#[]⟩, tx, q, rt, true, us, true, ps⟩ = 4 := by simp [cErr, Con.noWill, emB_e, k1, k2, k3, k4, ytx]
            have Hr := hd hr; clear hr k1 k2 k3 k4
            go_enter Tryz.func105, Tryz.ntmps105
            go_wp2_with fail
            go_ret
            exact ⟨ret_int Hr.out.symm, by go_grown⟩
          · obtain rfl := emB_nil ytx
            clear ytx
            by_cases yq : q = 0
            rotate_left
            · have yqb : (q == 0) = false := by simpa using yq
              have hr : cErr ⟨4, cl, ke, cn, false, ⟨#[]⟩, ⟨#[]⟩, q, rt, true, us, true, ps⟩ = 4 := by simp [cErr, Con.noWill, emB_e, k1, k2, k3, k4, yq, yqb]
              have Hr := hd hr; clear hr k1 k2 k3 k4
              go_enter Tryz.func105, Tryz.ntmps105
              go_wp2_with fail
              go_ret
              exact ⟨ret_int Hr.out.symm, by go_grown⟩
            subst yq
            cases rt
            rotate_left
            · skip
              have hr : cErr ⟨4, cl, ke, cn, false, ⟨#[]⟩, ⟨#[]⟩, 0, true, true, us, true, ps⟩ = 4 := by simp [cErr, Con.noWill, emB_e, k1, k2, k3, k4]
              have Hr := hd hr; clear hr k1 k2 k3 k4
              go_enter Tryz.func105, Tryz.ntmps105
              go_wp2_with fail
              go_ret
              exact ⟨ret_int Hr.out.symm, by go_grown⟩
            have hr : cErr ⟨4, cl, ke, cn, false, ⟨#[]⟩, ⟨#[]⟩, 0, false, true, us, true, ps⟩ = 0 := by simp [cErr, Con.noWill, emB_e, k1, k2, k3, k4]
            have Hr := hd hr; clear hr k1 k2 k3 k4
            go_enter Tryz.func105, Tryz.ntmps105
            go_wp2_with fail
            go_ret
            exact ⟨ret_int Hr.out.symm, by go_grown⟩
      · skip
        have hr : cErr ⟨4, cl, ke, cn, true, tp, tx, q, rt, true, us, true, ps⟩ = 0 := by simp [cErr, Con.noWill, emB_e, k1, k2, k3, k4]
        have Hr := hd hr; clear hr k1 k2 k3 k4
        go_enter Tryz.func105, Tryz.ntmps105
        go_wp2_with fail
        go_ret
        exact ⟨ret_int Hr.out.symm, by go_grown⟩

end Go.Proofs.YtjlnlgemngpelaaGreatDoor
