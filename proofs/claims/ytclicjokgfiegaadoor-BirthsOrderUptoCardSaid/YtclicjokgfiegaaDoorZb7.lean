/- A bundle of texts (merged for the limit on files): Mat2, MatRef. -/
import Derived.Test.YtclicjokgfiegaaDoorZb4
import Derived.Laws.EntriesVeiled
import Derived.Test.YtclicjokgfiegaaDoorZb3
import Derived.BigQuiet
/- What a filter wants: Match, Wide, Covers: the walks of the program. -/
namespace Go.Proofs.YtclicjokgfiegaaDoor
open Go.RowKit
set_option linter.unusedVariables false
set_option linter.unusedSimpArgs false

set_option maxRecDepth 100000 in
set_option maxHeartbeats 4000000 in
theorem alongM_c (p q : List (List UInt8)) (va vb : Value) (w : World) (hpl : p.length ≤ 100000000) (hql : q.length ≤ 100000000) (ha : Ls w va p) (hb : Ls w vb q) :
    Calls Tryd.prog 57 #[va, vb, .func (.func 59) #[] #[]] w fun e w' => e = .returned (.bool (alongL holdM p q)) ∧ Below w.heap.size w w' := by
  have hF : ∀ W : World, AlongE 59 p q va vb w.heap.size (w.heap.size + 1) (w.heap.size + 1 + 1) (w.heap.size + 1 + 1 + 1) W →
      Calls Tryd.prog 100 #[.int .i64 0, .pointer (some ⟨w.heap.size, 0, none⟩), .pointer (some ⟨w.heap.size + 1, 0, none⟩), .pointer (some ⟨w.heap.size + 1 + 1, 0, none⟩), .pointer (some ⟨w.heap.size + 1 + 1 + 1, 0, none⟩)] W fun e w' => e = .returned (.bool (alongL holdM p q)) ∧ ∃ m, w' = W.drewN m := fun W hW => by
    have h := along1M_c p q va vb w.heap.size (w.heap.size + 1) (w.heap.size + 1 + 1) (w.heap.size + 1 + 1 + 1) hpl hql p.length 0 W (by omega) (by omega) (by omega) hW
    simpa using h
  obtain ⟨aa, ac, rfl⟩ := ha.slice
  obtain ⟨ba, bc, rfl⟩ := hb.slice
  have HF := hd hF; have HA := hd ha; have HB := hd hb
  clear hF ha hb
  go_enter Tryd.func57, Tryd.ntmps57
  go_wp2_with fail
  refine (HF.out _ ⟨by simp [go_sem], by simp [go_sem], by simp [go_sem], by simp [go_sem], HA.out.below' (by go_grown) (Nat.le_refl _), HB.out.below' (by go_grown) (Nat.le_refl _)⟩).mono ?_
  rintro e w' ⟨rfl, m, rfl⟩
  go_wp2_with fail
  go_ret
  exact ⟨rfl, below_dn (by go_grown) m⟩

set_option maxRecDepth 100000 in
set_option maxHeartbeats 4000000 in
theorem begin_c (f o : List UInt8) (w : World) (hf : f ≠ []) (hl : f.length ≤ 9223372036854775000) : Calls Tryd.prog 56 #[.string (sOf f), .string (sOf o)] w fun e w' => e = .returned (.agg #[.bool (begW f), .bool (lHidden o)]) ∧ Below w.heap.size w w' := by
  have hl1 : 1 ≤ f.length := List.length_pos_iff.2 hf
  have hsl : ∀ W : World, (Instr.slice 9 (.string (sOf f)) none (some (.int .i64 1)) none).run Tryd.prog W = .ok (.string (sOf (f.take 1))) W := fun W => sl_to f 1 hl1 hl W
  have htl := toList_sOf (f.take 1)
  obtain ⟨r, hr⟩ : ∃ r, begW f = r := ⟨_, rfl⟩
  rw [hr]
  unfold begW at hr
  generalize f.take 1 = g at *
  have Hr := hd hr; clear hr
  cases e43 : (g == [43])
  · have hr := Hr.out; rw [e43, Bool.false_or] at hr
    clear Hr
    go_enter Tryd.func56, Tryd.ntmps56
    go_wp2_with fail
    refine wp_region_M (fun _ => True) 11 [(0, false), (1, false), (2, false), (3, false), (4, false), (5, false), (6, false), (7, false), (8, false), (9, true), (10, false), (11, true)] (by kernel_rfl) (by kernel_rfl) (fun _ _ _ _ h => h) trivial ?_
    iterate 9
      apply wpM_still (by rfl) (by rfl)
      · intro W hC
        go_simp
        rfl
      go_simp
    apply wpM_move (by rfl) (by rfl)
    intro K hK
    go_simp
    refine (Hidden_c o _).mono ?_
    rintro e w' ⟨rfl, rfl⟩
    refine hK _ _ (fun _ => trivial) ?_
    clear hK K
    go_simp
    apply wpM_still (by rfl) (by rfl)
    · intro W hC
      go_simp
      rfl
    go_simp
    apply wpM_move (by rfl) (by rfl)
    intro K hK
    go_simp
    refine hK _ _ (fun h => absurd h (by decide)) ?_
    clear hK K
    refine wpM_nil ?_
    go_wp2_with fail
    exact bodyPost_ret (v := .agg #[.bool r, .bool (lHidden o)]) (by simp [results, Tryd.results56, go_sem]) rfl ⟨rfl, by go_grown⟩
  · have hr := Hr.out; rw [e43, Bool.true_or] at hr
    subst hr
    clear Hr
    go_enter Tryd.func56, Tryd.ntmps56
    go_wp2_with fail
    refine wp_region_M (fun _ => True) 11 [(0, false), (1, false), (2, false), (3, false), (4, false), (5, false), (6, false), (7, false), (8, false), (9, true), (10, false), (11, true)] (by kernel_rfl) (by kernel_rfl) (fun _ _ _ _ h => h) trivial ?_
    iterate 4
      apply wpM_still (by rfl) (by rfl)
      · intro W hC
        go_simp
        rfl
      go_simp
    iterate 3
      apply wpM_skip (by rfl) (by rfl)
      go_simp
    iterate 2
      apply wpM_still (by rfl) (by rfl)
      · intro W hC
        go_simp
        rfl
      go_simp
    apply wpM_move (by rfl) (by rfl)
    intro K hK
    go_simp
    refine (Hidden_c o _).mono ?_
    rintro e w' ⟨rfl, rfl⟩
    refine hK _ _ (fun _ => trivial) ?_
    clear hK K
    go_simp
    apply wpM_still (by rfl) (by rfl)
    · intro W hC
      go_simp
      rfl
    go_simp
    apply wpM_move (by rfl) (by rfl)
    intro K hK
    go_simp
    refine hK _ _ (fun h => absurd h (by decide)) ?_
    clear hK K
    refine wpM_nil ?_
    go_wp2_with fail
    exact bodyPost_ret (v := .agg #[.bool true, .bool (lHidden o)]) (by simp [results, Tryd.results56, go_sem]) rfl ⟨rfl, by go_grown⟩

set_option maxRecDepth 100000 in
set_option maxHeartbeats 4000000 in
theorem Match_c (f n : List UInt8) (w : World) (hE : EnvU w) (hf : f.length ≤ 9223372036854775000) (hn : n.length ≤ 9223372036854775000) :
    Calls Tryd.prog 24 #[.string (sOf f), .string (sOf n)] w fun e w' => e = .returned (.bool (mMatch f n)) ∧ Below w.heap.size w w' := by
  have HE := hd hE; clear hE
  obtain ⟨r, hr⟩ : ∃ r, mMatch f n = r := ⟨_, rfl⟩
  rw [hr]
  unfold mMatch at hr
  have Hr := hd hr; clear hr
  go_enter Tryd.func24, Tryd.ntmps24
  go_wp2_with fail
  refine (Filter_c f _ HE.out hf).mono ?_
  rintro e w1 ⟨rfl, hb1⟩
  cases hu : lFilter f
  · have hr := Hr.out; rw [hu, Bool.false_and] at hr; subst hr; clear Hr
    go_wp2_with fail
    go_ret
    exact ⟨rfl, hb1⟩
  have hfs : lSized f = true := by unfold lFilter at hu; exact (Bool.and_eq_true _ _ ▸ hu).1
  obtain ⟨f0, f96, f12⟩ := lSized_len hfs
  have H1 := hd (show (lName n && (!(begW f && lHidden n) && alongL holdM (lSplit f) (lSplit n))) = r by have hr := Hr.out; rw [hu, Bool.true_and] at hr; exact hr)
  clear Hr hu hfs
  go_wp2_with fail
  refine (Name_c n _ (HE.out.below hb1) hn).mono ?_
  rintro e w2 ⟨rfl, hb2⟩
  replace hb1 := Below.up hb1 hb2
  clear hb2
  cases hu : lName n
  · have hr := H1.out; rw [hu, Bool.false_and] at hr; subst hr; clear H1
    go_wp2_with fail
    go_ret
    exact ⟨rfl, hb1⟩
  have hns : lSized n = true := by unfold lName at hu; exact (Bool.and_eq_true _ _ ▸ hu).1
  obtain ⟨n0, n96, n12⟩ := lSized_len hns
  have H2 := hd (show (!(begW f && lHidden n) && alongL holdM (lSplit f) (lSplit n)) = r by have hr := H1.out; rw [hu, Bool.true_and] at hr; exact hr)
  clear H1 hu hns
  go_wp2_with fail
  refine (begin_c f n _ f0 hf).mono ?_
  rintro e w3 ⟨rfl, hb2⟩
  replace hb1 := Below.up hb1 hb2
  clear hb2
  cases hbw : (begW f && lHidden n)
  rotate_left
  · have hr := H2.out; rw [hbw] at hr
    have hr2 : false = r := hr
    subst hr2; clear H2 hr
    have h9 : begW f = true ∧ lHidden n = true := by simpa using hbw
    obtain ⟨h8, h9⟩ := h9
    clear hbw
    go_wp2_with fail
    go_ret
    exact ⟨rfl, hb1⟩
  have H3 := hd (show alongL holdM (lSplit f) (lSplit n) = r by have hr := H2.out; rw [hbw] at hr; simpa using hr)
  have HBW := hd hbw
  clear H2 hbw
  have key : (begW f = false ∧ True) ∨ (begW f = true ∧ lHidden n = false) := by
    have := HBW.out
    cases h : begW f
    · exact .inl ⟨rfl, trivial⟩
    · rw [h] at this; exact .inr ⟨rfl, by simpa using this⟩
  rcases key with ⟨h8, -⟩ | ⟨h8, h9⟩
  · go_wp2_with fail
    refine (Split_c f _ (by omega)).mono ?_
    rintro e w4 ⟨v4, rfl, ho4, hb2⟩
    replace hb1 := Below.up hb1 hb2
    have L4 := ho4.ls
    have HL4 := hd L4
    clear hb2 ho4 L4
    go_wp2_with fail
    refine (Split_c n _ (by omega)).mono ?_
    rintro e w5 ⟨v5, rfl, ho5, hb2⟩
    have L4 := HL4.out.below' hb2 (Nat.le_refl _)
    replace hb1 := Below.up hb1 hb2
    have L5 := ho5.ls
    have HL4 := hd L4; have HL5 := hd L5
    clear hb2 ho5 L4 L5
    go_wp2_with fail
    refine (alongM_c _ _ _ _ _ (by omega) (by omega) HL4.out HL5.out).mono ?_
    rintro e w6 ⟨rfl, hb2⟩
    replace hb1 := Below.up hb1 hb2
    rw [H3.out]
    go_wp2_with fail
    go_ret
    exact ⟨rfl, hb1⟩
  · go_wp2_with fail
    refine (Split_c f _ (by omega)).mono ?_
    rintro e w4 ⟨v4, rfl, ho4, hb2⟩
    replace hb1 := Below.up hb1 hb2
    have L4 := ho4.ls
    have HL4 := hd L4
    clear hb2 ho4 L4
    go_wp2_with fail
    refine (Split_c n _ (by omega)).mono ?_
    rintro e w5 ⟨v5, rfl, ho5, hb2⟩
    have L4 := HL4.out.below' hb2 (Nat.le_refl _)
    replace hb1 := Below.up hb1 hb2
    have L5 := ho5.ls
    have HL4 := hd L4; have HL5 := hd L5
    clear hb2 ho5 L4 L5
    go_wp2_with fail
    refine (alongM_c _ _ _ _ _ (by omega) (by omega) HL4.out HL5.out).mono ?_
    rintro e w6 ⟨rfl, hb2⟩
    replace hb1 := Below.up hb1 hb2
    rw [H3.out]
    go_wp2_with fail
    go_ret
    exact ⟨rfl, hb1⟩

theorem awm1 : mMatch [97, 47, 35] [97] = true := by decide +kernel
theorem awm2 : mMatch [97, 47, 43] [97, 47, 98] = true := by decide +kernel
theorem awm3 : mMatch [97, 47, 43] [97] = false := by decide +kernel
theorem awm4 : mMatch [35] [36, 83, 89, 83] = false := by decide +kernel
theorem awm5 : mWide [43] = true := by decide +kernel
end Go.Proofs.YtclicjokgfiegaaDoor

/- What a filter wants: the reference: the walks. -/
namespace Go.Proofs.YtclicjokgfiegaaDoor
open Go.RowKit
set_option linter.unusedVariables false
set_option linter.unusedSimpArgs false

theorem alongL_cons (hold : List UInt8 → List UInt8 → Bool) (x : List UInt8) (r q : List (List UInt8)) :
    alongL hold (x :: r) q = if x = [35] then true else match q with | [] => false | y :: t => hold x y && alongL hold r t := by
  cases q <;> rw [alongL]
/-- The rest of a row behind its first text. -/
theorem run_tailL {w : World} {a : Option Addr} {n c : Nat} {x : List UInt8} {r : List (List UInt8)} (h : Ls w (.slice a n c) (x :: r)) :
    ∃ a' c', (∀ W : World, (Instr.slice 98 (.slice a n c) (some (.int .i64 1)) none none).run Tryd.prog W = .ok (.slice a' r.length c') W) ∧ Ls w (.slice a' r.length c') r := by
  obtain ⟨a0, c0, hv, h1, h2, h3, h4⟩ := h
  cases hv
  rw [List.length_cons] at h1 h3 ⊢
  cases a with
  | none => obtain ⟨e1, e2, e3⟩ := h3 rfl; omega
  | some ad =>
    refine ⟨if c = 1 then some ad else some (ad.add (1 * 1)), c - 1, fun W => ?_, ⟨_, _, rfl, by omega, by omega, fun e => ?_, fun ad' had k u hu => ?_⟩⟩
    · rw [run_slice_l W 98 (some ad) (r.length + 1) c (by kernel_rfl) .i64 1 (by omega) (by omega)]
      obtain ⟨i0, hi, hz0, hz1, hz2⟩ := info_parts info_string
      have he : Tryd.prog.elem 98 = 9 := by kernel_rfl
      simp [sizeOf, typeInfo, he, hi, hz1, sliced, Result.andThen]
    · split at e <;> simp at e
    · have hk : k < r.length := by
        have := (List.getElem?_eq_some_iff.1 hu).1
        rwa [List.length_map] at this
      rw [if_neg (by omega)] at had
      simp only [Option.some.injEq] at had
      subst had
      rw [Nat.mul_one, Go.Deep.add_add, Nat.add_comm]
      exact h4 ad rfl (k + 1) u (by simpa using hu)

theorem begW_cons {f : List UInt8} (h : f ≠ []) : begW f = (decide (bN f 0 = 43) || decide (bN f 0 = 35)) := by
  cases f with
  | nil => exact absurd rfl h
  | cons b t =>
    have e : ∀ c : UInt8, ([b] == [c]) = decide (bN (b :: t) 0 = c.toNat) := fun c => by
      rw [Bool.eq_iff_iff, decide_eq_true_iff, b8_of_bN (by simp : 0 < (b :: t).length)]
      simp
    unfold begW
    rw [show (b :: t).take 1 = [b] from rfl, e, e]
    rfl
theorem lHidden_cons {f : List UInt8} (h : f ≠ []) : lHidden f = decide (bN f 0 = 36) := by
  cases f with
  | nil => exact absurd rfl h
  | cons b t => unfold lHidden; simp
end Go.Proofs.YtclicjokgfiegaaDoor
