/- A bundle of texts (merged for the limit on files): Bir12c, Bir12d. -/
import Derived.Test.YtclicjokgfiegaaGreatDoorZb1
/- Births: the document's answer: Put: the walk. -/
namespace Go.Proofs.YtclicjokgfiegaaGreatDoor
open Go.RowKit
set_option linter.unusedVariables false
set_option linter.unusedSimpArgs false

theorem OwnT.empty (w : World) : OwnT w.heap.size (w.alloc (.cells #[] 72)) (.slice (some ⟨w.heap.size, 0, none⟩) 0 0) [] :=
  ⟨rfl, .inr ⟨w.heap.size, 0, #[], rfl, Nat.le_refl _, heap_alloc_new w _, Nat.le_refl _, Nat.zero_le _, rfl, rfl⟩⟩
theorem rAt_le (R : List BTold) (t : List UInt8) : rAt R t ≤ R.length := by
  unfold rAt
  exact (List.takeWhile_prefix _).length_le
set_option maxRecDepth 100000 in
set_option maxHeartbeats 8000000 in
theorem refPut36_c (g : Nat) (v : Value) (R : List BTold) (t : List UInt8) (u : ByteArray) (w : World) (h : RfAt w g v R) (ht : t.length ≤ 100000000) (hR : ∀ y ∈ R, y.1.length ≤ 100000000) (hm : R.length ≤ 1000) :
    Calls Tryz.prog 7 #[.pointer (some ⟨g, 0, none⟩), .string (sOf t), .string u] w fun e w' => e = .returned (.int .i64 (rPut R t u).2) ∧ ∃ v', Rf w g v v' (rPut R t u).1 w' := by
  have H := hd h
  obtain ⟨a, c, rfl⟩ := h.own.slice
  have hno := fun W => refNode_c t W ht
  have hdr := fun W h1 => refDrop36_c g (.slice a R.length c) R t W h1 ht hR hm
  obtain ⟨r, hr⟩ : ∃ r, rPut R t u = r := ⟨_, rfl⟩
  rw [hr]
  unfold rPut at hr
  unfold rDropP at hdr
  obtain ⟨⟨n, d⟩, hnd⟩ : ∃ n, bNode t = n := ⟨_, rfl⟩
  rw [hnd] at hr hno hdr
  simp only at hr hno hdr
  have hcov : ∀ y, rCov t y = (y == t || (!d && (bNode y).1 == n)) := fun y => by unfold rCov; rw [hnd]
  have HO := hd h.own; have c0 := h.c0; have hlt := h.lt
  have HNO := hd hno; have HR := hd hr; have HRT := hd hR; have HCV := hd hcov; have HDR := hd hdr
  have tn := toList_sOf n; have tt := toList_sOf t
  clear hno hr hR hcov h hnd hdr
  go_enter Tryz.func7, Tryz.ntmps7
  go_wp2_with fail
  refine (HNO.out _).mono ?_
  rintro e w1 ⟨rfl, b1⟩
  by_cases hn : n = []
  · subst hn
    have hr := HR.out
    rw [if_pos rfl] at hr
    subst hr
    go_wp2_with fail
    go_ret
    exact ⟨rfl, _, Rf.refl H.out b1⟩
  have hnb : (n == []) = false := by simpa using hn
  have hr := HR.out
  rw [if_neg hn] at hr
  have HR2 := hd hr
  have hdr := HDR.out
  simp only [if_neg hn] at hdr
  have HD2 := hd hdr
  clear HR hr HDR hdr
  have O0 : rCount (R.take 0) t = 0 := by simp [rCount]
  go_wp2_with fail
  go_loopw [9, 10] (fun s i w' => ∃ k : Nat, s = .int .i64 (rCount (R.take k) t) ∧ i = .int .i64 k ∧ k ≤ R.length ∧ Below w.heap.size w w') (fun _ i _ => leftB R.length i)
  case atStart => exact ⟨0, by rw [O0]; rfl, rfl, by omega, b1⟩
  case round =>
    obtain ⟨k, rfl, rfl, hk, hB⟩ := hrel
    clear O0
    have d0 := (bcell hB _ _ hlt).trans c0
    have hzB := hB.size
    by_cases hk1 : k < R.length
    · obtain ⟨x, hx⟩ : ∃ x, R[k]? = some x := ⟨_, List.getElem?_eq_getElem hk1⟩
      have hsn := rCount_snoc t hx
      have hcl := rCount_le R t k
      obtain ⟨p, q, rfl, hpl, x0, x1⟩ := HO.out.at hx
      have y0 := (bcell hB _ _ hpl).trans x0
      have hnx := fun W => refNode_c x.1 W (HRT.out x (List.mem_of_getElem? hx))
      rw [HCV.out x.1] at hsn
      obtain ⟨⟨m, md⟩, hmd⟩ : ∃ m, bNode x.1 = m := ⟨_, rfl⟩
      rw [hmd] at hnx hsn
      simp only at hnx hsn
      have HNX := hd hnx; have HSN := hd hsn
      generalize hC : rCount (R.take k) t = C at *
      obtain ⟨xt, xu⟩ := x
      have tx := toList_sOf xt; have tm := toList_sOf m
      simp only at HNX HSN x0 y0
      clear hnx hsn hx hmd hC
      go_wp2_with fail
      refine (HNX.out _).mono ?_
      rintro e w2 ⟨rfl, b2⟩
      have B2 : Below w.heap.size w w2 := hB.trans (b2.mono hzB)
      have e0 := (bcell b2 _ _ (show g < wr.heap.size by omega)).trans d0
      have z0 := (bcell (hB.trans (b2.mono hzB)) _ _ hpl).trans x0
      clear HNX y0 x0 x1 d0
      by_cases he : xt = t
      · have heb : (xt == t) = true := by simpa using he
        have hsn := HSN.out
        rw [heb, Bool.true_or, if_pos rfl] at hsn
        have HS2 := hd hsn
        clear hsn HSN
        go_wp2_with fail
        go_roundw
        case rel => exact ⟨k + 1, by rw [HS2.out]; push_cast; rfl, by congr 1, by omega, B2⟩
        case measure => simp [leftB]; omega
      have heb : (xt == t) = false := by simpa using he
      have hsn := HSN.out
      rw [heb, Bool.false_or] at hsn
      cases d
      · by_cases hmn : m = n
        · have hmb : (m == n) = true := by simpa using hmn
          rw [hmb, Bool.not_false, Bool.true_and, if_pos rfl] at hsn
          have HS2 := hd hsn
          clear hsn HSN
          go_wp2_with fail
          go_roundw
          case rel => exact ⟨k + 1, by rw [HS2.out]; push_cast; rfl, by congr 1, by omega, B2⟩
          case measure => simp [leftB]; omega
        · have hmb : (m == n) = false := by simpa using hmn
          rw [hmb, Bool.not_false, Bool.true_and, if_neg (by simp), Nat.add_zero] at hsn
          have HS2 := hd hsn
          clear hsn HSN
          go_wp2_with fail
          go_roundw
          case rel => exact ⟨k + 1, by rw [HS2.out]; rfl, by congr 1, by omega, B2⟩
          case measure => simp [leftB]; omega
      · rw [Bool.not_true, Bool.false_and, if_neg (by simp), Nat.add_zero] at hsn
        have HS2 := hd hsn
        clear hsn HSN
        go_wp2_with fail
        go_roundw
        case rel => exact ⟨k + 1, by rw [HS2.out]; rfl, by congr 1, by omega, B2⟩
        case measure => simp [leftB]; omega
    · have hke : k = R.length := by omega
      subst hke
      rw [List.take_length]
      have hcle := rCount_le R t R.length
      rw [List.take_length] at hcle
      have hr := HR2.out
      by_cases hf : rCount R t = 0 ∧ 40 ≤ R.length
      · rw [if_pos hf] at hr
        subst hr
        obtain ⟨hf1, hf2⟩ := hf
        rw [hf1]
        clear HR2 HD2 HCV HRT HNO
        go_wp2_with fail
        go_ret
        exact ⟨rfl, _, Rf.refl H.out hB⟩
      rw [if_neg hf] at hr
      subst hr
      clear HR2
      generalize hC : rCount R t = C at *
      have hfi : ¬ ((C : Int) = 0 ∧ 40 ≤ (R.length : Int)) := by omega
      have hAT := hd (H.out.below hB)
      have hBB := hd hB
      have hdlen : (rDrop R t).length ≤ R.length := List.length_filter_le _ _
      have hdt : ∀ y ∈ rDrop R t, y.1.length ≤ 100000000 := fun y hy => HRT.out y (List.mem_filter.1 hy).1
      have HDT := hd hdt
      clear hC hB hdt HRT HCV HNO hf c0
      generalize hR2 : rDrop R t = R2 at *
      have HRE := hd hR2
      clear hR2
      by_cases hC0 : C = 0
      all_goals try (have hcb : ((C : Int) == 0) = true := by subst hC0; rfl)
      all_goals try (have hcb : ((C : Int) == 0) = false := by simp; omega)
      all_goals try (have hlb : ¬ 40 ≤ (R.length : Int) := by omega)
      all_goals
        go_wp2_with fail
        refine (HD2.out _ hAT.out).mono ?_
        rintro e w2 ⟨rfl, v2, hrf⟩
        obtain ⟨a2, c2, rfl⟩ := hrf.at'.own.slice
        have hB2 : Below w.heap.size w w2 ∨ True := .inr trivial
        have HF := hd hrf
        have e0 := hrf.at'.c0; have hlt2 := hrf.at'.lt
        have HO2 := hd hrf.at'.own
        have I2 : rAt R2 t = 0 + rAt (R2.drop 0) t := by simp
        clear hrf hB2
        go_wp2_with fail
        go_loopw [13] (fun i w' => ∃ k : Nat, i = .int .i64 k ∧ k ≤ R2.length ∧ rAt R2 t = k + rAt (R2.drop k) t ∧ Below w2.heap.size w2 w') (fun i _ => leftB R2.length i)
        case atStart => exact ⟨0, rfl, by omega, I2, Below.refl _ _⟩
        case round =>
          obtain ⟨k, rfl, hk, hat, hb3⟩ := hrel
          clear I2
          have k0 := (bcell hb3 _ _ hlt2).trans e0
          have hz3 := hb3.size
          by_cases hk1 : k < R2.length
          · obtain ⟨x, hx⟩ : ∃ x, R2[k]? = some x := ⟨_, List.getElem?_eq_getElem hk1⟩
            rw [rAt_at t hx] at hat
            have hah := fun W => refAhead_c x.1 t W (HDT.out x (List.mem_of_getElem? hx)) ht
            obtain ⟨p, q, rfl, hpl, x0, x1⟩ := HO2.out.at hx
            have y0 := (bcell hb3 _ _ hpl).trans x0
            obtain ⟨b, hb⟩ : ∃ b, rAhead x.1 t = b := ⟨_, rfl⟩
            rw [hb] at hat hah
            have HAH := hd hah; have HAT2 := hd hat
            clear hah hat hb hx
            cases b
            · have hat := HAT2.out
              rw [if_neg (by simp), Nat.add_zero] at hat
              have HAT3 := hd hat
              clear hat HAT2
              go_wp2_with fail
              refine (HAH.out _).mono ?_
              rintro e w4 ⟨rfl, b4⟩
              have hb4 : Below w2.heap.size w2 w4 := hb3.trans (b4.mono hz3)
              have KAT := HAT3.out
              have hz4 := hb4.size
              have m0 := (bcell hb4 _ _ hlt2).trans e0
              have R4 : Rf w2 g (.slice (some ⟨p, q, none⟩) R2.length c2) (.slice (some ⟨p, q, none⟩) R2.length c2) R2 w4 := Rf.refl HF.out.at' hb4
              have O4 := hd (Owns.rd (HO2.out.kept hb4 (Nat.le_refl _)) : Rd w4 (.slice (some ⟨p, q, none⟩) R2.length c2) R2.length (R2.flatMap toldV))
              obtain ⟨s1, hs1, hrd1⟩ := run_toT O4.out k hk
              obtain ⟨s2, hs2, hrd2⟩ := run_fromT O4.out k hk
              have ba : Below w4.heap.size w4 (w4.alloc (.cells #[] 72)) := (Below.refl _ _).alloc (Nat.le_refl _) _
              have OE := hd (OwnT.empty w4)
              have RD1 := hd (Rd.below' hrd1 ba (Nat.le_refl _)); have RD2 := hd hrd2
              have hls : (w4.alloc (.cells #[] 72)).heap.size = w4.heap.size + 1 := by simp
              have hl1 : (R2.take k).length ≤ 1000 := by rw [List.length_take]; omega
              have hl2 : (R2.drop k).length ≤ 1000 := by rw [List.length_drop]; omega
              have n0 := (bcell ba _ _ (show g < w4.heap.size by omega)).trans m0
              have BA := hd ba
              clear hrd1 hrd2 O4 HAT3
              go_wp2_with (first
                | (at_builtin; refine wp_appTs rfl _ _ rfl w4.heap.size (.slice (some ⟨w4.heap.size, 0, none⟩) 0 0) [] rfl OE.out s1 (R2.take k) rfl RD1.out (by simp; omega) (by omega) ?_; intro v5 w5 ho5 hb5; have BX := BA.out.trans hb5; have p0 := (bcell BX _ _ (show g < w4.heap.size by omega)).trans m0; have HO5 := hd ho5; clear ho5 n0)
                | (at_builtin; refine wp_appT rfl _ _ rfl w4.heap.size v5 ([] ++ R2.take k) rfl HO5.out (t, u) rfl (by simp; omega) BX.size ?_; intro v6 w6 ho6 hb6; have BY := BX.trans hb6; have q0 := (bcell BY _ _ (show g < w4.heap.size by omega)).trans m0; have HO6 := hd ho6; have RD6 := hd (Rd.below' RD2.out BY (Nat.le_refl _)); clear ho6 p0)
                | (at_builtin; refine wp_appTs rfl _ _ rfl w4.heap.size v6 (([] ++ R2.take k) ++ [(t, u)]) rfl HO6.out s2 (R2.drop k) rfl RD6.out (by simp; omega) BY.size ?_; intro v7 w7 ho7 hb7; generalize hLL : (([] ++ R2.take k) ++ [(t, u)]) ++ R2.drop k = L7 at *; have HLL := hd hLL; clear hLL; obtain ⟨va7, vc7, rfl⟩ := ho7.slice; have BZ := BY.trans hb7; have r0 := (bcell BZ _ _ (show g < w4.heap.size by omega)).trans m0; have f7 := (bfree BZ g 0 (show g < w4.heap.size by omega)).trans (R4.at'.f0); have hg7 : g < w7.heap.size := (by have := BZ.size; omega); have HO7 := hd ho7; clear ho7 q0))
              go_ret
              have S7 := Rf.store R4.at' BZ HO7.out
              have e7 : R2.take k ++ (t, u) :: R2.drop k = L7 := by rw [← HLL.out]; simp
              have T1 := (Rf.refl H.out hBB.out).trans (HF.out.trans (R4.trans S7))
              rw [HRE.out, KAT, e7]
              exact ⟨rfl, _, T1⟩
            · have hat := HAT2.out
              rw [if_pos rfl] at hat
              have HAT3 := hd hat
              clear hat HAT2
              go_wp2_with fail
              refine (HAH.out _).mono ?_
              rintro e w4 ⟨rfl, b4⟩
              have hb4 : Below w2.heap.size w2 w4 := hb3.trans (b4.mono hz3)
              go_wp2_with fail
              go_roundw
              case rel => exact ⟨k + 1, by congr 1, by omega, by have := HAT3.out; omega, hb4⟩
              case measure => simp [leftB]; omega
          · have hke : k = R2.length := by omega
            subst hke
            have hat2 : rAt R2 t = R2.length := by rw [List.drop_length] at hat; exact hat
            have HAT3 := hd hat2
            clear hat hat2
            have KAT := HAT3.out
            have hz4 := hb3.size
            have m0 := (bcell hb3 _ _ hlt2).trans e0
            have R4 : Rf w2 g (.slice a2 R2.length c2) (.slice a2 R2.length c2) R2 wr := Rf.refl HF.out.at' hb3
            have O4 := hd (Owns.rd (HO2.out.kept hb3 (Nat.le_refl _)) : Rd wr (.slice a2 R2.length c2) R2.length (R2.flatMap toldV))
            obtain ⟨s1, hs1, hrd1⟩ := run_toT O4.out R2.length hk
            obtain ⟨s2, hs2, hrd2⟩ := run_fromT O4.out R2.length hk
            have ba : Below wr.heap.size wr (wr.alloc (.cells #[] 72)) := (Below.refl _ _).alloc (Nat.le_refl _) _
            have OE := hd (OwnT.empty wr)
            have RD1 := hd (Rd.below' hrd1 ba (Nat.le_refl _)); have RD2 := hd hrd2
            have hls : (wr.alloc (.cells #[] 72)).heap.size = wr.heap.size + 1 := by simp
            have hl1 : (R2.take R2.length).length ≤ 1000 := by rw [List.length_take]; omega
            have hl2 : (R2.drop R2.length).length ≤ 1000 := by rw [List.length_drop]; omega
            have n0 := (bcell ba _ _ (show g < wr.heap.size by omega)).trans m0
            have BA := hd ba
            clear hrd1 hrd2 O4 HAT3
            go_wp2_with (first
              | (at_builtin; refine wp_appTs rfl _ _ rfl wr.heap.size (.slice (some ⟨wr.heap.size, 0, none⟩) 0 0) [] rfl OE.out s1 (R2.take R2.length) rfl RD1.out (by simp; omega) (by omega) ?_; intro v5 w5 ho5 hb5; have BX := BA.out.trans hb5; have p0 := (bcell BX _ _ (show g < wr.heap.size by omega)).trans m0; have HO5 := hd ho5; clear ho5 n0)
              | (at_builtin; refine wp_appT rfl _ _ rfl wr.heap.size v5 ([] ++ R2.take R2.length) rfl HO5.out (t, u) rfl (by simp; omega) BX.size ?_; intro v6 w6 ho6 hb6; have BY := BX.trans hb6; have q0 := (bcell BY _ _ (show g < wr.heap.size by omega)).trans m0; have HO6 := hd ho6; have RD6 := hd (Rd.below' RD2.out BY (Nat.le_refl _)); clear ho6 p0)
              | (at_builtin; refine wp_appTs rfl _ _ rfl wr.heap.size v6 (([] ++ R2.take R2.length) ++ [(t, u)]) rfl HO6.out s2 (R2.drop R2.length) rfl RD6.out (by simp; omega) BY.size ?_; intro v7 w7 ho7 hb7; generalize hLL : (([] ++ R2.take R2.length) ++ [(t, u)]) ++ R2.drop R2.length = L7 at *; have HLL := hd hLL; clear hLL; obtain ⟨va7, vc7, rfl⟩ := ho7.slice; have BZ := BY.trans hb7; have r0 := (bcell BZ _ _ (show g < wr.heap.size by omega)).trans m0; have f7 := (bfree BZ g 0 (show g < wr.heap.size by omega)).trans (R4.at'.f0); have hg7 : g < w7.heap.size := (by have := BZ.size; omega); have HO7 := hd ho7; clear ho7 q0))
            go_ret
            have S7 := Rf.store R4.at' BZ HO7.out
            have e7 : R2.take R2.length ++ (t, u) :: R2.drop R2.length = L7 := by rw [← HLL.out]; simp
            have T1 := (Rf.refl H.out hBB.out).trans (HF.out.trans (R4.trans S7))
            rw [HRE.out, KAT, e7]
            exact ⟨rfl, _, T1⟩
end Go.Proofs.YtclicjokgfiegaaGreatDoor

/- Births: the document's answer: Find: the walk. -/
namespace Go.Proofs.YtclicjokgfiegaaGreatDoor
open Go.RowKit
set_option linter.unusedVariables false
set_option linter.unusedSimpArgs false

set_option maxRecDepth 100000 in
set_option maxHeartbeats 8000000 in
theorem refFind36_c (g : Nat) (v fv : Value) (R : List BTold) (fl : List BFlt) (w : World) (h : RfAt w g v R) (hv : Flts w fv fl) (hfl : ∀ f ∈ fl, f.1.length ≤ 1048576) (hR : ∀ y ∈ R, y.1.length ≤ 100000000) (hm : R.length ≤ 1000) :
    Calls Tryz.prog 16 #[.pointer (some ⟨g, 0, none⟩), fv] w fun e w' => ∃ v', e = .returned v' ∧ OwnT w.heap.size w' v' (rFind R fl) ∧ Below w.heap.size w w' := by
  obtain ⟨a, c, rfl⟩ := h.own.slice
  obtain ⟨fa, fc, rfl⟩ := hv.slice
  have hmf := hv.len
  unfold maxLen at hmf
  have HO := hd h.own; have c0 := h.c0; have hlt := h.lt
  have HV := hd hv; have HFL := hd hfl; have HRT := hd hR
  have O0 : OwnT w.heap.size w (.slice none 0 0) (rFind (R.take 0) fl) := by simpa [rFind] using OwnT.nil w.heap.size w
  clear h hv hfl hR
  go_enter Tryz.func16, Tryz.ntmps16
  go_wp2_with fail
  go_loopw [5, 6] (fun vo i w' => ∃ k : Nat, i = .int .i64 k ∧ k ≤ R.length ∧ OwnT w.heap.size w' vo (rFind (R.take k) fl) ∧ Below w.heap.size w w') (fun _ i _ => leftB R.length i)
  case atStart => exact ⟨0, rfl, by omega, O0, Below.refl _ _⟩
  case round =>
    obtain ⟨k, rfl, hk, ho, hB⟩ := hrel
    clear O0
    have d0 := (bcell hB _ _ hlt).trans c0
    have hzB := hB.size
    by_cases hk1 : k < R.length
    rotate_left
    · have hke : k = R.length := by omega
      subst hke
      rw [List.take_length] at ho
      have HOL := hd ho
      clear ho
      go_wp2_with fail
      go_ret
      exact ⟨_, rfl, HOL.out, hB⟩
    obtain ⟨x, hx⟩ : ∃ x, R[k]? = some x := ⟨_, List.getElem?_eq_getElem hk1⟩
    have hsn := rFind_snoc fl hx
    obtain ⟨p, q, rfl, hpl, x0, x1⟩ := HO.out.at hx
    have hxl := HRT.out x (List.mem_of_getElem? hx)
    obtain ⟨xt, xu⟩ := x
    simp only at hsn x0 x1 hxl
    have y0 := (bcell hB _ _ hpl).trans x0
    have y1 := (bcell hB _ _ hpl).trans x1
    have hml : (rFind (R.take k) fl).length ≤ k := Nat.le_trans (List.length_filter_le _ _) (by rw [List.length_take]; omega)
    generalize hM : rFind (R.take k) fl = M at *
    have HSN := hd hsn; have HOL := hd ho
    have W0 : bWant (fl.take 0) xt = false := by simp [bWant]
    clear hsn ho hx hM x0 x1
    go_wp2_with fail
    generalize wr = wo at *
    go_loopw [7, 8] (fun b j w' => ∃ m : Nat, b = .bool (bWant (fl.take m) xt) ∧ j = .int .i64 m ∧ m ≤ fl.length ∧ Below wo.heap.size wo w') (fun _ j _ => leftB fl.length j)
    case atStart => exact ⟨0, by rw [W0], rfl, by omega, Below.refl _ _⟩
    case round =>
      obtain ⟨m, rfl, rfl, hm2, hb2⟩ := hrel
      clear W0
      have hgr : g < wo.heap.size := by omega
      have hpo : p < wo.heap.size := by omega
      have e0 := (bcell hb2 _ _ hgr).trans d0
      have z0 := (bcell hb2 _ _ hpo).trans y0
      have z1 := (bcell hb2 _ _ hpo).trans y1
      have B2 : Below w.heap.size w wr := hB.trans (hb2.mono hzB)
      have hzr := hb2.size
      by_cases hm1 : m < fl.length
      · obtain ⟨f, hf⟩ : ∃ f, fl[m]? = some f := ⟨_, List.getElem?_eq_getElem hm1⟩
        have hws := bWant_snoc xt hf
        obtain ⟨fb, fo, rfl, hfb, f0, f1⟩ := HV.out.at hf
        have hfl := HFL.out f (List.mem_of_getElem? hf)
        replace f0 := (bcell B2 _ _ hfb).trans f0
        have hma := fun W => refMatch_c f.1 xt W (by omega) (by omega)
        generalize mMatch f.1 xt = r at *
        obtain ⟨bw, hbw⟩ : ∃ bw, bWant (fl.take m) xt = bw := ⟨_, rfl⟩
        rw [hbw] at hws ⊢
        have HMA := hd hma; have HWS := hd hws
        have D0 : wr.drew.cell? ⟨g, 0, none⟩ = some (.slice (some ⟨p, q, none⟩) R.length c) := e0
        have D1 : wr.drew.cell? ⟨p, q + k * 2, none⟩ = some (.string (sOf xt)) := z0
        have D2 : wr.drew.cell? ⟨fb, fo + m * 2, none⟩ = some (.string (sOf f.1)) := f0
        have BD := (Below.refl wr.heap.size wr).drew
        clear hma hws hbw hf f1
        cases bw
        all_goals
          go_wp2_with fail
          refine wp_region_M (fun W => W.cell? ⟨g, 0, none⟩ = some (.slice (some ⟨p, q, none⟩) R.length c) ∧ W.cell? ⟨p, q + k * 2, none⟩ = some (.string (sOf xt)) ∧ W.cell? ⟨fb, fo + m * 2, none⟩ = some (.string (sOf f.1))) 17 [(0, false), (1, false), (2, false), (3, false), (4, false), (5, false), (6, false), (7, false), (8, false), (9, false), (10, false), (11, false), (12, false), (13, false), (14, false), (15, true), (16, false), (17, true)] (by kernel_rfl) (by kernel_rfl) (fun _ _ _ _ h => h) ⟨D0, D1, D2⟩ ?_
          have zd : wr.drew.heap.size = wr.heap.size := rfl
          generalize wr.drew = w3 at *
        · skip
          apply wpM_still (by rfl) (by rfl)
          · intro W hC
            obtain ⟨g1, g2, g3⟩ := hC
            go_simp
            rfl
          go_simp
          apply wpM_still (by rfl) (by rfl)
          · intro W hC
            obtain ⟨g1, g2, g3⟩ := hC
            go_simp
            rfl
          go_simp
          apply wpM_still (by rfl) (by rfl)
          · intro W hC
            obtain ⟨g1, g2, g3⟩ := hC
            go_simp
            rfl
          go_simp
          apply wpM_still (by rfl) (by rfl)
          · intro W hC
            obtain ⟨g1, g2, g3⟩ := hC
            go_simp
            rfl
          go_simp
          apply wpM_still (by rfl) (by rfl)
          · intro W hC
            obtain ⟨g1, g2, g3⟩ := hC
            go_simp
            rfl
          go_simp
          apply wpM_still (by rfl) (by rfl)
          · intro W hC
            obtain ⟨g1, g2, g3⟩ := hC
            go_simp
            rfl
          go_simp
          apply wpM_still (by rfl) (by rfl)
          · intro W hC
            obtain ⟨g1, g2, g3⟩ := hC
            go_simp
            rfl
          go_simp
          apply wpM_still (by rfl) (by rfl)
          · intro W hC
            obtain ⟨g1, g2, g3⟩ := hC
            go_simp
            rfl
          go_simp
          apply wpM_still (by rfl) (by rfl)
          · intro W hC
            obtain ⟨g1, g2, g3⟩ := hC
            go_simp
            rfl
          go_simp
          apply wpM_still (by rfl) (by rfl)
          · intro W hC
            obtain ⟨g1, g2, g3⟩ := hC
            go_simp
            rfl
          go_simp
          apply wpM_still (by rfl) (by rfl)
          · intro W hC
            obtain ⟨g1, g2, g3⟩ := hC
            go_simp
            rfl
          go_simp
          apply wpM_still (by rfl) (by rfl)
          · intro W hC
            obtain ⟨g1, g2, g3⟩ := hC
            go_simp
            rfl
          go_simp
          apply wpM_still (by rfl) (by rfl)
          · intro W hC
            obtain ⟨g1, g2, g3⟩ := hC
            go_simp
            rfl
          go_simp
          apply wpM_still (by rfl) (by rfl)
          · intro W hC
            obtain ⟨g1, g2, g3⟩ := hC
            go_simp
            rfl
          go_simp
          apply wpM_still (by rfl) (by rfl)
          · intro W hC
            obtain ⟨g1, g2, g3⟩ := hC
            go_simp
            rfl
          go_simp
          apply wpM_move (by rfl) (by rfl)
          intro K hK
          go_simp
          refine (HMA.out _).mono ?_
          rintro e w4 ⟨rfl, b4⟩
          go_simp
          have G0 := (bcell b4 _ _ (show g < w3.heap.size by omega)).trans D0
          have G1 := (bcell b4 _ _ (show p < w3.heap.size by omega)).trans D1
          have G2 := (bcell b4 _ _ (show fb < w3.heap.size by have := B2.size; omega)).trans D2
          refine hK _ _ (fun _ => ⟨G0, G1, G2⟩) ?_
          clear hK K
          have BX := BD.trans (b4.mono BD.size)
          apply wpM_still (by rfl) (by rfl)
          · intro W hC
            obtain ⟨g1, g2, g3⟩ := hC
            go_simp
            rfl
          go_simp
          apply wpM_move (by rfl) (by rfl)
          intro K hK
          go_simp
          refine hK _ _ (fun h => absurd h (by decide)) ?_
          clear hK K
          refine wpM_nil ?_
          go_wp2_with fail
          go_roundw
          case rel => exact ⟨m + 1, by rw [HWS.out]; rfl, by congr 1, by omega, hb2.trans (BX.mono hzr)⟩
          case measure => simp [leftB]; omega
        · skip
          apply wpM_still (by rfl) (by rfl)
          · intro W hC
            obtain ⟨g1, g2, g3⟩ := hC
            go_simp
            rfl
          go_simp
          apply wpM_still (by rfl) (by rfl)
          · intro W hC
            obtain ⟨g1, g2, g3⟩ := hC
            go_simp
            rfl
          go_simp
          apply wpM_skip (by rfl) (by rfl)
          go_simp
          apply wpM_skip (by rfl) (by rfl)
          go_simp
          apply wpM_skip (by rfl) (by rfl)
          go_simp
          apply wpM_skip (by rfl) (by rfl)
          go_simp
          apply wpM_skip (by rfl) (by rfl)
          go_simp
          apply wpM_skip (by rfl) (by rfl)
          go_simp
          apply wpM_skip (by rfl) (by rfl)
          go_simp
          apply wpM_skip (by rfl) (by rfl)
          go_simp
          apply wpM_skip (by rfl) (by rfl)
          go_simp
          apply wpM_skip (by rfl) (by rfl)
          go_simp
          apply wpM_skip (by rfl) (by rfl)
          go_simp
          apply wpM_skip (by rfl) (by rfl)
          go_simp
          apply wpM_skip (by rfl) (by rfl)
          go_simp
          apply wpM_skipM (by rfl) (by rfl) ⟨D0, D1, D2⟩
          go_simp
          apply wpM_still (by rfl) (by rfl)
          · intro W hC
            obtain ⟨g1, g2, g3⟩ := hC
            go_simp
            rfl
          go_simp
          apply wpM_move (by rfl) (by rfl)
          intro K hK
          go_simp
          refine hK _ _ (fun h => absurd h (by decide)) ?_
          clear hK K
          refine wpM_nil ?_
          go_wp2_with fail
          go_roundw
          case rel => exact ⟨m + 1, by rw [HWS.out]; rfl, by congr 1, by omega, hb2.trans (BD.mono hzr)⟩
          case measure => simp [leftB]; omega
      · have hme : m = fl.length := by omega
        subst hme
        rw [List.take_length]
        have HOL2 := hd (HOL.out.kept hb2 (Nat.le_refl _))
        obtain ⟨bw, hbw⟩ : ∃ bw, bWant fl xt = bw := ⟨_, rfl⟩
        have hsn := HSN.out
        rw [hbw] at hsn ⊢
        clear HV HFL HSN HOL hb2
        cases bw
        · rw [if_neg (by simp), List.append_nil] at hsn
          have HS2 := hd hsn
          clear hsn
          go_wp2_with fail
          go_roundw
          case rel => exact ⟨k + 1, by congr 1, by omega, by rw [HS2.out]; exact HOL2.out, B2⟩
          case measure => simp [leftB]; omega
        · rw [if_pos rfl] at hsn
          have HS2 := hd hsn
          clear hsn
          go_wp2_with (first | (at_builtin; refine wp_appT rfl _ _ rfl w.heap.size u5 M rfl HOL2.out (xt, xu) rfl (by omega) B2.size ?_; intro v6 w6 ho6 hb6))
          have HO6 := hd ho6
          clear ho6
          go_roundw
          case rel => exact ⟨k + 1, by congr 1, by omega, by rw [HS2.out]; exact HO6.out, B2.trans hb6⟩
          case measure => simp [leftB]; omega
end Go.Proofs.YtclicjokgfiegaaGreatDoor
