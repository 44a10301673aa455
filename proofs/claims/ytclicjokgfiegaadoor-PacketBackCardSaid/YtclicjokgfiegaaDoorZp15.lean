/- A bundle of texts (merged for the limit on files): ConPut2. -/
import Derived.Test.YtclicjokgfiegaaDoorZp7
import Derived.Test.YtclicjokgfiegaaDoorZp14
/- Who comes: what lays them, by the reference: the walk (printed by wip/gen/conput2.py). -/
namespace Go.Proofs.YtclicjokgfiegaaDoor
open Go.RowKit
set_option linter.unusedVariables false
set_option linter.unusedSimpArgs false

theorem cPut_of {c : Con} (h : cErr c = 0) {k : List UInt8 × Int} (hk : cS5 c = k) (h2 : k.2 ≠ 0) : cPutE c = k.2 := by
  rw [cPutE, if_neg (by rw [h]; decide), hk, if_pos h2]

set_option maxRecDepth 100000 in
set_option maxHeartbeats 8000000 in
theorem refConPut_c (c : Con) (w : World) (hs : c.sized 140737488351232) : Calls Tryd.prog 76 #[.agg c.cells.toArray] w (GivesB w (cPutB c) (cPutE c)) := by
  have hwr := refWrong_c c
  have hfl := refFlags_c c
  have hok := @cErr_ok c
  have hcon := ConAt.new w c
  have hL := cS_len c
  have hL0 : (cHead c).length = 10 := rfl
  obtain ⟨lv, cl, ke, cn, hw, tp, tx, q, rt, hu, us, hp, ps⟩ := c
  simp only [Con.cells, Con.sized] at *
  have HW := hd hwr; have HF := hd hfl; have HO := hd hok
  have HC := hd hcon
  clear hwr hfl hok hcon
  go_enter Tryd.func76, Tryd.ntmps76
  go_wp2_with fail
  refine (HW.out _).mono ?_
  rintro e w1 ⟨rfl, hb1⟩
  have hl1 : w.heap.size < w1.heap.size := by have := hb1.size; simp at this; omega
  have hb : Below w.heap.size w w1 := Below.up (by go_grown) hb1
  have hcon := (HC.out).keep hb1 (by simp)
  clear HC HW hb1
  by_cases he : cErr ⟨lv, cl, ke, cn, hw, tp, tx, q, rt, hu, us, hp, ps⟩ = 0
  rotate_left
  · have heb : (cErr ⟨lv, cl, ke, cn, hw, tp, tx, q, rt, hu, us, hp, ps⟩ != 0) = true := by simpa using he
    go_wp2_with fail
    go_ret2
    exact cPut_nil _ (by rw [cPutE, if_pos he]) he hb
  obtain ⟨rfl, ⟨k0, k1⟩, hq, -, hnw, -, -⟩ := HO.out he
  have hnw' : hw = false → q = 0 ∧ rt = false := fun h => ⟨(hnw h).2.2.1, (hnw h).2.2.2⟩
  clear HO hnw
  rw [he]
  have HEQ := hd he; clear he
  have hfr := cFlags_rng (c := ⟨4, cl, ke, cn, hw, tp, tx, q, rt, hu, us, hp, ps⟩) hq
  have hF : ∀ W, Calls Tryd.prog 129 #[.agg #[.int .i64 4, .bool cl, .int .i64 ke, .string cn, .bool hw, .string tp, .string tx, .int .i64 q, .bool rt, .bool hu, .string us, .bool hp, .string ps]] W fun e w' => e = .returned (.int .i64 (cFlags ⟨4, cl, ke, cn, hw, tp, tx, q, rt, hu, us, hp, ps⟩)) ∧ ∃ n, w' = (W.alloc (Obj.cells #[.int .i64 4, .bool cl, .int .i64 ke, .string cn, .bool hw, .string tp, .string tx, .int .i64 q, .bool rt, .bool hu, .string us, .bool hp, .string ps] 25)).drewN n := fun W => HF.out W hq hnw'
  clear HF hnw'
  have hsp : cHead ⟨4, cl, ke, cn, hw, tp, tx, q, rt, hu, us, hp, ps⟩ = [0, 4, 77, 81, 84, 84, 4, B8 (cFlags ⟨4, cl, ke, cn, hw, tp, tx, q, rt, hu, us, hp, ps⟩).toNat, B8 (ke.toNat / 256), B8 (ke.toNat % 256)] := rfl
  generalize cFlags ⟨4, cl, ke, cn, hw, tp, tx, q, rt, hu, us, hp, ps⟩ = F at *
  obtain ⟨f0, f1⟩ := hfr
  have hB4 : [Value.int .u8 0, .int .u8 4, .int .u8 77, .int .u8 81, .int .u8 84, .int .u8 84, .int .u8 4, .int .u8 F, .int .u8 (ke / 256), .int .u8 (ke % 256)] = (cHead ⟨4, cl, ke, cn, hw, tp, tx, q, rt, hu, us, hp, ps⟩).map byteV := by
    rw [hsp]
    simp only [List.map]
    rw [byteV_B8 (x := F) (by omega) (by omega), byteV_B8 (x := ke / 256) (by omega) (by omega), byteV_B8 (x := ke % 256) (by omega) (by omega)]
    rfl
  have HF := hd hF; have HB4 := hd hB4; clear hF hB4 hsp
  have hcc := hcon
  simp only [ConAt] at hcc
  obtain ⟨d1, d2, d3, d4, d5, d6, d7, d8, d9, d10, d11, d12, d13, _⟩ := hcc
  go_wp2_with fail
  clear d1 d2 d3 d4 d5 d6 d7 d8 d9 d10 d11 d12 d13
  have e0 : IntKind.u8.wrap F = F := u8_in (by omega)
  have e1 : ke.tdiv 256 = ke / 256 := Int.tdiv_eq_ediv_of_nonneg (by omega)
  have e2 : IntKind.i64.wrap (ke / 256) = ke / 256 := IntWalk.i64_in _ (by omega)
  have e3 : IntKind.u8.wrap (ke / 256) = ke / 256 := u8_in (by omega)
  have e4 : ke.tmod 256 = ke % 256 := Int.tmod_eq_emod_of_nonneg (by omega)
  have e5 : IntKind.u8.wrap (ke % 256) = ke % 256 := u8_in (by omega)
  refine wp_region_M (fun w' => ConAt w' w.heap.size ⟨4, cl, ke, cn, hw, tp, tx, q, rt, hu, us, hp, ps⟩) 12 [(0, false), (3, false), (4, false), (5, false), (6, false), (7, false), (8, false), (9, false), (10, false), (1, true), (2, false), (11, true), (12, true)] (by kernel_rfl) (by kernel_rfl) (fun _ _ _ _ h => h) hcon ?_
  iterate 9
    apply wpM_still (by rfl) (by rfl)
    · intro W hd
      simp only [ConAt] at hd
      obtain ⟨d1, d2, d3, d4, d5, d6, d7, d8, d9, d10, d11, d12, d13, _⟩ := hd
      go_simp
      rfl
    go_simp
  apply wpM_move (by rfl) (by rfl)
  intro K hK
  go_simp
  refine (HF.out _).mono ?_
  rintro r w' ⟨rfl, n, rfl⟩
  have hb3 : Below w1.heap.size w1 ((w1.drew.alloc (Obj.cells #[.int .i64 4, .bool cl, .int .i64 ke, .string cn, .bool hw, .string tp, .string tx, .int .i64 q, .bool rt, .bool hu, .string us, .bool hp, .string ps] 25)).drewN n) := below_drewN ((Below.refl _ w1).drew.alloc (Nat.le_refl _) _) n
  generalize ((w1.drew.alloc (Obj.cells #[.int .i64 4, .bool cl, .int .i64 ke, .string cn, .bool hw, .string tp, .string tx, .int .i64 q, .bool rt, .bool hu, .string us, .bool hp, .string ps] 25)).drewN n) = w3 at *
  replace hcon := hcon.keep hb3 hl1
  replace hb := Below.up hb hb3
  have hl3 : w.heap.size < w3.heap.size := Nat.lt_of_lt_of_le hl1 hb3.size
  clear hb3
  simp only []
  refine hK _ _ (fun _ => hcon) ?_
  clear hK K
  iterate 1
    apply wpM_still (by rfl) (by rfl)
    · intro W hd
      simp only [ConAt] at hd
      obtain ⟨d1, d2, d3, d4, d5, d6, d7, d8, d9, d10, d11, d12, d13, _⟩ := hd
      go_simp
      rfl
    go_simp
  apply wpM_move (by rfl) (by rfl)
  intro K hK
  go_simp
  have ho := owned_lit w3.heap.size w3 (cHead ⟨4, cl, ke, cn, hw, tp, tx, q, rt, hu, us, hp, ps⟩) w3.heap.size rfl (Nat.le_refl _) (by unfold maxLen; omega) _ HB4.out 10 rfl
  have hb4 : Below w3.heap.size w3 (w3.alloc (Obj.cells #[.int .u8 0, .int .u8 4, .int .u8 77, .int .u8 81, .int .u8 84, .int .u8 84, .int .u8 4, .int .u8 F, .int .u8 (ke / 256), .int .u8 (ke % 256)] 5)) := (Below.refl _ _).alloc (Nat.le_refl _) _
  replace hcon := hcon.keep hb4 hl3
  replace hb := Below.up hb hb4
  refine hK _ _ (fun _ => hcon) ?_
  clear hK K
  apply wpM_move (by rfl) (by rfl)
  intro K hK
  go_simp
  refine hK _ _ (fun h => absurd h (by decide)) ?_
  clear hK K
  refine wpM_nil ?_
  generalize hB : w3.heap.size = B at *
  have hz : B ≤ (w3.alloc (Obj.cells #[.int .u8 0, .int .u8 4, .int .u8 77, .int .u8 81, .int .u8 84, .int .u8 84, .int .u8 4, .int .u8 F, .int .u8 (ke / 256), .int .u8 (ke % 256)] 5)).heap.size := by simp; omega
  replace ho : Owned B (w3.alloc (Obj.cells #[.int .u8 0, .int .u8 4, .int .u8 77, .int .u8 81, .int .u8 84, .int .u8 84, .int .u8 4, .int .u8 F, .int .u8 (ke / 256), .int .u8 (ke % 256)] 5)) (.slice (some ⟨B, 0, none⟩) 10 10) (cHead ⟨4, cl, ke, cn, hw, tp, tx, q, rt, hu, us, hp, ps⟩) := ho
  generalize (w3.alloc (Obj.cells #[.int .u8 0, .int .u8 4, .int .u8 77, .int .u8 81, .int .u8 84, .int .u8 84, .int .u8 4, .int .u8 F, .int .u8 (ke / 256), .int .u8 (ke % 256)] 5)) = w5 at *
  clear hb4 e0 e1 e2 e3 e4 e5 HB4 HF hB hl1

  generalize hL0q : cHead ⟨4, cl, ke, cn, hw, tp, tx, q, rt, hu, us, hp, ps⟩ = L0 at *
  obtain ⟨s1, s2, s3, s4, s5⟩ := hs
  clear hL
  have hk0 : (cHead ⟨4, cl, ke, cn, hw, tp, tx, q, rt, hu, us, hp, ps⟩, (0 : Int)) = (L0, 0) := by rw [hL0q]
  have HK0 := hd hk0; clear hk0 hL0q
  have hk := HK0; clear HK0
  cases hw
  · cases hu
    · cases hp
      · skip
        have hcc := hcon
        simp only [ConAt] at hcc; obtain ⟨d1, d2, d3, d4, d5, d6, d7, d8, d9, d10, d11, d12, d13, _⟩ := hcc
        go_wp2_with fail
        clear d1 d2 d3 d4 d5 d6 d7 d8 d9 d10 d11 d12 d13
        refine (refPut_c cn _ (by omega)).mono ?_
        rintro r wa ⟨va, rfl, hoa, hba⟩
        replace hcon := hcon.keep hba (by omega)
        replace hb := Below.up hb hba
        replace ho := ho.kept hba (Nat.le_refl _)
        have hza := hba.size
        obtain ⟨aa, ka, rfl⟩ := Owns.slice hoa
        clear hba
        by_cases hE : uPutE (sB cn) = 0
        rotate_left
        · have hEb : (uPutE (sB cn) != 0) = true := by simpa using hE
          have hk' : cS1 ⟨4, cl, ke, cn, false, tp, tx, q, rt, false, us, false, ps⟩ = (L0, uPutE (sB cn)) := by rw [cS1, hk.out, cStep_err _ _ hE]
          have hsp := cPut_of HEQ.out ((cS1_bad (by rw [hk']; exact hE)).trans hk') hE
          have Hsp := hd hsp; clear hsp hk'
          go_wp2_with fail
          go_ret2
          exact cPut_nil _ Hsp.out hE hb
        have hbl := @uPutB_len (sB cn)
        have hk' : cS1 ⟨4, cl, ke, cn, false, tp, tx, q, rt, false, us, false, ps⟩ = (L0 ++ uPutB (sB cn), 0) := by rw [cS1, hk.out, hE, cStep_ok]
        rw [hE]
        replace hk := hd hk'; clear hk' hE
        replace hk : Hd (cS5 ⟨4, cl, ke, cn, false, tp, tx, q, rt, false, us, false, ps⟩ = (L0 ++ uPutB (sB cn), 0)) := by rw [cS5, cStep_no, cS4, cStep_no, cS3, cStep_no, cS2, cStep_no]; exact hk
        by_cases hlen : 4096 < (L0 ++ uPutB (sB cn)).length
        · have hsp : cPutE ⟨4, cl, ke, cn, false, tp, tx, q, rt, false, us, false, ps⟩ = 3 := by rw [cPutE, if_neg (by rw [HEQ.out]; decide), hk.out, if_neg (by simp), if_pos hlen]
          have Hsp := hd hsp; clear hsp
          have hlI : (4096 : Int) < ((L0 ++ uPutB (sB cn)).length : Int) := by omega
          go_wp2_with (at_builtin; refine wp_appB rfl _ _ rfl B _ _ rfl ho _ _ rfl hoa.bs (by omega) (by omega) ?_; intro vb wb hob hbb; obtain ⟨ab, kb, rfl⟩ := Owns.slice hob; clear ho hoa; generalize hLq : L0 ++ uPutB (sB cn) = L1 at *; clear hLq; have hcc := hcon.keep hbb hl3; simp only [ConAt] at hcc; obtain ⟨d1, d2, d3, d4, d5, d6, d7, d8, d9, d10, d11, d12, d13, _⟩ := hcc)
          go_ret2
          exact cPut_nil 3 Hsp.out (by decide) (hb.trans (hbb.mono (Nat.le_of_lt hl3)))
        have hsp : cPutE ⟨4, cl, ke, cn, false, tp, tx, q, rt, false, us, false, ps⟩ = 0 := by rw [cPutE, if_neg (by rw [HEQ.out]; decide), hk.out, if_neg (by simp), if_neg hlen]
        have hspB : cPutB ⟨4, cl, ke, cn, false, tp, tx, q, rt, false, us, false, ps⟩ = L0 ++ uPutB (sB cn) := by rw [cPutB, if_pos hsp, hk.out]
        have Hsp := hd hsp; have HspB := hd hspB; clear hsp hspB
        have hlI : ((L0 ++ uPutB (sB cn)).length : Int) ≤ 4096 := by omega
        go_wp2_with (at_builtin; refine wp_appB rfl _ _ rfl B _ _ rfl ho _ _ rfl hoa.bs (by omega) (by omega) ?_; intro vb wb hob hbb; obtain ⟨ab, kb, rfl⟩ := Owns.slice hob; clear ho hoa; generalize hLq : L0 ++ uPutB (sB cn) = L1 at *; clear hLq; have hcc := hcon.keep hbb hl3; simp only [ConAt] at hcc; obtain ⟨d1, d2, d3, d4, d5, d6, d7, d8, d9, d10, d11, d12, d13, _⟩ := hcc)
        go_ret2
        rw [Hsp.out, HspB.out]
        exact ⟨_, rfl, hob.le (by omega), hb.trans (hbb.mono (Nat.le_of_lt hl3))⟩
      · skip
        have hcc := hcon
        simp only [ConAt] at hcc; obtain ⟨d1, d2, d3, d4, d5, d6, d7, d8, d9, d10, d11, d12, d13, _⟩ := hcc
        go_wp2_with fail
        clear d1 d2 d3 d4 d5 d6 d7 d8 d9 d10 d11 d12 d13
        refine (refPut_c cn _ (by omega)).mono ?_
        rintro r wa ⟨va, rfl, hoa, hba⟩
        replace hcon := hcon.keep hba (by omega)
        replace hb := Below.up hb hba
        replace ho := ho.kept hba (Nat.le_refl _)
        have hza := hba.size
        obtain ⟨aa, ka, rfl⟩ := Owns.slice hoa
        clear hba
        by_cases hE : uPutE (sB cn) = 0
        rotate_left
        · have hEb : (uPutE (sB cn) != 0) = true := by simpa using hE
          have hk' : cS1 ⟨4, cl, ke, cn, false, tp, tx, q, rt, false, us, true, ps⟩ = (L0, uPutE (sB cn)) := by rw [cS1, hk.out, cStep_err _ _ hE]
          have hsp := cPut_of HEQ.out ((cS1_bad (by rw [hk']; exact hE)).trans hk') hE
          have Hsp := hd hsp; clear hsp hk'
          go_wp2_with fail
          go_ret2
          exact cPut_nil _ Hsp.out hE hb
        have hbl := @uPutB_len (sB cn)
        have hk' : cS1 ⟨4, cl, ke, cn, false, tp, tx, q, rt, false, us, true, ps⟩ = (L0 ++ uPutB (sB cn), 0) := by rw [cS1, hk.out, hE, cStep_ok]
        rw [hE]
        replace hk := hd hk'; clear hk' hE
        go_wp2_with (at_builtin; refine wp_appB rfl _ _ rfl B _ _ rfl ho _ _ rfl hoa.bs (by omega) (by omega) ?_; intro vb wb hob hbb; obtain ⟨ab, kb, rfl⟩ := Owns.slice hob; clear ho hoa; have hln : (L0 ++ uPutB (sB cn)).length ≤ L0.length + 65537 := (by rw [List.length_append]; omega); generalize hLq : L0 ++ uPutB (sB cn) = L1 at *; clear hLq; have hcc := hcon.keep hbb hl3; simp only [ConAt] at hcc; obtain ⟨d1, d2, d3, d4, d5, d6, d7, d8, d9, d10, d11, d12, d13, _⟩ := hcc)
        replace hcon := hcon.keep hbb hl3
        replace hb := hb.trans (hbb.mono (Nat.le_of_lt hl3))
        replace hz := Nat.le_trans (Nat.le_trans hz hza) hbb.size
        clear hbb hza hbl d1 d2 d3 d4 d5 d6 d7 d8 d9 d10 d11 d12 d13
        have ho := hob; clear hob
        replace hk : Hd (cS4 ⟨4, cl, ke, cn, false, tp, tx, q, rt, false, us, true, ps⟩ = (L1, 0)) := by rw [cS4, cStep_no, cS3, cStep_no, cS2, cStep_no]; exact hk
        refine (refPutRaw_c ps _ (by omega)).mono ?_
        rintro r wa ⟨va, rfl, hoa, hba⟩
        replace hcon := hcon.keep hba (by omega)
        replace hb := Below.up hb hba
        replace ho := ho.kept hba (Nat.le_refl _)
        have hza := hba.size
        obtain ⟨aa, ka, rfl⟩ := Owns.slice hoa
        clear hba
        by_cases hE : uPutRawE (sB ps) = 0
        rotate_left
        · have hEb : (uPutRawE (sB ps) != 0) = true := by simpa using hE
          have hk' : cS5 ⟨4, cl, ke, cn, false, tp, tx, q, rt, false, us, true, ps⟩ = (L1, uPutRawE (sB ps)) := by rw [cS5, hk.out, cStep_err _ _ hE]
          have hsp := cPut_of HEQ.out (hk') hE
          have Hsp := hd hsp; clear hsp hk'
          go_wp2_with fail
          go_ret2
          exact cPut_nil _ Hsp.out hE hb
        have hbl := uPutRawB_len2 (sB ps)
        have hk' : cS5 ⟨4, cl, ke, cn, false, tp, tx, q, rt, false, us, true, ps⟩ = (L1 ++ uPutRawB (sB ps), 0) := by rw [cS5, hk.out, hE, cStep_ok]
        rw [hE]
        replace hk := hd hk'; clear hk' hE
        by_cases hlen : 4096 < (L1 ++ uPutRawB (sB ps)).length
        · have hsp : cPutE ⟨4, cl, ke, cn, false, tp, tx, q, rt, false, us, true, ps⟩ = 3 := by rw [cPutE, if_neg (by rw [HEQ.out]; decide), hk.out, if_neg (by simp), if_pos hlen]
          have Hsp := hd hsp; clear hsp
          have hlI : (4096 : Int) < ((L1 ++ uPutRawB (sB ps)).length : Int) := by omega
          go_wp2_with (at_builtin; refine wp_appB rfl _ _ rfl B _ _ rfl ho _ _ rfl hoa.bs (by omega) (by omega) ?_; intro vb wb hob hbb; obtain ⟨ab, kb, rfl⟩ := Owns.slice hob; clear ho hoa; generalize hLq : L1 ++ uPutRawB (sB ps) = L5 at *; clear hLq; have hcc := hcon.keep hbb hl3; simp only [ConAt] at hcc; obtain ⟨d1, d2, d3, d4, d5, d6, d7, d8, d9, d10, d11, d12, d13, _⟩ := hcc)
          go_ret2
          exact cPut_nil 3 Hsp.out (by decide) (hb.trans (hbb.mono (Nat.le_of_lt hl3)))
        have hsp : cPutE ⟨4, cl, ke, cn, false, tp, tx, q, rt, false, us, true, ps⟩ = 0 := by rw [cPutE, if_neg (by rw [HEQ.out]; decide), hk.out, if_neg (by simp), if_neg hlen]
        have hspB : cPutB ⟨4, cl, ke, cn, false, tp, tx, q, rt, false, us, true, ps⟩ = L1 ++ uPutRawB (sB ps) := by rw [cPutB, if_pos hsp, hk.out]
        have Hsp := hd hsp; have HspB := hd hspB; clear hsp hspB
        have hlI : ((L1 ++ uPutRawB (sB ps)).length : Int) ≤ 4096 := by omega
        go_wp2_with (at_builtin; refine wp_appB rfl _ _ rfl B _ _ rfl ho _ _ rfl hoa.bs (by omega) (by omega) ?_; intro vb wb hob hbb; obtain ⟨ab, kb, rfl⟩ := Owns.slice hob; clear ho hoa; generalize hLq : L1 ++ uPutRawB (sB ps) = L5 at *; clear hLq; have hcc := hcon.keep hbb hl3; simp only [ConAt] at hcc; obtain ⟨d1, d2, d3, d4, d5, d6, d7, d8, d9, d10, d11, d12, d13, _⟩ := hcc)
        go_ret2
        rw [Hsp.out, HspB.out]
        exact ⟨_, rfl, hob.le (by omega), hb.trans (hbb.mono (Nat.le_of_lt hl3))⟩
    · cases hp
      · skip
        have hcc := hcon
        simp only [ConAt] at hcc; obtain ⟨d1, d2, d3, d4, d5, d6, d7, d8, d9, d10, d11, d12, d13, _⟩ := hcc
        go_wp2_with fail
        clear d1 d2 d3 d4 d5 d6 d7 d8 d9 d10 d11 d12 d13
        refine (refPut_c cn _ (by omega)).mono ?_
        rintro r wa ⟨va, rfl, hoa, hba⟩
        replace hcon := hcon.keep hba (by omega)
        replace hb := Below.up hb hba
        replace ho := ho.kept hba (Nat.le_refl _)
        have hza := hba.size
        obtain ⟨aa, ka, rfl⟩ := Owns.slice hoa
        clear hba
        by_cases hE : uPutE (sB cn) = 0
        rotate_left
        · have hEb : (uPutE (sB cn) != 0) = true := by simpa using hE
          have hk' : cS1 ⟨4, cl, ke, cn, false, tp, tx, q, rt, true, us, false, ps⟩ = (L0, uPutE (sB cn)) := by rw [cS1, hk.out, cStep_err _ _ hE]
          have hsp := cPut_of HEQ.out ((cS1_bad (by rw [hk']; exact hE)).trans hk') hE
          have Hsp := hd hsp; clear hsp hk'
          go_wp2_with fail
          go_ret2
          exact cPut_nil _ Hsp.out hE hb
        have hbl := @uPutB_len (sB cn)
        have hk' : cS1 ⟨4, cl, ke, cn, false, tp, tx, q, rt, true, us, false, ps⟩ = (L0 ++ uPutB (sB cn), 0) := by rw [cS1, hk.out, hE, cStep_ok]
        rw [hE]
        replace hk := hd hk'; clear hk' hE
        go_wp2_with (at_builtin; refine wp_appB rfl _ _ rfl B _ _ rfl ho _ _ rfl hoa.bs (by omega) (by omega) ?_; intro vb wb hob hbb; obtain ⟨ab, kb, rfl⟩ := Owns.slice hob; clear ho hoa; have hln : (L0 ++ uPutB (sB cn)).length ≤ L0.length + 65537 := (by rw [List.length_append]; omega); generalize hLq : L0 ++ uPutB (sB cn) = L1 at *; clear hLq; have hcc := hcon.keep hbb hl3; simp only [ConAt] at hcc; obtain ⟨d1, d2, d3, d4, d5, d6, d7, d8, d9, d10, d11, d12, d13, _⟩ := hcc)
        replace hcon := hcon.keep hbb hl3
        replace hb := hb.trans (hbb.mono (Nat.le_of_lt hl3))
        replace hz := Nat.le_trans (Nat.le_trans hz hza) hbb.size
        clear hbb hza hbl d1 d2 d3 d4 d5 d6 d7 d8 d9 d10 d11 d12 d13
        have ho := hob; clear hob
        replace hk : Hd (cS3 ⟨4, cl, ke, cn, false, tp, tx, q, rt, true, us, false, ps⟩ = (L1, 0)) := by rw [cS3, cStep_no, cS2, cStep_no]; exact hk
        refine (refPut_c us _ (by omega)).mono ?_
        rintro r wa ⟨va, rfl, hoa, hba⟩
        replace hcon := hcon.keep hba (by omega)
        replace hb := Below.up hb hba
        replace ho := ho.kept hba (Nat.le_refl _)
        have hza := hba.size
        obtain ⟨aa, ka, rfl⟩ := Owns.slice hoa
        clear hba
        by_cases hE : uPutE (sB us) = 0
        rotate_left
        · have hEb : (uPutE (sB us) != 0) = true := by simpa using hE
          have hk' : cS4 ⟨4, cl, ke, cn, false, tp, tx, q, rt, true, us, false, ps⟩ = (L1, uPutE (sB us)) := by rw [cS4, hk.out, cStep_err _ _ hE]
          have hsp := cPut_of HEQ.out ((cS4_bad (by rw [hk']; exact hE)).trans hk') hE
          have Hsp := hd hsp; clear hsp hk'
          go_wp2_with fail
          go_ret2
          exact cPut_nil _ Hsp.out hE hb
        have hbl := @uPutB_len (sB us)
        have hk' : cS4 ⟨4, cl, ke, cn, false, tp, tx, q, rt, true, us, false, ps⟩ = (L1 ++ uPutB (sB us), 0) := by rw [cS4, hk.out, hE, cStep_ok]
        rw [hE]
        replace hk := hd hk'; clear hk' hE
        replace hk : Hd (cS5 ⟨4, cl, ke, cn, false, tp, tx, q, rt, true, us, false, ps⟩ = (L1 ++ uPutB (sB us), 0)) := by rw [cS5, cStep_no]; exact hk
        by_cases hlen : 4096 < (L1 ++ uPutB (sB us)).length
        · have hsp : cPutE ⟨4, cl, ke, cn, false, tp, tx, q, rt, true, us, false, ps⟩ = 3 := by rw [cPutE, if_neg (by rw [HEQ.out]; decide), hk.out, if_neg (by simp), if_pos hlen]
          have Hsp := hd hsp; clear hsp
          have hlI : (4096 : Int) < ((L1 ++ uPutB (sB us)).length : Int) := by omega
          go_wp2_with (at_builtin; refine wp_appB rfl _ _ rfl B _ _ rfl ho _ _ rfl hoa.bs (by omega) (by omega) ?_; intro vb wb hob hbb; obtain ⟨ab, kb, rfl⟩ := Owns.slice hob; clear ho hoa; generalize hLq : L1 ++ uPutB (sB us) = L4 at *; clear hLq; have hcc := hcon.keep hbb hl3; simp only [ConAt] at hcc; obtain ⟨d1, d2, d3, d4, d5, d6, d7, d8, d9, d10, d11, d12, d13, _⟩ := hcc)
          go_ret2
          exact cPut_nil 3 Hsp.out (by decide) (hb.trans (hbb.mono (Nat.le_of_lt hl3)))
        have hsp : cPutE ⟨4, cl, ke, cn, false, tp, tx, q, rt, true, us, false, ps⟩ = 0 := by rw [cPutE, if_neg (by rw [HEQ.out]; decide), hk.out, if_neg (by simp), if_neg hlen]
        have hspB : cPutB ⟨4, cl, ke, cn, false, tp, tx, q, rt, true, us, false, ps⟩ = L1 ++ uPutB (sB us) := by rw [cPutB, if_pos hsp, hk.out]
        have Hsp := hd hsp; have HspB := hd hspB; clear hsp hspB
        have hlI : ((L1 ++ uPutB (sB us)).length : Int) ≤ 4096 := by omega
        go_wp2_with (at_builtin; refine wp_appB rfl _ _ rfl B _ _ rfl ho _ _ rfl hoa.bs (by omega) (by omega) ?_; intro vb wb hob hbb; obtain ⟨ab, kb, rfl⟩ := Owns.slice hob; clear ho hoa; generalize hLq : L1 ++ uPutB (sB us) = L4 at *; clear hLq; have hcc := hcon.keep hbb hl3; simp only [ConAt] at hcc; obtain ⟨d1, d2, d3, d4, d5, d6, d7, d8, d9, d10, d11, d12, d13, _⟩ := hcc)
        go_ret2
        rw [Hsp.out, HspB.out]
        exact ⟨_, rfl, hob.le (by omega), hb.trans (hbb.mono (Nat.le_of_lt hl3))⟩
      · skip
        have hcc := hcon
        simp only [ConAt] at hcc; obtain ⟨d1, d2, d3, d4, d5, d6, d7, d8, d9, d10, d11, d12, d13, _⟩ := hcc
        go_wp2_with fail
        clear d1 d2 d3 d4 d5 d6 d7 d8 d9 d10 d11 d12 d13
        refine (refPut_c cn _ (by omega)).mono ?_
        rintro r wa ⟨va, rfl, hoa, hba⟩
        replace hcon := hcon.keep hba (by omega)
        replace hb := Below.up hb hba
        replace ho := ho.kept hba (Nat.le_refl _)
        have hza := hba.size
        obtain ⟨aa, ka, rfl⟩ := Owns.slice hoa
        clear hba
        by_cases hE : uPutE (sB cn) = 0
        rotate_left
        · have hEb : (uPutE (sB cn) != 0) = true := by simpa using hE
          have hk' : cS1 ⟨4, cl, ke, cn, false, tp, tx, q, rt, true, us, true, ps⟩ = (L0, uPutE (sB cn)) := by rw [cS1, hk.out, cStep_err _ _ hE]
          have hsp := cPut_of HEQ.out ((cS1_bad (by rw [hk']; exact hE)).trans hk') hE
          have Hsp := hd hsp; clear hsp hk'
          go_wp2_with fail
          go_ret2
          exact cPut_nil _ Hsp.out hE hb
        have hbl := @uPutB_len (sB cn)
        have hk' : cS1 ⟨4, cl, ke, cn, false, tp, tx, q, rt, true, us, true, ps⟩ = (L0 ++ uPutB (sB cn), 0) := by rw [cS1, hk.out, hE, cStep_ok]
        rw [hE]
        replace hk := hd hk'; clear hk' hE
        go_wp2_with (at_builtin; refine wp_appB rfl _ _ rfl B _ _ rfl ho _ _ rfl hoa.bs (by omega) (by omega) ?_; intro vb wb hob hbb; obtain ⟨ab, kb, rfl⟩ := Owns.slice hob; clear ho hoa; have hln : (L0 ++ uPutB (sB cn)).length ≤ L0.length + 65537 := (by rw [List.length_append]; omega); generalize hLq : L0 ++ uPutB (sB cn) = L1 at *; clear hLq; have hcc := hcon.keep hbb hl3; simp only [ConAt] at hcc; obtain ⟨d1, d2, d3, d4, d5, d6, d7, d8, d9, d10, d11, d12, d13, _⟩ := hcc)
        replace hcon := hcon.keep hbb hl3
        replace hb := hb.trans (hbb.mono (Nat.le_of_lt hl3))
        replace hz := Nat.le_trans (Nat.le_trans hz hza) hbb.size
        clear hbb hza hbl d1 d2 d3 d4 d5 d6 d7 d8 d9 d10 d11 d12 d13
        have ho := hob; clear hob
        replace hk : Hd (cS3 ⟨4, cl, ke, cn, false, tp, tx, q, rt, true, us, true, ps⟩ = (L1, 0)) := by rw [cS3, cStep_no, cS2, cStep_no]; exact hk
        refine (refPut_c us _ (by omega)).mono ?_
        rintro r wa ⟨va, rfl, hoa, hba⟩
        replace hcon := hcon.keep hba (by omega)
        replace hb := Below.up hb hba
        replace ho := ho.kept hba (Nat.le_refl _)
        have hza := hba.size
        obtain ⟨aa, ka, rfl⟩ := Owns.slice hoa
        clear hba
        by_cases hE : uPutE (sB us) = 0
        rotate_left
        · have hEb : (uPutE (sB us) != 0) = true := by simpa using hE
          have hk' : cS4 ⟨4, cl, ke, cn, false, tp, tx, q, rt, true, us, true, ps⟩ = (L1, uPutE (sB us)) := by rw [cS4, hk.out, cStep_err _ _ hE]
          have hsp := cPut_of HEQ.out ((cS4_bad (by rw [hk']; exact hE)).trans hk') hE
          have Hsp := hd hsp; clear hsp hk'
          go_wp2_with fail
          go_ret2
          exact cPut_nil _ Hsp.out hE hb
        have hbl := @uPutB_len (sB us)
        have hk' : cS4 ⟨4, cl, ke, cn, false, tp, tx, q, rt, true, us, true, ps⟩ = (L1 ++ uPutB (sB us), 0) := by rw [cS4, hk.out, hE, cStep_ok]
        rw [hE]
        replace hk := hd hk'; clear hk' hE
        go_wp2_with (at_builtin; refine wp_appB rfl _ _ rfl B _ _ rfl ho _ _ rfl hoa.bs (by omega) (by omega) ?_; intro vb wb hob hbb; obtain ⟨ab, kb, rfl⟩ := Owns.slice hob; clear ho hoa; have hln : (L1 ++ uPutB (sB us)).length ≤ L1.length + 65537 := (by rw [List.length_append]; omega); generalize hLq : L1 ++ uPutB (sB us) = L4 at *; clear hLq; have hcc := hcon.keep hbb hl3; simp only [ConAt] at hcc; obtain ⟨d1, d2, d3, d4, d5, d6, d7, d8, d9, d10, d11, d12, d13, _⟩ := hcc)
        replace hcon := hcon.keep hbb hl3
        replace hb := hb.trans (hbb.mono (Nat.le_of_lt hl3))
        replace hz := Nat.le_trans (Nat.le_trans hz hza) hbb.size
        clear hbb hza hbl d1 d2 d3 d4 d5 d6 d7 d8 d9 d10 d11 d12 d13
        have ho := hob; clear hob
        refine (refPutRaw_c ps _ (by omega)).mono ?_
        rintro r wa ⟨va, rfl, hoa, hba⟩
        replace hcon := hcon.keep hba (by omega)
        replace hb := Below.up hb hba
        replace ho := ho.kept hba (Nat.le_refl _)
        have hza := hba.size
        obtain ⟨aa, ka, rfl⟩ := Owns.slice hoa
        clear hba
        by_cases hE : uPutRawE (sB ps) = 0
        rotate_left
        · have hEb : (uPutRawE (sB ps) != 0) = true := by simpa using hE
          have hk' : cS5 ⟨4, cl, ke, cn, false, tp, tx, q, rt, true, us, true, ps⟩ = (L4, uPutRawE (sB ps)) := by rw [cS5, hk.out, cStep_err _ _ hE]
          have hsp := cPut_of HEQ.out (hk') hE
          have Hsp := hd hsp; clear hsp hk'
          go_wp2_with fail
          go_ret2
          exact cPut_nil _ Hsp.out hE hb
        have hbl := uPutRawB_len2 (sB ps)
        have hk' : cS5 ⟨4, cl, ke, cn, false, tp, tx, q, rt, true, us, true, ps⟩ = (L4 ++ uPutRawB (sB ps), 0) := by rw [cS5, hk.out, hE, cStep_ok]
        rw [hE]
        replace hk := hd hk'; clear hk' hE
        by_cases hlen : 4096 < (L4 ++ uPutRawB (sB ps)).length
        · have hsp : cPutE ⟨4, cl, ke, cn, false, tp, tx, q, rt, true, us, true, ps⟩ = 3 := by rw [cPutE, if_neg (by rw [HEQ.out]; decide), hk.out, if_neg (by simp), if_pos hlen]
          have Hsp := hd hsp; clear hsp
          have hlI : (4096 : Int) < ((L4 ++ uPutRawB (sB ps)).length : Int) := by omega
          go_wp2_with (at_builtin; refine wp_appB rfl _ _ rfl B _ _ rfl ho _ _ rfl hoa.bs (by omega) (by omega) ?_; intro vb wb hob hbb; obtain ⟨ab, kb, rfl⟩ := Owns.slice hob; clear ho hoa; generalize hLq : L4 ++ uPutRawB (sB ps) = L5 at *; clear hLq; have hcc := hcon.keep hbb hl3; simp only [ConAt] at hcc; obtain ⟨d1, d2, d3, d4, d5, d6, d7, d8, d9, d10, d11, d12, d13, _⟩ := hcc)
          go_ret2
          exact cPut_nil 3 Hsp.out (by decide) (hb.trans (hbb.mono (Nat.le_of_lt hl3)))
        have hsp : cPutE ⟨4, cl, ke, cn, false, tp, tx, q, rt, true, us, true, ps⟩ = 0 := by rw [cPutE, if_neg (by rw [HEQ.out]; decide), hk.out, if_neg (by simp), if_neg hlen]
        have hspB : cPutB ⟨4, cl, ke, cn, false, tp, tx, q, rt, true, us, true, ps⟩ = L4 ++ uPutRawB (sB ps) := by rw [cPutB, if_pos hsp, hk.out]
        have Hsp := hd hsp; have HspB := hd hspB; clear hsp hspB
        have hlI : ((L4 ++ uPutRawB (sB ps)).length : Int) ≤ 4096 := by omega
        go_wp2_with (at_builtin; refine wp_appB rfl _ _ rfl B _ _ rfl ho _ _ rfl hoa.bs (by omega) (by omega) ?_; intro vb wb hob hbb; obtain ⟨ab, kb, rfl⟩ := Owns.slice hob; clear ho hoa; generalize hLq : L4 ++ uPutRawB (sB ps) = L5 at *; clear hLq; have hcc := hcon.keep hbb hl3; simp only [ConAt] at hcc; obtain ⟨d1, d2, d3, d4, d5, d6, d7, d8, d9, d10, d11, d12, d13, _⟩ := hcc)
        go_ret2
        rw [Hsp.out, HspB.out]
        exact ⟨_, rfl, hob.le (by omega), hb.trans (hbb.mono (Nat.le_of_lt hl3))⟩
  · cases hu
    · cases hp
      · skip
        have hcc := hcon
        simp only [ConAt] at hcc; obtain ⟨d1, d2, d3, d4, d5, d6, d7, d8, d9, d10, d11, d12, d13, _⟩ := hcc
        go_wp2_with fail
        clear d1 d2 d3 d4 d5 d6 d7 d8 d9 d10 d11 d12 d13
        refine (refPut_c cn _ (by omega)).mono ?_
        rintro r wa ⟨va, rfl, hoa, hba⟩
        replace hcon := hcon.keep hba (by omega)
        replace hb := Below.up hb hba
        replace ho := ho.kept hba (Nat.le_refl _)
        have hza := hba.size
        obtain ⟨aa, ka, rfl⟩ := Owns.slice hoa
        clear hba
        by_cases hE : uPutE (sB cn) = 0
        rotate_left
        · have hEb : (uPutE (sB cn) != 0) = true := by simpa using hE
          have hk' : cS1 ⟨4, cl, ke, cn, true, tp, tx, q, rt, false, us, false, ps⟩ = (L0, uPutE (sB cn)) := by rw [cS1, hk.out, cStep_err _ _ hE]
          have hsp := cPut_of HEQ.out ((cS1_bad (by rw [hk']; exact hE)).trans hk') hE
          have Hsp := hd hsp; clear hsp hk'
          go_wp2_with fail
          go_ret2
          exact cPut_nil _ Hsp.out hE hb
        have hbl := @uPutB_len (sB cn)
        have hk' : cS1 ⟨4, cl, ke, cn, true, tp, tx, q, rt, false, us, false, ps⟩ = (L0 ++ uPutB (sB cn), 0) := by rw [cS1, hk.out, hE, cStep_ok]
        rw [hE]
        replace hk := hd hk'; clear hk' hE
        go_wp2_with (at_builtin; refine wp_appB rfl _ _ rfl B _ _ rfl ho _ _ rfl hoa.bs (by omega) (by omega) ?_; intro vb wb hob hbb; obtain ⟨ab, kb, rfl⟩ := Owns.slice hob; clear ho hoa; have hln : (L0 ++ uPutB (sB cn)).length ≤ L0.length + 65537 := (by rw [List.length_append]; omega); generalize hLq : L0 ++ uPutB (sB cn) = L1 at *; clear hLq; have hcc := hcon.keep hbb hl3; simp only [ConAt] at hcc; obtain ⟨d1, d2, d3, d4, d5, d6, d7, d8, d9, d10, d11, d12, d13, _⟩ := hcc)
        replace hcon := hcon.keep hbb hl3
        replace hb := hb.trans (hbb.mono (Nat.le_of_lt hl3))
        replace hz := Nat.le_trans (Nat.le_trans hz hza) hbb.size
        clear hbb hza hbl d1 d2 d3 d4 d5 d6 d7 d8 d9 d10 d11 d12 d13
        have ho := hob; clear hob
        refine (refPut_c tp _ (by omega)).mono ?_
        rintro r wa ⟨va, rfl, hoa, hba⟩
        replace hcon := hcon.keep hba (by omega)
        replace hb := Below.up hb hba
        replace ho := ho.kept hba (Nat.le_refl _)
        have hza := hba.size
        obtain ⟨aa, ka, rfl⟩ := Owns.slice hoa
        clear hba
        by_cases hE : uPutE (sB tp) = 0
        rotate_left
        · have hEb : (uPutE (sB tp) != 0) = true := by simpa using hE
          have hk' : cS2 ⟨4, cl, ke, cn, true, tp, tx, q, rt, false, us, false, ps⟩ = (L1, uPutE (sB tp)) := by rw [cS2, hk.out, cStep_err _ _ hE]
          have hsp := cPut_of HEQ.out ((cS2_bad (by rw [hk']; exact hE)).trans hk') hE
          have Hsp := hd hsp; clear hsp hk'
          go_wp2_with fail
          go_ret2
          exact cPut_nil _ Hsp.out hE hb
        have hbl := @uPutB_len (sB tp)
        have hk' : cS2 ⟨4, cl, ke, cn, true, tp, tx, q, rt, false, us, false, ps⟩ = (L1 ++ uPutB (sB tp), 0) := by rw [cS2, hk.out, hE, cStep_ok]
        rw [hE]
        replace hk := hd hk'; clear hk' hE
        go_wp2_with (at_builtin; refine wp_appB rfl _ _ rfl B _ _ rfl ho _ _ rfl hoa.bs (by omega) (by omega) ?_; intro vb wb hob hbb; obtain ⟨ab, kb, rfl⟩ := Owns.slice hob; clear ho hoa; have hln : (L1 ++ uPutB (sB tp)).length ≤ L1.length + 65537 := (by rw [List.length_append]; omega); generalize hLq : L1 ++ uPutB (sB tp) = L2 at *; clear hLq; have hcc := hcon.keep hbb hl3; simp only [ConAt] at hcc; obtain ⟨d1, d2, d3, d4, d5, d6, d7, d8, d9, d10, d11, d12, d13, _⟩ := hcc)
        replace hcon := hcon.keep hbb hl3
        replace hb := hb.trans (hbb.mono (Nat.le_of_lt hl3))
        replace hz := Nat.le_trans (Nat.le_trans hz hza) hbb.size
        clear hbb hza hbl d1 d2 d3 d4 d5 d6 d7 d8 d9 d10 d11 d12 d13
        have ho := hob; clear hob
        refine (refPutRaw_c tx _ (by omega)).mono ?_
        rintro r wa ⟨va, rfl, hoa, hba⟩
        replace hcon := hcon.keep hba (by omega)
        replace hb := Below.up hb hba
        replace ho := ho.kept hba (Nat.le_refl _)
        have hza := hba.size
        obtain ⟨aa, ka, rfl⟩ := Owns.slice hoa
        clear hba
        by_cases hE : uPutRawE (sB tx) = 0
        rotate_left
        · have hEb : (uPutRawE (sB tx) != 0) = true := by simpa using hE
          have hk' : cS3 ⟨4, cl, ke, cn, true, tp, tx, q, rt, false, us, false, ps⟩ = (L2, uPutRawE (sB tx)) := by rw [cS3, hk.out, cStep_err _ _ hE]
          have hsp := cPut_of HEQ.out ((cS3_bad (by rw [hk']; exact hE)).trans hk') hE
          have Hsp := hd hsp; clear hsp hk'
          go_wp2_with fail
          go_ret2
          exact cPut_nil _ Hsp.out hE hb
        have hbl := uPutRawB_len2 (sB tx)
        have hk' : cS3 ⟨4, cl, ke, cn, true, tp, tx, q, rt, false, us, false, ps⟩ = (L2 ++ uPutRawB (sB tx), 0) := by rw [cS3, hk.out, hE, cStep_ok]
        rw [hE]
        replace hk := hd hk'; clear hk' hE
        replace hk : Hd (cS5 ⟨4, cl, ke, cn, true, tp, tx, q, rt, false, us, false, ps⟩ = (L2 ++ uPutRawB (sB tx), 0)) := by rw [cS5, cStep_no, cS4, cStep_no]; exact hk
        by_cases hlen : 4096 < (L2 ++ uPutRawB (sB tx)).length
        · have hsp : cPutE ⟨4, cl, ke, cn, true, tp, tx, q, rt, false, us, false, ps⟩ = 3 := by rw [cPutE, if_neg (by rw [HEQ.out]; decide), hk.out, if_neg (by simp), if_pos hlen]
          have Hsp := hd hsp; clear hsp
          have hlI : (4096 : Int) < ((L2 ++ uPutRawB (sB tx)).length : Int) := by omega
          go_wp2_with (at_builtin; refine wp_appB rfl _ _ rfl B _ _ rfl ho _ _ rfl hoa.bs (by omega) (by omega) ?_; intro vb wb hob hbb; obtain ⟨ab, kb, rfl⟩ := Owns.slice hob; clear ho hoa; generalize hLq : L2 ++ uPutRawB (sB tx) = L3 at *; clear hLq; have hcc := hcon.keep hbb hl3; simp only [ConAt] at hcc; obtain ⟨d1, d2, d3, d4, d5, d6, d7, d8, d9, d10, d11, d12, d13, _⟩ := hcc)
          go_ret2
          exact cPut_nil 3 Hsp.out (by decide) (hb.trans (hbb.mono (Nat.le_of_lt hl3)))
        have hsp : cPutE ⟨4, cl, ke, cn, true, tp, tx, q, rt, false, us, false, ps⟩ = 0 := by rw [cPutE, if_neg (by rw [HEQ.out]; decide), hk.out, if_neg (by simp), if_neg hlen]
        have hspB : cPutB ⟨4, cl, ke, cn, true, tp, tx, q, rt, false, us, false, ps⟩ = L2 ++ uPutRawB (sB tx) := by rw [cPutB, if_pos hsp, hk.out]
        have Hsp := hd hsp; have HspB := hd hspB; clear hsp hspB
        have hlI : ((L2 ++ uPutRawB (sB tx)).length : Int) ≤ 4096 := by omega
        go_wp2_with (at_builtin; refine wp_appB rfl _ _ rfl B _ _ rfl ho _ _ rfl hoa.bs (by omega) (by omega) ?_; intro vb wb hob hbb; obtain ⟨ab, kb, rfl⟩ := Owns.slice hob; clear ho hoa; generalize hLq : L2 ++ uPutRawB (sB tx) = L3 at *; clear hLq; have hcc := hcon.keep hbb hl3; simp only [ConAt] at hcc; obtain ⟨d1, d2, d3, d4, d5, d6, d7, d8, d9, d10, d11, d12, d13, _⟩ := hcc)
        go_ret2
        rw [Hsp.out, HspB.out]
        exact ⟨_, rfl, hob.le (by omega), hb.trans (hbb.mono (Nat.le_of_lt hl3))⟩
      · skip
        have hcc := hcon
        simp only [ConAt] at hcc; obtain ⟨d1, d2, d3, d4, d5, d6, d7, d8, d9, d10, d11, d12, d13, _⟩ := hcc
        go_wp2_with fail
        clear d1 d2 d3 d4 d5 d6 d7 d8 d9 d10 d11 d12 d13
        refine (refPut_c cn _ (by omega)).mono ?_
        rintro r wa ⟨va, rfl, hoa, hba⟩
        replace hcon := hcon.keep hba (by omega)
        replace hb := Below.up hb hba
        replace ho := ho.kept hba (Nat.le_refl _)
        have hza := hba.size
        obtain ⟨aa, ka, rfl⟩ := Owns.slice hoa
        clear hba
        by_cases hE : uPutE (sB cn) = 0
        rotate_left
        · have hEb : (uPutE (sB cn) != 0) = true := by simpa using hE
          have hk' : cS1 ⟨4, cl, ke, cn, true, tp, tx, q, rt, false, us, true, ps⟩ = (L0, uPutE (sB cn)) := by rw [cS1, hk.out, cStep_err _ _ hE]
          have hsp := cPut_of HEQ.out ((cS1_bad (by rw [hk']; exact hE)).trans hk') hE
          have Hsp := hd hsp; clear hsp hk'
          go_wp2_with fail
          go_ret2
          exact cPut_nil _ Hsp.out hE hb
        have hbl := @uPutB_len (sB cn)
        have hk' : cS1 ⟨4, cl, ke, cn, true, tp, tx, q, rt, false, us, true, ps⟩ = (L0 ++ uPutB (sB cn), 0) := by rw [cS1, hk.out, hE, cStep_ok]
        rw [hE]
        replace hk := hd hk'; clear hk' hE
        go_wp2_with (at_builtin; refine wp_appB rfl _ _ rfl B _ _ rfl ho _ _ rfl hoa.bs (by omega) (by omega) ?_; intro vb wb hob hbb; obtain ⟨ab, kb, rfl⟩ := Owns.slice hob; clear ho hoa; have hln : (L0 ++ uPutB (sB cn)).length ≤ L0.length + 65537 := (by rw [List.length_append]; omega); generalize hLq : L0 ++ uPutB (sB cn) = L1 at *; clear hLq; have hcc := hcon.keep hbb hl3; simp only [ConAt] at hcc; obtain ⟨d1, d2, d3, d4, d5, d6, d7, d8, d9, d10, d11, d12, d13, _⟩ := hcc)
        replace hcon := hcon.keep hbb hl3
        replace hb := hb.trans (hbb.mono (Nat.le_of_lt hl3))
        replace hz := Nat.le_trans (Nat.le_trans hz hza) hbb.size
        clear hbb hza hbl d1 d2 d3 d4 d5 d6 d7 d8 d9 d10 d11 d12 d13
        have ho := hob; clear hob
        refine (refPut_c tp _ (by omega)).mono ?_
        rintro r wa ⟨va, rfl, hoa, hba⟩
        replace hcon := hcon.keep hba (by omega)
        replace hb := Below.up hb hba
        replace ho := ho.kept hba (Nat.le_refl _)
        have hza := hba.size
        obtain ⟨aa, ka, rfl⟩ := Owns.slice hoa
        clear hba
        by_cases hE : uPutE (sB tp) = 0
        rotate_left
        · have hEb : (uPutE (sB tp) != 0) = true := by simpa using hE
          have hk' : cS2 ⟨4, cl, ke, cn, true, tp, tx, q, rt, false, us, true, ps⟩ = (L1, uPutE (sB tp)) := by rw [cS2, hk.out, cStep_err _ _ hE]
          have hsp := cPut_of HEQ.out ((cS2_bad (by rw [hk']; exact hE)).trans hk') hE
          have Hsp := hd hsp; clear hsp hk'
          go_wp2_with fail
          go_ret2
          exact cPut_nil _ Hsp.out hE hb
        have hbl := @uPutB_len (sB tp)
        have hk' : cS2 ⟨4, cl, ke, cn, true, tp, tx, q, rt, false, us, true, ps⟩ = (L1 ++ uPutB (sB tp), 0) := by rw [cS2, hk.out, hE, cStep_ok]
        rw [hE]
        replace hk := hd hk'; clear hk' hE
        go_wp2_with (at_builtin; refine wp_appB rfl _ _ rfl B _ _ rfl ho _ _ rfl hoa.bs (by omega) (by omega) ?_; intro vb wb hob hbb; obtain ⟨ab, kb, rfl⟩ := Owns.slice hob; clear ho hoa; have hln : (L1 ++ uPutB (sB tp)).length ≤ L1.length + 65537 := (by rw [List.length_append]; omega); generalize hLq : L1 ++ uPutB (sB tp) = L2 at *; clear hLq; have hcc := hcon.keep hbb hl3; simp only [ConAt] at hcc; obtain ⟨d1, d2, d3, d4, d5, d6, d7, d8, d9, d10, d11, d12, d13, _⟩ := hcc)
        replace hcon := hcon.keep hbb hl3
        replace hb := hb.trans (hbb.mono (Nat.le_of_lt hl3))
        replace hz := Nat.le_trans (Nat.le_trans hz hza) hbb.size
        clear hbb hza hbl d1 d2 d3 d4 d5 d6 d7 d8 d9 d10 d11 d12 d13
        have ho := hob; clear hob
        refine (refPutRaw_c tx _ (by omega)).mono ?_
        rintro r wa ⟨va, rfl, hoa, hba⟩
        replace hcon := hcon.keep hba (by omega)
        replace hb := Below.up hb hba
        replace ho := ho.kept hba (Nat.le_refl _)
        have hza := hba.size
        obtain ⟨aa, ka, rfl⟩ := Owns.slice hoa
        clear hba
        by_cases hE : uPutRawE (sB tx) = 0
        rotate_left
        · have hEb : (uPutRawE (sB tx) != 0) = true := by simpa using hE
          have hk' : cS3 ⟨4, cl, ke, cn, true, tp, tx, q, rt, false, us, true, ps⟩ = (L2, uPutRawE (sB tx)) := by rw [cS3, hk.out, cStep_err _ _ hE]
          have hsp := cPut_of HEQ.out ((cS3_bad (by rw [hk']; exact hE)).trans hk') hE
          have Hsp := hd hsp; clear hsp hk'
          go_wp2_with fail
          go_ret2
          exact cPut_nil _ Hsp.out hE hb
        have hbl := uPutRawB_len2 (sB tx)
        have hk' : cS3 ⟨4, cl, ke, cn, true, tp, tx, q, rt, false, us, true, ps⟩ = (L2 ++ uPutRawB (sB tx), 0) := by rw [cS3, hk.out, hE, cStep_ok]
        rw [hE]
        replace hk := hd hk'; clear hk' hE
        go_wp2_with (at_builtin; refine wp_appB rfl _ _ rfl B _ _ rfl ho _ _ rfl hoa.bs (by omega) (by omega) ?_; intro vb wb hob hbb; obtain ⟨ab, kb, rfl⟩ := Owns.slice hob; clear ho hoa; have hln : (L2 ++ uPutRawB (sB tx)).length ≤ L2.length + 65537 := (by rw [List.length_append]; omega); generalize hLq : L2 ++ uPutRawB (sB tx) = L3 at *; clear hLq; have hcc := hcon.keep hbb hl3; simp only [ConAt] at hcc; obtain ⟨d1, d2, d3, d4, d5, d6, d7, d8, d9, d10, d11, d12, d13, _⟩ := hcc)
        replace hcon := hcon.keep hbb hl3
        replace hb := hb.trans (hbb.mono (Nat.le_of_lt hl3))
        replace hz := Nat.le_trans (Nat.le_trans hz hza) hbb.size
        clear hbb hza hbl d1 d2 d3 d4 d5 d6 d7 d8 d9 d10 d11 d12 d13
        have ho := hob; clear hob
        replace hk : Hd (cS4 ⟨4, cl, ke, cn, true, tp, tx, q, rt, false, us, true, ps⟩ = (L3, 0)) := by rw [cS4, cStep_no]; exact hk
        refine (refPutRaw_c ps _ (by omega)).mono ?_
        rintro r wa ⟨va, rfl, hoa, hba⟩
        replace hcon := hcon.keep hba (by omega)
        replace hb := Below.up hb hba
        replace ho := ho.kept hba (Nat.le_refl _)
        have hza := hba.size
        obtain ⟨aa, ka, rfl⟩ := Owns.slice hoa
        clear hba
        by_cases hE : uPutRawE (sB ps) = 0
        rotate_left
        · have hEb : (uPutRawE (sB ps) != 0) = true := by simpa using hE
          have hk' : cS5 ⟨4, cl, ke, cn, true, tp, tx, q, rt, false, us, true, ps⟩ = (L3, uPutRawE (sB ps)) := by rw [cS5, hk.out, cStep_err _ _ hE]
          have hsp := cPut_of HEQ.out (hk') hE
          have Hsp := hd hsp; clear hsp hk'
          go_wp2_with fail
          go_ret2
          exact cPut_nil _ Hsp.out hE hb
        have hbl := uPutRawB_len2 (sB ps)
        have hk' : cS5 ⟨4, cl, ke, cn, true, tp, tx, q, rt, false, us, true, ps⟩ = (L3 ++ uPutRawB (sB ps), 0) := by rw [cS5, hk.out, hE, cStep_ok]
        rw [hE]
        replace hk := hd hk'; clear hk' hE
        by_cases hlen : 4096 < (L3 ++ uPutRawB (sB ps)).length
        · have hsp : cPutE ⟨4, cl, ke, cn, true, tp, tx, q, rt, false, us, true, ps⟩ = 3 := by rw [cPutE, if_neg (by rw [HEQ.out]; decide), hk.out, if_neg (by simp), if_pos hlen]
          have Hsp := hd hsp; clear hsp
          have hlI : (4096 : Int) < ((L3 ++ uPutRawB (sB ps)).length : Int) := by omega
          go_wp2_with (at_builtin; refine wp_appB rfl _ _ rfl B _ _ rfl ho _ _ rfl hoa.bs (by omega) (by omega) ?_; intro vb wb hob hbb; obtain ⟨ab, kb, rfl⟩ := Owns.slice hob; clear ho hoa; generalize hLq : L3 ++ uPutRawB (sB ps) = L5 at *; clear hLq; have hcc := hcon.keep hbb hl3; simp only [ConAt] at hcc; obtain ⟨d1, d2, d3, d4, d5, d6, d7, d8, d9, d10, d11, d12, d13, _⟩ := hcc)
          go_ret2
          exact cPut_nil 3 Hsp.out (by decide) (hb.trans (hbb.mono (Nat.le_of_lt hl3)))
        have hsp : cPutE ⟨4, cl, ke, cn, true, tp, tx, q, rt, false, us, true, ps⟩ = 0 := by rw [cPutE, if_neg (by rw [HEQ.out]; decide), hk.out, if_neg (by simp), if_neg hlen]
        have hspB : cPutB ⟨4, cl, ke, cn, true, tp, tx, q, rt, false, us, true, ps⟩ = L3 ++ uPutRawB (sB ps) := by rw [cPutB, if_pos hsp, hk.out]
        have Hsp := hd hsp; have HspB := hd hspB; clear hsp hspB
        have hlI : ((L3 ++ uPutRawB (sB ps)).length : Int) ≤ 4096 := by omega
        go_wp2_with (at_builtin; refine wp_appB rfl _ _ rfl B _ _ rfl ho _ _ rfl hoa.bs (by omega) (by omega) ?_; intro vb wb hob hbb; obtain ⟨ab, kb, rfl⟩ := Owns.slice hob; clear ho hoa; generalize hLq : L3 ++ uPutRawB (sB ps) = L5 at *; clear hLq; have hcc := hcon.keep hbb hl3; simp only [ConAt] at hcc; obtain ⟨d1, d2, d3, d4, d5, d6, d7, d8, d9, d10, d11, d12, d13, _⟩ := hcc)
        go_ret2
        rw [Hsp.out, HspB.out]
        exact ⟨_, rfl, hob.le (by omega), hb.trans (hbb.mono (Nat.le_of_lt hl3))⟩
    · cases hp
      · skip
        have hcc := hcon
        simp only [ConAt] at hcc; obtain ⟨d1, d2, d3, d4, d5, d6, d7, d8, d9, d10, d11, d12, d13, _⟩ := hcc
        go_wp2_with fail
        clear d1 d2 d3 d4 d5 d6 d7 d8 d9 d10 d11 d12 d13
        refine (refPut_c cn _ (by omega)).mono ?_
        rintro r wa ⟨va, rfl, hoa, hba⟩
        replace hcon := hcon.keep hba (by omega)
        replace hb := Below.up hb hba
        replace ho := ho.kept hba (Nat.le_refl _)
        have hza := hba.size
        obtain ⟨aa, ka, rfl⟩ := Owns.slice hoa
        clear hba
        by_cases hE : uPutE (sB cn) = 0
        rotate_left
        · have hEb : (uPutE (sB cn) != 0) = true := by simpa using hE
          have hk' : cS1 ⟨4, cl, ke, cn, true, tp, tx, q, rt, true, us, false, ps⟩ = (L0, uPutE (sB cn)) := by rw [cS1, hk.out, cStep_err _ _ hE]
          have hsp := cPut_of HEQ.out ((cS1_bad (by rw [hk']; exact hE)).trans hk') hE
          have Hsp := hd hsp; clear hsp hk'
          go_wp2_with fail
          go_ret2
          exact cPut_nil _ Hsp.out hE hb
        have hbl := @uPutB_len (sB cn)
        have hk' : cS1 ⟨4, cl, ke, cn, true, tp, tx, q, rt, true, us, false, ps⟩ = (L0 ++ uPutB (sB cn), 0) := by rw [cS1, hk.out, hE, cStep_ok]
        rw [hE]
        replace hk := hd hk'; clear hk' hE
        go_wp2_with (at_builtin; refine wp_appB rfl _ _ rfl B _ _ rfl ho _ _ rfl hoa.bs (by omega) (by omega) ?_; intro vb wb hob hbb; obtain ⟨ab, kb, rfl⟩ := Owns.slice hob; clear ho hoa; have hln : (L0 ++ uPutB (sB cn)).length ≤ L0.length + 65537 := (by rw [List.length_append]; omega); generalize hLq : L0 ++ uPutB (sB cn) = L1 at *; clear hLq; have hcc := hcon.keep hbb hl3; simp only [ConAt] at hcc; obtain ⟨d1, d2, d3, d4, d5, d6, d7, d8, d9, d10, d11, d12, d13, _⟩ := hcc)
        replace hcon := hcon.keep hbb hl3
        replace hb := hb.trans (hbb.mono (Nat.le_of_lt hl3))
        replace hz := Nat.le_trans (Nat.le_trans hz hza) hbb.size
        clear hbb hza hbl d1 d2 d3 d4 d5 d6 d7 d8 d9 d10 d11 d12 d13
        have ho := hob; clear hob
        refine (refPut_c tp _ (by omega)).mono ?_
        rintro r wa ⟨va, rfl, hoa, hba⟩
        replace hcon := hcon.keep hba (by omega)
        replace hb := Below.up hb hba
        replace ho := ho.kept hba (Nat.le_refl _)
        have hza := hba.size
        obtain ⟨aa, ka, rfl⟩ := Owns.slice hoa
        clear hba
        by_cases hE : uPutE (sB tp) = 0
        rotate_left
        · have hEb : (uPutE (sB tp) != 0) = true := by simpa using hE
          have hk' : cS2 ⟨4, cl, ke, cn, true, tp, tx, q, rt, true, us, false, ps⟩ = (L1, uPutE (sB tp)) := by rw [cS2, hk.out, cStep_err _ _ hE]
          have hsp := cPut_of HEQ.out ((cS2_bad (by rw [hk']; exact hE)).trans hk') hE
          have Hsp := hd hsp; clear hsp hk'
          go_wp2_with fail
          go_ret2
          exact cPut_nil _ Hsp.out hE hb
        have hbl := @uPutB_len (sB tp)
        have hk' : cS2 ⟨4, cl, ke, cn, true, tp, tx, q, rt, true, us, false, ps⟩ = (L1 ++ uPutB (sB tp), 0) := by rw [cS2, hk.out, hE, cStep_ok]
        rw [hE]
        replace hk := hd hk'; clear hk' hE
        go_wp2_with (at_builtin; refine wp_appB rfl _ _ rfl B _ _ rfl ho _ _ rfl hoa.bs (by omega) (by omega) ?_; intro vb wb hob hbb; obtain ⟨ab, kb, rfl⟩ := Owns.slice hob; clear ho hoa; have hln : (L1 ++ uPutB (sB tp)).length ≤ L1.length + 65537 := (by rw [List.length_append]; omega); generalize hLq : L1 ++ uPutB (sB tp) = L2 at *; clear hLq; have hcc := hcon.keep hbb hl3; simp only [ConAt] at hcc; obtain ⟨d1, d2, d3, d4, d5, d6, d7, d8, d9, d10, d11, d12, d13, _⟩ := hcc)
        replace hcon := hcon.keep hbb hl3
        replace hb := hb.trans (hbb.mono (Nat.le_of_lt hl3))
        replace hz := Nat.le_trans (Nat.le_trans hz hza) hbb.size
        clear hbb hza hbl d1 d2 d3 d4 d5 d6 d7 d8 d9 d10 d11 d12 d13
        have ho := hob; clear hob
        refine (refPutRaw_c tx _ (by omega)).mono ?_
        rintro r wa ⟨va, rfl, hoa, hba⟩
        replace hcon := hcon.keep hba (by omega)
        replace hb := Below.up hb hba
        replace ho := ho.kept hba (Nat.le_refl _)
        have hza := hba.size
        obtain ⟨aa, ka, rfl⟩ := Owns.slice hoa
        clear hba
        by_cases hE : uPutRawE (sB tx) = 0
        rotate_left
        · have hEb : (uPutRawE (sB tx) != 0) = true := by simpa using hE
          have hk' : cS3 ⟨4, cl, ke, cn, true, tp, tx, q, rt, true, us, false, ps⟩ = (L2, uPutRawE (sB tx)) := by rw [cS3, hk.out, cStep_err _ _ hE]
          have hsp := cPut_of HEQ.out ((cS3_bad (by rw [hk']; exact hE)).trans hk') hE
          have Hsp := hd hsp; clear hsp hk'
          go_wp2_with fail
          go_ret2
          exact cPut_nil _ Hsp.out hE hb
        have hbl := uPutRawB_len2 (sB tx)
        have hk' : cS3 ⟨4, cl, ke, cn, true, tp, tx, q, rt, true, us, false, ps⟩ = (L2 ++ uPutRawB (sB tx), 0) := by rw [cS3, hk.out, hE, cStep_ok]
        rw [hE]
        replace hk := hd hk'; clear hk' hE
        go_wp2_with (at_builtin; refine wp_appB rfl _ _ rfl B _ _ rfl ho _ _ rfl hoa.bs (by omega) (by omega) ?_; intro vb wb hob hbb; obtain ⟨ab, kb, rfl⟩ := Owns.slice hob; clear ho hoa; have hln : (L2 ++ uPutRawB (sB tx)).length ≤ L2.length + 65537 := (by rw [List.length_append]; omega); generalize hLq : L2 ++ uPutRawB (sB tx) = L3 at *; clear hLq; have hcc := hcon.keep hbb hl3; simp only [ConAt] at hcc; obtain ⟨d1, d2, d3, d4, d5, d6, d7, d8, d9, d10, d11, d12, d13, _⟩ := hcc)
        replace hcon := hcon.keep hbb hl3
        replace hb := hb.trans (hbb.mono (Nat.le_of_lt hl3))
        replace hz := Nat.le_trans (Nat.le_trans hz hza) hbb.size
        clear hbb hza hbl d1 d2 d3 d4 d5 d6 d7 d8 d9 d10 d11 d12 d13
        have ho := hob; clear hob
        refine (refPut_c us _ (by omega)).mono ?_
        rintro r wa ⟨va, rfl, hoa, hba⟩
        replace hcon := hcon.keep hba (by omega)
        replace hb := Below.up hb hba
        replace ho := ho.kept hba (Nat.le_refl _)
        have hza := hba.size
        obtain ⟨aa, ka, rfl⟩ := Owns.slice hoa
        clear hba
        by_cases hE : uPutE (sB us) = 0
        rotate_left
        · have hEb : (uPutE (sB us) != 0) = true := by simpa using hE
          have hk' : cS4 ⟨4, cl, ke, cn, true, tp, tx, q, rt, true, us, false, ps⟩ = (L3, uPutE (sB us)) := by rw [cS4, hk.out, cStep_err _ _ hE]
          have hsp := cPut_of HEQ.out ((cS4_bad (by rw [hk']; exact hE)).trans hk') hE
          have Hsp := hd hsp; clear hsp hk'
          go_wp2_with fail
          go_ret2
          exact cPut_nil _ Hsp.out hE hb
        have hbl := @uPutB_len (sB us)
        have hk' : cS4 ⟨4, cl, ke, cn, true, tp, tx, q, rt, true, us, false, ps⟩ = (L3 ++ uPutB (sB us), 0) := by rw [cS4, hk.out, hE, cStep_ok]
        rw [hE]
        replace hk := hd hk'; clear hk' hE
        replace hk : Hd (cS5 ⟨4, cl, ke, cn, true, tp, tx, q, rt, true, us, false, ps⟩ = (L3 ++ uPutB (sB us), 0)) := by rw [cS5, cStep_no]; exact hk
        by_cases hlen : 4096 < (L3 ++ uPutB (sB us)).length
        · have hsp : cPutE ⟨4, cl, ke, cn, true, tp, tx, q, rt, true, us, false, ps⟩ = 3 := by rw [cPutE, if_neg (by rw [HEQ.out]; decide), hk.out, if_neg (by simp), if_pos hlen]
          have Hsp := hd hsp; clear hsp
          have hlI : (4096 : Int) < ((L3 ++ uPutB (sB us)).length : Int) := by omega
          go_wp2_with (at_builtin; refine wp_appB rfl _ _ rfl B _ _ rfl ho _ _ rfl hoa.bs (by omega) (by omega) ?_; intro vb wb hob hbb; obtain ⟨ab, kb, rfl⟩ := Owns.slice hob; clear ho hoa; generalize hLq : L3 ++ uPutB (sB us) = L4 at *; clear hLq; have hcc := hcon.keep hbb hl3; simp only [ConAt] at hcc; obtain ⟨d1, d2, d3, d4, d5, d6, d7, d8, d9, d10, d11, d12, d13, _⟩ := hcc)
          go_ret2
          exact cPut_nil 3 Hsp.out (by decide) (hb.trans (hbb.mono (Nat.le_of_lt hl3)))
        have hsp : cPutE ⟨4, cl, ke, cn, true, tp, tx, q, rt, true, us, false, ps⟩ = 0 := by rw [cPutE, if_neg (by rw [HEQ.out]; decide), hk.out, if_neg (by simp), if_neg hlen]
        have hspB : cPutB ⟨4, cl, ke, cn, true, tp, tx, q, rt, true, us, false, ps⟩ = L3 ++ uPutB (sB us) := by rw [cPutB, if_pos hsp, hk.out]
        have Hsp := hd hsp; have HspB := hd hspB; clear hsp hspB
        have hlI : ((L3 ++ uPutB (sB us)).length : Int) ≤ 4096 := by omega
        go_wp2_with (at_builtin; refine wp_appB rfl _ _ rfl B _ _ rfl ho _ _ rfl hoa.bs (by omega) (by omega) ?_; intro vb wb hob hbb; obtain ⟨ab, kb, rfl⟩ := Owns.slice hob; clear ho hoa; generalize hLq : L3 ++ uPutB (sB us) = L4 at *; clear hLq; have hcc := hcon.keep hbb hl3; simp only [ConAt] at hcc; obtain ⟨d1, d2, d3, d4, d5, d6, d7, d8, d9, d10, d11, d12, d13, _⟩ := hcc)
        go_ret2
        rw [Hsp.out, HspB.out]
        exact ⟨_, rfl, hob.le (by omega), hb.trans (hbb.mono (Nat.le_of_lt hl3))⟩
      · skip
        have hcc := hcon
        simp only [ConAt] at hcc; obtain ⟨d1, d2, d3, d4, d5, d6, d7, d8, d9, d10, d11, d12, d13, _⟩ := hcc
        go_wp2_with fail
        clear d1 d2 d3 d4 d5 d6 d7 d8 d9 d10 d11 d12 d13
        refine (refPut_c cn _ (by omega)).mono ?_
        rintro r wa ⟨va, rfl, hoa, hba⟩
        replace hcon := hcon.keep hba (by omega)
        replace hb := Below.up hb hba
        replace ho := ho.kept hba (Nat.le_refl _)
        have hza := hba.size
        obtain ⟨aa, ka, rfl⟩ := Owns.slice hoa
        clear hba
        by_cases hE : uPutE (sB cn) = 0
        rotate_left
        · have hEb : (uPutE (sB cn) != 0) = true := by simpa using hE
          have hk' : cS1 ⟨4, cl, ke, cn, true, tp, tx, q, rt, true, us, true, ps⟩ = (L0, uPutE (sB cn)) := by rw [cS1, hk.out, cStep_err _ _ hE]
          have hsp := cPut_of HEQ.out ((cS1_bad (by rw [hk']; exact hE)).trans hk') hE
          have Hsp := hd hsp; clear hsp hk'
          go_wp2_with fail
          go_ret2
          exact cPut_nil _ Hsp.out hE hb
        have hbl := @uPutB_len (sB cn)
        have hk' : cS1 ⟨4, cl, ke, cn, true, tp, tx, q, rt, true, us, true, ps⟩ = (L0 ++ uPutB (sB cn), 0) := by rw [cS1, hk.out, hE, cStep_ok]
        rw [hE]
        replace hk := hd hk'; clear hk' hE
        go_wp2_with (at_builtin; refine wp_appB rfl _ _ rfl B _ _ rfl ho _ _ rfl hoa.bs (by omega) (by omega) ?_; intro vb wb hob hbb; obtain ⟨ab, kb, rfl⟩ := Owns.slice hob; clear ho hoa; have hln : (L0 ++ uPutB (sB cn)).length ≤ L0.length + 65537 := (by rw [List.length_append]; omega); generalize hLq : L0 ++ uPutB (sB cn) = L1 at *; clear hLq; have hcc := hcon.keep hbb hl3; simp only [ConAt] at hcc; obtain ⟨d1, d2, d3, d4, d5, d6, d7, d8, d9, d10, d11, d12, d13, _⟩ := hcc)
        replace hcon := hcon.keep hbb hl3
        replace hb := hb.trans (hbb.mono (Nat.le_of_lt hl3))
        replace hz := Nat.le_trans (Nat.le_trans hz hza) hbb.size
        clear hbb hza hbl d1 d2 d3 d4 d5 d6 d7 d8 d9 d10 d11 d12 d13
        have ho := hob; clear hob
        refine (refPut_c tp _ (by omega)).mono ?_
        rintro r wa ⟨va, rfl, hoa, hba⟩
        replace hcon := hcon.keep hba (by omega)
        replace hb := Below.up hb hba
        replace ho := ho.kept hba (Nat.le_refl _)
        have hza := hba.size
        obtain ⟨aa, ka, rfl⟩ := Owns.slice hoa
        clear hba
        by_cases hE : uPutE (sB tp) = 0
        rotate_left
        · have hEb : (uPutE (sB tp) != 0) = true := by simpa using hE
          have hk' : cS2 ⟨4, cl, ke, cn, true, tp, tx, q, rt, true, us, true, ps⟩ = (L1, uPutE (sB tp)) := by rw [cS2, hk.out, cStep_err _ _ hE]
          have hsp := cPut_of HEQ.out ((cS2_bad (by rw [hk']; exact hE)).trans hk') hE
          have Hsp := hd hsp; clear hsp hk'
          go_wp2_with fail
          go_ret2
          exact cPut_nil _ Hsp.out hE hb
        have hbl := @uPutB_len (sB tp)
        have hk' : cS2 ⟨4, cl, ke, cn, true, tp, tx, q, rt, true, us, true, ps⟩ = (L1 ++ uPutB (sB tp), 0) := by rw [cS2, hk.out, hE, cStep_ok]
        rw [hE]
        replace hk := hd hk'; clear hk' hE
        go_wp2_with (at_builtin; refine wp_appB rfl _ _ rfl B _ _ rfl ho _ _ rfl hoa.bs (by omega) (by omega) ?_; intro vb wb hob hbb; obtain ⟨ab, kb, rfl⟩ := Owns.slice hob; clear ho hoa; have hln : (L1 ++ uPutB (sB tp)).length ≤ L1.length + 65537 := (by rw [List.length_append]; omega); generalize hLq : L1 ++ uPutB (sB tp) = L2 at *; clear hLq; have hcc := hcon.keep hbb hl3; simp only [ConAt] at hcc; obtain ⟨d1, d2, d3, d4, d5, d6, d7, d8, d9, d10, d11, d12, d13, _⟩ := hcc)
        replace hcon := hcon.keep hbb hl3
        replace hb := hb.trans (hbb.mono (Nat.le_of_lt hl3))
        replace hz := Nat.le_trans (Nat.le_trans hz hza) hbb.size
        clear hbb hza hbl d1 d2 d3 d4 d5 d6 d7 d8 d9 d10 d11 d12 d13
        have ho := hob; clear hob
        refine (refPutRaw_c tx _ (by omega)).mono ?_
        rintro r wa ⟨va, rfl, hoa, hba⟩
        replace hcon := hcon.keep hba (by omega)
        replace hb := Below.up hb hba
        replace ho := ho.kept hba (Nat.le_refl _)
        have hza := hba.size
        obtain ⟨aa, ka, rfl⟩ := Owns.slice hoa
        clear hba
        by_cases hE : uPutRawE (sB tx) = 0
        rotate_left
        · have hEb : (uPutRawE (sB tx) != 0) = true := by simpa using hE
          have hk' : cS3 ⟨4, cl, ke, cn, true, tp, tx, q, rt, true, us, true, ps⟩ = (L2, uPutRawE (sB tx)) := by rw [cS3, hk.out, cStep_err _ _ hE]
          have hsp := cPut_of HEQ.out ((cS3_bad (by rw [hk']; exact hE)).trans hk') hE
          have Hsp := hd hsp; clear hsp hk'
          go_wp2_with fail
          go_ret2
          exact cPut_nil _ Hsp.out hE hb
        have hbl := uPutRawB_len2 (sB tx)
        have hk' : cS3 ⟨4, cl, ke, cn, true, tp, tx, q, rt, true, us, true, ps⟩ = (L2 ++ uPutRawB (sB tx), 0) := by rw [cS3, hk.out, hE, cStep_ok]
        rw [hE]
        replace hk := hd hk'; clear hk' hE
        go_wp2_with (at_builtin; refine wp_appB rfl _ _ rfl B _ _ rfl ho _ _ rfl hoa.bs (by omega) (by omega) ?_; intro vb wb hob hbb; obtain ⟨ab, kb, rfl⟩ := Owns.slice hob; clear ho hoa; have hln : (L2 ++ uPutRawB (sB tx)).length ≤ L2.length + 65537 := (by rw [List.length_append]; omega); generalize hLq : L2 ++ uPutRawB (sB tx) = L3 at *; clear hLq; have hcc := hcon.keep hbb hl3; simp only [ConAt] at hcc; obtain ⟨d1, d2, d3, d4, d5, d6, d7, d8, d9, d10, d11, d12, d13, _⟩ := hcc)
        replace hcon := hcon.keep hbb hl3
        replace hb := hb.trans (hbb.mono (Nat.le_of_lt hl3))
        replace hz := Nat.le_trans (Nat.le_trans hz hza) hbb.size
        clear hbb hza hbl d1 d2 d3 d4 d5 d6 d7 d8 d9 d10 d11 d12 d13
        have ho := hob; clear hob
        refine (refPut_c us _ (by omega)).mono ?_
        rintro r wa ⟨va, rfl, hoa, hba⟩
        replace hcon := hcon.keep hba (by omega)
        replace hb := Below.up hb hba
        replace ho := ho.kept hba (Nat.le_refl _)
        have hza := hba.size
        obtain ⟨aa, ka, rfl⟩ := Owns.slice hoa
        clear hba
        by_cases hE : uPutE (sB us) = 0
        rotate_left
        · have hEb : (uPutE (sB us) != 0) = true := by simpa using hE
          have hk' : cS4 ⟨4, cl, ke, cn, true, tp, tx, q, rt, true, us, true, ps⟩ = (L3, uPutE (sB us)) := by rw [cS4, hk.out, cStep_err _ _ hE]
          have hsp := cPut_of HEQ.out ((cS4_bad (by rw [hk']; exact hE)).trans hk') hE
          have Hsp := hd hsp; clear hsp hk'
          go_wp2_with fail
          go_ret2
          exact cPut_nil _ Hsp.out hE hb
        have hbl := @uPutB_len (sB us)
        have hk' : cS4 ⟨4, cl, ke, cn, true, tp, tx, q, rt, true, us, true, ps⟩ = (L3 ++ uPutB (sB us), 0) := by rw [cS4, hk.out, hE, cStep_ok]
        rw [hE]
        replace hk := hd hk'; clear hk' hE
        go_wp2_with (at_builtin; refine wp_appB rfl _ _ rfl B _ _ rfl ho _ _ rfl hoa.bs (by omega) (by omega) ?_; intro vb wb hob hbb; obtain ⟨ab, kb, rfl⟩ := Owns.slice hob; clear ho hoa; have hln : (L3 ++ uPutB (sB us)).length ≤ L3.length + 65537 := (by rw [List.length_append]; omega); generalize hLq : L3 ++ uPutB (sB us) = L4 at *; clear hLq; have hcc := hcon.keep hbb hl3; simp only [ConAt] at hcc; obtain ⟨d1, d2, d3, d4, d5, d6, d7, d8, d9, d10, d11, d12, d13, _⟩ := hcc)
        replace hcon := hcon.keep hbb hl3
        replace hb := hb.trans (hbb.mono (Nat.le_of_lt hl3))
        replace hz := Nat.le_trans (Nat.le_trans hz hza) hbb.size
        clear hbb hza hbl d1 d2 d3 d4 d5 d6 d7 d8 d9 d10 d11 d12 d13
        have ho := hob; clear hob
        refine (refPutRaw_c ps _ (by omega)).mono ?_
        rintro r wa ⟨va, rfl, hoa, hba⟩
        replace hcon := hcon.keep hba (by omega)
        replace hb := Below.up hb hba
        replace ho := ho.kept hba (Nat.le_refl _)
        have hza := hba.size
        obtain ⟨aa, ka, rfl⟩ := Owns.slice hoa
        clear hba
        by_cases hE : uPutRawE (sB ps) = 0
        rotate_left
        · have hEb : (uPutRawE (sB ps) != 0) = true := by simpa using hE
          have hk' : cS5 ⟨4, cl, ke, cn, true, tp, tx, q, rt, true, us, true, ps⟩ = (L4, uPutRawE (sB ps)) := by rw [cS5, hk.out, cStep_err _ _ hE]
          have hsp := cPut_of HEQ.out (hk') hE
          have Hsp := hd hsp; clear hsp hk'
          go_wp2_with fail
          go_ret2
          exact cPut_nil _ Hsp.out hE hb
        have hbl := uPutRawB_len2 (sB ps)
        have hk' : cS5 ⟨4, cl, ke, cn, true, tp, tx, q, rt, true, us, true, ps⟩ = (L4 ++ uPutRawB (sB ps), 0) := by rw [cS5, hk.out, hE, cStep_ok]
        rw [hE]
        replace hk := hd hk'; clear hk' hE
        by_cases hlen : 4096 < (L4 ++ uPutRawB (sB ps)).length
        · have hsp : cPutE ⟨4, cl, ke, cn, true, tp, tx, q, rt, true, us, true, ps⟩ = 3 := by rw [cPutE, if_neg (by rw [HEQ.out]; decide), hk.out, if_neg (by simp), if_pos hlen]
          have Hsp := hd hsp; clear hsp
          have hlI : (4096 : Int) < ((L4 ++ uPutRawB (sB ps)).length : Int) := by omega
          go_wp2_with (at_builtin; refine wp_appB rfl _ _ rfl B _ _ rfl ho _ _ rfl hoa.bs (by omega) (by omega) ?_; intro vb wb hob hbb; obtain ⟨ab, kb, rfl⟩ := Owns.slice hob; clear ho hoa; generalize hLq : L4 ++ uPutRawB (sB ps) = L5 at *; clear hLq; have hcc := hcon.keep hbb hl3; simp only [ConAt] at hcc; obtain ⟨d1, d2, d3, d4, d5, d6, d7, d8, d9, d10, d11, d12, d13, _⟩ := hcc)
          go_ret2
          exact cPut_nil 3 Hsp.out (by decide) (hb.trans (hbb.mono (Nat.le_of_lt hl3)))
        have hsp : cPutE ⟨4, cl, ke, cn, true, tp, tx, q, rt, true, us, true, ps⟩ = 0 := by rw [cPutE, if_neg (by rw [HEQ.out]; decide), hk.out, if_neg (by simp), if_neg hlen]
        have hspB : cPutB ⟨4, cl, ke, cn, true, tp, tx, q, rt, true, us, true, ps⟩ = L4 ++ uPutRawB (sB ps) := by rw [cPutB, if_pos hsp, hk.out]
        have Hsp := hd hsp; have HspB := hd hspB; clear hsp hspB
        have hlI : ((L4 ++ uPutRawB (sB ps)).length : Int) ≤ 4096 := by omega
        go_wp2_with (at_builtin; refine wp_appB rfl _ _ rfl B _ _ rfl ho _ _ rfl hoa.bs (by omega) (by omega) ?_; intro vb wb hob hbb; obtain ⟨ab, kb, rfl⟩ := Owns.slice hob; clear ho hoa; generalize hLq : L4 ++ uPutRawB (sB ps) = L5 at *; clear hLq; have hcc := hcon.keep hbb hl3; simp only [ConAt] at hcc; obtain ⟨d1, d2, d3, d4, d5, d6, d7, d8, d9, d10, d11, d12, d13, _⟩ := hcc)
        go_ret2
        rw [Hsp.out, HspB.out]
        exact ⟨_, rfl, hob.le (by omega), hb.trans (hbb.mono (Nat.le_of_lt hl3))⟩
end Go.Proofs.YtclicjokgfiegaaDoor
