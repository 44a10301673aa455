/- A bundle of texts (merged for the limit on files): PacSame4. -/
import Derived.Test.YtjlnlgemngpelaaGreatDoorZa25
/- Packets: are two the same: the reference's: the walks. -/
namespace Go.Proofs.YtjlnlgemngpelaaGreatDoor
open Go.RowKit
set_option linter.unusedVariables false
set_option linter.unusedSimpArgs false

set_option maxRecDepth 100000 in
set_option maxHeartbeats 8000000 in
theorem refSameGood_c (p q : Pac) (vf1 vc1 vf2 vc2 : Value) (w : World) (hp : PacRd w p vf1 vc1) (hq : PacRd w q vf2 vc2) (ek : (p.k != q.k) = false) (eid : (p.id != q.id) = false) (edup : (p.dup == q.dup) = true) (em : ∀ W, (binOp .neq 30 (.agg #[.string p.tp, .string p.tx, .int .i64 p.q, .bool p.rt]) (.agg #[.string q.tp, .string q.tx, .int .i64 q.q, .bool q.rt])).run Tryz.prog W = .ok (.bool false) W) (ec : ∀ W, (binOp .neq 32 (.agg #[.int .i64 p.c.level, .bool p.c.clean, .int .i64 p.c.keep, .string p.c.client, .bool p.c.hasWill, .string p.c.topic, .string p.c.text, .int .i64 p.c.qos, .bool p.c.retain, .bool p.c.hasUser, .string p.c.user, .bool p.c.hasPass, .string p.c.pass]) (.agg #[.int .i64 q.c.level, .bool q.c.clean, .int .i64 q.c.keep, .string q.c.client, .bool q.c.hasWill, .string q.c.topic, .string q.c.text, .int .i64 q.c.qos, .bool q.c.retain, .bool q.c.hasUser, .string q.c.user, .bool q.c.hasPass, .string q.c.pass])).run Tryz.prog W = .ok (.bool false) W) (epr : (p.pr == q.pr) = true) (ecode : (p.code != q.code) = false) (hlf : p.fs.length = q.fs.length) (hlc : p.cs.length = q.cs.length) :
    Calls Tryz.prog 13 #[.agg (p.cells vf1 vc1).toArray, .agg (q.cells vf2 vc2).toArray] w fun e w' => e = .returned (.bool (decide (p.fs = q.fs) && decide (p.cs = q.cs))) ∧ Below w.heap.size w w' := by
  have HP := hd hp; have HQ := hd hq
  obtain ⟨fa1, fc1, rfl⟩ := hp.f.slice
  obtain ⟨ca1, cc1, rfl⟩ := hp.c.slice
  obtain ⟨fa2, fc2, rfl⟩ := hq.f.slice
  obtain ⟨ca2, cc2, rfl⟩ := hq.c.slice
  clear hp hq
  have HLF := hd hlf; have HLC := hd hlc
  rw [← hlf, ← hlc] at HQ ⊢
  clear hlf hlc
  obtain ⟨L1, hL1⟩ : ∃ L, p.cells (.slice fa1 p.fs.length fc1) (.slice ca1 p.cs.length cc1) = L := ⟨_, rfl⟩
  obtain ⟨L2, hL2⟩ : ∃ L, q.cells (.slice fa2 p.fs.length fc2) (.slice ca2 p.cs.length cc2) = L := ⟨_, rfl⟩
  rw [hL1, hL2]
  have A0 : Hd (L1[0]? = some (.int .i64 p.k)) := hd (by rw [← hL1]; rfl)
  have D0 : Hd (L2[0]? = some (.int .i64 q.k)) := hd (by rw [← hL2]; rfl)
  have A1 : Hd (L1[1]? = some (.int .i64 p.id)) := hd (by rw [← hL1]; rfl)
  have D1 : Hd (L2[1]? = some (.int .i64 q.id)) := hd (by rw [← hL2]; rfl)
  have A2 : Hd (L1[2]? = some (.bool p.dup)) := hd (by rw [← hL1]; rfl)
  have D2 : Hd (L2[2]? = some (.bool q.dup)) := hd (by rw [← hL2]; rfl)
  have A20 : Hd (L1[20]? = some (.bool p.pr)) := hd (by rw [← hL1]; rfl)
  have D20 : Hd (L2[20]? = some (.bool q.pr)) := hd (by rw [← hL2]; rfl)
  have A21 : Hd (L1[21]? = some (.int .i64 p.code)) := hd (by rw [← hL1]; rfl)
  have D21 : Hd (L2[21]? = some (.int .i64 q.code)) := hd (by rw [← hL2]; rfl)
  have A22 : Hd (L1[22]? = some ((.slice fa1 p.fs.length fc1))) := hd (by rw [← hL1]; rfl)
  have D22 : Hd (L2[22]? = some ((.slice fa2 p.fs.length fc2))) := hd (by rw [← hL2]; rfl)
  have A23 : Hd (L1[23]? = some ((.slice ca1 p.cs.length cc1))) := hd (by rw [← hL1]; rfl)
  have D23 : Hd (L2[23]? = some ((.slice ca2 p.cs.length cc2))) := hd (by rw [← hL2]; rfl)
  have A3 : Hd (L1[3]? = some (.string p.tp)) := hd (by rw [← hL1]; rfl)
  have D3 : Hd (L2[3]? = some (.string q.tp)) := hd (by rw [← hL2]; rfl)
  have A4 : Hd (L1[4]? = some (.string p.tx)) := hd (by rw [← hL1]; rfl)
  have D4 : Hd (L2[4]? = some (.string q.tx)) := hd (by rw [← hL2]; rfl)
  have A5 : Hd (L1[5]? = some (.int .i64 p.q)) := hd (by rw [← hL1]; rfl)
  have D5 : Hd (L2[5]? = some (.int .i64 q.q)) := hd (by rw [← hL2]; rfl)
  have A6 : Hd (L1[6]? = some (.bool p.rt)) := hd (by rw [← hL1]; rfl)
  have D6 : Hd (L2[6]? = some (.bool q.rt)) := hd (by rw [← hL2]; rfl)
  have A7 : Hd (L1[7]? = some (.int .i64 p.c.level)) := hd (by rw [← hL1]; rfl)
  have D7 : Hd (L2[7]? = some (.int .i64 q.c.level)) := hd (by rw [← hL2]; rfl)
  have A8 : Hd (L1[8]? = some (.bool p.c.clean)) := hd (by rw [← hL1]; rfl)
  have D8 : Hd (L2[8]? = some (.bool q.c.clean)) := hd (by rw [← hL2]; rfl)
  have A9 : Hd (L1[9]? = some (.int .i64 p.c.keep)) := hd (by rw [← hL1]; rfl)
  have D9 : Hd (L2[9]? = some (.int .i64 q.c.keep)) := hd (by rw [← hL2]; rfl)
  have A10 : Hd (L1[10]? = some (.string p.c.client)) := hd (by rw [← hL1]; rfl)
  have D10 : Hd (L2[10]? = some (.string q.c.client)) := hd (by rw [← hL2]; rfl)
  have A11 : Hd (L1[11]? = some (.bool p.c.hasWill)) := hd (by rw [← hL1]; rfl)
  have D11 : Hd (L2[11]? = some (.bool q.c.hasWill)) := hd (by rw [← hL2]; rfl)
  have A12 : Hd (L1[12]? = some (.string p.c.topic)) := hd (by rw [← hL1]; rfl)
  have D12 : Hd (L2[12]? = some (.string q.c.topic)) := hd (by rw [← hL2]; rfl)
  have A13 : Hd (L1[13]? = some (.string p.c.text)) := hd (by rw [← hL1]; rfl)
  have D13 : Hd (L2[13]? = some (.string q.c.text)) := hd (by rw [← hL2]; rfl)
  have A14 : Hd (L1[14]? = some (.int .i64 p.c.qos)) := hd (by rw [← hL1]; rfl)
  have D14 : Hd (L2[14]? = some (.int .i64 q.c.qos)) := hd (by rw [← hL2]; rfl)
  have A15 : Hd (L1[15]? = some (.bool p.c.retain)) := hd (by rw [← hL1]; rfl)
  have D15 : Hd (L2[15]? = some (.bool q.c.retain)) := hd (by rw [← hL2]; rfl)
  have A16 : Hd (L1[16]? = some (.bool p.c.hasUser)) := hd (by rw [← hL1]; rfl)
  have D16 : Hd (L2[16]? = some (.bool q.c.hasUser)) := hd (by rw [← hL2]; rfl)
  have A17 : Hd (L1[17]? = some (.string p.c.user)) := hd (by rw [← hL1]; rfl)
  have D17 : Hd (L2[17]? = some (.string q.c.user)) := hd (by rw [← hL2]; rfl)
  have A18 : Hd (L1[18]? = some (.bool p.c.hasPass)) := hd (by rw [← hL1]; rfl)
  have D18 : Hd (L2[18]? = some (.bool q.c.hasPass)) := hd (by rw [← hL2]; rfl)
  have A19 : Hd (L1[19]? = some (.string p.c.pass)) := hd (by rw [← hL1]; rfl)
  have D19 : Hd (L2[19]? = some (.string q.c.pass)) := hd (by rw [← hL2]; rfl)
  have M1 : Hd (∀ j v, p.msg[j]? = some v → L1[3 + j]? = some v) := hd (by rw [← hL1]; exact p.msg_in _ _)
  have M2 : Hd (∀ j v, q.msg[j]? = some v → L2[3 + j]? = some v) := hd (by rw [← hL2]; exact q.msg_in _ _)
  have C1 : Hd (∀ j v, p.c.cells[j]? = some v → L1[7 + j]? = some v) := hd (by rw [← hL1]; exact p.con_in _ _)
  have C2 : Hd (∀ j v, q.c.cells[j]? = some v → L2[7 + j]? = some v) := hd (by rw [← hL2]; exact q.con_in _ _)
  go_enter Tryz.func13, Tryz.ntmps13
  go_wp2_with (first
    | (with_reducible refine wpl_box (o := ⟨some 2, .box 36 (.tmp 0), _, _, _, _⟩) rfl _ _ rfl L1 rfl w.heap.size rfl ?_; intro w1 h1 f1 b1 z1)
    | (with_reducible refine wpl_box (o := ⟨some 3, .box 36 (.tmp 1), _, _, _, _⟩) rfl _ _ rfl L2 rfl _ z1 ?_; intro w2 h2 f2 b2 z2; replace h1 := h1.keep b2 (by omega); have B2 : Below w.heap.size w w2 := b1.trans (b2.mono (by omega)); clear f1 f2 b1 b2; have a0 := h1.at 0 A0.out; have d0 := h2.at 0 D0.out; have a1 := h1.at 1 A1.out; have d1 := h2.at 1 D1.out; have a2 := h1.at 2 A2.out; have d2 := h2.at 2 D2.out; have a20 := h1.at 20 A20.out; have d20 := h2.at 20 D20.out; have a21 := h1.at 21 A21.out; have d21 := h2.at 21 D21.out; have a22 := h1.at 22 A22.out; have d22 := h2.at 22 D22.out; have a23 := h1.at 23 A23.out; have d23 := h2.at 23 D23.out; have a3 := h1.at 3 A3.out; have d3 := h2.at 3 D3.out; have a4 := h1.at 4 A4.out; have d4 := h2.at 4 D4.out; have a5 := h1.at 5 A5.out; have d5 := h2.at 5 D5.out; have a6 := h1.at 6 A6.out; have d6 := h2.at 6 D6.out; have a7 := h1.at 7 A7.out; have d7 := h2.at 7 D7.out; have a8 := h1.at 8 A8.out; have d8 := h2.at 8 D8.out; have a9 := h1.at 9 A9.out; have d9 := h2.at 9 D9.out; have a10 := h1.at 10 A10.out; have d10 := h2.at 10 D10.out; have a11 := h1.at 11 A11.out; have d11 := h2.at 11 D11.out; have a12 := h1.at 12 A12.out; have d12 := h2.at 12 D12.out; have a13 := h1.at 13 A13.out; have d13 := h2.at 13 D13.out; have a14 := h1.at 14 A14.out; have d14 := h2.at 14 D14.out; have a15 := h1.at 15 A15.out; have d15 := h2.at 15 D15.out; have a16 := h1.at 16 A16.out; have d16 := h2.at 16 D16.out; have a17 := h1.at 17 A17.out; have d17 := h2.at 17 D17.out; have a18 := h1.at 18 A18.out; have d18 := h2.at 18 D18.out; have a19 := h1.at 19 A19.out; have d19 := h2.at 19 D19.out))
  have hmx : p.fs.length ≤ 9223372036854775807 := by have := HP.out.lf; omega
  have hmy : p.cs.length ≤ 9223372036854775807 := by have := HP.out.lc; omega
  clear a0 a1 a2 a20 a21 a22 a23 d0 d1 d2 d20 d21 d22 d23 a3 d3 a4 d4 a5 d5 a6 d6 a7 d7 a8 d8 a9 d9 a10 d10 a11 d11 a12 d12 a13 d13 a14 d14 a15 d15 a16 d16 a17 d17 a18 d18 a19 d19
  go_loopw [5] (fun n w' => ∃ k : Nat, n = .int .i64 k ∧ k ≤ p.fs.length ∧ Below w2.heap.size w2 w' ∧ p.fs.take k = q.fs.take k) (fun n _ => match n with | .int _ m => p.fs.length - m.toNat | _ => 0)
  case atStart => exact ⟨0, rfl, by omega, by go_grown, rfl⟩
  case round =>
    obtain ⟨k, rfl, hk, hB, hT⟩ := hrel
    have a22 := (h1.keep hB (by omega)).at 22 A22.out
    have d22 := (h2.keep hB (by omega)).at 22 D22.out
    by_cases hkl : k < p.fs.length
    · obtain ⟨x, hx⟩ : ∃ x, p.fs[k]? = some x := ⟨_, List.getElem?_eq_getElem hkl⟩
      obtain ⟨y, hy⟩ : ∃ y, q.fs[k]? = some y := ⟨_, List.getElem?_eq_getElem (by rw [← HLF.out]; exact hkl)⟩
      obtain ⟨b1, o1, rfl, hl1, hc1, hd1⟩ := Ws.at HP.out.f hx
      obtain ⟨b2, o2, rfl, hl2, hc2, hd2⟩ := Ws.at HQ.out.f hy
      have hBB := Below.up B2 hB
      replace hc1 := (bcell hBB _ _ hl1).trans hc1
      replace hc2 := (bcell hBB _ _ hl2).trans hc2
      replace hd1 := (bcell hBB _ _ hl1).trans hd1
      replace hd2 := (bcell hBB _ _ hl2).trans hd2
      have hcm : ∀ W, (binOp .neq 76 (.agg #[.string x.1, .int .i64 x.2]) (.agg #[.string y.1, .int .i64 y.2])).run Tryz.prog W = .ok (.bool (!decide (x = y))) W := fun W => neq_wish x.1 y.1 x.2 y.2 W
      by_cases hxy : x = y
      · subst hxy
        have hT2 := take_moreP hT hx hy
        simp only [decide_true, Bool.not_true] at hcm
        have HT2 := hd hT2
        clear hT hT2 hx hy
        go_wp2_with fail
        go_quiet (fail)
        go_wp2_with fail
        go_roundw
        case rel => exact ⟨k + 1, by congr 1, by omega, ⟨hB.os, hB.tape, hB.output, hB.size, hB.block⟩, HT2.out⟩
        case measure => simp; omega
      · have hne : Hd (decide (p.fs = q.fs) = false) := decide_eq_false (fun e => by rw [e] at hx; rw [hx] at hy; exact hxy (Option.some.inj hy))
        simp only [decide_eq_false hxy, Bool.not_false] at hcm
        clear hT hx hy
        go_wp2_with fail
        go_quiet (fail)
        go_wp2_with fail
        go_ret
        exact ⟨ret_bool (by simp [hne.out]), ⟨hBB.os, hBB.tape, hBB.output, hBB.size, hBB.block⟩⟩
    · have hke : k = p.fs.length := by omega
      subst hke
      have he : Hd (decide (p.fs = q.fs) = true) := decide_eq_true (by rw [List.take_length, HLF.out, List.take_length] at hT; exact hT)
      clear hT
      have hBB := Below.up B2 hB
      have HBB := hd hBB
      replace h1 := h1.keep hB (by omega)
      replace h2 := h2.keep hB (by omega)
      clear hB hBB B2
      go_wp2_with fail
      clear a22 d22
      have hszr := HBB.out.size
      go_loopw [6] (fun n w' => ∃ k : Nat, n = .int .i64 k ∧ k ≤ p.cs.length ∧ Below wr.heap.size wr w' ∧ p.cs.take k = q.cs.take k) (fun n _ => match n with | .int _ m => p.cs.length - m.toNat | _ => 0)
      case atStart => exact ⟨0, rfl, by omega, by go_grown, rfl⟩
      case round =>
        obtain ⟨k, rfl, hk, hB, hT⟩ := hrel
        have a23 := (h1.keep hB h1.lt).at 23 A23.out
        have d23 := (h2.keep hB h2.lt).at 23 D23.out
        have hBB := Below.up HBB.out hB
        by_cases hkl : k < p.cs.length
        · obtain ⟨x, hx⟩ : ∃ x, p.cs[k]? = some x := ⟨_, List.getElem?_eq_getElem hkl⟩
          obtain ⟨y, hy⟩ : ∃ y, q.cs[k]? = some y := ⟨_, List.getElem?_eq_getElem (by rw [← HLC.out]; exact hkl)⟩
          obtain ⟨b1, o1, rfl, hl1, hc1⟩ := Is.at HP.out.c hx
          obtain ⟨b2, o2, rfl, hl2, hc2⟩ := Is.at HQ.out.c hy
          replace hc1 := (bcell hBB _ _ hl1).trans hc1
          replace hc2 := (bcell hBB _ _ hl2).trans hc2
          by_cases hxy : x = y
          · subst hxy
            have hT2 := take_moreP hT hx hy
            have HT2 := hd hT2
            clear hT hT2 hx hy
            go_wp2_with fail
            go_quiet (fail)
            go_wp2_with fail
            go_roundw
            case rel => exact ⟨k + 1, by congr 1, by omega, ⟨hB.os, hB.tape, hB.output, hB.size, hB.block⟩, HT2.out⟩
            case measure => simp; omega
          · have hxyb : (x != y) = true := by simpa using hxy
            have hne : Hd (decide (p.cs = q.cs) = false) := decide_eq_false (fun e => by rw [e] at hx; rw [hx] at hy; exact hxy (Option.some.inj hy))
            clear hT hx hy
            go_wp2_with fail
            go_quiet (fail)
            go_wp2_with fail
            go_ret
            exact ⟨ret_bool (by simp [hne.out]), ⟨hBB.os, hBB.tape, hBB.output, hBB.size, hBB.block⟩⟩
        · have hke : k = p.cs.length := by omega
          subst hke
          have he2 : Hd (decide (p.cs = q.cs) = true) := decide_eq_true (by rw [List.take_length, HLC.out, List.take_length] at hT; exact hT)
          clear hT
          go_wp2_with fail
          go_ret
          exact ⟨ret_bool (by rw [he.out, he2.out]; rfl), hBB⟩

theorem refSame_c (p q : Pac) (vf1 vc1 vf2 vc2 : Value) (w : World) (hp : PacRd w p vf1 vc1) (hq : PacRd w q vf2 vc2) :
    Calls Tryz.prog 13 #[.agg (p.cells vf1 vc1).toArray, .agg (q.cells vf2 vc2).toArray] w fun e w' => e = .returned (.bool (decide (p = q))) ∧ Below w.heap.size w w' := by
  by_cases h0 : p.k = q.k
  rotate_left
  · rw [decide_eq_false (fun e => h0 (by rw [e]))]
    exact refSameBad0_c p q vf1 vc1 vf2 vc2 w hp hq (bne_t h0)
  have e0 := bne_f h0
  by_cases h1 : p.id = q.id
  rotate_left
  · rw [decide_eq_false (fun e => h1 (by rw [e]))]
    exact refSameBad1_c p q vf1 vc1 vf2 vc2 w hp hq e0 (bne_t h1)
  have e1 := bne_f h1
  by_cases h2 : p.dup = q.dup
  rotate_left
  · rw [decide_eq_false (fun e => h2 (by rw [e]))]
    exact refSameBad2_c p q vf1 vc1 vf2 vc2 w hp hq e0 e1 (beq_fB h2)
  have e2 := beq_tB h2
  have em := fun W => neq_msg p q W
  by_cases h3 : p.tp = q.tp ∧ p.tx = q.tx ∧ p.q = q.q ∧ p.rt = q.rt
  rotate_left
  · rw [decide_eq_false (fun e => h3 (by subst e; exact ⟨rfl, rfl, rfl, rfl⟩))]
    simp only [decide_eq_false h3, Bool.not_false] at em
    exact refSameBad3_c p q vf1 vc1 vf2 vc2 w hp hq e0 e1 e2 em
  simp only [decide_eq_true h3, Bool.not_true] at em
  have ec := fun W => neq_con p.c q.c W
  by_cases h4 : p.c = q.c
  rotate_left
  · rw [decide_eq_false (fun e => h4 (by rw [e]))]
    simp only [decide_eq_false h4, Bool.not_false] at ec
    exact refSameBad4_c p q vf1 vc1 vf2 vc2 w hp hq e0 e1 e2 em ec
  simp only [decide_eq_true h4, Bool.not_true] at ec
  by_cases h5 : p.pr = q.pr
  rotate_left
  · rw [decide_eq_false (fun e => h5 (by rw [e]))]
    exact refSameBad5_c p q vf1 vc1 vf2 vc2 w hp hq e0 e1 e2 em ec (beq_fB h5)
  have e5 := beq_tB h5
  by_cases h6 : p.code = q.code
  rotate_left
  · rw [decide_eq_false (fun e => h6 (by rw [e]))]
    exact refSameBad6_c p q vf1 vc1 vf2 vc2 w hp hq e0 e1 e2 em ec e5 (bne_t h6)
  have e6 := bne_f h6
  by_cases h7 : p.fs.length = q.fs.length
  rotate_left
  · rw [decide_eq_false (fun e => h7 (by rw [e]))]
    exact refSameBad7_c p q vf1 vc1 vf2 vc2 w hp hq e0 e1 e2 em ec e5 e6 (by simp; omega)
  by_cases h8 : p.cs.length = q.cs.length
  rotate_left
  · rw [decide_eq_false (fun e => h8 (by rw [e]))]
    exact refSameBad8_c p q vf1 vc1 vf2 vc2 w hp hq e0 e1 e2 em ec e5 e6 (by simp; omega) (by simp; omega)
  have hd : decide (p = q) = (decide (p.fs = q.fs) && decide (p.cs = q.cs)) := by
    rw [Bool.eq_iff_iff]
    simp [Pac.eq_iff, h0, h1, h2, h3, h4, h5, h6]
  rw [hd]
  exact refSameGood_c p q vf1 vc1 vf2 vc2 w hp hq e0 e1 e2 em ec e5 e6 h7 h8
end Go.Proofs.YtjlnlgemngpelaaGreatDoor
