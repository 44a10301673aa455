/- A bundle of texts (merged for the limit on files): PacSame3. -/
import Derived.Test.YtjlnlgemngpelaaGreatDoorZa24
/- Packets: are two the same: the reference's: the walks. -/
namespace Go.Proofs.YtjlnlgemngpelaaGreatDoor
open Go.RowKit
set_option linter.unusedVariables false
set_option linter.unusedSimpArgs false

theorem Pac.info_m (p : Pac) : (Tryz.prog.info? 30).map (·.size) = some p.msg.length := info_msg
theorem Pac.info_c (p : Pac) : (Tryz.prog.info? 32).map (·.size) = some p.c.cells.length := info_con
set_option maxRecDepth 100000 in
set_option maxHeartbeats 8000000 in
theorem refSameBad0_c (p q : Pac) (vf1 vc1 vf2 vc2 : Value) (w : World) (hp : PacRd w p vf1 vc1) (hq : PacRd w q vf2 vc2) (ek : (p.k != q.k) = true) :
    Calls Tryz.prog 13 #[.agg (p.cells vf1 vc1).toArray, .agg (q.cells vf2 vc2).toArray] w fun e w' => e = .returned (.bool false) ∧ Below w.heap.size w w' := by
  have HP := hd hp; have HQ := hd hq
  clear hp hq
  obtain ⟨L1, hL1⟩ : ∃ L, p.cells vf1 vc1 = L := ⟨_, rfl⟩
  obtain ⟨L2, hL2⟩ : ∃ L, q.cells vf2 vc2 = L := ⟨_, rfl⟩
  rw [hL1, hL2]
  have A0 : Hd (L1[0]? = some (.int .i64 p.k)) := hd (by rw [← hL1]; rfl)
  have D0 : Hd (L2[0]? = some (.int .i64 q.k)) := hd (by rw [← hL2]; rfl)
  have M1 : Hd (∀ j v, p.msg[j]? = some v → L1[3 + j]? = some v) := hd (by rw [← hL1]; exact p.msg_in _ _)
  have M2 : Hd (∀ j v, q.msg[j]? = some v → L2[3 + j]? = some v) := hd (by rw [← hL2]; exact q.msg_in _ _)
  have C1 : Hd (∀ j v, p.c.cells[j]? = some v → L1[7 + j]? = some v) := hd (by rw [← hL1]; exact p.con_in _ _)
  have C2 : Hd (∀ j v, q.c.cells[j]? = some v → L2[7 + j]? = some v) := hd (by rw [← hL2]; exact q.con_in _ _)
  go_enter Tryz.func13, Tryz.ntmps13
  go_wp2_with (first
    | (with_reducible refine wpl_box (o := ⟨some 2, .box 36 (.tmp 0), _, _, _, _⟩) rfl _ _ rfl L1 rfl w.heap.size rfl ?_; intro w1 h1 f1 b1 z1)
    | (with_reducible refine wpl_box (o := ⟨some 3, .box 36 (.tmp 1), _, _, _, _⟩) rfl _ _ rfl L2 rfl _ z1 ?_; intro w2 h2 f2 b2 z2; replace h1 := h1.keep b2 (by omega); have B2 : Below w.heap.size w w2 := b1.trans (b2.mono (by omega)); clear f1 f2 b1 b2; have a0 := h1.at 0 A0.out; have d0 := h2.at 0 D0.out))
  go_ret
  exact ⟨rfl, B2⟩

set_option maxRecDepth 100000 in
set_option maxHeartbeats 8000000 in
theorem refSameBad1_c (p q : Pac) (vf1 vc1 vf2 vc2 : Value) (w : World) (hp : PacRd w p vf1 vc1) (hq : PacRd w q vf2 vc2) (ek : (p.k != q.k) = false) (eid : (p.id != q.id) = true) :
    Calls Tryz.prog 13 #[.agg (p.cells vf1 vc1).toArray, .agg (q.cells vf2 vc2).toArray] w fun e w' => e = .returned (.bool false) ∧ Below w.heap.size w w' := by
  have HP := hd hp; have HQ := hd hq
  clear hp hq
  obtain ⟨L1, hL1⟩ : ∃ L, p.cells vf1 vc1 = L := ⟨_, rfl⟩
  obtain ⟨L2, hL2⟩ : ∃ L, q.cells vf2 vc2 = L := ⟨_, rfl⟩
  rw [hL1, hL2]
  have A0 : Hd (L1[0]? = some (.int .i64 p.k)) := hd (by rw [← hL1]; rfl)
  have D0 : Hd (L2[0]? = some (.int .i64 q.k)) := hd (by rw [← hL2]; rfl)
  have A1 : Hd (L1[1]? = some (.int .i64 p.id)) := hd (by rw [← hL1]; rfl)
  have D1 : Hd (L2[1]? = some (.int .i64 q.id)) := hd (by rw [← hL2]; rfl)
  have M1 : Hd (∀ j v, p.msg[j]? = some v → L1[3 + j]? = some v) := hd (by rw [← hL1]; exact p.msg_in _ _)
  have M2 : Hd (∀ j v, q.msg[j]? = some v → L2[3 + j]? = some v) := hd (by rw [← hL2]; exact q.msg_in _ _)
  have C1 : Hd (∀ j v, p.c.cells[j]? = some v → L1[7 + j]? = some v) := hd (by rw [← hL1]; exact p.con_in _ _)
  have C2 : Hd (∀ j v, q.c.cells[j]? = some v → L2[7 + j]? = some v) := hd (by rw [← hL2]; exact q.con_in _ _)
  go_enter Tryz.func13, Tryz.ntmps13
  go_wp2_with (first
    | (with_reducible refine wpl_box (o := ⟨some 2, .box 36 (.tmp 0), _, _, _, _⟩) rfl _ _ rfl L1 rfl w.heap.size rfl ?_; intro w1 h1 f1 b1 z1)
    | (with_reducible refine wpl_box (o := ⟨some 3, .box 36 (.tmp 1), _, _, _, _⟩) rfl _ _ rfl L2 rfl _ z1 ?_; intro w2 h2 f2 b2 z2; replace h1 := h1.keep b2 (by omega); have B2 : Below w.heap.size w w2 := b1.trans (b2.mono (by omega)); clear f1 f2 b1 b2; have a0 := h1.at 0 A0.out; have d0 := h2.at 0 D0.out; have a1 := h1.at 1 A1.out; have d1 := h2.at 1 D1.out))
  go_ret
  exact ⟨rfl, B2⟩

set_option maxRecDepth 100000 in
set_option maxHeartbeats 8000000 in
theorem refSameBad2_c (p q : Pac) (vf1 vc1 vf2 vc2 : Value) (w : World) (hp : PacRd w p vf1 vc1) (hq : PacRd w q vf2 vc2) (ek : (p.k != q.k) = false) (eid : (p.id != q.id) = false) (edup : (p.dup == q.dup) = false) :
    Calls Tryz.prog 13 #[.agg (p.cells vf1 vc1).toArray, .agg (q.cells vf2 vc2).toArray] w fun e w' => e = .returned (.bool false) ∧ Below w.heap.size w w' := by
  have HP := hd hp; have HQ := hd hq
  clear hp hq
  obtain ⟨L1, hL1⟩ : ∃ L, p.cells vf1 vc1 = L := ⟨_, rfl⟩
  obtain ⟨L2, hL2⟩ : ∃ L, q.cells vf2 vc2 = L := ⟨_, rfl⟩
  rw [hL1, hL2]
  have A0 : Hd (L1[0]? = some (.int .i64 p.k)) := hd (by rw [← hL1]; rfl)
  have D0 : Hd (L2[0]? = some (.int .i64 q.k)) := hd (by rw [← hL2]; rfl)
  have A1 : Hd (L1[1]? = some (.int .i64 p.id)) := hd (by rw [← hL1]; rfl)
  have D1 : Hd (L2[1]? = some (.int .i64 q.id)) := hd (by rw [← hL2]; rfl)
  have A2 : Hd (L1[2]? = some (.bool p.dup)) := hd (by rw [← hL1]; rfl)
  have D2 : Hd (L2[2]? = some (.bool q.dup)) := hd (by rw [← hL2]; rfl)
  have M1 : Hd (∀ j v, p.msg[j]? = some v → L1[3 + j]? = some v) := hd (by rw [← hL1]; exact p.msg_in _ _)
  have M2 : Hd (∀ j v, q.msg[j]? = some v → L2[3 + j]? = some v) := hd (by rw [← hL2]; exact q.msg_in _ _)
  have C1 : Hd (∀ j v, p.c.cells[j]? = some v → L1[7 + j]? = some v) := hd (by rw [← hL1]; exact p.con_in _ _)
  have C2 : Hd (∀ j v, q.c.cells[j]? = some v → L2[7 + j]? = some v) := hd (by rw [← hL2]; exact q.con_in _ _)
  go_enter Tryz.func13, Tryz.ntmps13
  go_wp2_with (first
    | (with_reducible refine wpl_box (o := ⟨some 2, .box 36 (.tmp 0), _, _, _, _⟩) rfl _ _ rfl L1 rfl w.heap.size rfl ?_; intro w1 h1 f1 b1 z1)
    | (with_reducible refine wpl_box (o := ⟨some 3, .box 36 (.tmp 1), _, _, _, _⟩) rfl _ _ rfl L2 rfl _ z1 ?_; intro w2 h2 f2 b2 z2; replace h1 := h1.keep b2 (by omega); have B2 : Below w.heap.size w w2 := b1.trans (b2.mono (by omega)); clear f1 f2 b1 b2; have a0 := h1.at 0 A0.out; have d0 := h2.at 0 D0.out; have a1 := h1.at 1 A1.out; have d1 := h2.at 1 D1.out; have a2 := h1.at 2 A2.out; have d2 := h2.at 2 D2.out))
  go_ret
  exact ⟨rfl, B2⟩

set_option maxRecDepth 100000 in
set_option maxHeartbeats 8000000 in
theorem refSameBad3_c (p q : Pac) (vf1 vc1 vf2 vc2 : Value) (w : World) (hp : PacRd w p vf1 vc1) (hq : PacRd w q vf2 vc2) (ek : (p.k != q.k) = false) (eid : (p.id != q.id) = false) (edup : (p.dup == q.dup) = true) (em : ∀ W, (binOp .neq 30 (.agg #[.string p.tp, .string p.tx, .int .i64 p.q, .bool p.rt]) (.agg #[.string q.tp, .string q.tx, .int .i64 q.q, .bool q.rt])).run Tryz.prog W = .ok (.bool true) W) :
    Calls Tryz.prog 13 #[.agg (p.cells vf1 vc1).toArray, .agg (q.cells vf2 vc2).toArray] w fun e w' => e = .returned (.bool false) ∧ Below w.heap.size w w' := by
  have HP := hd hp; have HQ := hd hq
  clear hp hq
  obtain ⟨L1, hL1⟩ : ∃ L, p.cells vf1 vc1 = L := ⟨_, rfl⟩
  obtain ⟨L2, hL2⟩ : ∃ L, q.cells vf2 vc2 = L := ⟨_, rfl⟩
  rw [hL1, hL2]
  have A0 : Hd (L1[0]? = some (.int .i64 p.k)) := hd (by rw [← hL1]; rfl)
  have D0 : Hd (L2[0]? = some (.int .i64 q.k)) := hd (by rw [← hL2]; rfl)
  have A1 : Hd (L1[1]? = some (.int .i64 p.id)) := hd (by rw [← hL1]; rfl)
  have D1 : Hd (L2[1]? = some (.int .i64 q.id)) := hd (by rw [← hL2]; rfl)
  have A2 : Hd (L1[2]? = some (.bool p.dup)) := hd (by rw [← hL1]; rfl)
  have D2 : Hd (L2[2]? = some (.bool q.dup)) := hd (by rw [← hL2]; rfl)
  have A3 : Hd (L1[3]? = some (.string p.tp)) := hd (by rw [← hL1]; rfl)
  have D3 : Hd (L2[3]? = some (.string q.tp)) := hd (by rw [← hL2]; rfl)
  have A4 : Hd (L1[4]? = some (.string p.tx)) := hd (by rw [← hL1]; rfl)
  have D4 : Hd (L2[4]? = some (.string q.tx)) := hd (by rw [← hL2]; rfl)
  have A5 : Hd (L1[5]? = some (.int .i64 p.q)) := hd (by rw [← hL1]; rfl)
  have D5 : Hd (L2[5]? = some (.int .i64 q.q)) := hd (by rw [← hL2]; rfl)
  have A6 : Hd (L1[6]? = some (.bool p.rt)) := hd (by rw [← hL1]; rfl)
  have D6 : Hd (L2[6]? = some (.bool q.rt)) := hd (by rw [← hL2]; rfl)
  have M1 : Hd (∀ j v, p.msg[j]? = some v → L1[3 + j]? = some v) := hd (by rw [← hL1]; exact p.msg_in _ _)
  have M2 : Hd (∀ j v, q.msg[j]? = some v → L2[3 + j]? = some v) := hd (by rw [← hL2]; exact q.msg_in _ _)
  have C1 : Hd (∀ j v, p.c.cells[j]? = some v → L1[7 + j]? = some v) := hd (by rw [← hL1]; exact p.con_in _ _)
  have C2 : Hd (∀ j v, q.c.cells[j]? = some v → L2[7 + j]? = some v) := hd (by rw [← hL2]; exact q.con_in _ _)
  go_enter Tryz.func13, Tryz.ntmps13
  go_wp2_with (first
    | (with_reducible refine wpl_box (o := ⟨some 2, .box 36 (.tmp 0), _, _, _, _⟩) rfl _ _ rfl L1 rfl w.heap.size rfl ?_; intro w1 h1 f1 b1 z1)
    | (with_reducible refine wpl_box (o := ⟨some 3, .box 36 (.tmp 1), _, _, _, _⟩) rfl _ _ rfl L2 rfl _ z1 ?_; intro w2 h2 f2 b2 z2; replace h1 := h1.keep b2 (by omega); have B2 : Below w.heap.size w w2 := b1.trans (b2.mono (by omega)); clear f1 f2 b1 b2; have a0 := h1.at 0 A0.out; have d0 := h2.at 0 D0.out; have a1 := h1.at 1 A1.out; have d1 := h2.at 1 D1.out; have a2 := h1.at 2 A2.out; have d2 := h2.at 2 D2.out; have a3 := h1.at 3 A3.out; have d3 := h2.at 3 D3.out; have a4 := h1.at 4 A4.out; have d4 := h2.at 4 D4.out; have a5 := h1.at 5 A5.out; have d5 := h2.at 5 D5.out; have a6 := h1.at 6 A6.out; have d6 := h2.at 6 D6.out))
  go_ret
  exact ⟨rfl, B2⟩

set_option maxRecDepth 100000 in
set_option maxHeartbeats 8000000 in
theorem refSameBad4_c (p q : Pac) (vf1 vc1 vf2 vc2 : Value) (w : World) (hp : PacRd w p vf1 vc1) (hq : PacRd w q vf2 vc2) (ek : (p.k != q.k) = false) (eid : (p.id != q.id) = false) (edup : (p.dup == q.dup) = true) (em : ∀ W, (binOp .neq 30 (.agg #[.string p.tp, .string p.tx, .int .i64 p.q, .bool p.rt]) (.agg #[.string q.tp, .string q.tx, .int .i64 q.q, .bool q.rt])).run Tryz.prog W = .ok (.bool false) W) (ec : ∀ W, (binOp .neq 32 (.agg #[.int .i64 p.c.level, .bool p.c.clean, .int .i64 p.c.keep, .string p.c.client, .bool p.c.hasWill, .string p.c.topic, .string p.c.text, .int .i64 p.c.qos, .bool p.c.retain, .bool p.c.hasUser, .string p.c.user, .bool p.c.hasPass, .string p.c.pass]) (.agg #[.int .i64 q.c.level, .bool q.c.clean, .int .i64 q.c.keep, .string q.c.client, .bool q.c.hasWill, .string q.c.topic, .string q.c.text, .int .i64 q.c.qos, .bool q.c.retain, .bool q.c.hasUser, .string q.c.user, .bool q.c.hasPass, .string q.c.pass])).run Tryz.prog W = .ok (.bool true) W) :
    Calls Tryz.prog 13 #[.agg (p.cells vf1 vc1).toArray, .agg (q.cells vf2 vc2).toArray] w fun e w' => e = .returned (.bool false) ∧ Below w.heap.size w w' := by
  have HP := hd hp; have HQ := hd hq
  clear hp hq
  obtain ⟨L1, hL1⟩ : ∃ L, p.cells vf1 vc1 = L := ⟨_, rfl⟩
  obtain ⟨L2, hL2⟩ : ∃ L, q.cells vf2 vc2 = L := ⟨_, rfl⟩
  rw [hL1, hL2]
  have A0 : Hd (L1[0]? = some (.int .i64 p.k)) := hd (by rw [← hL1]; rfl)
  have D0 : Hd (L2[0]? = some (.int .i64 q.k)) := hd (by rw [← hL2]; rfl)
  have A1 : Hd (L1[1]? = some (.int .i64 p.id)) := hd (by rw [← hL1]; rfl)
  have D1 : Hd (L2[1]? = some (.int .i64 q.id)) := hd (by rw [← hL2]; rfl)
  have A2 : Hd (L1[2]? = some (.bool p.dup)) := hd (by rw [← hL1]; rfl)
  have D2 : Hd (L2[2]? = some (.bool q.dup)) := hd (by rw [← hL2]; rfl)
  have A3 : Hd (L1[3]? = some (.string p.tp)) := hd (by rw [← hL1]; rfl)
  have D3 : Hd (L2[3]? = some (.string q.tp)) := hd (by rw [← hL2]; rfl)
  have A4 : Hd (L1[4]? = some (.string p.tx)) := hd (by rw [← hL1]; rfl)
  have D4 : Hd (L2[4]? = some (.string q.tx)) := hd (by rw [← hL2]; rfl)
  have A5 : Hd (L1[5]? = some (.int .i64 p.q)) := hd (by rw [← hL1]; rfl)
  have D5 : Hd (L2[5]? = some (.int .i64 q.q)) := hd (by rw [← hL2]; rfl)
  have A6 : Hd (L1[6]? = some (.bool p.rt)) := hd (by rw [← hL1]; rfl)
  have D6 : Hd (L2[6]? = some (.bool q.rt)) := hd (by rw [← hL2]; rfl)
  have A7 : Hd (L1[7]? = some (.int .i64 p.c.level)) := hd (by rw [← hL1]; rfl)
  have D7 : Hd (L2[7]? = some (.int .i64 q.c.level)) := hd (by rw [← hL2]; rfl)
  have A8 : Hd (L1[8]? = some (.bool p.c.clean)) := hd (by rw [← hL1]; rfl)
  have D8 : Hd (L2[8]? = some (.bool q.c.clean)) := hd (by rw [← hL2]; rfl)
  have A9 : Hd (L1[9]? = some (.int .i64 p.c.keep)) := hd (by rw [← hL1]; rfl)
  have D9 : Hd (L2[9]? = some (.int .i64 q.c.keep)) := hd (by rw [← hL2]; rfl)
  have A10 : Hd (L1[10]? = some (.string p.c.client)) := hd (by rw [← hL1]; rfl)
  have D10 : Hd (L2[10]? = some (.string q.c.client)) := hd (by rw [← hL2]; rfl)
  have A11 : Hd (L1[11]? = some (.bool p.c.hasWill)) := hd (by rw [← hL1]; rfl)
  have D11 : Hd (L2[11]? = some (.bool q.c.hasWill)) := hd (by rw [← hL2]; rfl)
  have A12 : Hd (L1[12]? = some (.string p.c.topic)) := hd (by rw [← hL1]; rfl)
  have D12 : Hd (L2[12]? = some (.string q.c.topic)) := hd (by rw [← hL2]; rfl)
  have A13 : Hd (L1[13]? = some (.string p.c.text)) := hd (by rw [← hL1]; rfl)
  have D13 : Hd (L2[13]? = some (.string q.c.text)) := hd (by rw [← hL2]; rfl)
  have A14 : Hd (L1[14]? = some (.int .i64 p.c.qos)) := hd (by rw [← hL1]; rfl)
  have D14 : Hd (L2[14]? = some (.int .i64 q.c.qos)) := hd (by rw [← hL2]; rfl)
  have A15 : Hd (L1[15]? = some (.bool p.c.retain)) := hd (by rw [← hL1]; rfl)
  have D15 : Hd (L2[15]? = some (.bool q.c.retain)) := hd (by rw [← hL2]; rfl)
  have A16 : Hd (L1[16]? = some (.bool p.c.hasUser)) := hd (by rw [← hL1]; rfl)
  have D16 : Hd (L2[16]? = some (.bool q.c.hasUser)) := hd (by rw [← hL2]; rfl)
  have A17 : Hd (L1[17]? = some (.string p.c.user)) := hd (by rw [← hL1]; rfl)
  have D17 : Hd (L2[17]? = some (.string q.c.user)) := hd (by rw [← hL2]; rfl)
  have A18 : Hd (L1[18]? = some (.bool p.c.hasPass)) := hd (by rw [← hL1]; rfl)
  have D18 : Hd (L2[18]? = some (.bool q.c.hasPass)) := hd (by rw [← hL2]; rfl)
  have A19 : Hd (L1[19]? = some (.string p.c.pass)) := hd (by rw [← hL1]; rfl)
  have D19 : Hd (L2[19]? = some (.string q.c.pass)) := hd (by rw [← hL2]; rfl)
  have M1 : Hd (∀ j v, p.msg[j]? = some v → L1[3 + j]? = some v) := hd (by rw [← hL1]; exact p.msg_in _ _)
  have M2 : Hd (∀ j v, q.msg[j]? = some v → L2[3 + j]? = some v) := hd (by rw [← hL2]; exact q.msg_in _ _)
  have C1 : Hd (∀ j v, p.c.cells[j]? = some v → L1[7 + j]? = some v) := hd (by rw [← hL1]; exact p.con_in _ _)
  have C2 : Hd (∀ j v, q.c.cells[j]? = some v → L2[7 + j]? = some v) := hd (by rw [← hL2]; exact q.con_in _ _)
  go_enter Tryz.func13, Tryz.ntmps13
  go_wp2_with (first
    | (with_reducible refine wpl_box (o := ⟨some 2, .box 36 (.tmp 0), _, _, _, _⟩) rfl _ _ rfl L1 rfl w.heap.size rfl ?_; intro w1 h1 f1 b1 z1)
    | (with_reducible refine wpl_box (o := ⟨some 3, .box 36 (.tmp 1), _, _, _, _⟩) rfl _ _ rfl L2 rfl _ z1 ?_; intro w2 h2 f2 b2 z2; replace h1 := h1.keep b2 (by omega); have B2 : Below w.heap.size w w2 := b1.trans (b2.mono (by omega)); clear f1 f2 b1 b2; have a0 := h1.at 0 A0.out; have d0 := h2.at 0 D0.out; have a1 := h1.at 1 A1.out; have d1 := h2.at 1 D1.out; have a2 := h1.at 2 A2.out; have d2 := h2.at 2 D2.out; have a3 := h1.at 3 A3.out; have d3 := h2.at 3 D3.out; have a4 := h1.at 4 A4.out; have d4 := h2.at 4 D4.out; have a5 := h1.at 5 A5.out; have d5 := h2.at 5 D5.out; have a6 := h1.at 6 A6.out; have d6 := h2.at 6 D6.out; have a7 := h1.at 7 A7.out; have d7 := h2.at 7 D7.out; have a8 := h1.at 8 A8.out; have d8 := h2.at 8 D8.out; have a9 := h1.at 9 A9.out; have d9 := h2.at 9 D9.out; have a10 := h1.at 10 A10.out; have d10 := h2.at 10 D10.out; have a11 := h1.at 11 A11.out; have d11 := h2.at 11 D11.out; have a12 := h1.at 12 A12.out; have d12 := h2.at 12 D12.out; have a13 := h1.at 13 A13.out; have d13 := h2.at 13 D13.out; have a14 := h1.at 14 A14.out; have d14 := h2.at 14 D14.out; have a15 := h1.at 15 A15.out; have d15 := h2.at 15 D15.out; have a16 := h1.at 16 A16.out; have d16 := h2.at 16 D16.out; have a17 := h1.at 17 A17.out; have d17 := h2.at 17 D17.out; have a18 := h1.at 18 A18.out; have d18 := h2.at 18 D18.out; have a19 := h1.at 19 A19.out; have d19 := h2.at 19 D19.out))
  go_ret
  exact ⟨rfl, B2⟩

set_option maxRecDepth 100000 in
set_option maxHeartbeats 8000000 in
theorem refSameBad5_c (p q : Pac) (vf1 vc1 vf2 vc2 : Value) (w : World) (hp : PacRd w p vf1 vc1) (hq : PacRd w q vf2 vc2) (ek : (p.k != q.k) = false) (eid : (p.id != q.id) = false) (edup : (p.dup == q.dup) = true) (em : ∀ W, (binOp .neq 30 (.agg #[.string p.tp, .string p.tx, .int .i64 p.q, .bool p.rt]) (.agg #[.string q.tp, .string q.tx, .int .i64 q.q, .bool q.rt])).run Tryz.prog W = .ok (.bool false) W) (ec : ∀ W, (binOp .neq 32 (.agg #[.int .i64 p.c.level, .bool p.c.clean, .int .i64 p.c.keep, .string p.c.client, .bool p.c.hasWill, .string p.c.topic, .string p.c.text, .int .i64 p.c.qos, .bool p.c.retain, .bool p.c.hasUser, .string p.c.user, .bool p.c.hasPass, .string p.c.pass]) (.agg #[.int .i64 q.c.level, .bool q.c.clean, .int .i64 q.c.keep, .string q.c.client, .bool q.c.hasWill, .string q.c.topic, .string q.c.text, .int .i64 q.c.qos, .bool q.c.retain, .bool q.c.hasUser, .string q.c.user, .bool q.c.hasPass, .string q.c.pass])).run Tryz.prog W = .ok (.bool false) W) (epr : (p.pr == q.pr) = false) :
    Calls Tryz.prog 13 #[.agg (p.cells vf1 vc1).toArray, .agg (q.cells vf2 vc2).toArray] w fun e w' => e = .returned (.bool false) ∧ Below w.heap.size w w' := by
  have HP := hd hp; have HQ := hd hq
  clear hp hq
  obtain ⟨L1, hL1⟩ : ∃ L, p.cells vf1 vc1 = L := ⟨_, rfl⟩
  obtain ⟨L2, hL2⟩ : ∃ L, q.cells vf2 vc2 = L := ⟨_, rfl⟩
  rw [hL1, hL2]
  have A0 : Hd (L1[0]? = some (.int .i64 p.k)) := hd (by rw [← hL1]; rfl)
  have D0 : Hd (L2[0]? = some (.int .i64 q.k)) := hd (by rw [← hL2]; rfl)
  have A1 : Hd (L1[1]? = some (.int .i64 p.id)) := hd (by rw [← hL1]; rfl)
  have D1 : Hd (L2[1]? = some (.int .i64 q.id)) := hd (by rw [← hL2]; rfl)
  have A2 : Hd (L1[2]? = some (.bool p.dup)) := hd (by rw [← hL1]; rfl)
  have D2 : Hd (L2[2]? = some (.bool q.dup)) := hd (by rw [← hL2]; rfl)
  have A20 : Hd (L1[20]? = some (.bool p.pr)) := hd (by rw [← hL1]; rfl)
  have D20 : Hd (L2[20]? = some (.bool q.pr)) := hd (by rw [← hL2]; rfl)
  have A3 : Hd (L1[3]? = some (.string p.tp)) := hd (by rw [← hL1]; rfl)
  have D3 : Hd (L2[3]? = some (.string q.tp)) := hd (by rw [← hL2]; rfl)
  have A4 : Hd (L1[4]? = some (.string p.tx)) := hd (by rw [← hL1]; rfl)
  have D4 : Hd (L2[4]? = some (.string q.tx)) := hd (by rw [← hL2]; rfl)
  have A5 : Hd (L1[5]? = some (.int .i64 p.q)) := hd (by rw [← hL1]; rfl)
  have D5 : Hd (L2[5]? = some (.int .i64 q.q)) := hd (by rw [← hL2]; rfl)
  have A6 : Hd (L1[6]? = some (.bool p.rt)) := hd (by rw [← hL1]; rfl)
  have D6 : Hd (L2[6]? = some (.bool q.rt)) := hd (by rw [← hL2]; rfl)
  have A7 : Hd (L1[7]? = some (.int .i64 p.c.level)) := hd (by rw [← hL1]; rfl)
  have D7 : Hd (L2[7]? = some (.int .i64 q.c.level)) := hd (by rw [← hL2]; rfl)
  have A8 : Hd (L1[8]? = some (.bool p.c.clean)) := hd (by rw [← hL1]; rfl)
  have D8 : Hd (L2[8]? = some (.bool q.c.clean)) := hd (by rw [← hL2]; rfl)
  have A9 : Hd (L1[9]? = some (.int .i64 p.c.keep)) := hd (by rw [← hL1]; rfl)
  have D9 : Hd (L2[9]? = some (.int .i64 q.c.keep)) := hd (by rw [← hL2]; rfl)
  have A10 : Hd (L1[10]? = some (.string p.c.client)) := hd (by rw [← hL1]; rfl)
  have D10 : Hd (L2[10]? = some (.string q.c.client)) := hd (by rw [← hL2]; rfl)
  have A11 : Hd (L1[11]? = some (.bool p.c.hasWill)) := hd (by rw [← hL1]; rfl)
  have D11 : Hd (L2[11]? = some (.bool q.c.hasWill)) := hd (by rw [← hL2]; rfl)
  have A12 : Hd (L1[12]? = some (.string p.c.topic)) := hd (by rw [← hL1]; rfl)
  have D12 : Hd (L2[12]? = some (.string q.c.topic)) := hd (by rw [← hL2]; rfl)
  have A13 : Hd (L1[13]? = some (.string p.c.text)) := hd (by rw [← hL1]; rfl)
  have D13 : Hd (L2[13]? = some (.string q.c.text)) := hd (by rw [← hL2]; rfl)
  have A14 : Hd (L1[14]? = some (.int .i64 p.c.qos)) := hd (by rw [← hL1]; rfl)
  have D14 : Hd (L2[14]? = some (.int .i64 q.c.qos)) := hd (by rw [← hL2]; rfl)
  have A15 : Hd (L1[15]? = some (.bool p.c.retain)) := hd (by rw [← hL1]; rfl)
  have D15 : Hd (L2[15]? = some (.bool q.c.retain)) := hd (by rw [← hL2]; rfl)
  have A16 : Hd (L1[16]? = some (.bool p.c.hasUser)) := hd (by rw [← hL1]; rfl)
  have D16 : Hd (L2[16]? = some (.bool q.c.hasUser)) := hd (by rw [← hL2]; rfl)
  have A17 : Hd (L1[17]? = some (.string p.c.user)) := hd (by rw [← hL1]; rfl)
  have D17 : Hd (L2[17]? = some (.string q.c.user)) := hd (by rw [← hL2]; rfl)
  have A18 : Hd (L1[18]? = some (.bool p.c.hasPass)) := hd (by rw [← hL1]; rfl)
  have D18 : Hd (L2[18]? = some (.bool q.c.hasPass)) := hd (by rw [← hL2]; rfl)
  have A19 : Hd (L1[19]? = some (.string p.c.pass)) := hd (by rw [← hL1]; rfl)
  have D19 : Hd (L2[19]? = some (.string q.c.pass)) := hd (by rw [← hL2]; rfl)
  have M1 : Hd (∀ j v, p.msg[j]? = some v → L1[3 + j]? = some v) := hd (by rw [← hL1]; exact p.msg_in _ _)
  have M2 : Hd (∀ j v, q.msg[j]? = some v → L2[3 + j]? = some v) := hd (by rw [← hL2]; exact q.msg_in _ _)
  have C1 : Hd (∀ j v, p.c.cells[j]? = some v → L1[7 + j]? = some v) := hd (by rw [← hL1]; exact p.con_in _ _)
  have C2 : Hd (∀ j v, q.c.cells[j]? = some v → L2[7 + j]? = some v) := hd (by rw [← hL2]; exact q.con_in _ _)
  go_enter Tryz.func13, Tryz.ntmps13
  go_wp2_with (first
    | (with_reducible refine wpl_box (o := ⟨some 2, .box 36 (.tmp 0), _, _, _, _⟩) rfl _ _ rfl L1 rfl w.heap.size rfl ?_; intro w1 h1 f1 b1 z1)
    | (with_reducible refine wpl_box (o := ⟨some 3, .box 36 (.tmp 1), _, _, _, _⟩) rfl _ _ rfl L2 rfl _ z1 ?_; intro w2 h2 f2 b2 z2; replace h1 := h1.keep b2 (by omega); have B2 : Below w.heap.size w w2 := b1.trans (b2.mono (by omega)); clear f1 f2 b1 b2; have a0 := h1.at 0 A0.out; have d0 := h2.at 0 D0.out; have a1 := h1.at 1 A1.out; have d1 := h2.at 1 D1.out; have a2 := h1.at 2 A2.out; have d2 := h2.at 2 D2.out; have a20 := h1.at 20 A20.out; have d20 := h2.at 20 D20.out; have a3 := h1.at 3 A3.out; have d3 := h2.at 3 D3.out; have a4 := h1.at 4 A4.out; have d4 := h2.at 4 D4.out; have a5 := h1.at 5 A5.out; have d5 := h2.at 5 D5.out; have a6 := h1.at 6 A6.out; have d6 := h2.at 6 D6.out; have a7 := h1.at 7 A7.out; have d7 := h2.at 7 D7.out; have a8 := h1.at 8 A8.out; have d8 := h2.at 8 D8.out; have a9 := h1.at 9 A9.out; have d9 := h2.at 9 D9.out; have a10 := h1.at 10 A10.out; have d10 := h2.at 10 D10.out; have a11 := h1.at 11 A11.out; have d11 := h2.at 11 D11.out; have a12 := h1.at 12 A12.out; have d12 := h2.at 12 D12.out; have a13 := h1.at 13 A13.out; have d13 := h2.at 13 D13.out; have a14 := h1.at 14 A14.out; have d14 := h2.at 14 D14.out; have a15 := h1.at 15 A15.out; have d15 := h2.at 15 D15.out; have a16 := h1.at 16 A16.out; have d16 := h2.at 16 D16.out; have a17 := h1.at 17 A17.out; have d17 := h2.at 17 D17.out; have a18 := h1.at 18 A18.out; have d18 := h2.at 18 D18.out; have a19 := h1.at 19 A19.out; have d19 := h2.at 19 D19.out))
  go_ret
  exact ⟨rfl, B2⟩

set_option maxRecDepth 100000 in
set_option maxHeartbeats 8000000 in
theorem refSameBad6_c (p q : Pac) (vf1 vc1 vf2 vc2 : Value) (w : World) (hp : PacRd w p vf1 vc1) (hq : PacRd w q vf2 vc2) (ek : (p.k != q.k) = false) (eid : (p.id != q.id) = false) (edup : (p.dup == q.dup) = true) (em : ∀ W, (binOp .neq 30 (.agg #[.string p.tp, .string p.tx, .int .i64 p.q, .bool p.rt]) (.agg #[.string q.tp, .string q.tx, .int .i64 q.q, .bool q.rt])).run Tryz.prog W = .ok (.bool false) W) (ec : ∀ W, (binOp .neq 32 (.agg #[.int .i64 p.c.level, .bool p.c.clean, .int .i64 p.c.keep, .string p.c.client, .bool p.c.hasWill, .string p.c.topic, .string p.c.text, .int .i64 p.c.qos, .bool p.c.retain, .bool p.c.hasUser, .string p.c.user, .bool p.c.hasPass, .string p.c.pass]) (.agg #[.int .i64 q.c.level, .bool q.c.clean, .int .i64 q.c.keep, .string q.c.client, .bool q.c.hasWill, .string q.c.topic, .string q.c.text, .int .i64 q.c.qos, .bool q.c.retain, .bool q.c.hasUser, .string q.c.user, .bool q.c.hasPass, .string q.c.pass])).run Tryz.prog W = .ok (.bool false) W) (epr : (p.pr == q.pr) = true) (ecode : (p.code != q.code) = true) :
    Calls Tryz.prog 13 #[.agg (p.cells vf1 vc1).toArray, .agg (q.cells vf2 vc2).toArray] w fun e w' => e = .returned (.bool false) ∧ Below w.heap.size w w' := by
  have HP := hd hp; have HQ := hd hq
  clear hp hq
  obtain ⟨L1, hL1⟩ : ∃ L, p.cells vf1 vc1 = L := ⟨_, rfl⟩
  obtain ⟨L2, hL2⟩ : ∃ L, q.cells vf2 vc2 = L := ⟨_, rfl⟩
  rw [hL1, hL2]
  have A0 : Hd (L1[0]? = some (.int .i64 p.k)) := hd (by rw [← hL1]; rfl)
  have D0 : Hd (L2[0]? = some (.int .i64 q.k)) := hd (by rw [← hL2]; rfl)
  have A1 : Hd (L1[1]? = some (.int .i64 p.id)) := hd (by rw [← hL1]; rfl)
  have D1 : Hd (L2[1]? = some (.int .i64 q.id)) := hd (by rw [← hL2]; rfl)
  have A2 : Hd (L1[2]? = some (.bool p.dup)) := hd (by rw [← hL1]; rfl)
  have D2 : Hd (L2[2]? = some (.bool q.dup)) := hd (by rw [← hL2]; rfl)
  have A20 : Hd (L1[20]? = some (.bool p.pr)) := hd (by rw [← hL1]; rfl)
  have D20 : Hd (L2[20]? = some (.bool q.pr)) := hd (by rw [← hL2]; rfl)
  have A21 : Hd (L1[21]? = some (.int .i64 p.code)) := hd (by rw [← hL1]; rfl)
  have D21 : Hd (L2[21]? = some (.int .i64 q.code)) := hd (by rw [← hL2]; rfl)
  have A3 : Hd (L1[3]? = some (.string p.tp)) := hd (by rw [← hL1]; rfl)
  have D3 : Hd (L2[3]? = some (.string q.tp)) := hd (by rw [← hL2]; rfl)
  have A4 : Hd (L1[4]? = some (.string p.tx)) := hd (by rw [← hL1]; rfl)
  have D4 : Hd (L2[4]? = some (.string q.tx)) := hd (by rw [← hL2]; rfl)
  have A5 : Hd (L1[5]? = some (.int .i64 p.q)) := hd (by rw [← hL1]; rfl)
  have D5 : Hd (L2[5]? = some (.int .i64 q.q)) := hd (by rw [← hL2]; rfl)
  have A6 : Hd (L1[6]? = some (.bool p.rt)) := hd (by rw [← hL1]; rfl)
  have D6 : Hd (L2[6]? = some (.bool q.rt)) := hd (by rw [← hL2]; rfl)
  have A7 : Hd (L1[7]? = some (.int .i64 p.c.level)) := hd (by rw [← hL1]; rfl)
  have D7 : Hd (L2[7]? = some (.int .i64 q.c.level)) := hd (by rw [← hL2]; rfl)
  have A8 : Hd (L1[8]? = some (.bool p.c.clean)) := hd (by rw [← hL1]; rfl)
  have D8 : Hd (L2[8]? = some (.bool q.c.clean)) := hd (by rw [← hL2]; rfl)
  have A9 : Hd (L1[9]? = some (.int .i64 p.c.keep)) := hd (by rw [← hL1]; rfl)
  have D9 : Hd (L2[9]? = some (.int .i64 q.c.keep)) := hd (by rw [← hL2]; rfl)
  have A10 : Hd (L1[10]? = some (.string p.c.client)) := hd (by rw [← hL1]; rfl)
  have D10 : Hd (L2[10]? = some (.string q.c.client)) := hd (by rw [← hL2]; rfl)
  have A11 : Hd (L1[11]? = some (.bool p.c.hasWill)) := hd (by rw [← hL1]; rfl)
  have D11 : Hd (L2[11]? = some (.bool q.c.hasWill)) := hd (by rw [← hL2]; rfl)
  have A12 : Hd (L1[12]? = some (.string p.c.topic)) := hd (by rw [← hL1]; rfl)
  have D12 : Hd (L2[12]? = some (.string q.c.topic)) := hd (by rw [← hL2]; rfl)
  have A13 : Hd (L1[13]? = some (.string p.c.text)) := hd (by rw [← hL1]; rfl)
  have D13 : Hd (L2[13]? = some (.string q.c.text)) := hd (by rw [← hL2]; rfl)
  have A14 : Hd (L1[14]? = some (.int .i64 p.c.qos)) := hd (by rw [← hL1]; rfl)
  have D14 : Hd (L2[14]? = some (.int .i64 q.c.qos)) := hd (by rw [← hL2]; rfl)
  have A15 : Hd (L1[15]? = some (.bool p.c.retain)) := hd (by rw [← hL1]; rfl)
  have D15 : Hd (L2[15]? = some (.bool q.c.retain)) := hd (by rw [← hL2]; rfl)
  have A16 : Hd (L1[16]? = some (.bool p.c.hasUser)) := hd (by rw [← hL1]; rfl)
  have D16 : Hd (L2[16]? = some (.bool q.c.hasUser)) := hd (by rw [← hL2]; rfl)
  have A17 : Hd (L1[17]? = some (.string p.c.user)) := hd (by rw [← hL1]; rfl)
  have D17 : Hd (L2[17]? = some (.string q.c.user)) := hd (by rw [← hL2]; rfl)
  have A18 : Hd (L1[18]? = some (.bool p.c.hasPass)) := hd (by rw [← hL1]; rfl)
  have D18 : Hd (L2[18]? = some (.bool q.c.hasPass)) := hd (by rw [← hL2]; rfl)
  have A19 : Hd (L1[19]? = some (.string p.c.pass)) := hd (by rw [← hL1]; rfl)
  have D19 : Hd (L2[19]? = some (.string q.c.pass)) := hd (by rw [← hL2]; rfl)
  have M1 : Hd (∀ j v, p.msg[j]? = some v → L1[3 + j]? = some v) := hd (by rw [← hL1]; exact p.msg_in _ _)
  have M2 : Hd (∀ j v, q.msg[j]? = some v → L2[3 + j]? = some v) := hd (by rw [← hL2]; exact q.msg_in _ _)
  have C1 : Hd (∀ j v, p.c.cells[j]? = some v → L1[7 + j]? = some v) := hd (by rw [← hL1]; exact p.con_in _ _)
  have C2 : Hd (∀ j v, q.c.cells[j]? = some v → L2[7 + j]? = some v) := hd (by rw [← hL2]; exact q.con_in _ _)
  go_enter Tryz.func13, Tryz.ntmps13
  go_wp2_with (first
    | (with_reducible refine wpl_box (o := ⟨some 2, .box 36 (.tmp 0), _, _, _, _⟩) rfl _ _ rfl L1 rfl w.heap.size rfl ?_; intro w1 h1 f1 b1 z1)
    | (with_reducible refine wpl_box (o := ⟨some 3, .box 36 (.tmp 1), _, _, _, _⟩) rfl _ _ rfl L2 rfl _ z1 ?_; intro w2 h2 f2 b2 z2; replace h1 := h1.keep b2 (by omega); have B2 : Below w.heap.size w w2 := b1.trans (b2.mono (by omega)); clear f1 f2 b1 b2; have a0 := h1.at 0 A0.out; have d0 := h2.at 0 D0.out; have a1 := h1.at 1 A1.out; have d1 := h2.at 1 D1.out; have a2 := h1.at 2 A2.out; have d2 := h2.at 2 D2.out; have a20 := h1.at 20 A20.out; have d20 := h2.at 20 D20.out; have a21 := h1.at 21 A21.out; have d21 := h2.at 21 D21.out; have a3 := h1.at 3 A3.out; have d3 := h2.at 3 D3.out; have a4 := h1.at 4 A4.out; have d4 := h2.at 4 D4.out; have a5 := h1.at 5 A5.out; have d5 := h2.at 5 D5.out; have a6 := h1.at 6 A6.out; have d6 := h2.at 6 D6.out; have a7 := h1.at 7 A7.out; have d7 := h2.at 7 D7.out; have a8 := h1.at 8 A8.out; have d8 := h2.at 8 D8.out; have a9 := h1.at 9 A9.out; have d9 := h2.at 9 D9.out; have a10 := h1.at 10 A10.out; have d10 := h2.at 10 D10.out; have a11 := h1.at 11 A11.out; have d11 := h2.at 11 D11.out; have a12 := h1.at 12 A12.out; have d12 := h2.at 12 D12.out; have a13 := h1.at 13 A13.out; have d13 := h2.at 13 D13.out; have a14 := h1.at 14 A14.out; have d14 := h2.at 14 D14.out; have a15 := h1.at 15 A15.out; have d15 := h2.at 15 D15.out; have a16 := h1.at 16 A16.out; have d16 := h2.at 16 D16.out; have a17 := h1.at 17 A17.out; have d17 := h2.at 17 D17.out; have a18 := h1.at 18 A18.out; have d18 := h2.at 18 D18.out; have a19 := h1.at 19 A19.out; have d19 := h2.at 19 D19.out))
  go_ret
  exact ⟨rfl, B2⟩

set_option maxRecDepth 100000 in
set_option maxHeartbeats 8000000 in
theorem refSameBad7_c (p q : Pac) (vf1 vc1 vf2 vc2 : Value) (w : World) (hp : PacRd w p vf1 vc1) (hq : PacRd w q vf2 vc2) (ek : (p.k != q.k) = false) (eid : (p.id != q.id) = false) (edup : (p.dup == q.dup) = true) (em : ∀ W, (binOp .neq 30 (.agg #[.string p.tp, .string p.tx, .int .i64 p.q, .bool p.rt]) (.agg #[.string q.tp, .string q.tx, .int .i64 q.q, .bool q.rt])).run Tryz.prog W = .ok (.bool false) W) (ec : ∀ W, (binOp .neq 32 (.agg #[.int .i64 p.c.level, .bool p.c.clean, .int .i64 p.c.keep, .string p.c.client, .bool p.c.hasWill, .string p.c.topic, .string p.c.text, .int .i64 p.c.qos, .bool p.c.retain, .bool p.c.hasUser, .string p.c.user, .bool p.c.hasPass, .string p.c.pass]) (.agg #[.int .i64 q.c.level, .bool q.c.clean, .int .i64 q.c.keep, .string q.c.client, .bool q.c.hasWill, .string q.c.topic, .string q.c.text, .int .i64 q.c.qos, .bool q.c.retain, .bool q.c.hasUser, .string q.c.user, .bool q.c.hasPass, .string q.c.pass])).run Tryz.prog W = .ok (.bool false) W) (epr : (p.pr == q.pr) = true) (ecode : (p.code != q.code) = false) (elf : ((p.fs.length : Int) != (q.fs.length : Int)) = true) :
    Calls Tryz.prog 13 #[.agg (p.cells vf1 vc1).toArray, .agg (q.cells vf2 vc2).toArray] w fun e w' => e = .returned (.bool false) ∧ Below w.heap.size w w' := by
  have HP := hd hp; have HQ := hd hq
  obtain ⟨fa1, fc1, rfl⟩ := hp.f.slice
  obtain ⟨ca1, cc1, rfl⟩ := hp.c.slice
  obtain ⟨fa2, fc2, rfl⟩ := hq.f.slice
  obtain ⟨ca2, cc2, rfl⟩ := hq.c.slice
  clear hp hq
  obtain ⟨L1, hL1⟩ : ∃ L, p.cells (.slice fa1 p.fs.length fc1) (.slice ca1 p.cs.length cc1) = L := ⟨_, rfl⟩
  obtain ⟨L2, hL2⟩ : ∃ L, q.cells (.slice fa2 q.fs.length fc2) (.slice ca2 q.cs.length cc2) = L := ⟨_, rfl⟩
  rw [hL1, hL2]
  have A0 : Hd (L1[0]? = some (.int .i64 p.k)) := hd (by rw [← hL1]; rfl)
  have D0 : Hd (L2[0]? = some (.int .i64 q.k)) := hd (by rw [← hL2]; rfl)
  have A1 : Hd (L1[1]? = some (.int .i64 p.id)) := hd (by rw [← hL1]; rfl)
  have D1 : Hd (L2[1]? = some (.int .i64 q.id)) := hd (by rw [← hL2]; rfl)
  have A2 : Hd (L1[2]? = some (.bool p.dup)) := hd (by rw [← hL1]; rfl)
  have D2 : Hd (L2[2]? = some (.bool q.dup)) := hd (by rw [← hL2]; rfl)
  have A20 : Hd (L1[20]? = some (.bool p.pr)) := hd (by rw [← hL1]; rfl)
  have D20 : Hd (L2[20]? = some (.bool q.pr)) := hd (by rw [← hL2]; rfl)
  have A21 : Hd (L1[21]? = some (.int .i64 p.code)) := hd (by rw [← hL1]; rfl)
  have D21 : Hd (L2[21]? = some (.int .i64 q.code)) := hd (by rw [← hL2]; rfl)
  have A22 : Hd (L1[22]? = some ((.slice fa1 p.fs.length fc1))) := hd (by rw [← hL1]; rfl)
  have D22 : Hd (L2[22]? = some ((.slice fa2 q.fs.length fc2))) := hd (by rw [← hL2]; rfl)
  have A23 : Hd (L1[23]? = some ((.slice ca1 p.cs.length cc1))) := hd (by rw [← hL1]; rfl)
  have D23 : Hd (L2[23]? = some ((.slice ca2 q.cs.length cc2))) := hd (by rw [← hL2]; rfl)
  have A3 : Hd (L1[3]? = some (.string p.tp)) := hd (by rw [← hL1]; rfl)
  have D3 : Hd (L2[3]? = some (.string q.tp)) := hd (by rw [← hL2]; rfl)
  have A4 : Hd (L1[4]? = some (.string p.tx)) := hd (by rw [← hL1]; rfl)
  have D4 : Hd (L2[4]? = some (.string q.tx)) := hd (by rw [← hL2]; rfl)
  have A5 : Hd (L1[5]? = some (.int .i64 p.q)) := hd (by rw [← hL1]; rfl)
  have D5 : Hd (L2[5]? = some (.int .i64 q.q)) := hd (by rw [← hL2]; rfl)
  have A6 : Hd (L1[6]? = some (.bool p.rt)) := hd (by rw [← hL1]; rfl)
  have D6 : Hd (L2[6]? = some (.bool q.rt)) := hd (by rw [← hL2]; rfl)
  have A7 : Hd (L1[7]? = some (.int .i64 p.c.level)) := hd (by rw [← hL1]; rfl)
  have D7 : Hd (L2[7]? = some (.int .i64 q.c.level)) := hd (by rw [← hL2]; rfl)
  have A8 : Hd (L1[8]? = some (.bool p.c.clean)) := hd (by rw [← hL1]; rfl)
  have D8 : Hd (L2[8]? = some (.bool q.c.clean)) := hd (by rw [← hL2]; rfl)
  have A9 : Hd (L1[9]? = some (.int .i64 p.c.keep)) := hd (by rw [← hL1]; rfl)
  have D9 : Hd (L2[9]? = some (.int .i64 q.c.keep)) := hd (by rw [← hL2]; rfl)
  have A10 : Hd (L1[10]? = some (.string p.c.client)) := hd (by rw [← hL1]; rfl)
  have D10 : Hd (L2[10]? = some (.string q.c.client)) := hd (by rw [← hL2]; rfl)
  have A11 : Hd (L1[11]? = some (.bool p.c.hasWill)) := hd (by rw [← hL1]; rfl)
  have D11 : Hd (L2[11]? = some (.bool q.c.hasWill)) := hd (by rw [← hL2]; rfl)
  have A12 : Hd (L1[12]? = some (.string p.c.topic)) := hd (by rw [← hL1]; rfl)
  have D12 : Hd (L2[12]? = some (.string q.c.topic)) := hd (by rw [← hL2]; rfl)
  have A13 : Hd (L1[13]? = some (.string p.c.text)) := hd (by rw [← hL1]; rfl)
  have D13 : Hd (L2[13]? = some (.string q.c.text)) := hd (by rw [← hL2]; rfl)
  have A14 : Hd (L1[14]? = some (.int .i64 p.c.qos)) := hd (by rw [← hL1]; rfl)
  have D14 : Hd (L2[14]? = some (.int .i64 q.c.qos)) := hd (by rw [← hL2]; rfl)
  have A15 : Hd (L1[15]? = some (.bool p.c.retain)) := hd (by rw [← hL1]; rfl)
  have D15 : Hd (L2[15]? = some (.bool q.c.retain)) := hd (by rw [← hL2]; rfl)
  have A16 : Hd (L1[16]? = some (.bool p.c.hasUser)) := hd (by rw [← hL1]; rfl)
  have D16 : Hd (L2[16]? = some (.bool q.c.hasUser)) := hd (by rw [← hL2]; rfl)
  have A17 : Hd (L1[17]? = some (.string p.c.user)) := hd (by rw [← hL1]; rfl)
  have D17 : Hd (L2[17]? = some (.string q.c.user)) := hd (by rw [← hL2]; rfl)
  have A18 : Hd (L1[18]? = some (.bool p.c.hasPass)) := hd (by rw [← hL1]; rfl)
  have D18 : Hd (L2[18]? = some (.bool q.c.hasPass)) := hd (by rw [← hL2]; rfl)
  have A19 : Hd (L1[19]? = some (.string p.c.pass)) := hd (by rw [← hL1]; rfl)
  have D19 : Hd (L2[19]? = some (.string q.c.pass)) := hd (by rw [← hL2]; rfl)
  have M1 : Hd (∀ j v, p.msg[j]? = some v → L1[3 + j]? = some v) := hd (by rw [← hL1]; exact p.msg_in _ _)
  have M2 : Hd (∀ j v, q.msg[j]? = some v → L2[3 + j]? = some v) := hd (by rw [← hL2]; exact q.msg_in _ _)
  have C1 : Hd (∀ j v, p.c.cells[j]? = some v → L1[7 + j]? = some v) := hd (by rw [← hL1]; exact p.con_in _ _)
  have C2 : Hd (∀ j v, q.c.cells[j]? = some v → L2[7 + j]? = some v) := hd (by rw [← hL2]; exact q.con_in _ _)
  go_enter Tryz.func13, Tryz.ntmps13
  go_wp2_with (first
    | (with_reducible refine wpl_box (o := ⟨some 2, .box 36 (.tmp 0), _, _, _, _⟩) rfl _ _ rfl L1 rfl w.heap.size rfl ?_; intro w1 h1 f1 b1 z1)
    | (with_reducible refine wpl_box (o := ⟨some 3, .box 36 (.tmp 1), _, _, _, _⟩) rfl _ _ rfl L2 rfl _ z1 ?_; intro w2 h2 f2 b2 z2; replace h1 := h1.keep b2 (by omega); have B2 : Below w.heap.size w w2 := b1.trans (b2.mono (by omega)); clear f1 f2 b1 b2; have a0 := h1.at 0 A0.out; have d0 := h2.at 0 D0.out; have a1 := h1.at 1 A1.out; have d1 := h2.at 1 D1.out; have a2 := h1.at 2 A2.out; have d2 := h2.at 2 D2.out; have a20 := h1.at 20 A20.out; have d20 := h2.at 20 D20.out; have a21 := h1.at 21 A21.out; have d21 := h2.at 21 D21.out; have a22 := h1.at 22 A22.out; have d22 := h2.at 22 D22.out; have a23 := h1.at 23 A23.out; have d23 := h2.at 23 D23.out; have a3 := h1.at 3 A3.out; have d3 := h2.at 3 D3.out; have a4 := h1.at 4 A4.out; have d4 := h2.at 4 D4.out; have a5 := h1.at 5 A5.out; have d5 := h2.at 5 D5.out; have a6 := h1.at 6 A6.out; have d6 := h2.at 6 D6.out; have a7 := h1.at 7 A7.out; have d7 := h2.at 7 D7.out; have a8 := h1.at 8 A8.out; have d8 := h2.at 8 D8.out; have a9 := h1.at 9 A9.out; have d9 := h2.at 9 D9.out; have a10 := h1.at 10 A10.out; have d10 := h2.at 10 D10.out; have a11 := h1.at 11 A11.out; have d11 := h2.at 11 D11.out; have a12 := h1.at 12 A12.out; have d12 := h2.at 12 D12.out; have a13 := h1.at 13 A13.out; have d13 := h2.at 13 D13.out; have a14 := h1.at 14 A14.out; have d14 := h2.at 14 D14.out; have a15 := h1.at 15 A15.out; have d15 := h2.at 15 D15.out; have a16 := h1.at 16 A16.out; have d16 := h2.at 16 D16.out; have a17 := h1.at 17 A17.out; have d17 := h2.at 17 D17.out; have a18 := h1.at 18 A18.out; have d18 := h2.at 18 D18.out; have a19 := h1.at 19 A19.out; have d19 := h2.at 19 D19.out))
  go_ret
  exact ⟨rfl, B2⟩

set_option maxRecDepth 100000 in
set_option maxHeartbeats 8000000 in
theorem refSameBad8_c (p q : Pac) (vf1 vc1 vf2 vc2 : Value) (w : World) (hp : PacRd w p vf1 vc1) (hq : PacRd w q vf2 vc2) (ek : (p.k != q.k) = false) (eid : (p.id != q.id) = false) (edup : (p.dup == q.dup) = true) (em : ∀ W, (binOp .neq 30 (.agg #[.string p.tp, .string p.tx, .int .i64 p.q, .bool p.rt]) (.agg #[.string q.tp, .string q.tx, .int .i64 q.q, .bool q.rt])).run Tryz.prog W = .ok (.bool false) W) (ec : ∀ W, (binOp .neq 32 (.agg #[.int .i64 p.c.level, .bool p.c.clean, .int .i64 p.c.keep, .string p.c.client, .bool p.c.hasWill, .string p.c.topic, .string p.c.text, .int .i64 p.c.qos, .bool p.c.retain, .bool p.c.hasUser, .string p.c.user, .bool p.c.hasPass, .string p.c.pass]) (.agg #[.int .i64 q.c.level, .bool q.c.clean, .int .i64 q.c.keep, .string q.c.client, .bool q.c.hasWill, .string q.c.topic, .string q.c.text, .int .i64 q.c.qos, .bool q.c.retain, .bool q.c.hasUser, .string q.c.user, .bool q.c.hasPass, .string q.c.pass])).run Tryz.prog W = .ok (.bool false) W) (epr : (p.pr == q.pr) = true) (ecode : (p.code != q.code) = false) (elf : ((p.fs.length : Int) != (q.fs.length : Int)) = false) (elc : ((p.cs.length : Int) != (q.cs.length : Int)) = true) :
    Calls Tryz.prog 13 #[.agg (p.cells vf1 vc1).toArray, .agg (q.cells vf2 vc2).toArray] w fun e w' => e = .returned (.bool false) ∧ Below w.heap.size w w' := by
  have HP := hd hp; have HQ := hd hq
  obtain ⟨fa1, fc1, rfl⟩ := hp.f.slice
  obtain ⟨ca1, cc1, rfl⟩ := hp.c.slice
  obtain ⟨fa2, fc2, rfl⟩ := hq.f.slice
  obtain ⟨ca2, cc2, rfl⟩ := hq.c.slice
  clear hp hq
  obtain ⟨L1, hL1⟩ : ∃ L, p.cells (.slice fa1 p.fs.length fc1) (.slice ca1 p.cs.length cc1) = L := ⟨_, rfl⟩
  obtain ⟨L2, hL2⟩ : ∃ L, q.cells (.slice fa2 q.fs.length fc2) (.slice ca2 q.cs.length cc2) = L := ⟨_, rfl⟩
  rw [hL1, hL2]
  have A0 : Hd (L1[0]? = some (.int .i64 p.k)) := hd (by rw [← hL1]; rfl)
  have D0 : Hd (L2[0]? = some (.int .i64 q.k)) := hd (by rw [← hL2]; rfl)
  have A1 : Hd (L1[1]? = some (.int .i64 p.id)) := hd (by rw [← hL1]; rfl)
  have D1 : Hd (L2[1]? = some (.int .i64 q.id)) := hd (by rw [← hL2]; rfl)
  have A2 : Hd (L1[2]? = some (.bool p.dup)) := hd (by rw [← hL1]; rfl)
  have D2 : Hd (L2[2]? = some (.bool q.dup)) := hd (by rw [← hL2]; rfl)
  have A20 : Hd (L1[20]? = some (.bool p.pr)) := hd (by rw [← hL1]; rfl)
  have D20 : Hd (L2[20]? = some (.bool q.pr)) := hd (by rw [← hL2]; rfl)
  have A21 : Hd (L1[21]? = some (.int .i64 p.code)) := hd (by rw [← hL1]; rfl)
  have D21 : Hd (L2[21]? = some (.int .i64 q.code)) := hd (by rw [← hL2]; rfl)
  have A22 : Hd (L1[22]? = some ((.slice fa1 p.fs.length fc1))) := hd (by rw [← hL1]; rfl)
  have D22 : Hd (L2[22]? = some ((.slice fa2 q.fs.length fc2))) := hd (by rw [← hL2]; rfl)
  have A23 : Hd (L1[23]? = some ((.slice ca1 p.cs.length cc1))) := hd (by rw [← hL1]; rfl)
  have D23 : Hd (L2[23]? = some ((.slice ca2 q.cs.length cc2))) := hd (by rw [← hL2]; rfl)
  have A3 : Hd (L1[3]? = some (.string p.tp)) := hd (by rw [← hL1]; rfl)
  have D3 : Hd (L2[3]? = some (.string q.tp)) := hd (by rw [← hL2]; rfl)
  have A4 : Hd (L1[4]? = some (.string p.tx)) := hd (by rw [← hL1]; rfl)
  have D4 : Hd (L2[4]? = some (.string q.tx)) := hd (by rw [← hL2]; rfl)
  have A5 : Hd (L1[5]? = some (.int .i64 p.q)) := hd (by rw [← hL1]; rfl)
  have D5 : Hd (L2[5]? = some (.int .i64 q.q)) := hd (by rw [← hL2]; rfl)
  have A6 : Hd (L1[6]? = some (.bool p.rt)) := hd (by rw [← hL1]; rfl)
  have D6 : Hd (L2[6]? = some (.bool q.rt)) := hd (by rw [← hL2]; rfl)
  have A7 : Hd (L1[7]? = some (.int .i64 p.c.level)) := hd (by rw [← hL1]; rfl)
  have D7 : Hd (L2[7]? = some (.int .i64 q.c.level)) := hd (by rw [← hL2]; rfl)
  have A8 : Hd (L1[8]? = some (.bool p.c.clean)) := hd (by rw [← hL1]; rfl)
  have D8 : Hd (L2[8]? = some (.bool q.c.clean)) := hd (by rw [← hL2]; rfl)
  have A9 : Hd (L1[9]? = some (.int .i64 p.c.keep)) := hd (by rw [← hL1]; rfl)
  have D9 : Hd (L2[9]? = some (.int .i64 q.c.keep)) := hd (by rw [← hL2]; rfl)
  have A10 : Hd (L1[10]? = some (.string p.c.client)) := hd (by rw [← hL1]; rfl)
  have D10 : Hd (L2[10]? = some (.string q.c.client)) := hd (by rw [← hL2]; rfl)
  have A11 : Hd (L1[11]? = some (.bool p.c.hasWill)) := hd (by rw [← hL1]; rfl)
  have D11 : Hd (L2[11]? = some (.bool q.c.hasWill)) := hd (by rw [← hL2]; rfl)
  have A12 : Hd (L1[12]? = some (.string p.c.topic)) := hd (by rw [← hL1]; rfl)
  have D12 : Hd (L2[12]? = some (.string q.c.topic)) := hd (by rw [← hL2]; rfl)
  have A13 : Hd (L1[13]? = some (.string p.c.text)) := hd (by rw [← hL1]; rfl)
  have D13 : Hd (L2[13]? = some (.string q.c.text)) := hd (by rw [← hL2]; rfl)
  have A14 : Hd (L1[14]? = some (.int .i64 p.c.qos)) := hd (by rw [← hL1]; rfl)
  have D14 : Hd (L2[14]? = some (.int .i64 q.c.qos)) := hd (by rw [← hL2]; rfl)
  have A15 : Hd (L1[15]? = some (.bool p.c.retain)) := hd (by rw [← hL1]; rfl)
  have D15 : Hd (L2[15]? = some (.bool q.c.retain)) := hd (by rw [← hL2]; rfl)
  have A16 : Hd (L1[16]? = some (.bool p.c.hasUser)) := hd (by rw [← hL1]; rfl)
  have D16 : Hd (L2[16]? = some (.bool q.c.hasUser)) := hd (by rw [← hL2]; rfl)
  have A17 : Hd (L1[17]? = some (.string p.c.user)) := hd (by rw [← hL1]; rfl)
  have D17 : Hd (L2[17]? = some (.string q.c.user)) := hd (by rw [← hL2]; rfl)
  have A18 : Hd (L1[18]? = some (.bool p.c.hasPass)) := hd (by rw [← hL1]; rfl)
  have D18 : Hd (L2[18]? = some (.bool q.c.hasPass)) := hd (by rw [← hL2]; rfl)
  have A19 : Hd (L1[19]? = some (.string p.c.pass)) := hd (by rw [← hL1]; rfl)
  have D19 : Hd (L2[19]? = some (.string q.c.pass)) := hd (by rw [← hL2]; rfl)
  have M1 : Hd (∀ j v, p.msg[j]? = some v → L1[3 + j]? = some v) := hd (by rw [← hL1]; exact p.msg_in _ _)
  have M2 : Hd (∀ j v, q.msg[j]? = some v → L2[3 + j]? = some v) := hd (by rw [← hL2]; exact q.msg_in _ _)
  have C1 : Hd (∀ j v, p.c.cells[j]? = some v → L1[7 + j]? = some v) := hd (by rw [← hL1]; exact p.con_in _ _)
  have C2 : Hd (∀ j v, q.c.cells[j]? = some v → L2[7 + j]? = some v) := hd (by rw [← hL2]; exact q.con_in _ _)
  go_enter Tryz.func13, Tryz.ntmps13
  go_wp2_with (first
    | (with_reducible refine wpl_box (o := ⟨some 2, .box 36 (.tmp 0), _, _, _, _⟩) rfl _ _ rfl L1 rfl w.heap.size rfl ?_; intro w1 h1 f1 b1 z1)
    | (with_reducible refine wpl_box (o := ⟨some 3, .box 36 (.tmp 1), _, _, _, _⟩) rfl _ _ rfl L2 rfl _ z1 ?_; intro w2 h2 f2 b2 z2; replace h1 := h1.keep b2 (by omega); have B2 : Below w.heap.size w w2 := b1.trans (b2.mono (by omega)); clear f1 f2 b1 b2; have a0 := h1.at 0 A0.out; have d0 := h2.at 0 D0.out; have a1 := h1.at 1 A1.out; have d1 := h2.at 1 D1.out; have a2 := h1.at 2 A2.out; have d2 := h2.at 2 D2.out; have a20 := h1.at 20 A20.out; have d20 := h2.at 20 D20.out; have a21 := h1.at 21 A21.out; have d21 := h2.at 21 D21.out; have a22 := h1.at 22 A22.out; have d22 := h2.at 22 D22.out; have a23 := h1.at 23 A23.out; have d23 := h2.at 23 D23.out; have a3 := h1.at 3 A3.out; have d3 := h2.at 3 D3.out; have a4 := h1.at 4 A4.out; have d4 := h2.at 4 D4.out; have a5 := h1.at 5 A5.out; have d5 := h2.at 5 D5.out; have a6 := h1.at 6 A6.out; have d6 := h2.at 6 D6.out; have a7 := h1.at 7 A7.out; have d7 := h2.at 7 D7.out; have a8 := h1.at 8 A8.out; have d8 := h2.at 8 D8.out; have a9 := h1.at 9 A9.out; have d9 := h2.at 9 D9.out; have a10 := h1.at 10 A10.out; have d10 := h2.at 10 D10.out; have a11 := h1.at 11 A11.out; have d11 := h2.at 11 D11.out; have a12 := h1.at 12 A12.out; have d12 := h2.at 12 D12.out; have a13 := h1.at 13 A13.out; have d13 := h2.at 13 D13.out; have a14 := h1.at 14 A14.out; have d14 := h2.at 14 D14.out; have a15 := h1.at 15 A15.out; have d15 := h2.at 15 D15.out; have a16 := h1.at 16 A16.out; have d16 := h2.at 16 D16.out; have a17 := h1.at 17 A17.out; have d17 := h2.at 17 D17.out; have a18 := h1.at 18 A18.out; have d18 := h2.at 18 D18.out; have a19 := h1.at 19 A19.out; have d19 := h2.at 19 D19.out))
  go_ret
  exact ⟨rfl, B2⟩

end Go.Proofs.YtjlnlgemngpelaaGreatDoor
