/- A bundle of texts (merged for the limit on files): PacSame2. -/
import Derived.Test.YtclicjokgfiegaaDoorZp13
/- Packets: are two the same: packet.Same, and the reference's: the walks. -/
namespace Go.Proofs.YtclicjokgfiegaaDoor
open Go.RowKit
set_option linter.unusedVariables false
set_option linter.unusedSimpArgs false

set_option maxRecDepth 100000 in
set_option maxHeartbeats 8000000 in
theorem sameBad0_c (p q : Pac) (vf1 vc1 vf2 vc2 : Value) (w : World) (hp : PacRd w p vf1 vc1) (hq : PacRd w q vf2 vc2) (ek : (p.k != q.k) = true) :
    Calls Tryd.prog 16 #[.agg (p.cells vf1 vc1).toArray, .agg (q.cells vf2 vc2).toArray] w fun e w' => e = .returned (.bool false) ∧ Below w.heap.size w w' := by
  have HP := hd hp; have HQ := hd hq
  clear hp hq
  obtain ⟨L1, hL1⟩ : ∃ L, p.cells vf1 vc1 = L := ⟨_, rfl⟩
  obtain ⟨L2, hL2⟩ : ∃ L, q.cells vf2 vc2 = L := ⟨_, rfl⟩
  rw [hL1, hL2]
  have A0 : Hd (L1[0]? = some (.int .i64 p.k)) := hd (by rw [← hL1]; rfl)
  have D0 : Hd (L2[0]? = some (.int .i64 q.k)) := hd (by rw [← hL2]; rfl)
  have M1 : Hd (∀ j v, p.msg[j]? = some v → L1[3 + j]? = some v) := hd (by rw [← hL1]; exact p.msg_in _ _)
  have M2 : Hd (∀ j v, q.msg[j]? = some v → L2[3 + j]? = some v) := hd (by rw [← hL2]; exact q.msg_in _ _)
  have C1 : Hd (∀ j v, p.c.cells[j]? = some v → L1[7 + j]? = some v) := hd (by rw [← hL1]; exact p.con_in _ _)
  have C2 : Hd (∀ j v, q.c.cells[j]? = some v → L2[7 + j]? = some v) := hd (by rw [← hL2]; exact q.con_in _ _)
  go_enter Tryd.func16, Tryd.ntmps16
  go_wp2_with (first
    | (with_reducible refine wpl_box (o := ⟨some 2, .box 29 (.tmp 0), _, _, _, _⟩) rfl _ _ rfl L1 rfl w.heap.size rfl ?_; intro w1 h1 f1 b1 z1)
    | (with_reducible refine wpl_box (o := ⟨some 3, .box 29 (.tmp 1), _, _, _, _⟩) rfl _ _ rfl L2 rfl _ z1 ?_; intro w2 h2 f2 b2 z2; replace h1 := h1.keep b2 (by omega); have B2 : Below w.heap.size w w2 := b1.trans (b2.mono (by omega)); clear f1 f2 b1 b2; have a0 := h1.at 0 A0.out; have d0 := h2.at 0 D0.out)
    | ((with_reducible refine wpl_at (o := ⟨some 22, .load 23 (.tmp 21), _, _, _, _⟩) ?_); refine wpl_loadAt rfl _ _ rfl w.heap.size 3 rfl p.msg _ (h1.part 3 M1.out) Tryd.underlying23 rfl info_msg ?_)
    | ((with_reducible refine wpl_at (o := ⟨some 24, .load 23 (.tmp 23), _, _, _, _⟩) ?_); refine wpl_loadAt rfl _ _ rfl (w.heap.size + 1) 3 rfl q.msg _ (h2.part 3 M2.out) Tryd.underlying23 rfl info_msg ?_)
    | ((with_reducible refine wpl_at (o := ⟨some 27, .load 25 (.tmp 26), _, _, _, _⟩) ?_); refine wpl_loadAt rfl _ _ rfl w.heap.size 7 rfl p.c.cells _ (h1.part 7 C1.out) Tryd.underlying25 rfl info_con ?_)
    | ((with_reducible refine wpl_at (o := ⟨some 29, .load 25 (.tmp 28), _, _, _, _⟩) ?_); refine wpl_loadAt rfl _ _ rfl (w.heap.size + 1) 7 rfl q.c.cells _ (h2.part 7 C2.out) Tryd.underlying25 rfl info_con ?_))
  go_ret
  exact ⟨rfl, B2⟩

set_option maxRecDepth 100000 in
set_option maxHeartbeats 8000000 in
theorem sameBad1_c (p q : Pac) (vf1 vc1 vf2 vc2 : Value) (w : World) (hp : PacRd w p vf1 vc1) (hq : PacRd w q vf2 vc2) (ek : (p.k != q.k) = false) (eid : (p.id != q.id) = true) :
    Calls Tryd.prog 16 #[.agg (p.cells vf1 vc1).toArray, .agg (q.cells vf2 vc2).toArray] w fun e w' => e = .returned (.bool false) ∧ Below w.heap.size w w' := by
  have HP := hd hp; have HQ := hd hq
  clear hp hq
  obtain ⟨L1, hL1⟩ : ∃ L, p.cells vf1 vc1 = L := ⟨_, rfl⟩
  obtain ⟨L2, hL2⟩ : ∃ L, q.cells vf2 vc2 = L := ⟨_, rfl⟩
  rw [hL1, hL2]
  have A0 : Hd (L1[0]? = some (.int .i64 p.k)) := hd (by rw [← hL1]; rfl)
  have D0 : Hd (L2[0]? = some (.int .i64 q.k)) := hd (by rw [← hL2]; rfl)
  have A1 : Hd (L1[1]? = some (.int .i64 p.id)) := hd (by rw [← hL1]; rfl)
  have D1 : Hd (L2[1]? = some (.int .i64 q.id)) := hd (by rw [← hL2]; rfl)
  have M1 : Hd (∀ j v, p.msg[j]? = some v → L1[3 + j]? = some v) := hd (by rw [← hL1]; exact p.msg_in _ _)
  have M2 : Hd (∀ j v, q.msg[j]? = some v → L2[3 + j]? = some v) := hd (by rw [← hL2]; exact q.msg_in _ _)
  have C1 : Hd (∀ j v, p.c.cells[j]? = some v → L1[7 + j]? = some v) := hd (by rw [← hL1]; exact p.con_in _ _)
  have C2 : Hd (∀ j v, q.c.cells[j]? = some v → L2[7 + j]? = some v) := hd (by rw [← hL2]; exact q.con_in _ _)
  go_enter Tryd.func16, Tryd.ntmps16
  go_wp2_with (first
    | (with_reducible refine wpl_box (o := ⟨some 2, .box 29 (.tmp 0), _, _, _, _⟩) rfl _ _ rfl L1 rfl w.heap.size rfl ?_; intro w1 h1 f1 b1 z1)
    | (with_reducible refine wpl_box (o := ⟨some 3, .box 29 (.tmp 1), _, _, _, _⟩) rfl _ _ rfl L2 rfl _ z1 ?_; intro w2 h2 f2 b2 z2; replace h1 := h1.keep b2 (by omega); have B2 : Below w.heap.size w w2 := b1.trans (b2.mono (by omega)); clear f1 f2 b1 b2; have a0 := h1.at 0 A0.out; have d0 := h2.at 0 D0.out; have a1 := h1.at 1 A1.out; have d1 := h2.at 1 D1.out)
    | ((with_reducible refine wpl_at (o := ⟨some 22, .load 23 (.tmp 21), _, _, _, _⟩) ?_); refine wpl_loadAt rfl _ _ rfl w.heap.size 3 rfl p.msg _ (h1.part 3 M1.out) Tryd.underlying23 rfl info_msg ?_)
    | ((with_reducible refine wpl_at (o := ⟨some 24, .load 23 (.tmp 23), _, _, _, _⟩) ?_); refine wpl_loadAt rfl _ _ rfl (w.heap.size + 1) 3 rfl q.msg _ (h2.part 3 M2.out) Tryd.underlying23 rfl info_msg ?_)
    | ((with_reducible refine wpl_at (o := ⟨some 27, .load 25 (.tmp 26), _, _, _, _⟩) ?_); refine wpl_loadAt rfl _ _ rfl w.heap.size 7 rfl p.c.cells _ (h1.part 7 C1.out) Tryd.underlying25 rfl info_con ?_)
    | ((with_reducible refine wpl_at (o := ⟨some 29, .load 25 (.tmp 28), _, _, _, _⟩) ?_); refine wpl_loadAt rfl _ _ rfl (w.heap.size + 1) 7 rfl q.c.cells _ (h2.part 7 C2.out) Tryd.underlying25 rfl info_con ?_))
  go_ret
  exact ⟨rfl, B2⟩

set_option maxRecDepth 100000 in
set_option maxHeartbeats 8000000 in
theorem sameBad2_c (p q : Pac) (vf1 vc1 vf2 vc2 : Value) (w : World) (hp : PacRd w p vf1 vc1) (hq : PacRd w q vf2 vc2) (ek : (p.k != q.k) = false) (eid : (p.id != q.id) = false) (edup : (p.dup == q.dup) = false) :
    Calls Tryd.prog 16 #[.agg (p.cells vf1 vc1).toArray, .agg (q.cells vf2 vc2).toArray] w fun e w' => e = .returned (.bool false) ∧ Below w.heap.size w w' := by
  have HP := hd hp; have HQ := hd hq
  clear hp hq
  obtain ⟨L1, hL1⟩ : ∃ L, p.cells vf1 vc1 = L := ⟨_, rfl⟩
  obtain ⟨L2, hL2⟩ : ∃ L, q.cells vf2 vc2 = L := ⟨_, rfl⟩
  rw [hL1, hL2]
  have A0 : Hd (L1[0]? = some (.int .i64 p.k)) := hd (by rw [← hL1]; rfl)
  have D0 : Hd (L2[0]? = some (.int .i64 q.k)) := hd (by rw [← hL2]; rfl)
  have A1 : Hd (L1[1]? = some (.int .i64 p.id)) := hd (by rw [← hL1]; rfl)
  have D1 : Hd (L2[1]? = some (.int .i64 q.id)) := hd (by rw [← hL2]; rfl)
  have A2 : Hd (L1[2]? = some (.bool p.dup)) := hd (by rw [← hL1]; rfl)
  have D2 : Hd (L2[2]? = some (.bool q.dup)) := hd (by rw [← hL2]; rfl)
  have M1 : Hd (∀ j v, p.msg[j]? = some v → L1[3 + j]? = some v) := hd (by rw [← hL1]; exact p.msg_in _ _)
  have M2 : Hd (∀ j v, q.msg[j]? = some v → L2[3 + j]? = some v) := hd (by rw [← hL2]; exact q.msg_in _ _)
  have C1 : Hd (∀ j v, p.c.cells[j]? = some v → L1[7 + j]? = some v) := hd (by rw [← hL1]; exact p.con_in _ _)
  have C2 : Hd (∀ j v, q.c.cells[j]? = some v → L2[7 + j]? = some v) := hd (by rw [← hL2]; exact q.con_in _ _)
  go_enter Tryd.func16, Tryd.ntmps16
  go_wp2_with (first
    | (with_reducible refine wpl_box (o := ⟨some 2, .box 29 (.tmp 0), _, _, _, _⟩) rfl _ _ rfl L1 rfl w.heap.size rfl ?_; intro w1 h1 f1 b1 z1)
    | (with_reducible refine wpl_box (o := ⟨some 3, .box 29 (.tmp 1), _, _, _, _⟩) rfl _ _ rfl L2 rfl _ z1 ?_; intro w2 h2 f2 b2 z2; replace h1 := h1.keep b2 (by omega); have B2 : Below w.heap.size w w2 := b1.trans (b2.mono (by omega)); clear f1 f2 b1 b2; have a0 := h1.at 0 A0.out; have d0 := h2.at 0 D0.out; have a1 := h1.at 1 A1.out; have d1 := h2.at 1 D1.out; have a2 := h1.at 2 A2.out; have d2 := h2.at 2 D2.out)
    | ((with_reducible refine wpl_at (o := ⟨some 22, .load 23 (.tmp 21), _, _, _, _⟩) ?_); refine wpl_loadAt rfl _ _ rfl w.heap.size 3 rfl p.msg _ (h1.part 3 M1.out) Tryd.underlying23 rfl info_msg ?_)
    | ((with_reducible refine wpl_at (o := ⟨some 24, .load 23 (.tmp 23), _, _, _, _⟩) ?_); refine wpl_loadAt rfl _ _ rfl (w.heap.size + 1) 3 rfl q.msg _ (h2.part 3 M2.out) Tryd.underlying23 rfl info_msg ?_)
    | ((with_reducible refine wpl_at (o := ⟨some 27, .load 25 (.tmp 26), _, _, _, _⟩) ?_); refine wpl_loadAt rfl _ _ rfl w.heap.size 7 rfl p.c.cells _ (h1.part 7 C1.out) Tryd.underlying25 rfl info_con ?_)
    | ((with_reducible refine wpl_at (o := ⟨some 29, .load 25 (.tmp 28), _, _, _, _⟩) ?_); refine wpl_loadAt rfl _ _ rfl (w.heap.size + 1) 7 rfl q.c.cells _ (h2.part 7 C2.out) Tryd.underlying25 rfl info_con ?_))
  go_ret
  exact ⟨rfl, B2⟩

set_option maxRecDepth 100000 in
set_option maxHeartbeats 8000000 in
theorem sameBad3_c (p q : Pac) (vf1 vc1 vf2 vc2 : Value) (w : World) (hp : PacRd w p vf1 vc1) (hq : PacRd w q vf2 vc2) (ek : (p.k != q.k) = false) (eid : (p.id != q.id) = false) (edup : (p.dup == q.dup) = true) (em : ∀ W, (binOp .neq 23 (.agg p.msg.toArray) (.agg q.msg.toArray)).run Tryd.prog W = .ok (.bool true) W) :
    Calls Tryd.prog 16 #[.agg (p.cells vf1 vc1).toArray, .agg (q.cells vf2 vc2).toArray] w fun e w' => e = .returned (.bool false) ∧ Below w.heap.size w w' := by
  have HP := hd hp; have HQ := hd hq
  clear hp hq
  obtain ⟨L1, hL1⟩ : ∃ L, p.cells vf1 vc1 = L := ⟨_, rfl⟩
  obtain ⟨L2, hL2⟩ : ∃ L, q.cells vf2 vc2 = L := ⟨_, rfl⟩
  rw [hL1, hL2]
  have A0 : Hd (L1[0]? = some (.int .i64 p.k)) := hd (by rw [← hL1]; rfl)
  have D0 : Hd (L2[0]? = some (.int .i64 q.k)) := hd (by rw [← hL2]; rfl)
  have A1 : Hd (L1[1]? = some (.int .i64 p.id)) := hd (by rw [← hL1]; rfl)
  have D1 : Hd (L2[1]? = some (.int .i64 q.id)) := hd (by rw [← hL2]; rfl)
  have A2 : Hd (L1[2]? = some (.bool p.dup)) := hd (by rw [← hL1]; rfl)
  have D2 : Hd (L2[2]? = some (.bool q.dup)) := hd (by rw [← hL2]; rfl)
  have M1 : Hd (∀ j v, p.msg[j]? = some v → L1[3 + j]? = some v) := hd (by rw [← hL1]; exact p.msg_in _ _)
  have M2 : Hd (∀ j v, q.msg[j]? = some v → L2[3 + j]? = some v) := hd (by rw [← hL2]; exact q.msg_in _ _)
  have C1 : Hd (∀ j v, p.c.cells[j]? = some v → L1[7 + j]? = some v) := hd (by rw [← hL1]; exact p.con_in _ _)
  have C2 : Hd (∀ j v, q.c.cells[j]? = some v → L2[7 + j]? = some v) := hd (by rw [← hL2]; exact q.con_in _ _)
  go_enter Tryd.func16, Tryd.ntmps16
  go_wp2_with (first
    | (with_reducible refine wpl_box (o := ⟨some 2, .box 29 (.tmp 0), _, _, _, _⟩) rfl _ _ rfl L1 rfl w.heap.size rfl ?_; intro w1 h1 f1 b1 z1)
    | (with_reducible refine wpl_box (o := ⟨some 3, .box 29 (.tmp 1), _, _, _, _⟩) rfl _ _ rfl L2 rfl _ z1 ?_; intro w2 h2 f2 b2 z2; replace h1 := h1.keep b2 (by omega); have B2 : Below w.heap.size w w2 := b1.trans (b2.mono (by omega)); clear f1 f2 b1 b2; have a0 := h1.at 0 A0.out; have d0 := h2.at 0 D0.out; have a1 := h1.at 1 A1.out; have d1 := h2.at 1 D1.out; have a2 := h1.at 2 A2.out; have d2 := h2.at 2 D2.out)
    | ((with_reducible refine wpl_at (o := ⟨some 22, .load 23 (.tmp 21), _, _, _, _⟩) ?_); refine wpl_loadAt rfl _ _ rfl w.heap.size 3 rfl p.msg _ (h1.part 3 M1.out) Tryd.underlying23 rfl info_msg ?_)
    | ((with_reducible refine wpl_at (o := ⟨some 24, .load 23 (.tmp 23), _, _, _, _⟩) ?_); refine wpl_loadAt rfl _ _ rfl (w.heap.size + 1) 3 rfl q.msg _ (h2.part 3 M2.out) Tryd.underlying23 rfl info_msg ?_)
    | ((with_reducible refine wpl_at (o := ⟨some 27, .load 25 (.tmp 26), _, _, _, _⟩) ?_); refine wpl_loadAt rfl _ _ rfl w.heap.size 7 rfl p.c.cells _ (h1.part 7 C1.out) Tryd.underlying25 rfl info_con ?_)
    | ((with_reducible refine wpl_at (o := ⟨some 29, .load 25 (.tmp 28), _, _, _, _⟩) ?_); refine wpl_loadAt rfl _ _ rfl (w.heap.size + 1) 7 rfl q.c.cells _ (h2.part 7 C2.out) Tryd.underlying25 rfl info_con ?_))
  go_ret
  exact ⟨rfl, B2⟩

set_option maxRecDepth 100000 in
set_option maxHeartbeats 8000000 in
theorem sameBad4_c (p q : Pac) (vf1 vc1 vf2 vc2 : Value) (w : World) (hp : PacRd w p vf1 vc1) (hq : PacRd w q vf2 vc2) (ek : (p.k != q.k) = false) (eid : (p.id != q.id) = false) (edup : (p.dup == q.dup) = true) (em : ∀ W, (binOp .neq 23 (.agg p.msg.toArray) (.agg q.msg.toArray)).run Tryd.prog W = .ok (.bool false) W) (ec : ∀ W, (binOp .neq 25 (.agg p.c.cells.toArray) (.agg q.c.cells.toArray)).run Tryd.prog W = .ok (.bool true) W) :
    Calls Tryd.prog 16 #[.agg (p.cells vf1 vc1).toArray, .agg (q.cells vf2 vc2).toArray] w fun e w' => e = .returned (.bool false) ∧ Below w.heap.size w w' := by
  have HP := hd hp; have HQ := hd hq
  clear hp hq
  obtain ⟨L1, hL1⟩ : ∃ L, p.cells vf1 vc1 = L := ⟨_, rfl⟩
  obtain ⟨L2, hL2⟩ : ∃ L, q.cells vf2 vc2 = L := ⟨_, rfl⟩
  rw [hL1, hL2]
  have A0 : Hd (L1[0]? = some (.int .i64 p.k)) := hd (by rw [← hL1]; rfl)
  have D0 : Hd (L2[0]? = some (.int .i64 q.k)) := hd (by rw [← hL2]; rfl)
  have A1 : Hd (L1[1]? = some (.int .i64 p.id)) := hd (by rw [← hL1]; rfl)
  have D1 : Hd (L2[1]? = some (.int .i64 q.id)) := hd (by rw [← hL2]; rfl)
  have A2 : Hd (L1[2]? = some (.bool p.dup)) := hd (by rw [← hL1]; rfl)
  have D2 : Hd (L2[2]? = some (.bool q.dup)) := hd (by rw [← hL2]; rfl)
  have M1 : Hd (∀ j v, p.msg[j]? = some v → L1[3 + j]? = some v) := hd (by rw [← hL1]; exact p.msg_in _ _)
  have M2 : Hd (∀ j v, q.msg[j]? = some v → L2[3 + j]? = some v) := hd (by rw [← hL2]; exact q.msg_in _ _)
  have C1 : Hd (∀ j v, p.c.cells[j]? = some v → L1[7 + j]? = some v) := hd (by rw [← hL1]; exact p.con_in _ _)
  have C2 : Hd (∀ j v, q.c.cells[j]? = some v → L2[7 + j]? = some v) := hd (by rw [← hL2]; exact q.con_in _ _)
  go_enter Tryd.func16, Tryd.ntmps16
  go_wp2_with (first
    | (with_reducible refine wpl_box (o := ⟨some 2, .box 29 (.tmp 0), _, _, _, _⟩) rfl _ _ rfl L1 rfl w.heap.size rfl ?_; intro w1 h1 f1 b1 z1)
    | (with_reducible refine wpl_box (o := ⟨some 3, .box 29 (.tmp 1), _, _, _, _⟩) rfl _ _ rfl L2 rfl _ z1 ?_; intro w2 h2 f2 b2 z2; replace h1 := h1.keep b2 (by omega); have B2 : Below w.heap.size w w2 := b1.trans (b2.mono (by omega)); clear f1 f2 b1 b2; have a0 := h1.at 0 A0.out; have d0 := h2.at 0 D0.out; have a1 := h1.at 1 A1.out; have d1 := h2.at 1 D1.out; have a2 := h1.at 2 A2.out; have d2 := h2.at 2 D2.out)
    | ((with_reducible refine wpl_at (o := ⟨some 22, .load 23 (.tmp 21), _, _, _, _⟩) ?_); refine wpl_loadAt rfl _ _ rfl w.heap.size 3 rfl p.msg _ (h1.part 3 M1.out) Tryd.underlying23 rfl info_msg ?_)
    | ((with_reducible refine wpl_at (o := ⟨some 24, .load 23 (.tmp 23), _, _, _, _⟩) ?_); refine wpl_loadAt rfl _ _ rfl (w.heap.size + 1) 3 rfl q.msg _ (h2.part 3 M2.out) Tryd.underlying23 rfl info_msg ?_)
    | ((with_reducible refine wpl_at (o := ⟨some 27, .load 25 (.tmp 26), _, _, _, _⟩) ?_); refine wpl_loadAt rfl _ _ rfl w.heap.size 7 rfl p.c.cells _ (h1.part 7 C1.out) Tryd.underlying25 rfl info_con ?_)
    | ((with_reducible refine wpl_at (o := ⟨some 29, .load 25 (.tmp 28), _, _, _, _⟩) ?_); refine wpl_loadAt rfl _ _ rfl (w.heap.size + 1) 7 rfl q.c.cells _ (h2.part 7 C2.out) Tryd.underlying25 rfl info_con ?_))
  go_ret
  exact ⟨rfl, B2⟩

set_option maxRecDepth 100000 in
set_option maxHeartbeats 8000000 in
theorem sameBad5_c (p q : Pac) (vf1 vc1 vf2 vc2 : Value) (w : World) (hp : PacRd w p vf1 vc1) (hq : PacRd w q vf2 vc2) (ek : (p.k != q.k) = false) (eid : (p.id != q.id) = false) (edup : (p.dup == q.dup) = true) (em : ∀ W, (binOp .neq 23 (.agg p.msg.toArray) (.agg q.msg.toArray)).run Tryd.prog W = .ok (.bool false) W) (ec : ∀ W, (binOp .neq 25 (.agg p.c.cells.toArray) (.agg q.c.cells.toArray)).run Tryd.prog W = .ok (.bool false) W) (epr : (p.pr == q.pr) = false) :
    Calls Tryd.prog 16 #[.agg (p.cells vf1 vc1).toArray, .agg (q.cells vf2 vc2).toArray] w fun e w' => e = .returned (.bool false) ∧ Below w.heap.size w w' := by
  have HP := hd hp; have HQ := hd hq
  clear hp hq
  obtain ⟨L1, hL1⟩ : ∃ L, p.cells vf1 vc1 = L := ⟨_, rfl⟩
  obtain ⟨L2, hL2⟩ : ∃ L, q.cells vf2 vc2 = L := ⟨_, rfl⟩
  rw [hL1, hL2]
  have A0 : Hd (L1[0]? = some (.int .i64 p.k)) := hd (by rw [← hL1]; rfl)
  have D0 : Hd (L2[0]? = some (.int .i64 q.k)) := hd (by rw [← hL2]; rfl)
  have A1 : Hd (L1[1]? = some (.int .i64 p.id)) := hd (by rw [← hL1]; rfl)
  have D1 : Hd (L2[1]? = some (.int .i64 q.id)) := hd (by rw [← hL2]; rfl)
  have A2 : Hd (L1[2]? = some (.bool p.dup)) := hd (by rw [← hL1]; rfl)
  have D2 : Hd (L2[2]? = some (.bool q.dup)) := hd (by rw [← hL2]; rfl)
  have A20 : Hd (L1[20]? = some (.bool p.pr)) := hd (by rw [← hL1]; rfl)
  have D20 : Hd (L2[20]? = some (.bool q.pr)) := hd (by rw [← hL2]; rfl)
  have M1 : Hd (∀ j v, p.msg[j]? = some v → L1[3 + j]? = some v) := hd (by rw [← hL1]; exact p.msg_in _ _)
  have M2 : Hd (∀ j v, q.msg[j]? = some v → L2[3 + j]? = some v) := hd (by rw [← hL2]; exact q.msg_in _ _)
  have C1 : Hd (∀ j v, p.c.cells[j]? = some v → L1[7 + j]? = some v) := hd (by rw [← hL1]; exact p.con_in _ _)
  have C2 : Hd (∀ j v, q.c.cells[j]? = some v → L2[7 + j]? = some v) := hd (by rw [← hL2]; exact q.con_in _ _)
  go_enter Tryd.func16, Tryd.ntmps16
  go_wp2_with (first
    | (with_reducible refine wpl_box (o := ⟨some 2, .box 29 (.tmp 0), _, _, _, _⟩) rfl _ _ rfl L1 rfl w.heap.size rfl ?_; intro w1 h1 f1 b1 z1)
    | (with_reducible refine wpl_box (o := ⟨some 3, .box 29 (.tmp 1), _, _, _, _⟩) rfl _ _ rfl L2 rfl _ z1 ?_; intro w2 h2 f2 b2 z2; replace h1 := h1.keep b2 (by omega); have B2 : Below w.heap.size w w2 := b1.trans (b2.mono (by omega)); clear f1 f2 b1 b2; have a0 := h1.at 0 A0.out; have d0 := h2.at 0 D0.out; have a1 := h1.at 1 A1.out; have d1 := h2.at 1 D1.out; have a2 := h1.at 2 A2.out; have d2 := h2.at 2 D2.out; have a20 := h1.at 20 A20.out; have d20 := h2.at 20 D20.out)
    | ((with_reducible refine wpl_at (o := ⟨some 22, .load 23 (.tmp 21), _, _, _, _⟩) ?_); refine wpl_loadAt rfl _ _ rfl w.heap.size 3 rfl p.msg _ (h1.part 3 M1.out) Tryd.underlying23 rfl info_msg ?_)
    | ((with_reducible refine wpl_at (o := ⟨some 24, .load 23 (.tmp 23), _, _, _, _⟩) ?_); refine wpl_loadAt rfl _ _ rfl (w.heap.size + 1) 3 rfl q.msg _ (h2.part 3 M2.out) Tryd.underlying23 rfl info_msg ?_)
    | ((with_reducible refine wpl_at (o := ⟨some 27, .load 25 (.tmp 26), _, _, _, _⟩) ?_); refine wpl_loadAt rfl _ _ rfl w.heap.size 7 rfl p.c.cells _ (h1.part 7 C1.out) Tryd.underlying25 rfl info_con ?_)
    | ((with_reducible refine wpl_at (o := ⟨some 29, .load 25 (.tmp 28), _, _, _, _⟩) ?_); refine wpl_loadAt rfl _ _ rfl (w.heap.size + 1) 7 rfl q.c.cells _ (h2.part 7 C2.out) Tryd.underlying25 rfl info_con ?_))
  go_ret
  exact ⟨rfl, B2⟩

set_option maxRecDepth 100000 in
set_option maxHeartbeats 8000000 in
theorem sameBad6_c (p q : Pac) (vf1 vc1 vf2 vc2 : Value) (w : World) (hp : PacRd w p vf1 vc1) (hq : PacRd w q vf2 vc2) (ek : (p.k != q.k) = false) (eid : (p.id != q.id) = false) (edup : (p.dup == q.dup) = true) (em : ∀ W, (binOp .neq 23 (.agg p.msg.toArray) (.agg q.msg.toArray)).run Tryd.prog W = .ok (.bool false) W) (ec : ∀ W, (binOp .neq 25 (.agg p.c.cells.toArray) (.agg q.c.cells.toArray)).run Tryd.prog W = .ok (.bool false) W) (epr : (p.pr == q.pr) = true) (ecode : (p.code != q.code) = true) :
    Calls Tryd.prog 16 #[.agg (p.cells vf1 vc1).toArray, .agg (q.cells vf2 vc2).toArray] w fun e w' => e = .returned (.bool false) ∧ Below w.heap.size w w' := by
  have HP := hd hp; have HQ := hd hq
  clear hp hq
  obtain ⟨L1, hL1⟩ : ∃ L, p.cells vf1 vc1 = L := ⟨_, rfl⟩
  obtain ⟨L2, hL2⟩ : ∃ L, q.cells vf2 vc2 = L := ⟨_, rfl⟩
  rw [hL1, hL2]
  have A0 : Hd (L1[0]? = some (.int .i64 p.k)) := hd (by rw [← hL1]; rfl)
  have D0 : Hd (L2[0]? = some (.int .i64 q.k)) := hd (by rw [← hL2]; rfl)
  have A1 : Hd (L1[1]? = some (.int .i64 p.id)) := hd (by rw [← hL1]; rfl)
  have D1 : Hd (L2[1]? = some (.int .i64 q.id)) := hd (by rw [← hL2]; rfl)
  have A2 : Hd (L1[2]? = some (.bool p.dup)) := hd (by rw [← hL1]; rfl)
  have D2 : Hd (L2[2]? = some (.bool q.dup)) := hd (by rw [← hL2]; rfl)
  have A20 : Hd (L1[20]? = some (.bool p.pr)) := hd (by rw [← hL1]; rfl)
  have D20 : Hd (L2[20]? = some (.bool q.pr)) := hd (by rw [← hL2]; rfl)
  have A21 : Hd (L1[21]? = some (.int .i64 p.code)) := hd (by rw [← hL1]; rfl)
  have D21 : Hd (L2[21]? = some (.int .i64 q.code)) := hd (by rw [← hL2]; rfl)
  have M1 : Hd (∀ j v, p.msg[j]? = some v → L1[3 + j]? = some v) := hd (by rw [← hL1]; exact p.msg_in _ _)
  have M2 : Hd (∀ j v, q.msg[j]? = some v → L2[3 + j]? = some v) := hd (by rw [← hL2]; exact q.msg_in _ _)
  have C1 : Hd (∀ j v, p.c.cells[j]? = some v → L1[7 + j]? = some v) := hd (by rw [← hL1]; exact p.con_in _ _)
  have C2 : Hd (∀ j v, q.c.cells[j]? = some v → L2[7 + j]? = some v) := hd (by rw [← hL2]; exact q.con_in _ _)
  go_enter Tryd.func16, Tryd.ntmps16
  go_wp2_with (first
    | (with_reducible refine wpl_box (o := ⟨some 2, .box 29 (.tmp 0), _, _, _, _⟩) rfl _ _ rfl L1 rfl w.heap.size rfl ?_; intro w1 h1 f1 b1 z1)
    | (with_reducible refine wpl_box (o := ⟨some 3, .box 29 (.tmp 1), _, _, _, _⟩) rfl _ _ rfl L2 rfl _ z1 ?_; intro w2 h2 f2 b2 z2; replace h1 := h1.keep b2 (by omega); have B2 : Below w.heap.size w w2 := b1.trans (b2.mono (by omega)); clear f1 f2 b1 b2; have a0 := h1.at 0 A0.out; have d0 := h2.at 0 D0.out; have a1 := h1.at 1 A1.out; have d1 := h2.at 1 D1.out; have a2 := h1.at 2 A2.out; have d2 := h2.at 2 D2.out; have a20 := h1.at 20 A20.out; have d20 := h2.at 20 D20.out; have a21 := h1.at 21 A21.out; have d21 := h2.at 21 D21.out)
    | ((with_reducible refine wpl_at (o := ⟨some 22, .load 23 (.tmp 21), _, _, _, _⟩) ?_); refine wpl_loadAt rfl _ _ rfl w.heap.size 3 rfl p.msg _ (h1.part 3 M1.out) Tryd.underlying23 rfl info_msg ?_)
    | ((with_reducible refine wpl_at (o := ⟨some 24, .load 23 (.tmp 23), _, _, _, _⟩) ?_); refine wpl_loadAt rfl _ _ rfl (w.heap.size + 1) 3 rfl q.msg _ (h2.part 3 M2.out) Tryd.underlying23 rfl info_msg ?_)
    | ((with_reducible refine wpl_at (o := ⟨some 27, .load 25 (.tmp 26), _, _, _, _⟩) ?_); refine wpl_loadAt rfl _ _ rfl w.heap.size 7 rfl p.c.cells _ (h1.part 7 C1.out) Tryd.underlying25 rfl info_con ?_)
    | ((with_reducible refine wpl_at (o := ⟨some 29, .load 25 (.tmp 28), _, _, _, _⟩) ?_); refine wpl_loadAt rfl _ _ rfl (w.heap.size + 1) 7 rfl q.c.cells _ (h2.part 7 C2.out) Tryd.underlying25 rfl info_con ?_))
  go_ret
  exact ⟨rfl, B2⟩

set_option maxRecDepth 100000 in
set_option maxHeartbeats 8000000 in
theorem sameGood_c (p q : Pac) (vf1 vc1 vf2 vc2 : Value) (w : World) (hp : PacRd w p vf1 vc1) (hq : PacRd w q vf2 vc2) (ek : (p.k != q.k) = false) (eid : (p.id != q.id) = false) (edup : (p.dup == q.dup) = true) (em : ∀ W, (binOp .neq 23 (.agg p.msg.toArray) (.agg q.msg.toArray)).run Tryd.prog W = .ok (.bool false) W) (ec : ∀ W, (binOp .neq 25 (.agg p.c.cells.toArray) (.agg q.c.cells.toArray)).run Tryd.prog W = .ok (.bool false) W) (epr : (p.pr == q.pr) = true) (ecode : (p.code != q.code) = false) :
    Calls Tryd.prog 16 #[.agg (p.cells vf1 vc1).toArray, .agg (q.cells vf2 vc2).toArray] w fun e w' => e = .returned (.bool (decide (p.fs = q.fs) && decide (p.cs = q.cs))) ∧ Below w.heap.size w w' := by
  have HP := hd hp; have HQ := hd hq
  obtain ⟨fa1, fc1, rfl⟩ := hp.f.slice
  obtain ⟨ca1, cc1, rfl⟩ := hp.c.slice
  obtain ⟨fa2, fc2, rfl⟩ := hq.f.slice
  obtain ⟨ca2, cc2, rfl⟩ := hq.c.slice
  clear hp hq
  obtain ⟨L1, hL1⟩ : ∃ L, p.cells (.slice fa1 p.fs.length fc1) (.slice ca1 p.cs.length cc1) = L := ⟨_, rfl⟩
  obtain ⟨L2, hL2⟩ : ∃ L, q.cells (.slice fa2 q.fs.length fc2) (.slice ca2 q.cs.length cc2) = L := ⟨_, rfl⟩
  rw [hL1, hL2]
  have A0 : Hd (L1[0]? = some (.int .i64 p.k)) := hd (by rw [← hL1]; rfl)
  have D0 : Hd (L2[0]? = some (.int .i64 q.k)) := hd (by rw [← hL2]; rfl)
  have A1 : Hd (L1[1]? = some (.int .i64 p.id)) := hd (by rw [← hL1]; rfl)
  have D1 : Hd (L2[1]? = some (.int .i64 q.id)) := hd (by rw [← hL2]; rfl)
  have A2 : Hd (L1[2]? = some (.bool p.dup)) := hd (by rw [← hL1]; rfl)
  have D2 : Hd (L2[2]? = some (.bool q.dup)) := hd (by rw [← hL2]; rfl)
  have A20 : Hd (L1[20]? = some (.bool p.pr)) := hd (by rw [← hL1]; rfl)
  have D20 : Hd (L2[20]? = some (.bool q.pr)) := hd (by rw [← hL2]; rfl)
  have A21 : Hd (L1[21]? = some (.int .i64 p.code)) := hd (by rw [← hL1]; rfl)
  have D21 : Hd (L2[21]? = some (.int .i64 q.code)) := hd (by rw [← hL2]; rfl)
  have A22 : Hd (L1[22]? = some ((.slice fa1 p.fs.length fc1))) := hd (by rw [← hL1]; rfl)
  have D22 : Hd (L2[22]? = some ((.slice fa2 q.fs.length fc2))) := hd (by rw [← hL2]; rfl)
  have A23 : Hd (L1[23]? = some ((.slice ca1 p.cs.length cc1))) := hd (by rw [← hL1]; rfl)
  have D23 : Hd (L2[23]? = some ((.slice ca2 q.cs.length cc2))) := hd (by rw [← hL2]; rfl)
  have M1 : Hd (∀ j v, p.msg[j]? = some v → L1[3 + j]? = some v) := hd (by rw [← hL1]; exact p.msg_in _ _)
  have M2 : Hd (∀ j v, q.msg[j]? = some v → L2[3 + j]? = some v) := hd (by rw [← hL2]; exact q.msg_in _ _)
  have C1 : Hd (∀ j v, p.c.cells[j]? = some v → L1[7 + j]? = some v) := hd (by rw [← hL1]; exact p.con_in _ _)
  have C2 : Hd (∀ j v, q.c.cells[j]? = some v → L2[7 + j]? = some v) := hd (by rw [← hL2]; exact q.con_in _ _)
  go_enter Tryd.func16, Tryd.ntmps16
  go_wp2_with (first
    | (with_reducible refine wpl_box (o := ⟨some 2, .box 29 (.tmp 0), _, _, _, _⟩) rfl _ _ rfl L1 rfl w.heap.size rfl ?_; intro w1 h1 f1 b1 z1)
    | (with_reducible refine wpl_box (o := ⟨some 3, .box 29 (.tmp 1), _, _, _, _⟩) rfl _ _ rfl L2 rfl _ z1 ?_; intro w2 h2 f2 b2 z2; replace h1 := h1.keep b2 (by omega); have B2 : Below w.heap.size w w2 := b1.trans (b2.mono (by omega)); clear f1 f2 b1 b2; have a0 := h1.at 0 A0.out; have d0 := h2.at 0 D0.out; have a1 := h1.at 1 A1.out; have d1 := h2.at 1 D1.out; have a2 := h1.at 2 A2.out; have d2 := h2.at 2 D2.out; have a20 := h1.at 20 A20.out; have d20 := h2.at 20 D20.out; have a21 := h1.at 21 A21.out; have d21 := h2.at 21 D21.out; have a22 := h1.at 22 A22.out; have d22 := h2.at 22 D22.out; have a23 := h1.at 23 A23.out; have d23 := h2.at 23 D23.out)
    | ((with_reducible refine wpl_at (o := ⟨some 22, .load 23 (.tmp 21), _, _, _, _⟩) ?_); refine wpl_loadAt rfl _ _ rfl w.heap.size 3 rfl p.msg _ (h1.part 3 M1.out) Tryd.underlying23 rfl info_msg ?_)
    | ((with_reducible refine wpl_at (o := ⟨some 24, .load 23 (.tmp 23), _, _, _, _⟩) ?_); refine wpl_loadAt rfl _ _ rfl (w.heap.size + 1) 3 rfl q.msg _ (h2.part 3 M2.out) Tryd.underlying23 rfl info_msg ?_)
    | ((with_reducible refine wpl_at (o := ⟨some 27, .load 25 (.tmp 26), _, _, _, _⟩) ?_); refine wpl_loadAt rfl _ _ rfl w.heap.size 7 rfl p.c.cells _ (h1.part 7 C1.out) Tryd.underlying25 rfl info_con ?_)
    | ((with_reducible refine wpl_at (o := ⟨some 29, .load 25 (.tmp 28), _, _, _, _⟩) ?_); refine wpl_loadAt rfl _ _ rfl (w.heap.size + 1) 7 rfl q.c.cells _ (h2.part 7 C2.out) Tryd.underlying25 rfl info_con ?_))
  refine (equalW_c _ _ p.fs q.fs _ (HP.out.f.below' B2 (Nat.le_refl _)) (HQ.out.f.below' B2 (Nat.le_refl _))).mono ?_
  rintro e w3 ⟨rfl, hb3⟩
  have B3 := Below.up B2 hb3
  by_cases hf : p.fs = q.fs
  rotate_left
  · simp only [decide_eq_false hf]
    go_wp2_with fail
    go_ret
    exact ⟨ret_bool (by simp [hf]), B3⟩
  simp only [decide_eq_true hf]
  replace h1 := h1.keep hb3 (by omega)
  replace h2 := h2.keep hb3 (by omega)
  clear a0 a1 a2 a20 a21 a22 a23 d0 d1 d2 d20 d21 d22 d23
  have a23 := h1.at 23 A23.out
  have d23 := h2.at 23 D23.out
  go_wp2_with fail
  refine (equalI_c _ _ p.cs q.cs _ (HP.out.c.below' B3 (Nat.le_refl _)) (HQ.out.c.below' B3 (Nat.le_refl _))).mono ?_
  rintro e w4 ⟨rfl, hb4⟩
  go_wp2_with fail
  go_ret
  exact ⟨ret_bool (by simp [hf]), Below.up B3 hb4⟩

theorem bne_f {α : Type} [DecidableEq α] {a b : α} (h : a = b) : (a != b) = false := by simp [h]
theorem beq_tB {a b : Bool} (h : a = b) : (a == b) = true := by simp [h]
theorem beq_fB {a b : Bool} (h : ¬ a = b) : (a == b) = false := by simpa using h
theorem bne_t {α : Type} [DecidableEq α] {a b : α} (h : ¬ a = b) : (a != b) = true := by simp [h]
theorem Same_c (p q : Pac) (vf1 vc1 vf2 vc2 : Value) (w : World) (hp : PacRd w p vf1 vc1) (hq : PacRd w q vf2 vc2) :
    Calls Tryd.prog 16 #[.agg (p.cells vf1 vc1).toArray, .agg (q.cells vf2 vc2).toArray] w fun e w' => e = .returned (.bool (decide (p = q))) ∧ Below w.heap.size w w' := by
  by_cases h0 : p.k = q.k
  rotate_left
  · rw [decide_eq_false (fun e => h0 (by rw [e]))]
    exact sameBad0_c p q vf1 vc1 vf2 vc2 w hp hq (bne_t h0)
  have e0 := bne_f h0
  by_cases h1 : p.id = q.id
  rotate_left
  · rw [decide_eq_false (fun e => h1 (by rw [e]))]
    exact sameBad1_c p q vf1 vc1 vf2 vc2 w hp hq e0 (bne_t h1)
  have e1 := bne_f h1
  by_cases h2 : p.dup = q.dup
  rotate_left
  · rw [decide_eq_false (fun e => h2 (by rw [e]))]
    exact sameBad2_c p q vf1 vc1 vf2 vc2 w hp hq e0 e1 (beq_fB h2)
  have e2 := beq_tB h2
  have em := fun W => neq_msg p q W
  by_cases h3 : p.tp = q.tp ∧ p.tx = q.tx ∧ p.q = q.q ∧ p.rt = q.rt
  rotate_left
  · rw [decide_eq_false (fun e => h3 (by subst e; exact ⟨rfl, rfl, rfl, rfl⟩))]
    simp only [decide_eq_false h3, Bool.not_false] at em
    exact sameBad3_c p q vf1 vc1 vf2 vc2 w hp hq e0 e1 e2 em
  simp only [decide_eq_true h3, Bool.not_true] at em
  have ec := fun W => neq_con p.c q.c W
  by_cases h4 : p.c = q.c
  rotate_left
  · rw [decide_eq_false (fun e => h4 (by rw [e]))]
    simp only [decide_eq_false h4, Bool.not_false] at ec
    exact sameBad4_c p q vf1 vc1 vf2 vc2 w hp hq e0 e1 e2 em ec
  simp only [decide_eq_true h4, Bool.not_true] at ec
  by_cases h5 : p.pr = q.pr
  rotate_left
  · rw [decide_eq_false (fun e => h5 (by rw [e]))]
    exact sameBad5_c p q vf1 vc1 vf2 vc2 w hp hq e0 e1 e2 em ec (beq_fB h5)
  have e5 := beq_tB h5
  by_cases h6 : p.code = q.code
  rotate_left
  · rw [decide_eq_false (fun e => h6 (by rw [e]))]
    exact sameBad6_c p q vf1 vc1 vf2 vc2 w hp hq e0 e1 e2 em ec e5 (bne_t h6)
  have e6 := bne_f h6
  have hd : decide (p = q) = (decide (p.fs = q.fs) && decide (p.cs = q.cs)) := by
    rw [Bool.eq_iff_iff]
    simp [Pac.eq_iff, h0, h1, h2, h3, h4, h5, h6]
  rw [hd]
  exact sameGood_c p q vf1 vc1 vf2 vc2 w hp hq e0 e1 e2 em ec e5 e6
end Go.Proofs.YtclicjokgfiegaaDoor
