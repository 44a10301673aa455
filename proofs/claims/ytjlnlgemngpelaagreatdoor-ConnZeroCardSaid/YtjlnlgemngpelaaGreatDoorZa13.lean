/- A bundle of texts (merged for the limit on files): PacClean. -/
import Derived.Test.YtjlnlgemngpelaaGreatDoorZa12
/- Packets: cleaned: the walk. -/
namespace Go.Proofs.YtjlnlgemngpelaaGreatDoor
open Go.RowKit
set_option linter.unusedVariables false
set_option linter.unusedSimpArgs false

theorem Ws.oneCell {w : World} {v : Value} {l : List Wish} (h : Ws w v l) : v.oneCell' = true := by obtain ⟨a, c, rfl, _⟩ := h; rfl
theorem Is.oneCell {w : World} {v : Value} {l : List Int} (h : Is w v l) : v.oneCell' = true := by obtain ⟨a, c, rfl, _⟩ := h; rfl
set_option maxRecDepth 100000 in
set_option maxHeartbeats 8000000 in
theorem clean1_c (p : Pac) (vf vc : Value) (w : World) (hk : p.k = 1) :
    Calls Tryz.prog 33 #[.agg (p.cells vf vc).toArray] w fun e w' => e = .returned (.agg (({ zP 1 with c := p.c } : Pac).cells Nl Nl).toArray) ∧ Below w.heap.size w w' := by
  obtain ⟨L, hL⟩ : ∃ L, p.cells vf vc = L := ⟨_, rfl⟩
  have l0 : L[0]? = some (.int .i64 1) := by rw [← hL, ← hk]; rfl
  have H0 := hd l0
  have HC : Hd (∀ j v, p.c.cells[j]? = some v → L[7 + j]? = some v) := hd (by rw [← hL]; exact p.con_in vf vc)
  have HM : Hd (∀ j v, p.msg[j]? = some v → L[3 + j]? = some v) := hd (by rw [← hL]; exact p.msg_in vf vc)
  rw [hL]
  clear l0 
  go_enter Tryz.func33, Tryz.ntmps33
  go_wp2_with (first
    | (with_reducible refine wpl_box (o := ⟨some 1, .box 36 (.tmp 0), _, _, _, _⟩) rfl _ _ rfl L rfl w.heap.size rfl ?_; intro w1 h1 f1 b1 z1)
    | (with_reducible refine wpl_alloc (o := ⟨some 2, .alloc 36, _, _, _, _⟩) rfl _ rfl (zK 0) alloc_pac _ z1 ?_; intro w2 h2 f2 b2 z2; replace h1 := h1.keep b2 (by omega); clear f1; have c0 := h1.at 0 H0.out)
    | (with_reducible refine wpl_alloc (o := ⟨some 3, .alloc 36, _, _, _, _⟩) rfl _ rfl (zK 0) alloc_pac _ z2 ?_; intro w3 h3 f3 b3 z3; clear c0; replace h1 := h1.keep b3 (by omega); replace f2 := f2.keep b3 (by omega); replace h2 := h2.keep b3 (by omega))
    | ((with_reducible refine wpl_at (o := ⟨none, .store 36 (.tmp 3) (.tmp 6), _, _, _, _⟩) ?_); refine wpl_storeAll rfl rfl _ _ _ rfl (w.heap.size + 1 + 1) (zK 1) (zK 0) rfl rfl info_pac (zK_one 1) h3 rfl f3 ?_; intro w4 h4 f4 k4 z4; have B4 : Below w.heap.size w w4 := ((b1.trans (b2.mono (by omega))).trans (b3.mono (by omega))).trans (k4.toBelow (by omega) (by simp; omega)); clear b1 b2 b3 z1 z2; replace h1 := h1.keeps k4 (by simp; omega); replace f2 := f2.keeps k4 h2.1 (by simp); replace h2 := h2.keeps k4 (by simp); clear h3 f3 k4; have c0 := h1.at 0 H0.out)
    | ((with_reducible refine wpl_at (o := ⟨some 12, .load 32 (.tmp 11), _, _, _, _⟩) ?_); refine wpl_loadAt rfl _ _ rfl w.heap.size 7 rfl p.c.cells _ (h1.part 7 HC.out) Tryz.underlying32 rfl info_con ?_)
    | ((with_reducible refine wpl_at (o := ⟨none, .store 32 (.tmp 13) (.tmp 12), _, _, _, _⟩) ?_); refine wpl_storeMid rfl rfl _ _ _ rfl (w.heap.size + 1 + 1) 7 p.c.cells (zK 1) (({ zP 1 with c := p.c } : Pac).cells Nl Nl) rfl rfl info_con p.c.one h4 rfl (by show 7 + 13 ≤ 24; decide) f4 ?_; intro w5 h5 f5 k5 z5; replace f2 := f2.keeps k5 h2.1 (by simp); replace h2 := h2.keeps k5 (by simp))
    | ((with_reducible refine wpl_at (o := ⟨some 73, .load 36 (.tmp 3), _, _, _, _⟩) ?_); refine wpl_loadAt rfl _ _ rfl (w.heap.size + 1 + 1) 0 rfl (({ zP 1 with c := p.c } : Pac).cells Nl Nl) _ (h5).range Tryz.underlying36 rfl info_pac ?_)
    | ((with_reducible refine wpl_at (o := ⟨none, .store 36 (.tmp 2) (.tmp 73), _, _, _, _⟩) ?_); refine wpl_storeAll rfl rfl _ _ _ rfl (w.heap.size + 1) (({ zP 1 with c := p.c } : Pac).cells Nl Nl) (zK 0) rfl rfl info_pac (({ zP 1 with c := p.c } : Pac).one Nl Nl rfl rfl) h2 rfl f2 ?_; intro w9 h9 f9 k9 z9))
  refine bodyPost_ret (v := .agg (({ zP 1 with c := p.c } : Pac).cells Nl Nl).toArray) (results_cell Tryz.results33 rfl (ret_pac h9 rfl)) rfl ⟨rfl, ?_⟩
  · exact (B4.trans (k5.toBelow B4.size (by simp; omega))).trans (k9.toBelow (by go_grown) (by simp))

set_option maxRecDepth 100000 in
set_option maxHeartbeats 8000000 in
theorem cleanI4_c (p : Pac) (vf vc : Value) (w : World) (hk : p.k = 4) :
    Calls Tryz.prog 33 #[.agg (p.cells vf vc).toArray] w fun e w' => e = .returned (.agg (({ zP 4 with id := p.id } : Pac).cells Nl Nl).toArray) ∧ Below w.heap.size w w' := by
  obtain ⟨L, hL⟩ : ∃ L, p.cells vf vc = L := ⟨_, rfl⟩
  have l0 : L[0]? = some (.int .i64 4) := by rw [← hL, ← hk]; rfl
  have H0 := hd l0
  have l1 : L[1]? = some (.int .i64 p.id) := by rw [← hL]; rfl
  have H1 := hd l1
  have HC : Hd (∀ j v, p.c.cells[j]? = some v → L[7 + j]? = some v) := hd (by rw [← hL]; exact p.con_in vf vc)
  have HM : Hd (∀ j v, p.msg[j]? = some v → L[3 + j]? = some v) := hd (by rw [← hL]; exact p.msg_in vf vc)
  rw [hL]
  clear l0 l1
  go_enter Tryz.func33, Tryz.ntmps33
  go_wp2_with (first
    | (with_reducible refine wpl_box (o := ⟨some 1, .box 36 (.tmp 0), _, _, _, _⟩) rfl _ _ rfl L rfl w.heap.size rfl ?_; intro w1 h1 f1 b1 z1)
    | (with_reducible refine wpl_alloc (o := ⟨some 2, .alloc 36, _, _, _, _⟩) rfl _ rfl (zK 0) alloc_pac _ z1 ?_; intro w2 h2 f2 b2 z2; replace h1 := h1.keep b2 (by omega); clear f1; have c0 := h1.at 0 H0.out)
    | (with_reducible refine wpl_alloc (o := ⟨some 3, .alloc 36, _, _, _, _⟩) rfl _ rfl (zK 0) alloc_pac _ z2 ?_; intro w3 h3 f3 b3 z3; clear c0; replace h1 := h1.keep b3 (by omega); replace f2 := f2.keep b3 (by omega); replace h2 := h2.keep b3 (by omega))
    | ((with_reducible refine wpl_at (o := ⟨none, .store 36 (.tmp 3) (.tmp 6), _, _, _, _⟩) ?_); refine wpl_storeAll rfl rfl _ _ _ rfl (w.heap.size + 1 + 1) (zK 4) (zK 0) rfl rfl info_pac (zK_one 4) h3 rfl f3 ?_; intro w4 h4 f4 k4 z4; have B4 : Below w.heap.size w w4 := ((b1.trans (b2.mono (by omega))).trans (b3.mono (by omega))).trans (k4.toBelow (by omega) (by simp; omega)); clear b1 b2 b3 z1 z2; replace h1 := h1.keeps k4 (by simp; omega); replace f2 := f2.keeps k4 h2.1 (by simp); replace h2 := h2.keeps k4 (by simp); clear h3 f3 k4; have c0 := h1.at 0 H0.out; have c1 := h1.at 1 H1.out; have e1 := h4.at 1 (u := .int .i64 0) rfl; have g1 := f4 1)
    | ((with_reducible refine wpl_at (o := ⟨some 73, .load 36 (.tmp 3), _, _, _, _⟩) ?_); refine wpl_loadAt rfl _ _ rfl (w.heap.size + 1 + 1) 0 rfl (({ zP 4 with id := p.id } : Pac).cells Nl Nl) _ (h4.set 1 (.int .i64 p.id) (show 1 < 24 by decide)).range Tryz.underlying36 rfl info_pac ?_)
    | ((with_reducible refine wpl_at (o := ⟨none, .store 36 (.tmp 2) (.tmp 73), _, _, _, _⟩) ?_); refine wpl_storeAll rfl rfl _ _ _ rfl (w.heap.size + 1) (({ zP 4 with id := p.id } : Pac).cells Nl Nl) (zK 0) rfl rfl info_pac (({ zP 4 with id := p.id } : Pac).one Nl Nl rfl rfl) (h2.other _ _ _ (by simp)) rfl (f2.set _ _) ?_; intro w9 h9 f9 k9 z9))
  refine bodyPost_ret (v := .agg (({ zP 4 with id := p.id } : Pac).cells Nl Nl).toArray) (results_cell Tryz.results33 rfl (ret_pac h9 rfl)) rfl ⟨rfl, ?_⟩
  · exact ((B4.setCell (by go_grown) _)).trans (k9.toBelow (by go_grown) (by simp))

set_option maxRecDepth 100000 in
set_option maxHeartbeats 8000000 in
theorem cleanI5_c (p : Pac) (vf vc : Value) (w : World) (hk : p.k = 5) :
    Calls Tryz.prog 33 #[.agg (p.cells vf vc).toArray] w fun e w' => e = .returned (.agg (({ zP 5 with id := p.id } : Pac).cells Nl Nl).toArray) ∧ Below w.heap.size w w' := by
  obtain ⟨L, hL⟩ : ∃ L, p.cells vf vc = L := ⟨_, rfl⟩
  have l0 : L[0]? = some (.int .i64 5) := by rw [← hL, ← hk]; rfl
  have H0 := hd l0
  have l1 : L[1]? = some (.int .i64 p.id) := by rw [← hL]; rfl
  have H1 := hd l1
  have HC : Hd (∀ j v, p.c.cells[j]? = some v → L[7 + j]? = some v) := hd (by rw [← hL]; exact p.con_in vf vc)
  have HM : Hd (∀ j v, p.msg[j]? = some v → L[3 + j]? = some v) := hd (by rw [← hL]; exact p.msg_in vf vc)
  rw [hL]
  clear l0 l1
  go_enter Tryz.func33, Tryz.ntmps33
  go_wp2_with (first
    | (with_reducible refine wpl_box (o := ⟨some 1, .box 36 (.tmp 0), _, _, _, _⟩) rfl _ _ rfl L rfl w.heap.size rfl ?_; intro w1 h1 f1 b1 z1)
    | (with_reducible refine wpl_alloc (o := ⟨some 2, .alloc 36, _, _, _, _⟩) rfl _ rfl (zK 0) alloc_pac _ z1 ?_; intro w2 h2 f2 b2 z2; replace h1 := h1.keep b2 (by omega); clear f1; have c0 := h1.at 0 H0.out)
    | (with_reducible refine wpl_alloc (o := ⟨some 3, .alloc 36, _, _, _, _⟩) rfl _ rfl (zK 0) alloc_pac _ z2 ?_; intro w3 h3 f3 b3 z3; clear c0; replace h1 := h1.keep b3 (by omega); replace f2 := f2.keep b3 (by omega); replace h2 := h2.keep b3 (by omega))
    | ((with_reducible refine wpl_at (o := ⟨none, .store 36 (.tmp 3) (.tmp 6), _, _, _, _⟩) ?_); refine wpl_storeAll rfl rfl _ _ _ rfl (w.heap.size + 1 + 1) (zK 5) (zK 0) rfl rfl info_pac (zK_one 5) h3 rfl f3 ?_; intro w4 h4 f4 k4 z4; have B4 : Below w.heap.size w w4 := ((b1.trans (b2.mono (by omega))).trans (b3.mono (by omega))).trans (k4.toBelow (by omega) (by simp; omega)); clear b1 b2 b3 z1 z2; replace h1 := h1.keeps k4 (by simp; omega); replace f2 := f2.keeps k4 h2.1 (by simp); replace h2 := h2.keeps k4 (by simp); clear h3 f3 k4; have c0 := h1.at 0 H0.out; have c1 := h1.at 1 H1.out; have e1 := h4.at 1 (u := .int .i64 0) rfl; have g1 := f4 1)
    | ((with_reducible refine wpl_at (o := ⟨some 73, .load 36 (.tmp 3), _, _, _, _⟩) ?_); refine wpl_loadAt rfl _ _ rfl (w.heap.size + 1 + 1) 0 rfl (({ zP 5 with id := p.id } : Pac).cells Nl Nl) _ (h4.set 1 (.int .i64 p.id) (show 1 < 24 by decide)).range Tryz.underlying36 rfl info_pac ?_)
    | ((with_reducible refine wpl_at (o := ⟨none, .store 36 (.tmp 2) (.tmp 73), _, _, _, _⟩) ?_); refine wpl_storeAll rfl rfl _ _ _ rfl (w.heap.size + 1) (({ zP 5 with id := p.id } : Pac).cells Nl Nl) (zK 0) rfl rfl info_pac (({ zP 5 with id := p.id } : Pac).one Nl Nl rfl rfl) (h2.other _ _ _ (by simp)) rfl (f2.set _ _) ?_; intro w9 h9 f9 k9 z9))
  refine bodyPost_ret (v := .agg (({ zP 5 with id := p.id } : Pac).cells Nl Nl).toArray) (results_cell Tryz.results33 rfl (ret_pac h9 rfl)) rfl ⟨rfl, ?_⟩
  · exact ((B4.setCell (by go_grown) _)).trans (k9.toBelow (by go_grown) (by simp))

set_option maxRecDepth 100000 in
set_option maxHeartbeats 8000000 in
theorem cleanI6_c (p : Pac) (vf vc : Value) (w : World) (hk : p.k = 6) :
    Calls Tryz.prog 33 #[.agg (p.cells vf vc).toArray] w fun e w' => e = .returned (.agg (({ zP 6 with id := p.id } : Pac).cells Nl Nl).toArray) ∧ Below w.heap.size w w' := by
  obtain ⟨L, hL⟩ : ∃ L, p.cells vf vc = L := ⟨_, rfl⟩
  have l0 : L[0]? = some (.int .i64 6) := by rw [← hL, ← hk]; rfl
  have H0 := hd l0
  have l1 : L[1]? = some (.int .i64 p.id) := by rw [← hL]; rfl
  have H1 := hd l1
  have HC : Hd (∀ j v, p.c.cells[j]? = some v → L[7 + j]? = some v) := hd (by rw [← hL]; exact p.con_in vf vc)
  have HM : Hd (∀ j v, p.msg[j]? = some v → L[3 + j]? = some v) := hd (by rw [← hL]; exact p.msg_in vf vc)
  rw [hL]
  clear l0 l1
  go_enter Tryz.func33, Tryz.ntmps33
  go_wp2_with (first
    | (with_reducible refine wpl_box (o := ⟨some 1, .box 36 (.tmp 0), _, _, _, _⟩) rfl _ _ rfl L rfl w.heap.size rfl ?_; intro w1 h1 f1 b1 z1)
    | (with_reducible refine wpl_alloc (o := ⟨some 2, .alloc 36, _, _, _, _⟩) rfl _ rfl (zK 0) alloc_pac _ z1 ?_; intro w2 h2 f2 b2 z2; replace h1 := h1.keep b2 (by omega); clear f1; have c0 := h1.at 0 H0.out)
    | (with_reducible refine wpl_alloc (o := ⟨some 3, .alloc 36, _, _, _, _⟩) rfl _ rfl (zK 0) alloc_pac _ z2 ?_; intro w3 h3 f3 b3 z3; clear c0; replace h1 := h1.keep b3 (by omega); replace f2 := f2.keep b3 (by omega); replace h2 := h2.keep b3 (by omega))
    | ((with_reducible refine wpl_at (o := ⟨none, .store 36 (.tmp 3) (.tmp 6), _, _, _, _⟩) ?_); refine wpl_storeAll rfl rfl _ _ _ rfl (w.heap.size + 1 + 1) (zK 6) (zK 0) rfl rfl info_pac (zK_one 6) h3 rfl f3 ?_; intro w4 h4 f4 k4 z4; have B4 : Below w.heap.size w w4 := ((b1.trans (b2.mono (by omega))).trans (b3.mono (by omega))).trans (k4.toBelow (by omega) (by simp; omega)); clear b1 b2 b3 z1 z2; replace h1 := h1.keeps k4 (by simp; omega); replace f2 := f2.keeps k4 h2.1 (by simp); replace h2 := h2.keeps k4 (by simp); clear h3 f3 k4; have c0 := h1.at 0 H0.out; have c1 := h1.at 1 H1.out; have e1 := h4.at 1 (u := .int .i64 0) rfl; have g1 := f4 1)
    | ((with_reducible refine wpl_at (o := ⟨some 73, .load 36 (.tmp 3), _, _, _, _⟩) ?_); refine wpl_loadAt rfl _ _ rfl (w.heap.size + 1 + 1) 0 rfl (({ zP 6 with id := p.id } : Pac).cells Nl Nl) _ (h4.set 1 (.int .i64 p.id) (show 1 < 24 by decide)).range Tryz.underlying36 rfl info_pac ?_)
    | ((with_reducible refine wpl_at (o := ⟨none, .store 36 (.tmp 2) (.tmp 73), _, _, _, _⟩) ?_); refine wpl_storeAll rfl rfl _ _ _ rfl (w.heap.size + 1) (({ zP 6 with id := p.id } : Pac).cells Nl Nl) (zK 0) rfl rfl info_pac (({ zP 6 with id := p.id } : Pac).one Nl Nl rfl rfl) (h2.other _ _ _ (by simp)) rfl (f2.set _ _) ?_; intro w9 h9 f9 k9 z9))
  refine bodyPost_ret (v := .agg (({ zP 6 with id := p.id } : Pac).cells Nl Nl).toArray) (results_cell Tryz.results33 rfl (ret_pac h9 rfl)) rfl ⟨rfl, ?_⟩
  · exact ((B4.setCell (by go_grown) _)).trans (k9.toBelow (by go_grown) (by simp))

set_option maxRecDepth 100000 in
set_option maxHeartbeats 8000000 in
theorem cleanI7_c (p : Pac) (vf vc : Value) (w : World) (hk : p.k = 7) :
    Calls Tryz.prog 33 #[.agg (p.cells vf vc).toArray] w fun e w' => e = .returned (.agg (({ zP 7 with id := p.id } : Pac).cells Nl Nl).toArray) ∧ Below w.heap.size w w' := by
  obtain ⟨L, hL⟩ : ∃ L, p.cells vf vc = L := ⟨_, rfl⟩
  have l0 : L[0]? = some (.int .i64 7) := by rw [← hL, ← hk]; rfl
  have H0 := hd l0
  have l1 : L[1]? = some (.int .i64 p.id) := by rw [← hL]; rfl
  have H1 := hd l1
  have HC : Hd (∀ j v, p.c.cells[j]? = some v → L[7 + j]? = some v) := hd (by rw [← hL]; exact p.con_in vf vc)
  have HM : Hd (∀ j v, p.msg[j]? = some v → L[3 + j]? = some v) := hd (by rw [← hL]; exact p.msg_in vf vc)
  rw [hL]
  clear l0 l1
  go_enter Tryz.func33, Tryz.ntmps33
  go_wp2_with (first
    | (with_reducible refine wpl_box (o := ⟨some 1, .box 36 (.tmp 0), _, _, _, _⟩) rfl _ _ rfl L rfl w.heap.size rfl ?_; intro w1 h1 f1 b1 z1)
    | (with_reducible refine wpl_alloc (o := ⟨some 2, .alloc 36, _, _, _, _⟩) rfl _ rfl (zK 0) alloc_pac _ z1 ?_; intro w2 h2 f2 b2 z2; replace h1 := h1.keep b2 (by omega); clear f1; have c0 := h1.at 0 H0.out)
    | (with_reducible refine wpl_alloc (o := ⟨some 3, .alloc 36, _, _, _, _⟩) rfl _ rfl (zK 0) alloc_pac _ z2 ?_; intro w3 h3 f3 b3 z3; clear c0; replace h1 := h1.keep b3 (by omega); replace f2 := f2.keep b3 (by omega); replace h2 := h2.keep b3 (by omega))
    | ((with_reducible refine wpl_at (o := ⟨none, .store 36 (.tmp 3) (.tmp 6), _, _, _, _⟩) ?_); refine wpl_storeAll rfl rfl _ _ _ rfl (w.heap.size + 1 + 1) (zK 7) (zK 0) rfl rfl info_pac (zK_one 7) h3 rfl f3 ?_; intro w4 h4 f4 k4 z4; have B4 : Below w.heap.size w w4 := ((b1.trans (b2.mono (by omega))).trans (b3.mono (by omega))).trans (k4.toBelow (by omega) (by simp; omega)); clear b1 b2 b3 z1 z2; replace h1 := h1.keeps k4 (by simp; omega); replace f2 := f2.keeps k4 h2.1 (by simp); replace h2 := h2.keeps k4 (by simp); clear h3 f3 k4; have c0 := h1.at 0 H0.out; have c1 := h1.at 1 H1.out; have e1 := h4.at 1 (u := .int .i64 0) rfl; have g1 := f4 1)
    | ((with_reducible refine wpl_at (o := ⟨some 73, .load 36 (.tmp 3), _, _, _, _⟩) ?_); refine wpl_loadAt rfl _ _ rfl (w.heap.size + 1 + 1) 0 rfl (({ zP 7 with id := p.id } : Pac).cells Nl Nl) _ (h4.set 1 (.int .i64 p.id) (show 1 < 24 by decide)).range Tryz.underlying36 rfl info_pac ?_)
    | ((with_reducible refine wpl_at (o := ⟨none, .store 36 (.tmp 2) (.tmp 73), _, _, _, _⟩) ?_); refine wpl_storeAll rfl rfl _ _ _ rfl (w.heap.size + 1) (({ zP 7 with id := p.id } : Pac).cells Nl Nl) (zK 0) rfl rfl info_pac (({ zP 7 with id := p.id } : Pac).one Nl Nl rfl rfl) (h2.other _ _ _ (by simp)) rfl (f2.set _ _) ?_; intro w9 h9 f9 k9 z9))
  refine bodyPost_ret (v := .agg (({ zP 7 with id := p.id } : Pac).cells Nl Nl).toArray) (results_cell Tryz.results33 rfl (ret_pac h9 rfl)) rfl ⟨rfl, ?_⟩
  · exact ((B4.setCell (by go_grown) _)).trans (k9.toBelow (by go_grown) (by simp))

set_option maxRecDepth 100000 in
set_option maxHeartbeats 8000000 in
theorem cleanI11_c (p : Pac) (vf vc : Value) (w : World) (hk : p.k = 11) :
    Calls Tryz.prog 33 #[.agg (p.cells vf vc).toArray] w fun e w' => e = .returned (.agg (({ zP 11 with id := p.id } : Pac).cells Nl Nl).toArray) ∧ Below w.heap.size w w' := by
  obtain ⟨L, hL⟩ : ∃ L, p.cells vf vc = L := ⟨_, rfl⟩
  have l0 : L[0]? = some (.int .i64 11) := by rw [← hL, ← hk]; rfl
  have H0 := hd l0
  have l1 : L[1]? = some (.int .i64 p.id) := by rw [← hL]; rfl
  have H1 := hd l1
  have HC : Hd (∀ j v, p.c.cells[j]? = some v → L[7 + j]? = some v) := hd (by rw [← hL]; exact p.con_in vf vc)
  have HM : Hd (∀ j v, p.msg[j]? = some v → L[3 + j]? = some v) := hd (by rw [← hL]; exact p.msg_in vf vc)
  rw [hL]
  clear l0 l1
  go_enter Tryz.func33, Tryz.ntmps33
  go_wp2_with (first
    | (with_reducible refine wpl_box (o := ⟨some 1, .box 36 (.tmp 0), _, _, _, _⟩) rfl _ _ rfl L rfl w.heap.size rfl ?_; intro w1 h1 f1 b1 z1)
    | (with_reducible refine wpl_alloc (o := ⟨some 2, .alloc 36, _, _, _, _⟩) rfl _ rfl (zK 0) alloc_pac _ z1 ?_; intro w2 h2 f2 b2 z2; replace h1 := h1.keep b2 (by omega); clear f1; have c0 := h1.at 0 H0.out)
    | (with_reducible refine wpl_alloc (o := ⟨some 3, .alloc 36, _, _, _, _⟩) rfl _ rfl (zK 0) alloc_pac _ z2 ?_; intro w3 h3 f3 b3 z3; clear c0; replace h1 := h1.keep b3 (by omega); replace f2 := f2.keep b3 (by omega); replace h2 := h2.keep b3 (by omega))
    | ((with_reducible refine wpl_at (o := ⟨none, .store 36 (.tmp 3) (.tmp 6), _, _, _, _⟩) ?_); refine wpl_storeAll rfl rfl _ _ _ rfl (w.heap.size + 1 + 1) (zK 11) (zK 0) rfl rfl info_pac (zK_one 11) h3 rfl f3 ?_; intro w4 h4 f4 k4 z4; have B4 : Below w.heap.size w w4 := ((b1.trans (b2.mono (by omega))).trans (b3.mono (by omega))).trans (k4.toBelow (by omega) (by simp; omega)); clear b1 b2 b3 z1 z2; replace h1 := h1.keeps k4 (by simp; omega); replace f2 := f2.keeps k4 h2.1 (by simp); replace h2 := h2.keeps k4 (by simp); clear h3 f3 k4; have c0 := h1.at 0 H0.out; have c1 := h1.at 1 H1.out; have e1 := h4.at 1 (u := .int .i64 0) rfl; have g1 := f4 1)
    | ((with_reducible refine wpl_at (o := ⟨some 73, .load 36 (.tmp 3), _, _, _, _⟩) ?_); refine wpl_loadAt rfl _ _ rfl (w.heap.size + 1 + 1) 0 rfl (({ zP 11 with id := p.id } : Pac).cells Nl Nl) _ (h4.set 1 (.int .i64 p.id) (show 1 < 24 by decide)).range Tryz.underlying36 rfl info_pac ?_)
    | ((with_reducible refine wpl_at (o := ⟨none, .store 36 (.tmp 2) (.tmp 73), _, _, _, _⟩) ?_); refine wpl_storeAll rfl rfl _ _ _ rfl (w.heap.size + 1) (({ zP 11 with id := p.id } : Pac).cells Nl Nl) (zK 0) rfl rfl info_pac (({ zP 11 with id := p.id } : Pac).one Nl Nl rfl rfl) (h2.other _ _ _ (by simp)) rfl (f2.set _ _) ?_; intro w9 h9 f9 k9 z9))
  refine bodyPost_ret (v := .agg (({ zP 11 with id := p.id } : Pac).cells Nl Nl).toArray) (results_cell Tryz.results33 rfl (ret_pac h9 rfl)) rfl ⟨rfl, ?_⟩
  · exact ((B4.setCell (by go_grown) _)).trans (k9.toBelow (by go_grown) (by simp))

set_option maxRecDepth 100000 in
set_option maxHeartbeats 8000000 in
theorem clean2_c (p : Pac) (vf vc : Value) (w : World) (hk : p.k = 2) :
    Calls Tryz.prog 33 #[.agg (p.cells vf vc).toArray] w fun e w' => e = .returned (.agg (({ zP 2 with pr := p.pr, code := p.code } : Pac).cells Nl Nl).toArray) ∧ Below w.heap.size w w' := by
  obtain ⟨L, hL⟩ : ∃ L, p.cells vf vc = L := ⟨_, rfl⟩
  have l0 : L[0]? = some (.int .i64 2) := by rw [← hL, ← hk]; rfl
  have H0 := hd l0
  have l20 : L[20]? = some (.bool p.pr) := by rw [← hL]; rfl
  have H20 := hd l20
  have l21 : L[21]? = some (.int .i64 p.code) := by rw [← hL]; rfl
  have H21 := hd l21
  have HC : Hd (∀ j v, p.c.cells[j]? = some v → L[7 + j]? = some v) := hd (by rw [← hL]; exact p.con_in vf vc)
  have HM : Hd (∀ j v, p.msg[j]? = some v → L[3 + j]? = some v) := hd (by rw [← hL]; exact p.msg_in vf vc)
  rw [hL]
  clear l0 l20 l21
  go_enter Tryz.func33, Tryz.ntmps33
  go_wp2_with (first
    | (with_reducible refine wpl_box (o := ⟨some 1, .box 36 (.tmp 0), _, _, _, _⟩) rfl _ _ rfl L rfl w.heap.size rfl ?_; intro w1 h1 f1 b1 z1)
    | (with_reducible refine wpl_alloc (o := ⟨some 2, .alloc 36, _, _, _, _⟩) rfl _ rfl (zK 0) alloc_pac _ z1 ?_; intro w2 h2 f2 b2 z2; replace h1 := h1.keep b2 (by omega); clear f1; have c0 := h1.at 0 H0.out)
    | (with_reducible refine wpl_alloc (o := ⟨some 3, .alloc 36, _, _, _, _⟩) rfl _ rfl (zK 0) alloc_pac _ z2 ?_; intro w3 h3 f3 b3 z3; clear c0; replace h1 := h1.keep b3 (by omega); replace f2 := f2.keep b3 (by omega); replace h2 := h2.keep b3 (by omega))
    | ((with_reducible refine wpl_at (o := ⟨none, .store 36 (.tmp 3) (.tmp 6), _, _, _, _⟩) ?_); refine wpl_storeAll rfl rfl _ _ _ rfl (w.heap.size + 1 + 1) (zK 2) (zK 0) rfl rfl info_pac (zK_one 2) h3 rfl f3 ?_; intro w4 h4 f4 k4 z4; have B4 : Below w.heap.size w w4 := ((b1.trans (b2.mono (by omega))).trans (b3.mono (by omega))).trans (k4.toBelow (by omega) (by simp; omega)); clear b1 b2 b3 z1 z2; replace h1 := h1.keeps k4 (by simp; omega); replace f2 := f2.keeps k4 h2.1 (by simp); replace h2 := h2.keeps k4 (by simp); clear h3 f3 k4; have c0 := h1.at 0 H0.out))
  have B5 := B4.drew
  replace h1 := h1.drew
  replace h2 := h2.drew
  replace f2 := f2.drew
  replace h4 := h4.drew
  replace f4 := f4.drew
  have z5 : w4.drew.heap.size = w4.heap.size := rfl
  refine wp_region_M (fun W => At W w.heap.size L) 7 [(0, false), (1, false), (2, false), (3, false), (4, false), (5, true), (6, false), (7, true)] (by kernel_rfl) (by kernel_rfl) (fun _ _ _ _ h => h) h1 ?_
  clear B4 c0
  generalize w4.drew = w5 at *
  apply wpM_still (by rfl) (by rfl)
  · intro W hC
    go_simp
    rfl
  go_simp
  apply wpM_still (by rfl) (by rfl)
  · intro W hC
    have d := At.at hC 20 H20.out
    go_simp
    rfl
  go_simp
  apply wpM_still (by rfl) (by rfl)
  · intro W hC
    go_simp
    rfl
  go_simp
  apply wpM_still (by rfl) (by rfl)
  · intro W hC
    have d := At.at hC 21 H21.out
    go_simp
    rfl
  go_simp
  apply wpM_still (by rfl) (by rfl)
  · intro W hC
    go_simp
    rfl
  go_simp
  apply wpM_move (by rfl) (by rfl)
  intro K hK
  have e20 := h4.at 20 (u := .bool false) rfl
  have g20 := f4 20
  go_simp
  refine hK _ _ (fun _ => h1.other _ _ _ (by simp; omega)) ?_
  clear hK K e20 g20
  replace h1 := h1.other (w.heap.size + 1 + 1) 20 (.bool p.pr) (by omega)
  replace h2 := h2.other (w.heap.size + 1 + 1) 20 (.bool p.pr) (by omega)
  replace f2 := f2.set ⟨(w.heap.size + 1 + 1), 20, none⟩ (.bool p.pr)
  replace h4 := h4.set 20 (.bool p.pr) (show 20 < 24 by decide)
  replace f4 := f4.set ⟨(w.heap.size + 1 + 1), 20, none⟩ (.bool p.pr)
  replace B5 := B5.setCell (p := ⟨(w.heap.size + 1 + 1), 20, none⟩) (by show w.heap.size ≤ w.heap.size + 1 + 1; omega) (.bool p.pr)
  have z6 : (w5.setCell ⟨(w.heap.size + 1 + 1), 20, none⟩ (.bool p.pr)).heap.size = w5.heap.size := by simp [go_sem]
  generalize w5.setCell ⟨(w.heap.size + 1 + 1), 20, none⟩ (.bool p.pr) = w6 at *
  apply wpM_still (by rfl) (by rfl)
  · intro W hC
    go_simp
    rfl
  go_simp
  apply wpM_move (by rfl) (by rfl)
  intro K hK
  have e21 := h4.at 21 (u := .int .i64 0) rfl
  have g21 := f4 21
  go_simp
  refine hK _ _ (fun h => absurd h (by decide)) ?_
  clear hK K e21 g21
  replace h1 := h1.other (w.heap.size + 1 + 1) 21 (.int .i64 p.code) (by omega)
  replace h2 := h2.other (w.heap.size + 1 + 1) 21 (.int .i64 p.code) (by omega)
  replace f2 := f2.set ⟨(w.heap.size + 1 + 1), 21, none⟩ (.int .i64 p.code)
  replace h4 := h4.set 21 (.int .i64 p.code) (show 21 < 24 by decide)
  replace f4 := f4.set ⟨(w.heap.size + 1 + 1), 21, none⟩ (.int .i64 p.code)
  replace B5 := B5.setCell (p := ⟨(w.heap.size + 1 + 1), 21, none⟩) (by show w.heap.size ≤ w.heap.size + 1 + 1; omega) (.int .i64 p.code)
  have z7 : (w6.setCell ⟨(w.heap.size + 1 + 1), 21, none⟩ (.int .i64 p.code)).heap.size = w6.heap.size := by simp [go_sem]
  generalize w6.setCell ⟨(w.heap.size + 1 + 1), 21, none⟩ (.int .i64 p.code) = w7 at *
  refine wpM_nil ?_
  go_wp2_with (first
    | ((with_reducible refine wpl_at (o := ⟨some 73, .load 36 (.tmp 3), _, _, _, _⟩) ?_); refine wpl_loadAt rfl _ _ rfl (w.heap.size + 1 + 1) 0 rfl (({ zP 2 with pr := p.pr, code := p.code } : Pac).cells Nl Nl) _ (h4).range Tryz.underlying36 rfl info_pac ?_)
    | ((with_reducible refine wpl_at (o := ⟨none, .store 36 (.tmp 2) (.tmp 73), _, _, _, _⟩) ?_); refine wpl_storeAll rfl rfl _ _ _ rfl (w.heap.size + 1) (({ zP 2 with pr := p.pr, code := p.code } : Pac).cells Nl Nl) (zK 0) rfl rfl info_pac (({ zP 2 with pr := p.pr, code := p.code } : Pac).one Nl Nl rfl rfl) h2 rfl f2 ?_; intro w9 h9 f9 k9 z9))
  refine bodyPost_ret (v := .agg (({ zP 2 with pr := p.pr, code := p.code } : Pac).cells Nl Nl).toArray) (results_cell Tryz.results33 rfl (ret_pac h9 rfl)) rfl ⟨rfl, ?_⟩
  · exact (B5).trans (k9.toBelow (by go_grown) (by simp))

set_option maxRecDepth 100000 in
set_option maxHeartbeats 8000000 in
theorem clean3n_c (p : Pac) (vf vc : Value) (w : World) (hk : p.k = 3) (hq : (p.q != 0) = true) :
    Calls Tryz.prog 33 #[.agg (p.cells vf vc).toArray] w fun e w' => e = .returned (.agg (({ zP 3 with tp := p.tp, tx := p.tx, q := p.q, rt := p.rt, dup := p.dup, id := p.id } : Pac).cells Nl Nl).toArray) ∧ Below w.heap.size w w' := by
  obtain ⟨L, hL⟩ : ∃ L, p.cells vf vc = L := ⟨_, rfl⟩
  have l0 : L[0]? = some (.int .i64 3) := by rw [← hL, ← hk]; rfl
  have H0 := hd l0
  have l1 : L[1]? = some (.int .i64 p.id) := by rw [← hL]; rfl
  have H1 := hd l1
  have l2 : L[2]? = some (.bool p.dup) := by rw [← hL]; rfl
  have H2 := hd l2
  have l5 : L[5]? = some (.int .i64 p.q) := by rw [← hL]; rfl
  have H5 := hd l5
  have HC : Hd (∀ j v, p.c.cells[j]? = some v → L[7 + j]? = some v) := hd (by rw [← hL]; exact p.con_in vf vc)
  have HM : Hd (∀ j v, p.msg[j]? = some v → L[3 + j]? = some v) := hd (by rw [← hL]; exact p.msg_in vf vc)
  rw [hL]
  clear l0 l1 l2 l5
  go_enter Tryz.func33, Tryz.ntmps33
  go_wp2_with (first
    | (with_reducible refine wpl_box (o := ⟨some 1, .box 36 (.tmp 0), _, _, _, _⟩) rfl _ _ rfl L rfl w.heap.size rfl ?_; intro w1 h1 f1 b1 z1)
    | (with_reducible refine wpl_alloc (o := ⟨some 2, .alloc 36, _, _, _, _⟩) rfl _ rfl (zK 0) alloc_pac _ z1 ?_; intro w2 h2 f2 b2 z2; replace h1 := h1.keep b2 (by omega); clear f1; have c0 := h1.at 0 H0.out)
    | (with_reducible refine wpl_alloc (o := ⟨some 3, .alloc 36, _, _, _, _⟩) rfl _ rfl (zK 0) alloc_pac _ z2 ?_; intro w3 h3 f3 b3 z3; clear c0; replace h1 := h1.keep b3 (by omega); replace f2 := f2.keep b3 (by omega); replace h2 := h2.keep b3 (by omega))
    | ((with_reducible refine wpl_at (o := ⟨none, .store 36 (.tmp 3) (.tmp 6), _, _, _, _⟩) ?_); refine wpl_storeAll rfl rfl _ _ _ rfl (w.heap.size + 1 + 1) (zK 3) (zK 0) rfl rfl info_pac (zK_one 3) h3 rfl f3 ?_; intro w4 h4 f4 k4 z4; have B4 : Below w.heap.size w w4 := ((b1.trans (b2.mono (by omega))).trans (b3.mono (by omega))).trans (k4.toBelow (by omega) (by simp; omega)); clear b1 b2 b3 z1 z2; replace h1 := h1.keeps k4 (by simp; omega); replace f2 := f2.keeps k4 h2.1 (by simp); replace h2 := h2.keeps k4 (by simp); clear h3 f3 k4; have c0 := h1.at 0 H0.out))
  have B5 := B4.drew
  replace h1 := h1.drew
  replace h2 := h2.drew
  replace f2 := f2.drew
  replace h4 := h4.drew
  replace f4 := f4.drew
  have z5 : w4.drew.heap.size = w4.heap.size := rfl
  refine wp_region_M (fun W => At W w.heap.size L) 7 [(0, false), (1, false), (2, false), (3, false), (4, false), (5, true), (6, false), (7, true)] (by kernel_rfl) (by kernel_rfl) (fun _ _ _ _ h => h) h1 ?_
  clear B4 c0
  generalize w4.drew = w5 at *
  apply wpM_still (by rfl) (by rfl)
  · intro W hC
    go_simp
    rfl
  go_simp
  apply wpM_still (by rfl) (by rfl)
  · intro W hC
    exact still_loadAt _ _ rfl w.heap.size 3 rfl p.msg _ (At.part hC 3 HM.out) Tryz.underlying30 rfl info_msg
  apply wpM_still (by rfl) (by rfl)
  · intro W hC
    go_simp
    rfl
  go_simp
  apply wpM_still (by rfl) (by rfl)
  · intro W hC
    have d := At.at hC 2 H2.out
    go_simp
    rfl
  go_simp
  apply wpM_still (by rfl) (by rfl)
  · intro W hC
    go_simp
    rfl
  go_simp
  apply wpM_move (by rfl) (by rfl)
  intro K hK
  refine wpo_storeMid rfl _ _ _ rfl (w.heap.size + 1 + 1) 3 p.msg (zK 3) (({ zP 3 with tp := p.tp, tx := p.tx, q := p.q, rt := p.rt } : Pac).cells Nl Nl) rfl rfl info_msg p.msg_one h4 rfl (by show 3 + 4 ≤ 24; decide) f4 ?_
  intro w6 h6 f6 k6 z6
  replace h1 := h1.keeps k6 (by simp; omega)
  replace f2 := f2.keeps k6 h2.1 (by simp)
  replace h2 := h2.keeps k6 (by simp)
  replace B5 := B5.trans (k6.toBelow B5.size (by simp; omega))
  refine hK _ _ (fun _ => h1) ?_
  clear hK K h4 f4 k6
  apply wpM_still (by rfl) (by rfl)
  · intro W hC
    go_simp
    rfl
  go_simp
  apply wpM_move (by rfl) (by rfl)
  intro K hK
  have e2 := h6.at 2 (u := .bool false) rfl
  have g2 := f6 2
  go_simp
  refine hK _ _ (fun h => absurd h (by decide)) ?_
  clear hK K e2 g2
  replace h1 := h1.other (w.heap.size + 1 + 1) 2 (.bool p.dup) (by omega)
  replace h2 := h2.other (w.heap.size + 1 + 1) 2 (.bool p.dup) (by omega)
  replace f2 := f2.set ⟨(w.heap.size + 1 + 1), 2, none⟩ (.bool p.dup)
  replace h6 := h6.set 2 (.bool p.dup) (show 2 < 24 by decide)
  replace f6 := f6.set ⟨(w.heap.size + 1 + 1), 2, none⟩ (.bool p.dup)
  replace B5 := B5.setCell (p := ⟨(w.heap.size + 1 + 1), 2, none⟩) (by show w.heap.size ≤ w.heap.size + 1 + 1; omega) (.bool p.dup)
  have z7 : (w6.setCell ⟨(w.heap.size + 1 + 1), 2, none⟩ (.bool p.dup)).heap.size = w6.heap.size := by simp [go_sem]
  generalize w6.setCell ⟨(w.heap.size + 1 + 1), 2, none⟩ (.bool p.dup) = w7 at *
  refine wpM_nil ?_
  have c5 := h1.at 5 H5.out
  have c1 := h1.at 1 H1.out
  have e1 := h6.at 1 (u := .int .i64 0) rfl
  have g1 := f6 1
  go_wp2_with (first
    | ((with_reducible refine wpl_at (o := ⟨some 73, .load 36 (.tmp 3), _, _, _, _⟩) ?_); refine wpl_loadAt rfl _ _ rfl (w.heap.size + 1 + 1) 0 rfl (({ zP 3 with tp := p.tp, tx := p.tx, q := p.q, rt := p.rt, dup := p.dup, id := p.id } : Pac).cells Nl Nl) _ (h6.set 1 (.int .i64 p.id) (show 1 < 24 by decide)).range Tryz.underlying36 rfl info_pac ?_)
    | ((with_reducible refine wpl_at (o := ⟨none, .store 36 (.tmp 2) (.tmp 73), _, _, _, _⟩) ?_); refine wpl_storeAll rfl rfl _ _ _ rfl (w.heap.size + 1) (({ zP 3 with tp := p.tp, tx := p.tx, q := p.q, rt := p.rt, dup := p.dup, id := p.id } : Pac).cells Nl Nl) (zK 0) rfl rfl info_pac (({ zP 3 with tp := p.tp, tx := p.tx, q := p.q, rt := p.rt, dup := p.dup, id := p.id } : Pac).one Nl Nl rfl rfl) (h2.other _ _ _ (by simp)) rfl (f2.set _ _) ?_; intro w9 h9 f9 k9 z9))
  refine bodyPost_ret (v := .agg (({ zP 3 with tp := p.tp, tx := p.tx, q := p.q, rt := p.rt, dup := p.dup, id := p.id } : Pac).cells Nl Nl).toArray) (results_cell Tryz.results33 rfl (ret_pac h9 rfl)) rfl ⟨rfl, ?_⟩
  · exact ((B5.setCell (by go_grown) _)).trans (k9.toBelow (by go_grown) (by simp))

set_option maxRecDepth 100000 in
set_option maxHeartbeats 8000000 in
theorem clean3z_c (p : Pac) (vf vc : Value) (w : World) (hk : p.k = 3) (hq : (p.q != 0) = false) :
    Calls Tryz.prog 33 #[.agg (p.cells vf vc).toArray] w fun e w' => e = .returned (.agg (({ zP 3 with tp := p.tp, tx := p.tx, q := p.q, rt := p.rt, dup := p.dup } : Pac).cells Nl Nl).toArray) ∧ Below w.heap.size w w' := by
  obtain ⟨L, hL⟩ : ∃ L, p.cells vf vc = L := ⟨_, rfl⟩
  have l0 : L[0]? = some (.int .i64 3) := by rw [← hL, ← hk]; rfl
  have H0 := hd l0
  have l1 : L[1]? = some (.int .i64 p.id) := by rw [← hL]; rfl
  have H1 := hd l1
  have l2 : L[2]? = some (.bool p.dup) := by rw [← hL]; rfl
  have H2 := hd l2
  have l5 : L[5]? = some (.int .i64 p.q) := by rw [← hL]; rfl
  have H5 := hd l5
  have HC : Hd (∀ j v, p.c.cells[j]? = some v → L[7 + j]? = some v) := hd (by rw [← hL]; exact p.con_in vf vc)
  have HM : Hd (∀ j v, p.msg[j]? = some v → L[3 + j]? = some v) := hd (by rw [← hL]; exact p.msg_in vf vc)
  rw [hL]
  clear l0 l1 l2 l5
  go_enter Tryz.func33, Tryz.ntmps33
  go_wp2_with (first
    | (with_reducible refine wpl_box (o := ⟨some 1, .box 36 (.tmp 0), _, _, _, _⟩) rfl _ _ rfl L rfl w.heap.size rfl ?_; intro w1 h1 f1 b1 z1)
    | (with_reducible refine wpl_alloc (o := ⟨some 2, .alloc 36, _, _, _, _⟩) rfl _ rfl (zK 0) alloc_pac _ z1 ?_; intro w2 h2 f2 b2 z2; replace h1 := h1.keep b2 (by omega); clear f1; have c0 := h1.at 0 H0.out)
    | (with_reducible refine wpl_alloc (o := ⟨some 3, .alloc 36, _, _, _, _⟩) rfl _ rfl (zK 0) alloc_pac _ z2 ?_; intro w3 h3 f3 b3 z3; clear c0; replace h1 := h1.keep b3 (by omega); replace f2 := f2.keep b3 (by omega); replace h2 := h2.keep b3 (by omega))
    | ((with_reducible refine wpl_at (o := ⟨none, .store 36 (.tmp 3) (.tmp 6), _, _, _, _⟩) ?_); refine wpl_storeAll rfl rfl _ _ _ rfl (w.heap.size + 1 + 1) (zK 3) (zK 0) rfl rfl info_pac (zK_one 3) h3 rfl f3 ?_; intro w4 h4 f4 k4 z4; have B4 : Below w.heap.size w w4 := ((b1.trans (b2.mono (by omega))).trans (b3.mono (by omega))).trans (k4.toBelow (by omega) (by simp; omega)); clear b1 b2 b3 z1 z2; replace h1 := h1.keeps k4 (by simp; omega); replace f2 := f2.keeps k4 h2.1 (by simp); replace h2 := h2.keeps k4 (by simp); clear h3 f3 k4; have c0 := h1.at 0 H0.out))
  have B5 := B4.drew
  replace h1 := h1.drew
  replace h2 := h2.drew
  replace f2 := f2.drew
  replace h4 := h4.drew
  replace f4 := f4.drew
  have z5 : w4.drew.heap.size = w4.heap.size := rfl
  refine wp_region_M (fun W => At W w.heap.size L) 7 [(0, false), (1, false), (2, false), (3, false), (4, false), (5, true), (6, false), (7, true)] (by kernel_rfl) (by kernel_rfl) (fun _ _ _ _ h => h) h1 ?_
  clear B4 c0
  generalize w4.drew = w5 at *
  apply wpM_still (by rfl) (by rfl)
  · intro W hC
    go_simp
    rfl
  go_simp
  apply wpM_still (by rfl) (by rfl)
  · intro W hC
    exact still_loadAt _ _ rfl w.heap.size 3 rfl p.msg _ (At.part hC 3 HM.out) Tryz.underlying30 rfl info_msg
  apply wpM_still (by rfl) (by rfl)
  · intro W hC
    go_simp
    rfl
  go_simp
  apply wpM_still (by rfl) (by rfl)
  · intro W hC
    have d := At.at hC 2 H2.out
    go_simp
    rfl
  go_simp
  apply wpM_still (by rfl) (by rfl)
  · intro W hC
    go_simp
    rfl
  go_simp
  apply wpM_move (by rfl) (by rfl)
  intro K hK
  refine wpo_storeMid rfl _ _ _ rfl (w.heap.size + 1 + 1) 3 p.msg (zK 3) (({ zP 3 with tp := p.tp, tx := p.tx, q := p.q, rt := p.rt } : Pac).cells Nl Nl) rfl rfl info_msg p.msg_one h4 rfl (by show 3 + 4 ≤ 24; decide) f4 ?_
  intro w6 h6 f6 k6 z6
  replace h1 := h1.keeps k6 (by simp; omega)
  replace f2 := f2.keeps k6 h2.1 (by simp)
  replace h2 := h2.keeps k6 (by simp)
  replace B5 := B5.trans (k6.toBelow B5.size (by simp; omega))
  refine hK _ _ (fun _ => h1) ?_
  clear hK K h4 f4 k6
  apply wpM_still (by rfl) (by rfl)
  · intro W hC
    go_simp
    rfl
  go_simp
  apply wpM_move (by rfl) (by rfl)
  intro K hK
  have e2 := h6.at 2 (u := .bool false) rfl
  have g2 := f6 2
  go_simp
  refine hK _ _ (fun h => absurd h (by decide)) ?_
  clear hK K e2 g2
  replace h1 := h1.other (w.heap.size + 1 + 1) 2 (.bool p.dup) (by omega)
  replace h2 := h2.other (w.heap.size + 1 + 1) 2 (.bool p.dup) (by omega)
  replace f2 := f2.set ⟨(w.heap.size + 1 + 1), 2, none⟩ (.bool p.dup)
  replace h6 := h6.set 2 (.bool p.dup) (show 2 < 24 by decide)
  replace f6 := f6.set ⟨(w.heap.size + 1 + 1), 2, none⟩ (.bool p.dup)
  replace B5 := B5.setCell (p := ⟨(w.heap.size + 1 + 1), 2, none⟩) (by show w.heap.size ≤ w.heap.size + 1 + 1; omega) (.bool p.dup)
  have z7 : (w6.setCell ⟨(w.heap.size + 1 + 1), 2, none⟩ (.bool p.dup)).heap.size = w6.heap.size := by simp [go_sem]
  generalize w6.setCell ⟨(w.heap.size + 1 + 1), 2, none⟩ (.bool p.dup) = w7 at *
  refine wpM_nil ?_
  have c5 := h1.at 5 H5.out
  have c1 := h1.at 1 H1.out
  have e1 := h6.at 1 (u := .int .i64 0) rfl
  have g1 := f6 1
  go_wp2_with (first
    | ((with_reducible refine wpl_at (o := ⟨some 73, .load 36 (.tmp 3), _, _, _, _⟩) ?_); refine wpl_loadAt rfl _ _ rfl (w.heap.size + 1 + 1) 0 rfl (({ zP 3 with tp := p.tp, tx := p.tx, q := p.q, rt := p.rt, dup := p.dup } : Pac).cells Nl Nl) _ (h6).range Tryz.underlying36 rfl info_pac ?_)
    | ((with_reducible refine wpl_at (o := ⟨none, .store 36 (.tmp 2) (.tmp 73), _, _, _, _⟩) ?_); refine wpl_storeAll rfl rfl _ _ _ rfl (w.heap.size + 1) (({ zP 3 with tp := p.tp, tx := p.tx, q := p.q, rt := p.rt, dup := p.dup } : Pac).cells Nl Nl) (zK 0) rfl rfl info_pac (({ zP 3 with tp := p.tp, tx := p.tx, q := p.q, rt := p.rt, dup := p.dup } : Pac).one Nl Nl rfl rfl) h2 rfl f2 ?_; intro w9 h9 f9 k9 z9))
  refine bodyPost_ret (v := .agg (({ zP 3 with tp := p.tp, tx := p.tx, q := p.q, rt := p.rt, dup := p.dup } : Pac).cells Nl Nl).toArray) (results_cell Tryz.results33 rfl (ret_pac h9 rfl)) rfl ⟨rfl, ?_⟩
  · exact (B5).trans (k9.toBelow (by go_grown) (by simp))

set_option maxRecDepth 100000 in
set_option maxHeartbeats 8000000 in
theorem cleanO_c (p : Pac) (vf vc : Value) (w : World) (b1 : (p.k == 1) = false) (b2 : (p.k == 2) = false) (b3 : (p.k == 3) = false) (b4 : (p.k == 4) = false) (b5 : (p.k == 5) = false) (b6 : (p.k == 6) = false) (b7 : (p.k == 7) = false) (b8 : (p.k == 8) = false) (b9 : (p.k == 9) = false) (b10 : (p.k == 10) = false) (b11 : (p.k == 11) = false) :
    Calls Tryz.prog 33 #[.agg (p.cells vf vc).toArray] w fun e w' => e = .returned (.agg ((zP p.k).cells Nl Nl).toArray) ∧ Below w.heap.size w w' := by
  obtain ⟨L, hL⟩ : ∃ L, p.cells vf vc = L := ⟨_, rfl⟩
  have l0 : L[0]? = some (.int .i64 p.k) := by rw [← hL]; rfl
  have H0 := hd l0
  have HC : Hd (∀ j v, p.c.cells[j]? = some v → L[7 + j]? = some v) := hd (by rw [← hL]; exact p.con_in vf vc)
  have HM : Hd (∀ j v, p.msg[j]? = some v → L[3 + j]? = some v) := hd (by rw [← hL]; exact p.msg_in vf vc)
  rw [hL]
  clear l0 
  go_enter Tryz.func33, Tryz.ntmps33
  go_wp2_with (first
    | (with_reducible refine wpl_box (o := ⟨some 1, .box 36 (.tmp 0), _, _, _, _⟩) rfl _ _ rfl L rfl w.heap.size rfl ?_; intro w1 h1 f1 b1 z1)
    | (with_reducible refine wpl_alloc (o := ⟨some 2, .alloc 36, _, _, _, _⟩) rfl _ rfl (zK 0) alloc_pac _ z1 ?_; intro w2 h2 f2 b2 z2; replace h1 := h1.keep b2 (by omega); clear f1; have c0 := h1.at 0 H0.out)
    | (with_reducible refine wpl_alloc (o := ⟨some 3, .alloc 36, _, _, _, _⟩) rfl _ rfl (zK 0) alloc_pac _ z2 ?_; intro w3 h3 f3 b3 z3; clear c0; replace h1 := h1.keep b3 (by omega); replace f2 := f2.keep b3 (by omega); replace h2 := h2.keep b3 (by omega))
    | ((with_reducible refine wpl_at (o := ⟨none, .store 36 (.tmp 3) (.tmp 6), _, _, _, _⟩) ?_); refine wpl_storeAll rfl rfl _ _ _ rfl (w.heap.size + 1 + 1) (zK p.k) (zK 0) rfl rfl info_pac (zK_one p.k) h3 rfl f3 ?_; intro w4 h4 f4 k4 z4; have B4 : Below w.heap.size w w4 := ((b1.trans (b2.mono (by omega))).trans (b3.mono (by omega))).trans (k4.toBelow (by omega) (by simp; omega)); clear b1 b2 b3 z1 z2; replace h1 := h1.keeps k4 (by simp; omega); replace f2 := f2.keeps k4 h2.1 (by simp); replace h2 := h2.keeps k4 (by simp); clear h3 f3 k4; have c0 := h1.at 0 H0.out)
    | ((with_reducible refine wpl_at (o := ⟨some 73, .load 36 (.tmp 3), _, _, _, _⟩) ?_); refine wpl_loadAt rfl _ _ rfl (w.heap.size + 1 + 1) 0 rfl ((zP p.k).cells Nl Nl) _ (h4).range Tryz.underlying36 rfl info_pac ?_)
    | ((with_reducible refine wpl_at (o := ⟨none, .store 36 (.tmp 2) (.tmp 73), _, _, _, _⟩) ?_); refine wpl_storeAll rfl rfl _ _ _ rfl (w.heap.size + 1) ((zP p.k).cells Nl Nl) (zK 0) rfl rfl info_pac ((zP p.k).one Nl Nl rfl rfl) h2 rfl f2 ?_; intro w9 h9 f9 k9 z9))
  refine bodyPost_ret (v := .agg ((zP p.k).cells Nl Nl).toArray) (results_cell Tryz.results33 rfl (ret_pac h9 rfl)) rfl ⟨rfl, ?_⟩
  · exact (B4).trans (k9.toBelow (by go_grown) (by simp))

set_option maxRecDepth 100000 in
set_option maxHeartbeats 8000000 in
theorem cleanC8_c (p : Pac) (vf vc : Value) (w : World) (hk : p.k = 8) (hW : Ws w vf p.fs) (hl : p.fs.length * 24 ≤ 140737488351232) :
    Calls Tryz.prog 33 #[.agg (p.cells vf vc).toArray] w fun e w' => ∃ v', e = .returned (.agg (({ zP 8 with id := p.id } : Pac).cells v' Nl).toArray) ∧ OwnW w.heap.size w' v' (p.fs) ∧ Below w.heap.size w w' := by
  obtain ⟨L, hL⟩ : ∃ L, p.cells vf vc = L := ⟨_, rfl⟩
  have l0 : L[0]? = some (.int .i64 8) := by rw [← hL, ← hk]; rfl
  have H0 := hd l0
  have l1 : L[1]? = some (.int .i64 p.id) := by rw [← hL]; rfl
  have H1 := hd l1
  have l22 : L[22]? = some vf := by rw [← hL]; rfl
  have HV := hd l22
  have HC : Hd (∀ j v, p.c.cells[j]? = some v → L[7 + j]? = some v) := hd (by rw [← hL]; exact p.con_in vf vc)
  have HM : Hd (∀ j v, p.msg[j]? = some v → L[3 + j]? = some v) := hd (by rw [← hL]; exact p.msg_in vf vc)
  rw [hL]
  clear l0 l1 l22
  go_enter Tryz.func33, Tryz.ntmps33
  have HW := hd hW; have HL := hd hl; clear hW hl
  go_wp2_with (first
    | (with_reducible refine wpl_box (o := ⟨some 1, .box 36 (.tmp 0), _, _, _, _⟩) rfl _ _ rfl L rfl w.heap.size rfl ?_; intro w1 h1 f1 b1 z1)
    | (with_reducible refine wpl_alloc (o := ⟨some 2, .alloc 36, _, _, _, _⟩) rfl _ rfl (zK 0) alloc_pac _ z1 ?_; intro w2 h2 f2 b2 z2; replace h1 := h1.keep b2 (by omega); clear f1; have c0 := h1.at 0 H0.out)
    | (with_reducible refine wpl_alloc (o := ⟨some 3, .alloc 36, _, _, _, _⟩) rfl _ rfl (zK 0) alloc_pac _ z2 ?_; intro w3 h3 f3 b3 z3; clear c0; replace h1 := h1.keep b3 (by omega); replace f2 := f2.keep b3 (by omega); replace h2 := h2.keep b3 (by omega))
    | ((with_reducible refine wpl_at (o := ⟨none, .store 36 (.tmp 3) (.tmp 6), _, _, _, _⟩) ?_); refine wpl_storeAll rfl rfl _ _ _ rfl (w.heap.size + 1 + 1) (zK 8) (zK 0) rfl rfl info_pac (zK_one 8) h3 rfl f3 ?_; intro w4 h4 f4 k4 z4; have B4 : Below w.heap.size w w4 := ((b1.trans (b2.mono (by omega))).trans (b3.mono (by omega))).trans (k4.toBelow (by omega) (by simp; omega)); clear b1 b2 b3 z1 z2; replace h1 := h1.keeps k4 (by simp; omega); replace f2 := f2.keeps k4 h2.1 (by simp); replace h2 := h2.keeps k4 (by simp); clear h3 f3 k4; have c0 := h1.at 0 H0.out))
  have B5 := B4.drew
  replace h1 := h1.drew
  replace h2 := h2.drew
  replace f2 := f2.drew
  replace h4 := h4.drew
  replace f4 := f4.drew
  have z5 : w4.drew.heap.size = w4.heap.size := rfl
  refine wp_region_M (fun W => At W w.heap.size L) 8 [(0, false), (1, false), (2, false), (3, false), (5, false), (4, true), (6, true), (7, false), (8, true)] (by kernel_rfl) (by kernel_rfl) (fun _ _ _ _ h => h) h1 ?_
  clear B4 c0
  generalize w4.drew = w5 at *
  apply wpM_still (by rfl) (by rfl)
  · intro W hC
    go_simp
    rfl
  go_simp
  apply wpM_still (by rfl) (by rfl)
  · intro W hC
    have d := At.at hC 1 H1.out
    go_simp
    rfl
  go_simp
  apply wpM_still (by rfl) (by rfl)
  · intro W hC
    go_simp
    rfl
  go_simp
  apply wpM_still (by rfl) (by rfl)
  · intro W hC
    have d := At.at hC 22 HV.out
    go_simp
    rfl
  go_simp
  apply wpM_still (by rfl) (by rfl)
  · intro W hC
    go_simp
    rfl
  go_simp
  apply wpM_move (by rfl) (by rfl)
  intro K hK
  go_simp
  refine (cloneW_c vf p.fs _ (HW.out.below' B5 (Nat.le_refl _)) HL.out).mono ?_
  rintro e w6 ⟨v6, rfl, ho6, hb6⟩
  go_simp
  have z6 := hb6.size
  replace h1 := h1.keep hb6 (by omega)
  replace f2 := f2.keep hb6 (by omega)
  replace h2 := h2.keep hb6 (by omega)
  replace f4 := f4.keep hb6 (by omega)
  replace h4 := h4.keep hb6 (by omega)
  replace B5 := B5.trans (hb6.mono B5.size)
  refine hK _ _ (fun _ => h1) ?_
  clear hK K hb6
  obtain ⟨va, vn, hv6⟩ := Owns.slice ho6
  generalize (p.fs).length = n6 at hv6
  subst hv6
  apply wpM_move (by rfl) (by rfl)
  intro K hK
  have e1 := h4.at 1 (u := .int .i64 0) rfl
  have g1 := f4 1
  go_simp
  refine hK _ _ (fun _ => h1.other _ _ _ (by simp; omega)) ?_
  clear hK K e1 g1
  replace h1 := h1.other (w.heap.size + 1 + 1) 1 (.int .i64 p.id) (by omega)
  replace h2 := h2.other (w.heap.size + 1 + 1) 1 (.int .i64 p.id) (by omega)
  replace f2 := f2.set ⟨(w.heap.size + 1 + 1), 1, none⟩ (.int .i64 p.id)
  replace h4 := h4.set 1 (.int .i64 p.id) (show 1 < 24 by decide)
  replace f4 := f4.set ⟨(w.heap.size + 1 + 1), 1, none⟩ (.int .i64 p.id)
  replace B5 := B5.setCell (p := ⟨(w.heap.size + 1 + 1), 1, none⟩) (by show w.heap.size ≤ w.heap.size + 1 + 1; omega) (.int .i64 p.id)
  have z7 : (w6.setCell ⟨(w.heap.size + 1 + 1), 1, none⟩ (.int .i64 p.id)).heap.size = w6.heap.size := by simp [go_sem]
  replace ho6 := Owns.set ho6 (p := ⟨(w.heap.size + 1 + 1), 1, none⟩) (by show w.heap.size + 1 + 1 < w5.heap.size; omega) (.int .i64 p.id)
  generalize w6.setCell ⟨(w.heap.size + 1 + 1), 1, none⟩ (.int .i64 p.id) = w7 at *
  apply wpM_still (by rfl) (by rfl)
  · intro W hC
    go_simp
    rfl
  go_simp
  apply wpM_move (by rfl) (by rfl)
  intro K hK
  have e22 := h4.at 22 (u := .slice none 0 0) rfl
  have g22 := f4 22
  go_simp
  refine hK _ _ (fun h => absurd h (by decide)) ?_
  clear hK K e22 g22
  replace h1 := h1.other (w.heap.size + 1 + 1) 22 (.slice va n6 vn) (by omega)
  replace h2 := h2.other (w.heap.size + 1 + 1) 22 (.slice va n6 vn) (by omega)
  replace f2 := f2.set ⟨(w.heap.size + 1 + 1), 22, none⟩ (.slice va n6 vn)
  replace h4 := h4.set 22 (.slice va n6 vn) (show 22 < 24 by decide)
  replace f4 := f4.set ⟨(w.heap.size + 1 + 1), 22, none⟩ (.slice va n6 vn)
  replace B5 := B5.setCell (p := ⟨(w.heap.size + 1 + 1), 22, none⟩) (by show w.heap.size ≤ w.heap.size + 1 + 1; omega) (.slice va n6 vn)
  have z8 : (w7.setCell ⟨(w.heap.size + 1 + 1), 22, none⟩ (.slice va n6 vn)).heap.size = w7.heap.size := by simp [go_sem]
  replace ho6 := Owns.set ho6 (p := ⟨(w.heap.size + 1 + 1), 22, none⟩) (by show w.heap.size + 1 + 1 < w5.heap.size; omega) (.slice va n6 vn)
  generalize w7.setCell ⟨(w.heap.size + 1 + 1), 22, none⟩ (.slice va n6 vn) = w8 at *
  refine wpM_nil ?_
  have hone := Pac.one ({ zP 8 with id := p.id } : Pac) (.slice va n6 vn) Nl rfl rfl
  go_wp2_with (first
    | ((with_reducible refine wpl_at (o := ⟨some 73, .load 36 (.tmp 3), _, _, _, _⟩) ?_); refine wpl_loadAt rfl _ _ rfl (w.heap.size + 1 + 1) 0 rfl ((({ zP 8 with id := p.id } : Pac)).cells (.slice va n6 vn) Nl) _ (h4).range Tryz.underlying36 rfl info_pac ?_)
    | ((with_reducible refine wpl_at (o := ⟨none, .store 36 (.tmp 2) (.tmp 73), _, _, _, _⟩) ?_); refine wpl_storeAll rfl rfl _ _ _ rfl (w.heap.size + 1) ((({ zP 8 with id := p.id } : Pac)).cells (.slice va n6 vn) Nl) (zK 0) rfl rfl info_pac hone h2 rfl f2 ?_; intro w9 h9 f9 k9 z9))
  refine bodyPost_ret (v := .agg ((({ zP 8 with id := p.id } : Pac)).cells (.slice va n6 vn) Nl).toArray) (results_cell Tryz.results33 rfl (ret_pac h9 rfl)) rfl ⟨_, rfl, Owns.le (Owns.keeps ho6 k9 (by intro k hk; simp at hk; omega)) (by omega), ?_⟩
  exact B5.trans (k9.toBelow (by go_grown) (by simp))

set_option maxRecDepth 100000 in
set_option maxHeartbeats 8000000 in
theorem cleanC10_c (p : Pac) (vf vc : Value) (w : World) (hk : p.k = 10) (hW : Ws w vf p.fs) (hl : p.fs.length * 24 ≤ 140737488351232) :
    Calls Tryz.prog 33 #[.agg (p.cells vf vc).toArray] w fun e w' => ∃ v', e = .returned (.agg (({ zP 10 with id := p.id } : Pac).cells v' Nl).toArray) ∧ OwnW w.heap.size w' v' (p.fs.map fun f => (f.1, (0 : Int))) ∧ Below w.heap.size w w' := by
  obtain ⟨L, hL⟩ : ∃ L, p.cells vf vc = L := ⟨_, rfl⟩
  have l0 : L[0]? = some (.int .i64 10) := by rw [← hL, ← hk]; rfl
  have H0 := hd l0
  have l1 : L[1]? = some (.int .i64 p.id) := by rw [← hL]; rfl
  have H1 := hd l1
  have l22 : L[22]? = some vf := by rw [← hL]; rfl
  have HV := hd l22
  have HC : Hd (∀ j v, p.c.cells[j]? = some v → L[7 + j]? = some v) := hd (by rw [← hL]; exact p.con_in vf vc)
  have HM : Hd (∀ j v, p.msg[j]? = some v → L[3 + j]? = some v) := hd (by rw [← hL]; exact p.msg_in vf vc)
  rw [hL]
  clear l0 l1 l22
  go_enter Tryz.func33, Tryz.ntmps33
  have HW := hd hW; have HL := hd hl; clear hW hl
  go_wp2_with (first
    | (with_reducible refine wpl_box (o := ⟨some 1, .box 36 (.tmp 0), _, _, _, _⟩) rfl _ _ rfl L rfl w.heap.size rfl ?_; intro w1 h1 f1 b1 z1)
    | (with_reducible refine wpl_alloc (o := ⟨some 2, .alloc 36, _, _, _, _⟩) rfl _ rfl (zK 0) alloc_pac _ z1 ?_; intro w2 h2 f2 b2 z2; replace h1 := h1.keep b2 (by omega); clear f1; have c0 := h1.at 0 H0.out)
    | (with_reducible refine wpl_alloc (o := ⟨some 3, .alloc 36, _, _, _, _⟩) rfl _ rfl (zK 0) alloc_pac _ z2 ?_; intro w3 h3 f3 b3 z3; clear c0; replace h1 := h1.keep b3 (by omega); replace f2 := f2.keep b3 (by omega); replace h2 := h2.keep b3 (by omega))
    | ((with_reducible refine wpl_at (o := ⟨none, .store 36 (.tmp 3) (.tmp 6), _, _, _, _⟩) ?_); refine wpl_storeAll rfl rfl _ _ _ rfl (w.heap.size + 1 + 1) (zK 10) (zK 0) rfl rfl info_pac (zK_one 10) h3 rfl f3 ?_; intro w4 h4 f4 k4 z4; have B4 : Below w.heap.size w w4 := ((b1.trans (b2.mono (by omega))).trans (b3.mono (by omega))).trans (k4.toBelow (by omega) (by simp; omega)); clear b1 b2 b3 z1 z2; replace h1 := h1.keeps k4 (by simp; omega); replace f2 := f2.keeps k4 h2.1 (by simp); replace h2 := h2.keeps k4 (by simp); clear h3 f3 k4; have c0 := h1.at 0 H0.out))
  have B5 := B4.drew
  replace h1 := h1.drew
  replace h2 := h2.drew
  replace f2 := f2.drew
  replace h4 := h4.drew
  replace f4 := f4.drew
  have z5 : w4.drew.heap.size = w4.heap.size := rfl
  refine wp_region_M (fun W => At W w.heap.size L) 8 [(0, false), (1, false), (2, false), (3, false), (5, false), (4, true), (6, true), (7, false), (8, true)] (by kernel_rfl) (by kernel_rfl) (fun _ _ _ _ h => h) h1 ?_
  clear B4 c0
  generalize w4.drew = w5 at *
  apply wpM_still (by rfl) (by rfl)
  · intro W hC
    go_simp
    rfl
  go_simp
  apply wpM_still (by rfl) (by rfl)
  · intro W hC
    have d := At.at hC 1 H1.out
    go_simp
    rfl
  go_simp
  apply wpM_still (by rfl) (by rfl)
  · intro W hC
    go_simp
    rfl
  go_simp
  apply wpM_still (by rfl) (by rfl)
  · intro W hC
    have d := At.at hC 22 HV.out
    go_simp
    rfl
  go_simp
  apply wpM_still (by rfl) (by rfl)
  · intro W hC
    go_simp
    rfl
  go_simp
  apply wpM_move (by rfl) (by rfl)
  intro K hK
  go_simp
  refine (without_c vf p.fs _ (HW.out.below' B5 (Nat.le_refl _)) HL.out).mono ?_
  rintro e w6 ⟨v6, rfl, ho6, hb6⟩
  go_simp
  have z6 := hb6.size
  replace h1 := h1.keep hb6 (by omega)
  replace f2 := f2.keep hb6 (by omega)
  replace h2 := h2.keep hb6 (by omega)
  replace f4 := f4.keep hb6 (by omega)
  replace h4 := h4.keep hb6 (by omega)
  replace B5 := B5.trans (hb6.mono B5.size)
  refine hK _ _ (fun _ => h1) ?_
  clear hK K hb6
  obtain ⟨va, vn, hv6⟩ := Owns.slice ho6
  generalize (p.fs.map fun f => (f.1, (0 : Int))).length = n6 at hv6
  subst hv6
  apply wpM_move (by rfl) (by rfl)
  intro K hK
  have e1 := h4.at 1 (u := .int .i64 0) rfl
  have g1 := f4 1
  go_simp
  refine hK _ _ (fun _ => h1.other _ _ _ (by simp; omega)) ?_
  clear hK K e1 g1
  replace h1 := h1.other (w.heap.size + 1 + 1) 1 (.int .i64 p.id) (by omega)
  replace h2 := h2.other (w.heap.size + 1 + 1) 1 (.int .i64 p.id) (by omega)
  replace f2 := f2.set ⟨(w.heap.size + 1 + 1), 1, none⟩ (.int .i64 p.id)
  replace h4 := h4.set 1 (.int .i64 p.id) (show 1 < 24 by decide)
  replace f4 := f4.set ⟨(w.heap.size + 1 + 1), 1, none⟩ (.int .i64 p.id)
  replace B5 := B5.setCell (p := ⟨(w.heap.size + 1 + 1), 1, none⟩) (by show w.heap.size ≤ w.heap.size + 1 + 1; omega) (.int .i64 p.id)
  have z7 : (w6.setCell ⟨(w.heap.size + 1 + 1), 1, none⟩ (.int .i64 p.id)).heap.size = w6.heap.size := by simp [go_sem]
  replace ho6 := Owns.set ho6 (p := ⟨(w.heap.size + 1 + 1), 1, none⟩) (by show w.heap.size + 1 + 1 < w5.heap.size; omega) (.int .i64 p.id)
  generalize w6.setCell ⟨(w.heap.size + 1 + 1), 1, none⟩ (.int .i64 p.id) = w7 at *
  apply wpM_still (by rfl) (by rfl)
  · intro W hC
    go_simp
    rfl
  go_simp
  apply wpM_move (by rfl) (by rfl)
  intro K hK
  have e22 := h4.at 22 (u := .slice none 0 0) rfl
  have g22 := f4 22
  go_simp
  refine hK _ _ (fun h => absurd h (by decide)) ?_
  clear hK K e22 g22
  replace h1 := h1.other (w.heap.size + 1 + 1) 22 (.slice va n6 vn) (by omega)
  replace h2 := h2.other (w.heap.size + 1 + 1) 22 (.slice va n6 vn) (by omega)
  replace f2 := f2.set ⟨(w.heap.size + 1 + 1), 22, none⟩ (.slice va n6 vn)
  replace h4 := h4.set 22 (.slice va n6 vn) (show 22 < 24 by decide)
  replace f4 := f4.set ⟨(w.heap.size + 1 + 1), 22, none⟩ (.slice va n6 vn)
  replace B5 := B5.setCell (p := ⟨(w.heap.size + 1 + 1), 22, none⟩) (by show w.heap.size ≤ w.heap.size + 1 + 1; omega) (.slice va n6 vn)
  have z8 : (w7.setCell ⟨(w.heap.size + 1 + 1), 22, none⟩ (.slice va n6 vn)).heap.size = w7.heap.size := by simp [go_sem]
  replace ho6 := Owns.set ho6 (p := ⟨(w.heap.size + 1 + 1), 22, none⟩) (by show w.heap.size + 1 + 1 < w5.heap.size; omega) (.slice va n6 vn)
  generalize w7.setCell ⟨(w.heap.size + 1 + 1), 22, none⟩ (.slice va n6 vn) = w8 at *
  refine wpM_nil ?_
  have hone := Pac.one ({ zP 10 with id := p.id } : Pac) (.slice va n6 vn) Nl rfl rfl
  go_wp2_with (first
    | ((with_reducible refine wpl_at (o := ⟨some 73, .load 36 (.tmp 3), _, _, _, _⟩) ?_); refine wpl_loadAt rfl _ _ rfl (w.heap.size + 1 + 1) 0 rfl ((({ zP 10 with id := p.id } : Pac)).cells (.slice va n6 vn) Nl) _ (h4).range Tryz.underlying36 rfl info_pac ?_)
    | ((with_reducible refine wpl_at (o := ⟨none, .store 36 (.tmp 2) (.tmp 73), _, _, _, _⟩) ?_); refine wpl_storeAll rfl rfl _ _ _ rfl (w.heap.size + 1) ((({ zP 10 with id := p.id } : Pac)).cells (.slice va n6 vn) Nl) (zK 0) rfl rfl info_pac hone h2 rfl f2 ?_; intro w9 h9 f9 k9 z9))
  refine bodyPost_ret (v := .agg ((({ zP 10 with id := p.id } : Pac)).cells (.slice va n6 vn) Nl).toArray) (results_cell Tryz.results33 rfl (ret_pac h9 rfl)) rfl ⟨_, rfl, Owns.le (Owns.keeps ho6 k9 (by intro k hk; simp at hk; omega)) (by omega), ?_⟩
  exact B5.trans (k9.toBelow (by go_grown) (by simp))

set_option maxRecDepth 100000 in
set_option maxHeartbeats 8000000 in
theorem cleanC9_c (p : Pac) (vf vc : Value) (w : World) (hk : p.k = 9) (hW : Is w vc p.cs) (hl : p.cs.length * 8 ≤ 140737488351232) :
    Calls Tryz.prog 33 #[.agg (p.cells vf vc).toArray] w fun e w' => ∃ v', e = .returned (.agg (({ zP 9 with id := p.id } : Pac).cells Nl v').toArray) ∧ OwnI w.heap.size w' v' (p.cs) ∧ Below w.heap.size w w' := by
  obtain ⟨L, hL⟩ : ∃ L, p.cells vf vc = L := ⟨_, rfl⟩
  have l0 : L[0]? = some (.int .i64 9) := by rw [← hL, ← hk]; rfl
  have H0 := hd l0
  have l1 : L[1]? = some (.int .i64 p.id) := by rw [← hL]; rfl
  have H1 := hd l1
  have l23 : L[23]? = some vc := by rw [← hL]; rfl
  have HV := hd l23
  have HC : Hd (∀ j v, p.c.cells[j]? = some v → L[7 + j]? = some v) := hd (by rw [← hL]; exact p.con_in vf vc)
  have HM : Hd (∀ j v, p.msg[j]? = some v → L[3 + j]? = some v) := hd (by rw [← hL]; exact p.msg_in vf vc)
  rw [hL]
  clear l0 l1 l23
  go_enter Tryz.func33, Tryz.ntmps33
  have HW := hd hW; have HL := hd hl; clear hW hl
  go_wp2_with (first
    | (with_reducible refine wpl_box (o := ⟨some 1, .box 36 (.tmp 0), _, _, _, _⟩) rfl _ _ rfl L rfl w.heap.size rfl ?_; intro w1 h1 f1 b1 z1)
    | (with_reducible refine wpl_alloc (o := ⟨some 2, .alloc 36, _, _, _, _⟩) rfl _ rfl (zK 0) alloc_pac _ z1 ?_; intro w2 h2 f2 b2 z2; replace h1 := h1.keep b2 (by omega); clear f1; have c0 := h1.at 0 H0.out)
    | (with_reducible refine wpl_alloc (o := ⟨some 3, .alloc 36, _, _, _, _⟩) rfl _ rfl (zK 0) alloc_pac _ z2 ?_; intro w3 h3 f3 b3 z3; clear c0; replace h1 := h1.keep b3 (by omega); replace f2 := f2.keep b3 (by omega); replace h2 := h2.keep b3 (by omega))
    | ((with_reducible refine wpl_at (o := ⟨none, .store 36 (.tmp 3) (.tmp 6), _, _, _, _⟩) ?_); refine wpl_storeAll rfl rfl _ _ _ rfl (w.heap.size + 1 + 1) (zK 9) (zK 0) rfl rfl info_pac (zK_one 9) h3 rfl f3 ?_; intro w4 h4 f4 k4 z4; have B4 : Below w.heap.size w w4 := ((b1.trans (b2.mono (by omega))).trans (b3.mono (by omega))).trans (k4.toBelow (by omega) (by simp; omega)); clear b1 b2 b3 z1 z2; replace h1 := h1.keeps k4 (by simp; omega); replace f2 := f2.keeps k4 h2.1 (by simp); replace h2 := h2.keeps k4 (by simp); clear h3 f3 k4; have c0 := h1.at 0 H0.out))
  have B5 := B4.drew
  replace h1 := h1.drew
  replace h2 := h2.drew
  replace f2 := f2.drew
  replace h4 := h4.drew
  replace f4 := f4.drew
  have z5 : w4.drew.heap.size = w4.heap.size := rfl
  refine wp_region_M (fun W => At W w.heap.size L) 8 [(0, false), (1, false), (2, false), (3, false), (5, false), (4, true), (6, true), (7, false), (8, true)] (by kernel_rfl) (by kernel_rfl) (fun _ _ _ _ h => h) h1 ?_
  clear B4 c0
  generalize w4.drew = w5 at *
  apply wpM_still (by rfl) (by rfl)
  · intro W hC
    go_simp
    rfl
  go_simp
  apply wpM_still (by rfl) (by rfl)
  · intro W hC
    have d := At.at hC 1 H1.out
    go_simp
    rfl
  go_simp
  apply wpM_still (by rfl) (by rfl)
  · intro W hC
    go_simp
    rfl
  go_simp
  apply wpM_still (by rfl) (by rfl)
  · intro W hC
    have d := At.at hC 23 HV.out
    go_simp
    rfl
  go_simp
  apply wpM_still (by rfl) (by rfl)
  · intro W hC
    go_simp
    rfl
  go_simp
  apply wpM_move (by rfl) (by rfl)
  intro K hK
  go_simp
  refine (cloneI_c vc p.cs _ (HW.out.below' B5 (Nat.le_refl _)) HL.out).mono ?_
  rintro e w6 ⟨v6, rfl, ho6, hb6⟩
  go_simp
  have z6 := hb6.size
  replace h1 := h1.keep hb6 (by omega)
  replace f2 := f2.keep hb6 (by omega)
  replace h2 := h2.keep hb6 (by omega)
  replace f4 := f4.keep hb6 (by omega)
  replace h4 := h4.keep hb6 (by omega)
  replace B5 := B5.trans (hb6.mono B5.size)
  refine hK _ _ (fun _ => h1) ?_
  clear hK K hb6
  obtain ⟨va, vn, hv6⟩ := Owns.slice ho6
  generalize (p.cs).length = n6 at hv6
  subst hv6
  apply wpM_move (by rfl) (by rfl)
  intro K hK
  have e1 := h4.at 1 (u := .int .i64 0) rfl
  have g1 := f4 1
  go_simp
  refine hK _ _ (fun _ => h1.other _ _ _ (by simp; omega)) ?_
  clear hK K e1 g1
  replace h1 := h1.other (w.heap.size + 1 + 1) 1 (.int .i64 p.id) (by omega)
  replace h2 := h2.other (w.heap.size + 1 + 1) 1 (.int .i64 p.id) (by omega)
  replace f2 := f2.set ⟨(w.heap.size + 1 + 1), 1, none⟩ (.int .i64 p.id)
  replace h4 := h4.set 1 (.int .i64 p.id) (show 1 < 24 by decide)
  replace f4 := f4.set ⟨(w.heap.size + 1 + 1), 1, none⟩ (.int .i64 p.id)
  replace B5 := B5.setCell (p := ⟨(w.heap.size + 1 + 1), 1, none⟩) (by show w.heap.size ≤ w.heap.size + 1 + 1; omega) (.int .i64 p.id)
  have z7 : (w6.setCell ⟨(w.heap.size + 1 + 1), 1, none⟩ (.int .i64 p.id)).heap.size = w6.heap.size := by simp [go_sem]
  replace ho6 := Owns.set ho6 (p := ⟨(w.heap.size + 1 + 1), 1, none⟩) (by show w.heap.size + 1 + 1 < w5.heap.size; omega) (.int .i64 p.id)
  generalize w6.setCell ⟨(w.heap.size + 1 + 1), 1, none⟩ (.int .i64 p.id) = w7 at *
  apply wpM_still (by rfl) (by rfl)
  · intro W hC
    go_simp
    rfl
  go_simp
  apply wpM_move (by rfl) (by rfl)
  intro K hK
  have e23 := h4.at 23 (u := .slice none 0 0) rfl
  have g23 := f4 23
  go_simp
  refine hK _ _ (fun h => absurd h (by decide)) ?_
  clear hK K e23 g23
  replace h1 := h1.other (w.heap.size + 1 + 1) 23 (.slice va n6 vn) (by omega)
  replace h2 := h2.other (w.heap.size + 1 + 1) 23 (.slice va n6 vn) (by omega)
  replace f2 := f2.set ⟨(w.heap.size + 1 + 1), 23, none⟩ (.slice va n6 vn)
  replace h4 := h4.set 23 (.slice va n6 vn) (show 23 < 24 by decide)
  replace f4 := f4.set ⟨(w.heap.size + 1 + 1), 23, none⟩ (.slice va n6 vn)
  replace B5 := B5.setCell (p := ⟨(w.heap.size + 1 + 1), 23, none⟩) (by show w.heap.size ≤ w.heap.size + 1 + 1; omega) (.slice va n6 vn)
  have z8 : (w7.setCell ⟨(w.heap.size + 1 + 1), 23, none⟩ (.slice va n6 vn)).heap.size = w7.heap.size := by simp [go_sem]
  replace ho6 := Owns.set ho6 (p := ⟨(w.heap.size + 1 + 1), 23, none⟩) (by show w.heap.size + 1 + 1 < w5.heap.size; omega) (.slice va n6 vn)
  generalize w7.setCell ⟨(w.heap.size + 1 + 1), 23, none⟩ (.slice va n6 vn) = w8 at *
  refine wpM_nil ?_
  have hone := Pac.one ({ zP 9 with id := p.id } : Pac) Nl (.slice va n6 vn) rfl rfl
  go_wp2_with (first
    | ((with_reducible refine wpl_at (o := ⟨some 73, .load 36 (.tmp 3), _, _, _, _⟩) ?_); refine wpl_loadAt rfl _ _ rfl (w.heap.size + 1 + 1) 0 rfl ((({ zP 9 with id := p.id } : Pac)).cells Nl (.slice va n6 vn)) _ (h4).range Tryz.underlying36 rfl info_pac ?_)
    | ((with_reducible refine wpl_at (o := ⟨none, .store 36 (.tmp 2) (.tmp 73), _, _, _, _⟩) ?_); refine wpl_storeAll rfl rfl _ _ _ rfl (w.heap.size + 1) ((({ zP 9 with id := p.id } : Pac)).cells Nl (.slice va n6 vn)) (zK 0) rfl rfl info_pac hone h2 rfl f2 ?_; intro w9 h9 f9 k9 z9))
  refine bodyPost_ret (v := .agg ((({ zP 9 with id := p.id } : Pac)).cells Nl (.slice va n6 vn)).toArray) (results_cell Tryz.results33 rfl (ret_pac h9 rfl)) rfl ⟨_, rfl, Owns.le (Owns.keeps ho6 k9 (by intro k hk; simp at hk; omega)) (by omega), ?_⟩
  exact B5.trans (k9.toBelow (by go_grown) (by simp))

end Go.Proofs.YtjlnlgemngpelaaGreatDoor
