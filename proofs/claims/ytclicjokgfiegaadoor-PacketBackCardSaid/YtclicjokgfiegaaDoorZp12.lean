/- A bundle of texts (merged for the limit on files): PacRClean. -/
import Derived.Test.YtclicjokgfiegaaDoorZp11
/- Packets: cleaned: the reference: the walk. -/
namespace Go.Proofs.YtclicjokgfiegaaDoor
open Go.RowKit
set_option linter.unusedVariables false
set_option linter.unusedSimpArgs false

set_option maxRecDepth 100000 in
set_option maxHeartbeats 8000000 in
theorem refClean1_c (p : Pac) (vf vc : Value) (w : World) (hk : p.k = 1) :
    Calls Tryd.prog 14 #[.agg (p.cells vf vc).toArray] w fun e w' => e = .returned (.agg (({ zP 1 with c := p.c } : Pac).cells Nl Nl).toArray) ∧ Below w.heap.size w w' := by
  obtain ⟨L, hL⟩ : ∃ L, p.cells vf vc = L := ⟨_, rfl⟩
  have l0 : L[0]? = some (.int .i64 1) := by rw [← hL, ← hk]; rfl
  have H0 := hd l0
  have HC : Hd (∀ j v, p.c.cells[j]? = some v → L[7 + j]? = some v) := hd (by rw [← hL]; exact p.con_in vf vc)
  have HM : Hd (∀ j v, p.msg[j]? = some v → L[3 + j]? = some v) := hd (by rw [← hL]; exact p.msg_in vf vc)
  rw [hL]
  clear l0 
  go_enter Tryd.func14, Tryd.ntmps14
  go_wp2_with (first
    | (with_reducible refine wpl_box (o := ⟨some 1, .box 29 (.tmp 0), _, _, _, _⟩) rfl _ _ rfl L rfl w.heap.size rfl ?_; intro w1 h1 f1 b1 z1)
    | (with_reducible refine wpl_alloc (o := ⟨some 2, .alloc 29, _, _, _, _⟩) rfl _ rfl (zK 0) alloc_pac _ z1 ?_; intro w2 h2 f2 b2 z2; replace h1 := h1.keep b2 (by omega); clear f1; have c0 := h1.at 0 H0.out)
    | (with_reducible refine wpl_alloc (o := ⟨some 3, .alloc 29, _, _, _, _⟩) rfl _ rfl (zK 0) alloc_pac _ z2 ?_; intro w3 h3 f3 b3 z3; clear c0; replace h1 := h1.keep b3 (by omega); replace f2 := f2.keep b3 (by omega); replace h2 := h2.keep b3 (by omega))
    | ((with_reducible refine wpl_at (o := ⟨none, .store 29 (.tmp 3) (.tmp 7), _, _, _, _⟩) ?_); refine wpl_storeAll rfl rfl _ _ _ rfl (w.heap.size + 1 + 1) (zK 1) (zK 0) rfl rfl info_pac (zK_one 1) h3 rfl f3 ?_; intro w4 h4 f4 k4 z4; have B4 : Below w.heap.size w w4 := ((b1.trans (b2.mono (by omega))).trans (b3.mono (by omega))).trans (k4.toBelow (by omega) (by simp; omega)); clear b1 b2 b3 z1 z2; replace h1 := h1.keeps k4 (by simp; omega); replace f2 := f2.keeps k4 h2.1 (by simp); replace h2 := h2.keeps k4 (by simp); clear h3 f3 k4; have c0 := h1.at 0 H0.out)
    | ((with_reducible refine wpl_at (o := ⟨some 13, .load 25 (.tmp 12), _, _, _, _⟩) ?_); refine wpl_loadAt rfl _ _ rfl w.heap.size 7 rfl p.c.cells _ (h1.part 7 HC.out) Tryd.underlying25 rfl info_con ?_)
    | ((with_reducible refine wpl_at (o := ⟨none, .store 25 (.tmp 14) (.tmp 13), _, _, _, _⟩) ?_); refine wpl_storeMid rfl rfl _ _ _ rfl (w.heap.size + 1 + 1) 7 p.c.cells (zK 1) (({ zP 1 with c := p.c } : Pac).cells Nl Nl) rfl rfl info_con p.c.one h4 rfl (by show 7 + 13 ≤ 24; decide) f4 ?_; intro w5 h5 f5 k5 z5; replace f2 := f2.keeps k5 h2.1 (by simp); replace h2 := h2.keeps k5 (by simp))
    | ((with_reducible refine wpl_at (o := ⟨some 87, .load 29 (.tmp 3), _, _, _, _⟩) ?_); refine wpl_loadAt rfl _ _ rfl (w.heap.size + 1 + 1) 0 rfl (({ zP 1 with c := p.c } : Pac).cells Nl Nl) _ (h5).range Tryd.underlying29 rfl info_pac ?_)
    | ((with_reducible refine wpl_at (o := ⟨none, .store 29 (.tmp 2) (.tmp 87), _, _, _, _⟩) ?_); refine wpl_storeAll rfl rfl _ _ _ rfl (w.heap.size + 1) (({ zP 1 with c := p.c } : Pac).cells Nl Nl) (zK 0) rfl rfl info_pac (({ zP 1 with c := p.c } : Pac).one Nl Nl rfl rfl) h2 rfl f2 ?_; intro w9 h9 f9 k9 z9))
  refine bodyPost_ret (v := .agg (({ zP 1 with c := p.c } : Pac).cells Nl Nl).toArray) (results_cell Tryd.results14 rfl (ret_pac h9 rfl)) rfl ⟨rfl, ?_⟩
  · exact (B4.trans (k5.toBelow B4.size (by simp; omega))).trans (k9.toBelow (by go_grown) (by simp))

set_option maxRecDepth 100000 in
set_option maxHeartbeats 8000000 in
theorem refCleanI4_c (p : Pac) (vf vc : Value) (w : World) (hk : p.k = 4) :
    Calls Tryd.prog 14 #[.agg (p.cells vf vc).toArray] w fun e w' => e = .returned (.agg (({ zP 4 with id := p.id } : Pac).cells Nl Nl).toArray) ∧ Below w.heap.size w w' := by
  obtain ⟨L, hL⟩ : ∃ L, p.cells vf vc = L := ⟨_, rfl⟩
  have l0 : L[0]? = some (.int .i64 4) := by rw [← hL, ← hk]; rfl
  have H0 := hd l0
  have l1 : L[1]? = some (.int .i64 p.id) := by rw [← hL]; rfl
  have H1 := hd l1
  have HC : Hd (∀ j v, p.c.cells[j]? = some v → L[7 + j]? = some v) := hd (by rw [← hL]; exact p.con_in vf vc)
  have HM : Hd (∀ j v, p.msg[j]? = some v → L[3 + j]? = some v) := hd (by rw [← hL]; exact p.msg_in vf vc)
  rw [hL]
  clear l0 l1
  go_enter Tryd.func14, Tryd.ntmps14
  go_wp2_with (first
    | (with_reducible refine wpl_box (o := ⟨some 1, .box 29 (.tmp 0), _, _, _, _⟩) rfl _ _ rfl L rfl w.heap.size rfl ?_; intro w1 h1 f1 b1 z1)
    | (with_reducible refine wpl_alloc (o := ⟨some 2, .alloc 29, _, _, _, _⟩) rfl _ rfl (zK 0) alloc_pac _ z1 ?_; intro w2 h2 f2 b2 z2; replace h1 := h1.keep b2 (by omega); clear f1; have c0 := h1.at 0 H0.out)
    | (with_reducible refine wpl_alloc (o := ⟨some 3, .alloc 29, _, _, _, _⟩) rfl _ rfl (zK 0) alloc_pac _ z2 ?_; intro w3 h3 f3 b3 z3; clear c0; replace h1 := h1.keep b3 (by omega); replace f2 := f2.keep b3 (by omega); replace h2 := h2.keep b3 (by omega))
    | ((with_reducible refine wpl_at (o := ⟨none, .store 29 (.tmp 3) (.tmp 7), _, _, _, _⟩) ?_); refine wpl_storeAll rfl rfl _ _ _ rfl (w.heap.size + 1 + 1) (zK 4) (zK 0) rfl rfl info_pac (zK_one 4) h3 rfl f3 ?_; intro w4 h4 f4 k4 z4; have B4 : Below w.heap.size w w4 := ((b1.trans (b2.mono (by omega))).trans (b3.mono (by omega))).trans (k4.toBelow (by omega) (by simp; omega)); clear b1 b2 b3 z1 z2; replace h1 := h1.keeps k4 (by simp; omega); replace f2 := f2.keeps k4 h2.1 (by simp); replace h2 := h2.keeps k4 (by simp); clear h3 f3 k4; have c0 := h1.at 0 H0.out; have c1 := h1.at 1 H1.out; have e1 := h4.at 1 (u := .int .i64 0) rfl; have g1 := f4 1)
    | ((with_reducible refine wpl_at (o := ⟨some 87, .load 29 (.tmp 3), _, _, _, _⟩) ?_); refine wpl_loadAt rfl _ _ rfl (w.heap.size + 1 + 1) 0 rfl (({ zP 4 with id := p.id } : Pac).cells Nl Nl) _ (h4.set 1 (.int .i64 p.id) (by decide)).range Tryd.underlying29 rfl info_pac ?_)
    | ((with_reducible refine wpl_at (o := ⟨none, .store 29 (.tmp 2) (.tmp 87), _, _, _, _⟩) ?_); refine wpl_storeAll rfl rfl _ _ _ rfl (w.heap.size + 1) (({ zP 4 with id := p.id } : Pac).cells Nl Nl) (zK 0) rfl rfl info_pac (({ zP 4 with id := p.id } : Pac).one Nl Nl rfl rfl) (h2.other _ _ _ (by simp)) rfl (f2.set _ _) ?_; intro w9 h9 f9 k9 z9))
  refine bodyPost_ret (v := .agg (({ zP 4 with id := p.id } : Pac).cells Nl Nl).toArray) (results_cell Tryd.results14 rfl (ret_pac h9 rfl)) rfl ⟨rfl, ?_⟩
  · exact ((B4.setCell (by go_grown) _)).trans (k9.toBelow (by go_grown) (by simp))

set_option maxRecDepth 100000 in
set_option maxHeartbeats 8000000 in
theorem refCleanI5_c (p : Pac) (vf vc : Value) (w : World) (hk : p.k = 5) :
    Calls Tryd.prog 14 #[.agg (p.cells vf vc).toArray] w fun e w' => e = .returned (.agg (({ zP 5 with id := p.id } : Pac).cells Nl Nl).toArray) ∧ Below w.heap.size w w' := by
  obtain ⟨L, hL⟩ : ∃ L, p.cells vf vc = L := ⟨_, rfl⟩
  have l0 : L[0]? = some (.int .i64 5) := by rw [← hL, ← hk]; rfl
  have H0 := hd l0
  have l1 : L[1]? = some (.int .i64 p.id) := by rw [← hL]; rfl
  have H1 := hd l1
  have HC : Hd (∀ j v, p.c.cells[j]? = some v → L[7 + j]? = some v) := hd (by rw [← hL]; exact p.con_in vf vc)
  have HM : Hd (∀ j v, p.msg[j]? = some v → L[3 + j]? = some v) := hd (by rw [← hL]; exact p.msg_in vf vc)
  rw [hL]
  clear l0 l1
  go_enter Tryd.func14, Tryd.ntmps14
  go_wp2_with (first
    | (with_reducible refine wpl_box (o := ⟨some 1, .box 29 (.tmp 0), _, _, _, _⟩) rfl _ _ rfl L rfl w.heap.size rfl ?_; intro w1 h1 f1 b1 z1)
    | (with_reducible refine wpl_alloc (o := ⟨some 2, .alloc 29, _, _, _, _⟩) rfl _ rfl (zK 0) alloc_pac _ z1 ?_; intro w2 h2 f2 b2 z2; replace h1 := h1.keep b2 (by omega); clear f1; have c0 := h1.at 0 H0.out)
    | (with_reducible refine wpl_alloc (o := ⟨some 3, .alloc 29, _, _, _, _⟩) rfl _ rfl (zK 0) alloc_pac _ z2 ?_; intro w3 h3 f3 b3 z3; clear c0; replace h1 := h1.keep b3 (by omega); replace f2 := f2.keep b3 (by omega); replace h2 := h2.keep b3 (by omega))
    | ((with_reducible refine wpl_at (o := ⟨none, .store 29 (.tmp 3) (.tmp 7), _, _, _, _⟩) ?_); refine wpl_storeAll rfl rfl _ _ _ rfl (w.heap.size + 1 + 1) (zK 5) (zK 0) rfl rfl info_pac (zK_one 5) h3 rfl f3 ?_; intro w4 h4 f4 k4 z4; have B4 : Below w.heap.size w w4 := ((b1.trans (b2.mono (by omega))).trans (b3.mono (by omega))).trans (k4.toBelow (by omega) (by simp; omega)); clear b1 b2 b3 z1 z2; replace h1 := h1.keeps k4 (by simp; omega); replace f2 := f2.keeps k4 h2.1 (by simp); replace h2 := h2.keeps k4 (by simp); clear h3 f3 k4; have c0 := h1.at 0 H0.out; have c1 := h1.at 1 H1.out; have e1 := h4.at 1 (u := .int .i64 0) rfl; have g1 := f4 1)
    | ((with_reducible refine wpl_at (o := ⟨some 87, .load 29 (.tmp 3), _, _, _, _⟩) ?_); refine wpl_loadAt rfl _ _ rfl (w.heap.size + 1 + 1) 0 rfl (({ zP 5 with id := p.id } : Pac).cells Nl Nl) _ (h4.set 1 (.int .i64 p.id) (by decide)).range Tryd.underlying29 rfl info_pac ?_)
    | ((with_reducible refine wpl_at (o := ⟨none, .store 29 (.tmp 2) (.tmp 87), _, _, _, _⟩) ?_); refine wpl_storeAll rfl rfl _ _ _ rfl (w.heap.size + 1) (({ zP 5 with id := p.id } : Pac).cells Nl Nl) (zK 0) rfl rfl info_pac (({ zP 5 with id := p.id } : Pac).one Nl Nl rfl rfl) (h2.other _ _ _ (by simp)) rfl (f2.set _ _) ?_; intro w9 h9 f9 k9 z9))
  refine bodyPost_ret (v := .agg (({ zP 5 with id := p.id } : Pac).cells Nl Nl).toArray) (results_cell Tryd.results14 rfl (ret_pac h9 rfl)) rfl ⟨rfl, ?_⟩
  · exact ((B4.setCell (by go_grown) _)).trans (k9.toBelow (by go_grown) (by simp))

set_option maxRecDepth 100000 in
set_option maxHeartbeats 8000000 in
theorem refCleanI6_c (p : Pac) (vf vc : Value) (w : World) (hk : p.k = 6) :
    Calls Tryd.prog 14 #[.agg (p.cells vf vc).toArray] w fun e w' => e = .returned (.agg (({ zP 6 with id := p.id } : Pac).cells Nl Nl).toArray) ∧ Below w.heap.size w w' := by
  obtain ⟨L, hL⟩ : ∃ L, p.cells vf vc = L := ⟨_, rfl⟩
  have l0 : L[0]? = some (.int .i64 6) := by rw [← hL, ← hk]; rfl
  have H0 := hd l0
  have l1 : L[1]? = some (.int .i64 p.id) := by rw [← hL]; rfl
  have H1 := hd l1
  have HC : Hd (∀ j v, p.c.cells[j]? = some v → L[7 + j]? = some v) := hd (by rw [← hL]; exact p.con_in vf vc)
  have HM : Hd (∀ j v, p.msg[j]? = some v → L[3 + j]? = some v) := hd (by rw [← hL]; exact p.msg_in vf vc)
  rw [hL]
  clear l0 l1
  go_enter Tryd.func14, Tryd.ntmps14
  go_wp2_with (first
    | (with_reducible refine wpl_box (o := ⟨some 1, .box 29 (.tmp 0), _, _, _, _⟩) rfl _ _ rfl L rfl w.heap.size rfl ?_; intro w1 h1 f1 b1 z1)
    | (with_reducible refine wpl_alloc (o := ⟨some 2, .alloc 29, _, _, _, _⟩) rfl _ rfl (zK 0) alloc_pac _ z1 ?_; intro w2 h2 f2 b2 z2; replace h1 := h1.keep b2 (by omega); clear f1; have c0 := h1.at 0 H0.out)
    | (with_reducible refine wpl_alloc (o := ⟨some 3, .alloc 29, _, _, _, _⟩) rfl _ rfl (zK 0) alloc_pac _ z2 ?_; intro w3 h3 f3 b3 z3; clear c0; replace h1 := h1.keep b3 (by omega); replace f2 := f2.keep b3 (by omega); replace h2 := h2.keep b3 (by omega))
    | ((with_reducible refine wpl_at (o := ⟨none, .store 29 (.tmp 3) (.tmp 7), _, _, _, _⟩) ?_); refine wpl_storeAll rfl rfl _ _ _ rfl (w.heap.size + 1 + 1) (zK 6) (zK 0) rfl rfl info_pac (zK_one 6) h3 rfl f3 ?_; intro w4 h4 f4 k4 z4; have B4 : Below w.heap.size w w4 := ((b1.trans (b2.mono (by omega))).trans (b3.mono (by omega))).trans (k4.toBelow (by omega) (by simp; omega)); clear b1 b2 b3 z1 z2; replace h1 := h1.keeps k4 (by simp; omega); replace f2 := f2.keeps k4 h2.1 (by simp); replace h2 := h2.keeps k4 (by simp); clear h3 f3 k4; have c0 := h1.at 0 H0.out; have c1 := h1.at 1 H1.out; have e1 := h4.at 1 (u := .int .i64 0) rfl; have g1 := f4 1)
    | ((with_reducible refine wpl_at (o := ⟨some 87, .load 29 (.tmp 3), _, _, _, _⟩) ?_); refine wpl_loadAt rfl _ _ rfl (w.heap.size + 1 + 1) 0 rfl (({ zP 6 with id := p.id } : Pac).cells Nl Nl) _ (h4.set 1 (.int .i64 p.id) (by decide)).range Tryd.underlying29 rfl info_pac ?_)
    | ((with_reducible refine wpl_at (o := ⟨none, .store 29 (.tmp 2) (.tmp 87), _, _, _, _⟩) ?_); refine wpl_storeAll rfl rfl _ _ _ rfl (w.heap.size + 1) (({ zP 6 with id := p.id } : Pac).cells Nl Nl) (zK 0) rfl rfl info_pac (({ zP 6 with id := p.id } : Pac).one Nl Nl rfl rfl) (h2.other _ _ _ (by simp)) rfl (f2.set _ _) ?_; intro w9 h9 f9 k9 z9))
  refine bodyPost_ret (v := .agg (({ zP 6 with id := p.id } : Pac).cells Nl Nl).toArray) (results_cell Tryd.results14 rfl (ret_pac h9 rfl)) rfl ⟨rfl, ?_⟩
  · exact ((B4.setCell (by go_grown) _)).trans (k9.toBelow (by go_grown) (by simp))

set_option maxRecDepth 100000 in
set_option maxHeartbeats 8000000 in
theorem refCleanI7_c (p : Pac) (vf vc : Value) (w : World) (hk : p.k = 7) :
    Calls Tryd.prog 14 #[.agg (p.cells vf vc).toArray] w fun e w' => e = .returned (.agg (({ zP 7 with id := p.id } : Pac).cells Nl Nl).toArray) ∧ Below w.heap.size w w' := by
  obtain ⟨L, hL⟩ : ∃ L, p.cells vf vc = L := ⟨_, rfl⟩
  have l0 : L[0]? = some (.int .i64 7) := by rw [← hL, ← hk]; rfl
  have H0 := hd l0
  have l1 : L[1]? = some (.int .i64 p.id) := by rw [← hL]; rfl
  have H1 := hd l1
  have HC : Hd (∀ j v, p.c.cells[j]? = some v → L[7 + j]? = some v) := hd (by rw [← hL]; exact p.con_in vf vc)
  have HM : Hd (∀ j v, p.msg[j]? = some v → L[3 + j]? = some v) := hd (by rw [← hL]; exact p.msg_in vf vc)
  rw [hL]
  clear l0 l1
  go_enter Tryd.func14, Tryd.ntmps14
  go_wp2_with (first
    | (with_reducible refine wpl_box (o := ⟨some 1, .box 29 (.tmp 0), _, _, _, _⟩) rfl _ _ rfl L rfl w.heap.size rfl ?_; intro w1 h1 f1 b1 z1)
    | (with_reducible refine wpl_alloc (o := ⟨some 2, .alloc 29, _, _, _, _⟩) rfl _ rfl (zK 0) alloc_pac _ z1 ?_; intro w2 h2 f2 b2 z2; replace h1 := h1.keep b2 (by omega); clear f1; have c0 := h1.at 0 H0.out)
    | (with_reducible refine wpl_alloc (o := ⟨some 3, .alloc 29, _, _, _, _⟩) rfl _ rfl (zK 0) alloc_pac _ z2 ?_; intro w3 h3 f3 b3 z3; clear c0; replace h1 := h1.keep b3 (by omega); replace f2 := f2.keep b3 (by omega); replace h2 := h2.keep b3 (by omega))
    | ((with_reducible refine wpl_at (o := ⟨none, .store 29 (.tmp 3) (.tmp 7), _, _, _, _⟩) ?_); refine wpl_storeAll rfl rfl _ _ _ rfl (w.heap.size + 1 + 1) (zK 7) (zK 0) rfl rfl info_pac (zK_one 7) h3 rfl f3 ?_; intro w4 h4 f4 k4 z4; have B4 : Below w.heap.size w w4 := ((b1.trans (b2.mono (by omega))).trans (b3.mono (by omega))).trans (k4.toBelow (by omega) (by simp; omega)); clear b1 b2 b3 z1 z2; replace h1 := h1.keeps k4 (by simp; omega); replace f2 := f2.keeps k4 h2.1 (by simp); replace h2 := h2.keeps k4 (by simp); clear h3 f3 k4; have c0 := h1.at 0 H0.out; have c1 := h1.at 1 H1.out; have e1 := h4.at 1 (u := .int .i64 0) rfl; have g1 := f4 1)
    | ((with_reducible refine wpl_at (o := ⟨some 87, .load 29 (.tmp 3), _, _, _, _⟩) ?_); refine wpl_loadAt rfl _ _ rfl (w.heap.size + 1 + 1) 0 rfl (({ zP 7 with id := p.id } : Pac).cells Nl Nl) _ (h4.set 1 (.int .i64 p.id) (by decide)).range Tryd.underlying29 rfl info_pac ?_)
    | ((with_reducible refine wpl_at (o := ⟨none, .store 29 (.tmp 2) (.tmp 87), _, _, _, _⟩) ?_); refine wpl_storeAll rfl rfl _ _ _ rfl (w.heap.size + 1) (({ zP 7 with id := p.id } : Pac).cells Nl Nl) (zK 0) rfl rfl info_pac (({ zP 7 with id := p.id } : Pac).one Nl Nl rfl rfl) (h2.other _ _ _ (by simp)) rfl (f2.set _ _) ?_; intro w9 h9 f9 k9 z9))
  refine bodyPost_ret (v := .agg (({ zP 7 with id := p.id } : Pac).cells Nl Nl).toArray) (results_cell Tryd.results14 rfl (ret_pac h9 rfl)) rfl ⟨rfl, ?_⟩
  · exact ((B4.setCell (by go_grown) _)).trans (k9.toBelow (by go_grown) (by simp))

set_option maxRecDepth 100000 in
set_option maxHeartbeats 8000000 in
theorem refCleanI11_c (p : Pac) (vf vc : Value) (w : World) (hk : p.k = 11) :
    Calls Tryd.prog 14 #[.agg (p.cells vf vc).toArray] w fun e w' => e = .returned (.agg (({ zP 11 with id := p.id } : Pac).cells Nl Nl).toArray) ∧ Below w.heap.size w w' := by
  obtain ⟨L, hL⟩ : ∃ L, p.cells vf vc = L := ⟨_, rfl⟩
  have l0 : L[0]? = some (.int .i64 11) := by rw [← hL, ← hk]; rfl
  have H0 := hd l0
  have l1 : L[1]? = some (.int .i64 p.id) := by rw [← hL]; rfl
  have H1 := hd l1
  have HC : Hd (∀ j v, p.c.cells[j]? = some v → L[7 + j]? = some v) := hd (by rw [← hL]; exact p.con_in vf vc)
  have HM : Hd (∀ j v, p.msg[j]? = some v → L[3 + j]? = some v) := hd (by rw [← hL]; exact p.msg_in vf vc)
  rw [hL]
  clear l0 l1
  go_enter Tryd.func14, Tryd.ntmps14
  go_wp2_with (first
    | (with_reducible refine wpl_box (o := ⟨some 1, .box 29 (.tmp 0), _, _, _, _⟩) rfl _ _ rfl L rfl w.heap.size rfl ?_; intro w1 h1 f1 b1 z1)
    | (with_reducible refine wpl_alloc (o := ⟨some 2, .alloc 29, _, _, _, _⟩) rfl _ rfl (zK 0) alloc_pac _ z1 ?_; intro w2 h2 f2 b2 z2; replace h1 := h1.keep b2 (by omega); clear f1; have c0 := h1.at 0 H0.out)
    | (with_reducible refine wpl_alloc (o := ⟨some 3, .alloc 29, _, _, _, _⟩) rfl _ rfl (zK 0) alloc_pac _ z2 ?_; intro w3 h3 f3 b3 z3; clear c0; replace h1 := h1.keep b3 (by omega); replace f2 := f2.keep b3 (by omega); replace h2 := h2.keep b3 (by omega))
    | ((with_reducible refine wpl_at (o := ⟨none, .store 29 (.tmp 3) (.tmp 7), _, _, _, _⟩) ?_); refine wpl_storeAll rfl rfl _ _ _ rfl (w.heap.size + 1 + 1) (zK 11) (zK 0) rfl rfl info_pac (zK_one 11) h3 rfl f3 ?_; intro w4 h4 f4 k4 z4; have B4 : Below w.heap.size w w4 := ((b1.trans (b2.mono (by omega))).trans (b3.mono (by omega))).trans (k4.toBelow (by omega) (by simp; omega)); clear b1 b2 b3 z1 z2; replace h1 := h1.keeps k4 (by simp; omega); replace f2 := f2.keeps k4 h2.1 (by simp); replace h2 := h2.keeps k4 (by simp); clear h3 f3 k4; have c0 := h1.at 0 H0.out; have c1 := h1.at 1 H1.out; have e1 := h4.at 1 (u := .int .i64 0) rfl; have g1 := f4 1)
    | ((with_reducible refine wpl_at (o := ⟨some 87, .load 29 (.tmp 3), _, _, _, _⟩) ?_); refine wpl_loadAt rfl _ _ rfl (w.heap.size + 1 + 1) 0 rfl (({ zP 11 with id := p.id } : Pac).cells Nl Nl) _ (h4.set 1 (.int .i64 p.id) (by decide)).range Tryd.underlying29 rfl info_pac ?_)
    | ((with_reducible refine wpl_at (o := ⟨none, .store 29 (.tmp 2) (.tmp 87), _, _, _, _⟩) ?_); refine wpl_storeAll rfl rfl _ _ _ rfl (w.heap.size + 1) (({ zP 11 with id := p.id } : Pac).cells Nl Nl) (zK 0) rfl rfl info_pac (({ zP 11 with id := p.id } : Pac).one Nl Nl rfl rfl) (h2.other _ _ _ (by simp)) rfl (f2.set _ _) ?_; intro w9 h9 f9 k9 z9))
  refine bodyPost_ret (v := .agg (({ zP 11 with id := p.id } : Pac).cells Nl Nl).toArray) (results_cell Tryd.results14 rfl (ret_pac h9 rfl)) rfl ⟨rfl, ?_⟩
  · exact ((B4.setCell (by go_grown) _)).trans (k9.toBelow (by go_grown) (by simp))

set_option maxRecDepth 100000 in
set_option maxHeartbeats 8000000 in
theorem refClean2_c (p : Pac) (vf vc : Value) (w : World) (hk : p.k = 2) :
    Calls Tryd.prog 14 #[.agg (p.cells vf vc).toArray] w fun e w' => e = .returned (.agg (({ zP 2 with pr := p.pr, code := p.code } : Pac).cells Nl Nl).toArray) ∧ Below w.heap.size w w' := by
  obtain ⟨L, hL⟩ : ∃ L, p.cells vf vc = L := ⟨_, rfl⟩
  have l0 : L[0]? = some (.int .i64 2) := by rw [← hL, ← hk]; rfl
  have H0 := hd l0
  have l20 : L[20]? = some (.bool p.pr) := by rw [← hL]; rfl
  have H20 := hd l20
  have l21 : L[21]? = some (.int .i64 p.code) := by rw [← hL]; rfl
  have H21 := hd l21
  have HC : Hd (∀ j v, p.c.cells[j]? = some v → L[7 + j]? = some v) := hd (by rw [← hL]; exact p.con_in vf vc)
  have HM : Hd (∀ j v, p.msg[j]? = some v → L[3 + j]? = some v) := hd (by rw [← hL]; exact p.msg_in vf vc)
  rw [hL]
  clear l0 l20 l21
  go_enter Tryd.func14, Tryd.ntmps14
  go_wp2_with (first
    | (with_reducible refine wpl_box (o := ⟨some 1, .box 29 (.tmp 0), _, _, _, _⟩) rfl _ _ rfl L rfl w.heap.size rfl ?_; intro w1 h1 f1 b1 z1)
    | (with_reducible refine wpl_alloc (o := ⟨some 2, .alloc 29, _, _, _, _⟩) rfl _ rfl (zK 0) alloc_pac _ z1 ?_; intro w2 h2 f2 b2 z2; replace h1 := h1.keep b2 (by omega); clear f1; have c0 := h1.at 0 H0.out)
    | (with_reducible refine wpl_alloc (o := ⟨some 3, .alloc 29, _, _, _, _⟩) rfl _ rfl (zK 0) alloc_pac _ z2 ?_; intro w3 h3 f3 b3 z3; clear c0; replace h1 := h1.keep b3 (by omega); replace f2 := f2.keep b3 (by omega); replace h2 := h2.keep b3 (by omega))
    | ((with_reducible refine wpl_at (o := ⟨none, .store 29 (.tmp 3) (.tmp 7), _, _, _, _⟩) ?_); refine wpl_storeAll rfl rfl _ _ _ rfl (w.heap.size + 1 + 1) (zK 2) (zK 0) rfl rfl info_pac (zK_one 2) h3 rfl f3 ?_; intro w4 h4 f4 k4 z4; have B4 : Below w.heap.size w w4 := ((b1.trans (b2.mono (by omega))).trans (b3.mono (by omega))).trans (k4.toBelow (by omega) (by simp; omega)); clear b1 b2 b3 z1 z2; replace h1 := h1.keeps k4 (by simp; omega); replace f2 := f2.keeps k4 h2.1 (by simp); replace h2 := h2.keeps k4 (by simp); clear h3 f3 k4; have c0 := h1.at 0 H0.out; have c20 := h1.at 20 H20.out; have c21 := h1.at 21 H21.out; have e20 := h4.at 20 (u := .bool false) rfl; have g20 := f4 20; have e21 := h4.at 21 (u := .int .i64 0) rfl; have g21 := f4 21)
    | ((with_reducible refine wpl_at (o := ⟨some 87, .load 29 (.tmp 3), _, _, _, _⟩) ?_); refine wpl_loadAt rfl _ _ rfl (w.heap.size + 1 + 1) 0 rfl (({ zP 2 with pr := p.pr, code := p.code } : Pac).cells Nl Nl) _ ((h4.set 20 (.bool p.pr) (show 20 < 24 by decide)).set 21 (.int .i64 p.code) (show 21 < 24 by decide)).range Tryd.underlying29 rfl info_pac ?_)
    | ((with_reducible refine wpl_at (o := ⟨none, .store 29 (.tmp 2) (.tmp 87), _, _, _, _⟩) ?_); refine wpl_storeAll rfl rfl _ _ _ rfl (w.heap.size + 1) (({ zP 2 with pr := p.pr, code := p.code } : Pac).cells Nl Nl) (zK 0) rfl rfl info_pac (({ zP 2 with pr := p.pr, code := p.code } : Pac).one Nl Nl rfl rfl) ((h2.other _ _ _ (by simp)).other _ _ _ (by simp)) rfl ((f2.set _ _).set _ _) ?_; intro w9 h9 f9 k9 z9))
  refine bodyPost_ret (v := .agg (({ zP 2 with pr := p.pr, code := p.code } : Pac).cells Nl Nl).toArray) (results_cell Tryd.results14 rfl (ret_pac h9 rfl)) rfl ⟨rfl, ?_⟩
  · exact (((B4.setCell (by go_grown) _).setCell (by go_grown) _)).trans (k9.toBelow (by go_grown) (by simp))

set_option maxRecDepth 100000 in
set_option maxHeartbeats 8000000 in
theorem refClean3n_c (p : Pac) (vf vc : Value) (w : World) (hk : p.k = 3) (hq : (p.q != 0) = true) :
    Calls Tryd.prog 14 #[.agg (p.cells vf vc).toArray] w fun e w' => e = .returned (.agg (({ zP 3 with tp := p.tp, tx := p.tx, q := p.q, rt := p.rt, dup := p.dup, id := p.id } : Pac).cells Nl Nl).toArray) ∧ Below w.heap.size w w' := by
  obtain ⟨L, hL⟩ : ∃ L, p.cells vf vc = L := ⟨_, rfl⟩
  have l0 : L[0]? = some (.int .i64 3) := by rw [← hL, ← hk]; rfl
  have H0 := hd l0
  have l1 : L[1]? = some (.int .i64 p.id) := by rw [← hL]; rfl
  have H1 := hd l1
  have l2 : L[2]? = some (.bool p.dup) := by rw [← hL]; rfl
  have H2 := hd l2
  have l5 : L[5]? = some (.int .i64 p.q) := by rw [← hL]; rfl
  have H5 := hd l5
  have HC : Hd (∀ j v, p.c.cells[j]? = some v → L[7 + j]? = some v) := hd (by rw [← hL]; exact p.con_in vf vc)
  have HM : Hd (∀ j v, p.msg[j]? = some v → L[3 + j]? = some v) := hd (by rw [← hL]; exact p.msg_in vf vc)
  rw [hL]
  clear l0 l1 l2 l5
  go_enter Tryd.func14, Tryd.ntmps14
  go_wp2_with (first
    | (with_reducible refine wpl_box (o := ⟨some 1, .box 29 (.tmp 0), _, _, _, _⟩) rfl _ _ rfl L rfl w.heap.size rfl ?_; intro w1 h1 f1 b1 z1)
    | (with_reducible refine wpl_alloc (o := ⟨some 2, .alloc 29, _, _, _, _⟩) rfl _ rfl (zK 0) alloc_pac _ z1 ?_; intro w2 h2 f2 b2 z2; replace h1 := h1.keep b2 (by omega); clear f1; have c0 := h1.at 0 H0.out)
    | (with_reducible refine wpl_alloc (o := ⟨some 3, .alloc 29, _, _, _, _⟩) rfl _ rfl (zK 0) alloc_pac _ z2 ?_; intro w3 h3 f3 b3 z3; clear c0; replace h1 := h1.keep b3 (by omega); replace f2 := f2.keep b3 (by omega); replace h2 := h2.keep b3 (by omega))
    | ((with_reducible refine wpl_at (o := ⟨none, .store 29 (.tmp 3) (.tmp 7), _, _, _, _⟩) ?_); refine wpl_storeAll rfl rfl _ _ _ rfl (w.heap.size + 1 + 1) (zK 3) (zK 0) rfl rfl info_pac (zK_one 3) h3 rfl f3 ?_; intro w4 h4 f4 k4 z4; have B4 : Below w.heap.size w w4 := ((b1.trans (b2.mono (by omega))).trans (b3.mono (by omega))).trans (k4.toBelow (by omega) (by simp; omega)); clear b1 b2 b3 z1 z2; replace h1 := h1.keeps k4 (by simp; omega); replace f2 := f2.keeps k4 h2.1 (by simp); replace h2 := h2.keeps k4 (by simp); clear h3 f3 k4; have c0 := h1.at 0 H0.out)
    | ((with_reducible refine wpl_at (o := ⟨some 26, .load 23 (.tmp 25), _, _, _, _⟩) ?_); refine wpl_loadAt rfl _ _ rfl w.heap.size 3 rfl p.msg _ (h1.part 3 HM.out) Tryd.underlying23 rfl info_msg ?_)
    | ((with_reducible refine wpl_at (o := ⟨none, .store 23 (.tmp 27) (.tmp 26), _, _, _, _⟩) ?_); refine wpl_storeMid rfl rfl _ _ _ rfl (w.heap.size + 1 + 1) 3 p.msg (zK 3) (({ zP 3 with tp := p.tp, tx := p.tx, q := p.q, rt := p.rt } : Pac).cells Nl Nl) rfl rfl info_msg p.msg_one h4 rfl (by show 3 + 4 ≤ 24; decide) f4 ?_; intro w5 h5 f5 k5 z5; replace f2 := f2.keeps k5 h2.1 (by simp); replace h2 := h2.keeps k5 (by simp); replace h1 := h1.keeps k5 (by simp; omega); have B5 := B4.trans (k5.toBelow B4.size (by simp; omega)); clear c0; have c1 := h1.at 1 H1.out; have c2 := h1.at 2 H2.out; have c5 := h1.at 5 H5.out; have e1 := h5.at 1 (u := .int .i64 0) rfl; have g1 := f5 1; have e2 := h5.at 2 (u := .bool false) rfl; have g2 := f5 2)
    | ((with_reducible refine wpl_at (o := ⟨some 87, .load 29 (.tmp 3), _, _, _, _⟩) ?_); refine wpl_loadAt rfl _ _ rfl (w.heap.size + 1 + 1) 0 rfl (({ zP 3 with tp := p.tp, tx := p.tx, q := p.q, rt := p.rt, dup := p.dup, id := p.id } : Pac).cells Nl Nl) _ ((h5.set 2 (.bool p.dup) (show 2 < 24 by decide)).set 1 (.int .i64 p.id) (show 1 < 24 by decide)).range Tryd.underlying29 rfl info_pac ?_)
    | ((with_reducible refine wpl_at (o := ⟨none, .store 29 (.tmp 2) (.tmp 87), _, _, _, _⟩) ?_); refine wpl_storeAll rfl rfl _ _ _ rfl (w.heap.size + 1) (({ zP 3 with tp := p.tp, tx := p.tx, q := p.q, rt := p.rt, dup := p.dup, id := p.id } : Pac).cells Nl Nl) (zK 0) rfl rfl info_pac (({ zP 3 with tp := p.tp, tx := p.tx, q := p.q, rt := p.rt, dup := p.dup, id := p.id } : Pac).one Nl Nl rfl rfl) ((h2.other _ _ _ (by simp)).other _ _ _ (by simp)) rfl ((f2.set _ _).set _ _) ?_; intro w9 h9 f9 k9 z9))
  refine bodyPost_ret (v := .agg (({ zP 3 with tp := p.tp, tx := p.tx, q := p.q, rt := p.rt, dup := p.dup, id := p.id } : Pac).cells Nl Nl).toArray) (results_cell Tryd.results14 rfl (ret_pac h9 rfl)) rfl ⟨rfl, ?_⟩
  · exact (((B5.setCell (by go_grown) _).setCell (by go_grown) _)).trans (k9.toBelow (by go_grown) (by simp))

set_option maxRecDepth 100000 in
set_option maxHeartbeats 8000000 in
theorem refClean3z_c (p : Pac) (vf vc : Value) (w : World) (hk : p.k = 3) (hq : (p.q != 0) = false) :
    Calls Tryd.prog 14 #[.agg (p.cells vf vc).toArray] w fun e w' => e = .returned (.agg (({ zP 3 with tp := p.tp, tx := p.tx, q := p.q, rt := p.rt, dup := p.dup } : Pac).cells Nl Nl).toArray) ∧ Below w.heap.size w w' := by
  obtain ⟨L, hL⟩ : ∃ L, p.cells vf vc = L := ⟨_, rfl⟩
  have l0 : L[0]? = some (.int .i64 3) := by rw [← hL, ← hk]; rfl
  have H0 := hd l0
  have l1 : L[1]? = some (.int .i64 p.id) := by rw [← hL]; rfl
  have H1 := hd l1
  have l2 : L[2]? = some (.bool p.dup) := by rw [← hL]; rfl
  have H2 := hd l2
  have l5 : L[5]? = some (.int .i64 p.q) := by rw [← hL]; rfl
  have H5 := hd l5
  have HC : Hd (∀ j v, p.c.cells[j]? = some v → L[7 + j]? = some v) := hd (by rw [← hL]; exact p.con_in vf vc)
  have HM : Hd (∀ j v, p.msg[j]? = some v → L[3 + j]? = some v) := hd (by rw [← hL]; exact p.msg_in vf vc)
  rw [hL]
  clear l0 l1 l2 l5
  go_enter Tryd.func14, Tryd.ntmps14
  go_wp2_with (first
    | (with_reducible refine wpl_box (o := ⟨some 1, .box 29 (.tmp 0), _, _, _, _⟩) rfl _ _ rfl L rfl w.heap.size rfl ?_; intro w1 h1 f1 b1 z1)
    | (with_reducible refine wpl_alloc (o := ⟨some 2, .alloc 29, _, _, _, _⟩) rfl _ rfl (zK 0) alloc_pac _ z1 ?_; intro w2 h2 f2 b2 z2; replace h1 := h1.keep b2 (by omega); clear f1; have c0 := h1.at 0 H0.out)
    | (with_reducible refine wpl_alloc (o := ⟨some 3, .alloc 29, _, _, _, _⟩) rfl _ rfl (zK 0) alloc_pac _ z2 ?_; intro w3 h3 f3 b3 z3; clear c0; replace h1 := h1.keep b3 (by omega); replace f2 := f2.keep b3 (by omega); replace h2 := h2.keep b3 (by omega))
    | ((with_reducible refine wpl_at (o := ⟨none, .store 29 (.tmp 3) (.tmp 7), _, _, _, _⟩) ?_); refine wpl_storeAll rfl rfl _ _ _ rfl (w.heap.size + 1 + 1) (zK 3) (zK 0) rfl rfl info_pac (zK_one 3) h3 rfl f3 ?_; intro w4 h4 f4 k4 z4; have B4 : Below w.heap.size w w4 := ((b1.trans (b2.mono (by omega))).trans (b3.mono (by omega))).trans (k4.toBelow (by omega) (by simp; omega)); clear b1 b2 b3 z1 z2; replace h1 := h1.keeps k4 (by simp; omega); replace f2 := f2.keeps k4 h2.1 (by simp); replace h2 := h2.keeps k4 (by simp); clear h3 f3 k4; have c0 := h1.at 0 H0.out)
    | ((with_reducible refine wpl_at (o := ⟨some 26, .load 23 (.tmp 25), _, _, _, _⟩) ?_); refine wpl_loadAt rfl _ _ rfl w.heap.size 3 rfl p.msg _ (h1.part 3 HM.out) Tryd.underlying23 rfl info_msg ?_)
    | ((with_reducible refine wpl_at (o := ⟨none, .store 23 (.tmp 27) (.tmp 26), _, _, _, _⟩) ?_); refine wpl_storeMid rfl rfl _ _ _ rfl (w.heap.size + 1 + 1) 3 p.msg (zK 3) (({ zP 3 with tp := p.tp, tx := p.tx, q := p.q, rt := p.rt } : Pac).cells Nl Nl) rfl rfl info_msg p.msg_one h4 rfl (by show 3 + 4 ≤ 24; decide) f4 ?_; intro w5 h5 f5 k5 z5; replace f2 := f2.keeps k5 h2.1 (by simp); replace h2 := h2.keeps k5 (by simp); replace h1 := h1.keeps k5 (by simp; omega); have B5 := B4.trans (k5.toBelow B4.size (by simp; omega)); clear c0; have c1 := h1.at 1 H1.out; have c2 := h1.at 2 H2.out; have c5 := h1.at 5 H5.out; have e1 := h5.at 1 (u := .int .i64 0) rfl; have g1 := f5 1; have e2 := h5.at 2 (u := .bool false) rfl; have g2 := f5 2)
    | ((with_reducible refine wpl_at (o := ⟨some 87, .load 29 (.tmp 3), _, _, _, _⟩) ?_); refine wpl_loadAt rfl _ _ rfl (w.heap.size + 1 + 1) 0 rfl (({ zP 3 with tp := p.tp, tx := p.tx, q := p.q, rt := p.rt, dup := p.dup } : Pac).cells Nl Nl) _ (h5.set 2 (.bool p.dup) (show 2 < 24 by decide)).range Tryd.underlying29 rfl info_pac ?_)
    | ((with_reducible refine wpl_at (o := ⟨none, .store 29 (.tmp 2) (.tmp 87), _, _, _, _⟩) ?_); refine wpl_storeAll rfl rfl _ _ _ rfl (w.heap.size + 1) (({ zP 3 with tp := p.tp, tx := p.tx, q := p.q, rt := p.rt, dup := p.dup } : Pac).cells Nl Nl) (zK 0) rfl rfl info_pac (({ zP 3 with tp := p.tp, tx := p.tx, q := p.q, rt := p.rt, dup := p.dup } : Pac).one Nl Nl rfl rfl) (h2.other _ _ _ (by simp)) rfl (f2.set _ _) ?_; intro w9 h9 f9 k9 z9))
  refine bodyPost_ret (v := .agg (({ zP 3 with tp := p.tp, tx := p.tx, q := p.q, rt := p.rt, dup := p.dup } : Pac).cells Nl Nl).toArray) (results_cell Tryd.results14 rfl (ret_pac h9 rfl)) rfl ⟨rfl, ?_⟩
  · exact ((B5.setCell (by go_grown) _)).trans (k9.toBelow (by go_grown) (by simp))

set_option maxRecDepth 100000 in
set_option maxHeartbeats 8000000 in
theorem refCleanO_c (p : Pac) (vf vc : Value) (w : World) (b1 : (p.k == 1) = false) (b2 : (p.k == 2) = false) (b3 : (p.k == 3) = false) (b4 : (p.k == 4) = false) (b5 : (p.k == 5) = false) (b6 : (p.k == 6) = false) (b7 : (p.k == 7) = false) (b8 : (p.k == 8) = false) (b9 : (p.k == 9) = false) (b10 : (p.k == 10) = false) (b11 : (p.k == 11) = false) :
    Calls Tryd.prog 14 #[.agg (p.cells vf vc).toArray] w fun e w' => e = .returned (.agg ((zP p.k).cells Nl Nl).toArray) ∧ Below w.heap.size w w' := by
  obtain ⟨L, hL⟩ : ∃ L, p.cells vf vc = L := ⟨_, rfl⟩
  have l0 : L[0]? = some (.int .i64 p.k) := by rw [← hL]; rfl
  have H0 := hd l0
  have HC : Hd (∀ j v, p.c.cells[j]? = some v → L[7 + j]? = some v) := hd (by rw [← hL]; exact p.con_in vf vc)
  have HM : Hd (∀ j v, p.msg[j]? = some v → L[3 + j]? = some v) := hd (by rw [← hL]; exact p.msg_in vf vc)
  rw [hL]
  clear l0 
  go_enter Tryd.func14, Tryd.ntmps14
  go_wp2_with (first
    | (with_reducible refine wpl_box (o := ⟨some 1, .box 29 (.tmp 0), _, _, _, _⟩) rfl _ _ rfl L rfl w.heap.size rfl ?_; intro w1 h1 f1 b1 z1)
    | (with_reducible refine wpl_alloc (o := ⟨some 2, .alloc 29, _, _, _, _⟩) rfl _ rfl (zK 0) alloc_pac _ z1 ?_; intro w2 h2 f2 b2 z2; replace h1 := h1.keep b2 (by omega); clear f1; have c0 := h1.at 0 H0.out)
    | (with_reducible refine wpl_alloc (o := ⟨some 3, .alloc 29, _, _, _, _⟩) rfl _ rfl (zK 0) alloc_pac _ z2 ?_; intro w3 h3 f3 b3 z3; clear c0; replace h1 := h1.keep b3 (by omega); replace f2 := f2.keep b3 (by omega); replace h2 := h2.keep b3 (by omega))
    | ((with_reducible refine wpl_at (o := ⟨none, .store 29 (.tmp 3) (.tmp 7), _, _, _, _⟩) ?_); refine wpl_storeAll rfl rfl _ _ _ rfl (w.heap.size + 1 + 1) (zK p.k) (zK 0) rfl rfl info_pac (zK_one p.k) h3 rfl f3 ?_; intro w4 h4 f4 k4 z4; have B4 : Below w.heap.size w w4 := ((b1.trans (b2.mono (by omega))).trans (b3.mono (by omega))).trans (k4.toBelow (by omega) (by simp; omega)); clear b1 b2 b3 z1 z2; replace h1 := h1.keeps k4 (by simp; omega); replace f2 := f2.keeps k4 h2.1 (by simp); replace h2 := h2.keeps k4 (by simp); clear h3 f3 k4; have c0 := h1.at 0 H0.out)
    | ((with_reducible refine wpl_at (o := ⟨some 87, .load 29 (.tmp 3), _, _, _, _⟩) ?_); refine wpl_loadAt rfl _ _ rfl (w.heap.size + 1 + 1) 0 rfl ((zP p.k).cells Nl Nl) _ (h4).range Tryd.underlying29 rfl info_pac ?_)
    | ((with_reducible refine wpl_at (o := ⟨none, .store 29 (.tmp 2) (.tmp 87), _, _, _, _⟩) ?_); refine wpl_storeAll rfl rfl _ _ _ rfl (w.heap.size + 1) ((zP p.k).cells Nl Nl) (zK 0) rfl rfl info_pac ((zP p.k).one Nl Nl rfl rfl) h2 rfl f2 ?_; intro w9 h9 f9 k9 z9))
  refine bodyPost_ret (v := .agg ((zP p.k).cells Nl Nl).toArray) (results_cell Tryd.results14 rfl (ret_pac h9 rfl)) rfl ⟨rfl, ?_⟩
  · exact (B4).trans (k9.toBelow (by go_grown) (by simp))

set_option maxRecDepth 100000 in
set_option maxHeartbeats 8000000 in
theorem refCleanC8_c (p : Pac) (vf vc : Value) (w : World) (hk : p.k = 8) (hv : ∃ a n c, vf = .slice a n c) :
    Calls Tryd.prog 14 #[.agg (p.cells vf vc).toArray] w fun e w' => e = .returned (.agg (({ zP 8 with id := p.id } : Pac).cells vf Nl).toArray) ∧ Below w.heap.size w w' := by
  obtain ⟨fa, fn, fc, rfl⟩ := hv
  obtain ⟨L, hL⟩ : ∃ L, p.cells (.slice fa fn fc) vc = L := ⟨_, rfl⟩
  have l0 : L[0]? = some (.int .i64 8) := by rw [← hL, ← hk]; rfl
  have H0 := hd l0
  have l1 : L[1]? = some (.int .i64 p.id) := by rw [← hL]; rfl
  have H1 := hd l1
  have l22 : L[22]? = some (.slice fa fn fc) := by rw [← hL]; rfl
  have HV := hd l22
  have HC : Hd (∀ j v, p.c.cells[j]? = some v → L[7 + j]? = some v) := hd (by rw [← hL]; exact p.con_in _ _)
  have HM : Hd (∀ j v, p.msg[j]? = some v → L[3 + j]? = some v) := hd (by rw [← hL]; exact p.msg_in _ _)
  rw [hL]
  clear l0 l1 l22
  go_enter Tryd.func14, Tryd.ntmps14
  have hone := Pac.one ({ zP 8 with id := p.id } : Pac) (.slice fa fn fc) Nl rfl rfl
  go_wp2_with (first
    | (with_reducible refine wpl_box (o := ⟨some 1, .box 29 (.tmp 0), _, _, _, _⟩) rfl _ _ rfl L rfl w.heap.size rfl ?_; intro w1 h1 f1 b1 z1)
    | (with_reducible refine wpl_alloc (o := ⟨some 2, .alloc 29, _, _, _, _⟩) rfl _ rfl (zK 0) alloc_pac _ z1 ?_; intro w2 h2 f2 b2 z2; replace h1 := h1.keep b2 (by omega); clear f1; have c0 := h1.at 0 H0.out)
    | (with_reducible refine wpl_alloc (o := ⟨some 3, .alloc 29, _, _, _, _⟩) rfl _ rfl (zK 0) alloc_pac _ z2 ?_; intro w3 h3 f3 b3 z3; clear c0; replace h1 := h1.keep b3 (by omega); replace f2 := f2.keep b3 (by omega); replace h2 := h2.keep b3 (by omega))
    | ((with_reducible refine wpl_at (o := ⟨none, .store 29 (.tmp 3) (.tmp 7), _, _, _, _⟩) ?_); refine wpl_storeAll rfl rfl _ _ _ rfl (w.heap.size + 1 + 1) (zK 8) (zK 0) rfl rfl info_pac (zK_one 8) h3 rfl f3 ?_; intro w4 h4 f4 k4 z4; have B4 : Below w.heap.size w w4 := ((b1.trans (b2.mono (by omega))).trans (b3.mono (by omega))).trans (k4.toBelow (by omega) (by simp; omega)); clear b1 b2 b3 z1 z2; replace h1 := h1.keeps k4 (by simp; omega); replace f2 := f2.keeps k4 h2.1 (by simp); replace h2 := h2.keeps k4 (by simp); clear h3 f3 k4; have c0 := h1.at 0 H0.out; have c1 := h1.at 1 H1.out; have c22 := h1.at 22 HV.out; have e1 := h4.at 1 (u := .int .i64 0) rfl; have g1 := f4 1; have e22 := h4.at 22 (u := .slice none 0 0) rfl; have g22 := f4 22)
    | ((with_reducible refine wpl_at (o := ⟨some 87, .load 29 (.tmp 3), _, _, _, _⟩) ?_); refine wpl_loadAt rfl _ _ rfl (w.heap.size + 1 + 1) 0 rfl (({ zP 8 with id := p.id } : Pac).cells (.slice fa fn fc) Nl) _ ((h4.set 1 (.int .i64 p.id) (show 1 < 24 by decide)).set 22 (.slice fa fn fc) (show 22 < 24 by decide)).range Tryd.underlying29 rfl info_pac ?_)
    | ((with_reducible refine wpl_at (o := ⟨none, .store 29 (.tmp 2) (.tmp 87), _, _, _, _⟩) ?_); refine wpl_storeAll rfl rfl _ _ _ rfl (w.heap.size + 1) (({ zP 8 with id := p.id } : Pac).cells (.slice fa fn fc) Nl) (zK 0) rfl rfl info_pac hone ((h2.other _ _ _ (by simp)).other _ _ _ (by simp)) rfl ((f2.set _ _).set _ _) ?_; intro w9 h9 f9 k9 z9))
  refine bodyPost_ret (v := .agg ((({ zP 8 with id := p.id } : Pac).cells (.slice fa fn fc) Nl)).toArray) (results_cell Tryd.results14 rfl (ret_pac h9 rfl)) rfl ⟨rfl, ?_⟩
  · exact (((B4.setCell (by go_grown) _).setCell (by go_grown) _)).trans (k9.toBelow (by go_grown) (by simp))

set_option maxRecDepth 100000 in
set_option maxHeartbeats 8000000 in
theorem refCleanC9_c (p : Pac) (vf vc : Value) (w : World) (hk : p.k = 9) (hv : ∃ a n c, vc = .slice a n c) :
    Calls Tryd.prog 14 #[.agg (p.cells vf vc).toArray] w fun e w' => e = .returned (.agg (({ zP 9 with id := p.id } : Pac).cells Nl vc).toArray) ∧ Below w.heap.size w w' := by
  obtain ⟨fa, fn, fc, rfl⟩ := hv
  obtain ⟨L, hL⟩ : ∃ L, p.cells vf (.slice fa fn fc) = L := ⟨_, rfl⟩
  have l0 : L[0]? = some (.int .i64 9) := by rw [← hL, ← hk]; rfl
  have H0 := hd l0
  have l1 : L[1]? = some (.int .i64 p.id) := by rw [← hL]; rfl
  have H1 := hd l1
  have l23 : L[23]? = some (.slice fa fn fc) := by rw [← hL]; rfl
  have HV := hd l23
  have HC : Hd (∀ j v, p.c.cells[j]? = some v → L[7 + j]? = some v) := hd (by rw [← hL]; exact p.con_in _ _)
  have HM : Hd (∀ j v, p.msg[j]? = some v → L[3 + j]? = some v) := hd (by rw [← hL]; exact p.msg_in _ _)
  rw [hL]
  clear l0 l1 l23
  go_enter Tryd.func14, Tryd.ntmps14
  have hone := Pac.one ({ zP 9 with id := p.id } : Pac) Nl (.slice fa fn fc) rfl rfl
  go_wp2_with (first
    | (with_reducible refine wpl_box (o := ⟨some 1, .box 29 (.tmp 0), _, _, _, _⟩) rfl _ _ rfl L rfl w.heap.size rfl ?_; intro w1 h1 f1 b1 z1)
    | (with_reducible refine wpl_alloc (o := ⟨some 2, .alloc 29, _, _, _, _⟩) rfl _ rfl (zK 0) alloc_pac _ z1 ?_; intro w2 h2 f2 b2 z2; replace h1 := h1.keep b2 (by omega); clear f1; have c0 := h1.at 0 H0.out)
    | (with_reducible refine wpl_alloc (o := ⟨some 3, .alloc 29, _, _, _, _⟩) rfl _ rfl (zK 0) alloc_pac _ z2 ?_; intro w3 h3 f3 b3 z3; clear c0; replace h1 := h1.keep b3 (by omega); replace f2 := f2.keep b3 (by omega); replace h2 := h2.keep b3 (by omega))
    | ((with_reducible refine wpl_at (o := ⟨none, .store 29 (.tmp 3) (.tmp 7), _, _, _, _⟩) ?_); refine wpl_storeAll rfl rfl _ _ _ rfl (w.heap.size + 1 + 1) (zK 9) (zK 0) rfl rfl info_pac (zK_one 9) h3 rfl f3 ?_; intro w4 h4 f4 k4 z4; have B4 : Below w.heap.size w w4 := ((b1.trans (b2.mono (by omega))).trans (b3.mono (by omega))).trans (k4.toBelow (by omega) (by simp; omega)); clear b1 b2 b3 z1 z2; replace h1 := h1.keeps k4 (by simp; omega); replace f2 := f2.keeps k4 h2.1 (by simp); replace h2 := h2.keeps k4 (by simp); clear h3 f3 k4; have c0 := h1.at 0 H0.out; have c1 := h1.at 1 H1.out; have c23 := h1.at 23 HV.out; have e1 := h4.at 1 (u := .int .i64 0) rfl; have g1 := f4 1; have e23 := h4.at 23 (u := .slice none 0 0) rfl; have g23 := f4 23)
    | ((with_reducible refine wpl_at (o := ⟨some 87, .load 29 (.tmp 3), _, _, _, _⟩) ?_); refine wpl_loadAt rfl _ _ rfl (w.heap.size + 1 + 1) 0 rfl (({ zP 9 with id := p.id } : Pac).cells Nl (.slice fa fn fc)) _ ((h4.set 1 (.int .i64 p.id) (show 1 < 24 by decide)).set 23 (.slice fa fn fc) (show 23 < 24 by decide)).range Tryd.underlying29 rfl info_pac ?_)
    | ((with_reducible refine wpl_at (o := ⟨none, .store 29 (.tmp 2) (.tmp 87), _, _, _, _⟩) ?_); refine wpl_storeAll rfl rfl _ _ _ rfl (w.heap.size + 1) (({ zP 9 with id := p.id } : Pac).cells Nl (.slice fa fn fc)) (zK 0) rfl rfl info_pac hone ((h2.other _ _ _ (by simp)).other _ _ _ (by simp)) rfl ((f2.set _ _).set _ _) ?_; intro w9 h9 f9 k9 z9))
  refine bodyPost_ret (v := .agg ((({ zP 9 with id := p.id } : Pac).cells Nl (.slice fa fn fc))).toArray) (results_cell Tryd.results14 rfl (ret_pac h9 rfl)) rfl ⟨rfl, ?_⟩
  · exact (((B4.setCell (by go_grown) _).setCell (by go_grown) _)).trans (k9.toBelow (by go_grown) (by simp))

structure RCI (w w5 : World) (L : List Value) (p : Pac) (vf : Value) (k : Nat) (vq : Value) (w' : World) : Prop where
  le : k ≤ p.fs.length
  a0 : At w' w.heap.size L
  a1 : At w' (w.heap.size + 1) (zK 0)
  f1 : Free w' (w.heap.size + 1)
  a2 : At w' (w.heap.size + 1 + 1) (({ zP 10 with id := p.id } : Pac).cells vq Nl)
  f2 : Free w' (w.heap.size + 1 + 1)
  own : OwnW w5.heap.size w' vq ((p.fs.take k).map fun f => (f.1, (0 : Int)))
  below : Below w.heap.size w w'
  size : w5.heap.size ≤ w'.heap.size
set_option maxRecDepth 100000 in
set_option maxHeartbeats 8000000 in
theorem refCleanC10_c (p : Pac) (vf vc : Value) (w : World) (hk : p.k = 10) (hW : Ws w vf p.fs) (hl : p.fs.length * 24 ≤ 140737488351232) :
    Calls Tryd.prog 14 #[.agg (p.cells vf vc).toArray] w fun e w' => ∃ v', e = .returned (.agg (({ zP 10 with id := p.id } : Pac).cells v' Nl).toArray) ∧ Ws w' v' (p.fs.map fun f => (f.1, (0 : Int))) ∧ Below w.heap.size w w' := by
  have HW := hd hW
  obtain ⟨fa, fc, rfl⟩ := hW.slice
  clear hW
  obtain ⟨L, hL⟩ : ∃ L, p.cells (.slice fa p.fs.length fc) vc = L := ⟨_, rfl⟩
  have l0 : L[0]? = some (.int .i64 10) := by rw [← hL, ← hk]; rfl
  have H0 := hd l0
  have l1 : L[1]? = some (.int .i64 p.id) := by rw [← hL]; rfl
  have H1 := hd l1
  have l22 : L[22]? = some (.slice fa p.fs.length fc) := by rw [← hL]; rfl
  have HV := hd l22
  rw [hL]
  clear l0 l1 l22
  go_enter Tryd.func14, Tryd.ntmps14
  go_wp2_with (first
    | (with_reducible refine wpl_box (o := ⟨some 1, .box 29 (.tmp 0), _, _, _, _⟩) rfl _ _ rfl L rfl w.heap.size rfl ?_; intro w1 h1 f1 b1 z1)
    | (with_reducible refine wpl_alloc (o := ⟨some 2, .alloc 29, _, _, _, _⟩) rfl _ rfl (zK 0) alloc_pac _ z1 ?_; intro w2 h2 f2 b2 z2; replace h1 := h1.keep b2 (by omega); clear f1; have c0 := h1.at 0 H0.out)
    | (with_reducible refine wpl_alloc (o := ⟨some 3, .alloc 29, _, _, _, _⟩) rfl _ rfl (zK 0) alloc_pac _ z2 ?_; intro w3 h3 f3 b3 z3; clear c0; replace h1 := h1.keep b3 (by omega); replace f2 := f2.keep b3 (by omega); replace h2 := h2.keep b3 (by omega))
    | ((with_reducible refine wpl_at (o := ⟨none, .store 29 (.tmp 3) (.tmp 7), _, _, _, _⟩) ?_); refine wpl_storeAll rfl rfl _ _ _ rfl (w.heap.size + 1 + 1) (zK 10) (zK 0) rfl rfl info_pac (zK_one 10) h3 rfl f3 ?_; intro w4 h4 f4 k4 z4; have B4 : Below w.heap.size w w4 := ((b1.trans (b2.mono (by omega))).trans (b3.mono (by omega))).trans (k4.toBelow (by omega) (by simp; omega)); clear b1 b2 b3 z1 z2; replace h1 := h1.keeps k4 (by simp; omega); replace f2 := f2.keeps k4 h2.1 (by simp); replace h2 := h2.keeps k4 (by simp); clear h3 f3 k4; have c0 := h1.at 0 H0.out; have c1 := h1.at 1 H1.out; have e1 := h4.at 1 (u := .int .i64 0) rfl; have g1 := f4 1))
  have z5 : (w4.setCell ⟨w.heap.size + 1 + 1, 1, none⟩ (.int .i64 p.id)).heap.size = w4.heap.size := by simp [go_sem]
  replace h1 := h1.other (w.heap.size + 1 + 1) 1 (.int .i64 p.id) (by omega)
  replace h2 := h2.other (w.heap.size + 1 + 1) 1 (.int .i64 p.id) (by omega)
  replace f2 := f2.set ⟨w.heap.size + 1 + 1, 1, none⟩ (.int .i64 p.id)
  replace h4 := h4.set 1 (.int .i64 p.id) (show 1 < 24 by decide)
  replace f4 := f4.set ⟨w.heap.size + 1 + 1, 1, none⟩ (.int .i64 p.id)
  have B5 := B4.setCell (p := ⟨w.heap.size + 1 + 1, 1, none⟩) (by show w.heap.size ≤ w.heap.size + 1 + 1; omega) (.int .i64 p.id)
  clear B4 c0 c1 e1 g1
  generalize w4.setCell ⟨w.heap.size + 1 + 1, 1, none⟩ (.int .i64 p.id) = w5 at *
  have I0 : RCI w w5 L p (.slice fa p.fs.length fc) 0 (.slice none 0 0) w5 := ⟨Nat.zero_le _, h1, h2, f2, h4, f4, OwnW.nil _ _, B5, Nat.le_refl _⟩
  have HI0 := hd I0
  clear I0 h1 h2 f2 h4 f4 B5
  go_loopw [4] (fun i w' => ∃ (k : Nat) (vq : Value), i = .int .i64 k ∧ RCI w w5 L p (.slice fa p.fs.length fc) k vq w') (fun i _ => match i with | .int _ n => p.fs.length - n.toNat | _ => 0)
  case atStart => exact ⟨0, _, rfl, HI0.out⟩
  case round =>
    obtain ⟨k, vq, rfl, I⟩ := hrel
    have hk2 := I.le
    have c22 := I.a0.at 22 HV.out
    by_cases hkl : k < p.fs.length
    · obtain ⟨f, hf⟩ : ∃ f, p.fs[k]? = some f := ⟨_, List.getElem?_eq_getElem hkl⟩
      obtain ⟨T, X⟩ := f
      obtain ⟨b, o, rfl, hbl, hc0, hc1⟩ := Ws.at HW.out hf
      have ct : wr.cell? ⟨b, o + k * 2, none⟩ = some (.string T) := (I.below.cell (p := ⟨b, o + k * 2, none⟩) hbl).trans hc0
      obtain ⟨qa, qc, hq⟩ := Owns.slice I.own
      generalize hm : ((p.fs.take k).map fun f => (f.1, (0 : Int)) : List Wish) = m at *
      have hml : m.length = k := by rw [← hm]; simp; omega
      rw [hml] at hq
      subst hq
      have HF := hd hf; have HM := hd hm; have HML := hd hml
      have HI := hd I
      clear hf hm hml I hc0 hc1
      go_wp2_with fail
      have A0 := HI.out.a0.drew
      have A2 := HI.out.a2.drew
      have CT : wr.drew.cell? ⟨b, o + k * 2, none⟩ = some (.string T) := by simpa [go_sem] using ct
      clear ct c22
      refine wp_region_M (fun W => At W w.heap.size L ∧ At W (w.heap.size + 1 + 1) (({ zP 10 with id := p.id } : Pac).cells (.slice qa k qc) Nl) ∧ W.cell? ⟨b, o + k * 2, none⟩ = some (.string T)) 12 [(0, false), (1, false), (2, false), (3, false), (4, false), (5, false), (6, false), (7, false), (8, false), (9, true), (10, true), (11, false), (12, true)] (by kernel_rfl) (by kernel_rfl) (fun _ _ _ _ h => h) ⟨A0, A2, CT⟩ ?_
      apply wpM_still (by rfl) (by rfl)
      · intro W hC
        go_simp
        rfl
      go_simp
      apply wpM_still (by rfl) (by rfl)
      · intro W hC
        have d := hC.2.1.at 22 (u := .slice qa k qc) rfl
        go_simp
        rfl
      go_simp
      apply wpM_still (by rfl) (by rfl)
      · intro W hC
        go_simp
        rfl
      go_simp
      apply wpM_still (by rfl) (by rfl)
      · intro W hC
        have d := hC.1.at 22 HV.out
        go_simp
        rfl
      go_simp
      apply wpM_still (by rfl) (by rfl)
      · intro W hC
        go_simp
        rfl
      go_simp
      apply wpM_still (by rfl) (by rfl)
      · intro W hC
        go_simp
        rfl
      go_simp
      apply wpM_still (by rfl) (by rfl)
      · intro W hC
        go_simp
        rfl
      go_simp
      apply wpM_still (by rfl) (by rfl)
      · intro W hC
        have d := hC.2.2
        go_simp
        rfl
      go_simp
      apply wpM_still (by rfl) (by rfl)
      · intro W hC
        go_simp
        rfl
      go_simp
      apply wpM_move (by rfl) (by rfl)
      intro K hK
      go_simp
      have hsz : wr.drew.heap.size = wr.heap.size := rfl
      have hs5 := HI.out.size
      have hlt2 := A2.lt
      refine hK _ _ (fun _ => ⟨A0.keep ((Below.refl _ _).alloc (Nat.le_refl _) _) A0.lt, A2.keep ((Below.refl _ _).alloc (Nat.le_refl _) _) A2.lt, (World.cell?_alloc_lt _ _ ⟨b, _, none⟩ (by have := HI.out.below.size; show b < wr.heap.size; omega)).trans CT⟩) ?_
      clear hK K
      apply wpM_move (by rfl) (by rfl)
      intro K hK
      have hO : OwnW w5.heap.size wr (.slice qa k qc) m := by rw [← HM.out]; exact HI.out.own
      refine wpo_appW1L (w := wr.drew) _ _ (by rfl) w5.heap.size (.slice qa k qc) m (by rfl) (Owns.kept hO ((Below.refl _ _).drew) (Nat.le_refl _)) T 0 _ (by rfl) (by rfl) (by rw [HML.out]; omega) hs5 ?_
      intro v6 w6 ho6 hb6
      have hz0 : w.heap.size + 1 + 1 + 1 = w5.heap.size := by omega
      have hb0 := HI.out.below.size
      have hw0 : w.heap.size ≤ w5.heap.size := by omega
      replace A0 := A0.keep hb6 (by omega)
      replace A2 := A2.keep hb6 (by omega)
      have A1 := HI.out.a1.drew.keep hb6 (by omega)
      have F1 := HI.out.f1.drew.keep hb6 (by omega)
      have F2 := HI.out.f2.drew.keep hb6 (by omega)
      have B6 : Below w.heap.size w w6 := HI.out.below.drew.trans (hb6.mono hw0)
      replace CT := (hb6.cell (p := ⟨b, o + k * 2, none⟩) (by show b < w5.heap.size; omega)).trans CT
      have hs6 := hb6.size
      obtain ⟨a6, c6, hv6⟩ := Owns.slice ho6
      generalize hn6 : (m ++ [(T, (0 : Int))]).length = n6 at hv6
      subst hv6
      have HO6 := hd ho6; have HN6 := hd hn6
      clear ho6 hb6 hn6 hO
      refine hK _ _ (fun _ => ⟨A0, A2, CT⟩) ?_
      clear hK K
      go_simp
      apply wpM_still (by rfl) (by rfl)
      · intro W hC
        go_simp
        rfl
      go_simp
      apply wpM_move (by rfl) (by rfl)
      intro K hK
      have e22 := A2.at 22 (u := .slice qa k qc) rfl
      have g22 := F2 22
      go_simp
      refine hK _ _ (fun h => absurd h (by decide)) ?_
      clear hK K
      refine wpM_nil ?_
      go_wp2_with fail
      go_roundw
      case rel =>
        refine ⟨k + 1, .slice a6 n6 c6, rfl, by omega, A0.other _ _ _ (by omega), A1.other _ _ _ (by omega), F1.set _ _, A2.set 22 _ (show 22 < 24 by decide), F2.set _ _, ?_, B6.setCell (by show w.heap.size ≤ w.heap.size + 1 + 1; omega) _, by simp [go_sem]; omega⟩
        rw [List.take_add_one, HF.out, List.map_append, HM.out]
        exact Owns.set HO6.out (by show w.heap.size + 1 + 1 < w5.heap.size; omega) _
      case measure => simp; omega
    · have : k = p.fs.length := by omega
      subst this
      obtain ⟨qa, qc, hq⟩ := Owns.slice I.own
      generalize hm : ((p.fs.take p.fs.length).map fun f => (f.1, (0 : Int)) : List Wish).length = m at hq
      subst hq
      have HI := hd I
      clear I hm
      have h4 := HI.out.a2; have f4 := HI.out.f2; have h2 := HI.out.a1; have f2 := HI.out.f1
      have hone := Pac.one ({ zP 10 with id := p.id } : Pac) (.slice qa m qc) Nl rfl rfl
      have hz0 : w.heap.size + 1 + 1 + 1 = w5.heap.size := by omega
      go_wp2_with (first
        | ((with_reducible refine wpl_at (o := ⟨some 87, .load 29 (.tmp 3), _, _, _, _⟩) ?_); refine wpl_loadAt rfl _ _ rfl (w.heap.size + 1 + 1) 0 rfl (({ zP 10 with id := p.id } : Pac).cells (.slice qa m qc) Nl) _ (h4).range Tryd.underlying29 rfl info_pac ?_)
        | ((with_reducible refine wpl_at (o := ⟨none, .store 29 (.tmp 2) (.tmp 87), _, _, _, _⟩) ?_); refine wpl_storeAll rfl rfl _ _ _ rfl (w.heap.size + 1) (({ zP 10 with id := p.id } : Pac).cells (.slice qa m qc) Nl) (zK 0) rfl rfl info_pac hone h2 rfl f2 ?_; intro w9 h9 f9 k9 z9))
      refine bodyPost_ret (v := .agg (({ zP 10 with id := p.id } : Pac).cells (.slice qa m qc) Nl).toArray) (results_cell Tryd.results14 rfl (ret_pac h9 rfl)) rfl ⟨_, rfl, ?_, HI.out.below.trans (k9.toBelow HI.out.below.size (by simp))⟩
      have := Owns.rd (Owns.keeps HI.out.own k9 (by intro k hk; simp at hk; omega))
      rwa [List.take_of_length_le (Nat.le_refl _)] at this
end Go.Proofs.YtclicjokgfiegaaDoor
