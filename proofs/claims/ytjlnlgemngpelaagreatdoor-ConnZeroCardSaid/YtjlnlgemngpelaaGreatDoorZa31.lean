/- A bundle of texts (merged for the limit on files): PacRTold. -/
import Derived.Test.YtjlnlgemngpelaaGreatDoorZa20
import Derived.Test.YtjlnlgemngpelaaGreatDoorZa30
import Derived.Test.YtjlnlgemngpelaaGreatDoorZa11
/- Packets: told: the reference: the walks. -/
namespace Go.Proofs.YtjlnlgemngpelaaGreatDoor
open Go.RowKit
set_option linter.unusedVariables false
set_option linter.unusedSimpArgs false

set_option maxRecDepth 100000 in
theorem alloc_con (W : World) : (Instr.alloc 32 true (.tuple #[])).run Tryz.prog W = .ok (.pointer (some ⟨W.heap.size, 0, none⟩)) (W.alloc (.cells Con.zero.cells.toArray 32)) := by
  simp [Instr.alloc, newVar, go_sem, Con.zero, Con.cells]
set_option maxRecDepth 100000 in
set_option maxHeartbeats 8000000 in
theorem refTold2_c (k f n : Int) (b : ByteArray) (w : World) (hs : b.size ≤ 140737488351232) (hk : k = 2) :
    Calls Tryz.prog 69 #[.agg #[.int .i64 k, .int .i64 f, .int .i64 n, .string b]] w (GivesO w ({ zP 2 with pr := (aOf (sB b)).1, code := (aOf (sB b)).2.1 }, (aOf (sB b)).2.2)) := by
  subst hk
  go_enter Tryz.func69, Tryz.ntmps69
  go_wp2_with (first
    | (with_reducible refine wpl_box (o := ⟨some 1, .box 95 (.tmp 0), _, _, _, _⟩) rfl _ _ rfl [.int .i64 2, .int .i64 f, .int .i64 n, .string b] rfl w.heap.size rfl ?_; intro w1 h1 f1 b1 z1)
    | (with_reducible refine wpl_alloc (o := ⟨some 2, .alloc 36, _, _, _, _⟩) rfl _ rfl (zK 0) alloc_pac _ z1 ?_; intro w2 h2 f2 b2 z2; replace h1 := h1.keep b2 (by omega); have B2 : Below w.heap.size w w2 := b1.trans (b2.mono (by omega)); clear f1 b1 b2; have c0 := h1.at 0 (u := .int .i64 2) rfl)
    | (with_reducible refine wpl_alloc (o := ⟨some 4, .alloc 36, _, _, _, _⟩) rfl _ rfl (zK 0) alloc_pac _ z2 ?_; intro w3 h3 f3 b3 z3; clear c0; replace h1 := h1.keep b3 (by omega); replace f2 := f2.keep b3 (by omega); replace h2 := h2.keep b3 (by omega); replace B2 := B2.trans (b3.mono (by omega)); clear b3)
    | ((with_reducible refine wpl_at (o := ⟨none, .store 36 (.tmp 4) (.tmp 28), _, _, _, _⟩) ?_); refine wpl_storeAll rfl rfl _ _ _ rfl (w.heap.size + 1 + 1) (zK 2) (zK 0) rfl rfl info_pac (zK_one 2) h3 rfl f3 ?_; intro w4 h4 f4 k4 z4; have B4 : Below w.heap.size w w4 := B2.trans (k4.toBelow (by omega) (by simp; omega)); clear B2; replace h1 := h1.keeps k4 (by simp; omega); replace f2 := f2.keeps k4 h2.1 (by simp); replace h2 := h2.keeps k4 (by simp); clear h3 f3 k4; have c0 := h1.at 0 (u := .int .i64 2) rfl; have c1 := h1.at 1 (u := .int .i64 f) rfl; have c3 := h1.at 3 (u := .string b) rfl))
  refine (refOfAck_c b _).mono ?_
  rintro e w5 ⟨rfl, hb5⟩
  replace h1 := h1.keep hb5 (by omega)
  replace h2 := h2.keep hb5 (by omega)
  replace h4 := h4.keep hb5 (by omega)
  replace f2 := f2.keep hb5 (by omega)
  replace f4 := f4.keep hb5 (by omega)
  have B5 := B4.trans (hb5.mono B4.size)
  clear c0 c1 c3
  have e20 := h4.at 20 (u := .bool false) rfl
  have g20 := f4 20
  have e21 := h4.at 21 (u := .int .i64 0) rfl
  have g21 := f4 21
  have hone := Pac.one ({ zP 2 with pr := (aOf (sB b)).1, code := (aOf (sB b)).2.1 } : Pac) Nl Nl rfl rfl
  go_wp2_with (first
    | ((with_reducible refine wpl_at (o := ⟨some 136, .load 36 (.tmp 4), _, _, _, _⟩) ?_); refine wpl_loadAt rfl _ _ rfl (w.heap.size + 1 + 1) 0 rfl (({ zP 2 with pr := (aOf (sB b)).1, code := (aOf (sB b)).2.1 } : Pac).cells Nl Nl) _ (((h4).set 20 (.bool (aOf (sB b)).1) (show 20 < 24 by decide)).set 21 (.int .i64 (aOf (sB b)).2.1) (show 21 < 24 by decide)).range Tryz.underlying36 rfl info_pac ?_)
    | ((with_reducible refine wpl_at (o := ⟨none, .store 36 (.tmp 2) (.tmp 136), _, _, _, _⟩) ?_); refine wpl_storeAll rfl rfl _ _ _ rfl (w.heap.size + 1) (({ zP 2 with pr := (aOf (sB b)).1, code := (aOf (sB b)).2.1 } : Pac).cells Nl Nl) (zK 0) rfl rfl info_pac hone (((h2).other _ _ _ (by simp)).other _ _ _ (by simp)) rfl (((f2).set _ _).set _ _) ?_; intro w9 h9 f9 k9 z9))
  refine bodyPost_ret (v := .tuple #[.agg ((({ zP 2 with pr := (aOf (sB b)).1, code := (aOf (sB b)).2.1 } : Pac).cells Nl Nl)).toArray, .int .i64 (aOf (sB b)).2.2]) (results_cell_tmp Tryz.results69 rfl (ret_pac h9 rfl) rfl) rfl ?_
  have B6 := ((B5).setCell (p := ⟨(w.heap.size + 1 + 1), 20, none⟩) (by show w.heap.size ≤ w.heap.size + 1 + 1; omega) (.bool (aOf (sB b)).1)).setCell (p := ⟨(w.heap.size + 1 + 1), 21, none⟩) (by show w.heap.size ≤ w.heap.size + 1 + 1; omega) (.int .i64 (aOf (sB b)).2.1)
  exact ⟨Nl, Nl, rfl, PacOwn.nil _ _ rfl rfl, B6.trans (k9.toBelow B6.size (by simp))⟩

set_option maxRecDepth 100000 in
set_option maxHeartbeats 8000000 in
theorem refToldI4_c (k f n : Int) (b : ByteArray) (w : World) (hs : b.size ≤ 140737488351232) (hk : k = 4) :
    Calls Tryz.prog 69 #[.agg #[.int .i64 k, .int .i64 f, .int .i64 n, .string b]] w (GivesO w ({ zP 4 with id := (pOfId (sB b)).1 }, (pOfId (sB b)).2)) := by
  subst hk
  go_enter Tryz.func69, Tryz.ntmps69
  go_wp2_with (first
    | (with_reducible refine wpl_box (o := ⟨some 1, .box 95 (.tmp 0), _, _, _, _⟩) rfl _ _ rfl [.int .i64 4, .int .i64 f, .int .i64 n, .string b] rfl w.heap.size rfl ?_; intro w1 h1 f1 b1 z1)
    | (with_reducible refine wpl_alloc (o := ⟨some 2, .alloc 36, _, _, _, _⟩) rfl _ rfl (zK 0) alloc_pac _ z1 ?_; intro w2 h2 f2 b2 z2; replace h1 := h1.keep b2 (by omega); have B2 : Below w.heap.size w w2 := b1.trans (b2.mono (by omega)); clear f1 b1 b2; have c0 := h1.at 0 (u := .int .i64 4) rfl)
    | (with_reducible refine wpl_alloc (o := ⟨some 4, .alloc 36, _, _, _, _⟩) rfl _ rfl (zK 0) alloc_pac _ z2 ?_; intro w3 h3 f3 b3 z3; clear c0; replace h1 := h1.keep b3 (by omega); replace f2 := f2.keep b3 (by omega); replace h2 := h2.keep b3 (by omega); replace B2 := B2.trans (b3.mono (by omega)); clear b3)
    | ((with_reducible refine wpl_at (o := ⟨none, .store 36 (.tmp 4) (.tmp 28), _, _, _, _⟩) ?_); refine wpl_storeAll rfl rfl _ _ _ rfl (w.heap.size + 1 + 1) (zK 4) (zK 0) rfl rfl info_pac (zK_one 4) h3 rfl f3 ?_; intro w4 h4 f4 k4 z4; have B4 : Below w.heap.size w w4 := B2.trans (k4.toBelow (by omega) (by simp; omega)); clear B2; replace h1 := h1.keeps k4 (by simp; omega); replace f2 := f2.keeps k4 h2.1 (by simp); replace h2 := h2.keeps k4 (by simp); clear h3 f3 k4; have c0 := h1.at 0 (u := .int .i64 4) rfl; have c1 := h1.at 1 (u := .int .i64 f) rfl; have c3 := h1.at 3 (u := .string b) rfl))
  refine (refOfId_c b _ hs).mono ?_
  rintro e w5 ⟨rfl, hb5⟩
  replace h1 := h1.keep hb5 (by omega)
  replace h2 := h2.keep hb5 (by omega)
  replace h4 := h4.keep hb5 (by omega)
  replace f2 := f2.keep hb5 (by omega)
  replace f4 := f4.keep hb5 (by omega)
  have B5 := B4.trans (hb5.mono B4.size)
  clear c0 c1 c3
  have e1 := h4.at 1 (u := .int .i64 0) rfl
  have g1 := f4 1
  have hone := Pac.one ({ zP 4 with id := (pOfId (sB b)).1 } : Pac) Nl Nl rfl rfl
  go_wp2_with (first
    | ((with_reducible refine wpl_at (o := ⟨some 136, .load 36 (.tmp 4), _, _, _, _⟩) ?_); refine wpl_loadAt rfl _ _ rfl (w.heap.size + 1 + 1) 0 rfl (({ zP 4 with id := (pOfId (sB b)).1 } : Pac).cells Nl Nl) _ ((h4).set 1 (.int .i64 (pOfId (sB b)).1) (show 1 < 24 by decide)).range Tryz.underlying36 rfl info_pac ?_)
    | ((with_reducible refine wpl_at (o := ⟨none, .store 36 (.tmp 2) (.tmp 136), _, _, _, _⟩) ?_); refine wpl_storeAll rfl rfl _ _ _ rfl (w.heap.size + 1) (({ zP 4 with id := (pOfId (sB b)).1 } : Pac).cells Nl Nl) (zK 0) rfl rfl info_pac hone ((h2).other _ _ _ (by simp)) rfl ((f2).set _ _) ?_; intro w9 h9 f9 k9 z9))
  refine bodyPost_ret (v := .tuple #[.agg ((({ zP 4 with id := (pOfId (sB b)).1 } : Pac).cells Nl Nl)).toArray, .int .i64 (pOfId (sB b)).2]) (results_cell_tmp Tryz.results69 rfl (ret_pac h9 rfl) rfl) rfl ?_
  have B6 := (B5).setCell (p := ⟨(w.heap.size + 1 + 1), 1, none⟩) (by show w.heap.size ≤ w.heap.size + 1 + 1; omega) (.int .i64 (pOfId (sB b)).1)
  exact ⟨Nl, Nl, rfl, PacOwn.nil _ _ rfl rfl, B6.trans (k9.toBelow B6.size (by simp))⟩

set_option maxRecDepth 100000 in
set_option maxHeartbeats 8000000 in
theorem refToldI5_c (k f n : Int) (b : ByteArray) (w : World) (hs : b.size ≤ 140737488351232) (hk : k = 5) :
    Calls Tryz.prog 69 #[.agg #[.int .i64 k, .int .i64 f, .int .i64 n, .string b]] w (GivesO w ({ zP 5 with id := (pOfId (sB b)).1 }, (pOfId (sB b)).2)) := by
  subst hk
  go_enter Tryz.func69, Tryz.ntmps69
  go_wp2_with (first
    | (with_reducible refine wpl_box (o := ⟨some 1, .box 95 (.tmp 0), _, _, _, _⟩) rfl _ _ rfl [.int .i64 5, .int .i64 f, .int .i64 n, .string b] rfl w.heap.size rfl ?_; intro w1 h1 f1 b1 z1)
    | (with_reducible refine wpl_alloc (o := ⟨some 2, .alloc 36, _, _, _, _⟩) rfl _ rfl (zK 0) alloc_pac _ z1 ?_; intro w2 h2 f2 b2 z2; replace h1 := h1.keep b2 (by omega); have B2 : Below w.heap.size w w2 := b1.trans (b2.mono (by omega)); clear f1 b1 b2; have c0 := h1.at 0 (u := .int .i64 5) rfl)
    | (with_reducible refine wpl_alloc (o := ⟨some 4, .alloc 36, _, _, _, _⟩) rfl _ rfl (zK 0) alloc_pac _ z2 ?_; intro w3 h3 f3 b3 z3; clear c0; replace h1 := h1.keep b3 (by omega); replace f2 := f2.keep b3 (by omega); replace h2 := h2.keep b3 (by omega); replace B2 := B2.trans (b3.mono (by omega)); clear b3)
    | ((with_reducible refine wpl_at (o := ⟨none, .store 36 (.tmp 4) (.tmp 28), _, _, _, _⟩) ?_); refine wpl_storeAll rfl rfl _ _ _ rfl (w.heap.size + 1 + 1) (zK 5) (zK 0) rfl rfl info_pac (zK_one 5) h3 rfl f3 ?_; intro w4 h4 f4 k4 z4; have B4 : Below w.heap.size w w4 := B2.trans (k4.toBelow (by omega) (by simp; omega)); clear B2; replace h1 := h1.keeps k4 (by simp; omega); replace f2 := f2.keeps k4 h2.1 (by simp); replace h2 := h2.keeps k4 (by simp); clear h3 f3 k4; have c0 := h1.at 0 (u := .int .i64 5) rfl; have c1 := h1.at 1 (u := .int .i64 f) rfl; have c3 := h1.at 3 (u := .string b) rfl))
  refine (refOfId_c b _ hs).mono ?_
  rintro e w5 ⟨rfl, hb5⟩
  replace h1 := h1.keep hb5 (by omega)
  replace h2 := h2.keep hb5 (by omega)
  replace h4 := h4.keep hb5 (by omega)
  replace f2 := f2.keep hb5 (by omega)
  replace f4 := f4.keep hb5 (by omega)
  have B5 := B4.trans (hb5.mono B4.size)
  clear c0 c1 c3
  have e1 := h4.at 1 (u := .int .i64 0) rfl
  have g1 := f4 1
  have hone := Pac.one ({ zP 5 with id := (pOfId (sB b)).1 } : Pac) Nl Nl rfl rfl
  go_wp2_with (first
    | ((with_reducible refine wpl_at (o := ⟨some 136, .load 36 (.tmp 4), _, _, _, _⟩) ?_); refine wpl_loadAt rfl _ _ rfl (w.heap.size + 1 + 1) 0 rfl (({ zP 5 with id := (pOfId (sB b)).1 } : Pac).cells Nl Nl) _ ((h4).set 1 (.int .i64 (pOfId (sB b)).1) (show 1 < 24 by decide)).range Tryz.underlying36 rfl info_pac ?_)
    | ((with_reducible refine wpl_at (o := ⟨none, .store 36 (.tmp 2) (.tmp 136), _, _, _, _⟩) ?_); refine wpl_storeAll rfl rfl _ _ _ rfl (w.heap.size + 1) (({ zP 5 with id := (pOfId (sB b)).1 } : Pac).cells Nl Nl) (zK 0) rfl rfl info_pac hone ((h2).other _ _ _ (by simp)) rfl ((f2).set _ _) ?_; intro w9 h9 f9 k9 z9))
  refine bodyPost_ret (v := .tuple #[.agg ((({ zP 5 with id := (pOfId (sB b)).1 } : Pac).cells Nl Nl)).toArray, .int .i64 (pOfId (sB b)).2]) (results_cell_tmp Tryz.results69 rfl (ret_pac h9 rfl) rfl) rfl ?_
  have B6 := (B5).setCell (p := ⟨(w.heap.size + 1 + 1), 1, none⟩) (by show w.heap.size ≤ w.heap.size + 1 + 1; omega) (.int .i64 (pOfId (sB b)).1)
  exact ⟨Nl, Nl, rfl, PacOwn.nil _ _ rfl rfl, B6.trans (k9.toBelow B6.size (by simp))⟩

set_option maxRecDepth 100000 in
set_option maxHeartbeats 8000000 in
theorem refToldI6_c (k f n : Int) (b : ByteArray) (w : World) (hs : b.size ≤ 140737488351232) (hk : k = 6) :
    Calls Tryz.prog 69 #[.agg #[.int .i64 k, .int .i64 f, .int .i64 n, .string b]] w (GivesO w ({ zP 6 with id := (pOfId (sB b)).1 }, (pOfId (sB b)).2)) := by
  subst hk
  go_enter Tryz.func69, Tryz.ntmps69
  go_wp2_with (first
    | (with_reducible refine wpl_box (o := ⟨some 1, .box 95 (.tmp 0), _, _, _, _⟩) rfl _ _ rfl [.int .i64 6, .int .i64 f, .int .i64 n, .string b] rfl w.heap.size rfl ?_; intro w1 h1 f1 b1 z1)
    | (with_reducible refine wpl_alloc (o := ⟨some 2, .alloc 36, _, _, _, _⟩) rfl _ rfl (zK 0) alloc_pac _ z1 ?_; intro w2 h2 f2 b2 z2; replace h1 := h1.keep b2 (by omega); have B2 : Below w.heap.size w w2 := b1.trans (b2.mono (by omega)); clear f1 b1 b2; have c0 := h1.at 0 (u := .int .i64 6) rfl)
    | (with_reducible refine wpl_alloc (o := ⟨some 4, .alloc 36, _, _, _, _⟩) rfl _ rfl (zK 0) alloc_pac _ z2 ?_; intro w3 h3 f3 b3 z3; clear c0; replace h1 := h1.keep b3 (by omega); replace f2 := f2.keep b3 (by omega); replace h2 := h2.keep b3 (by omega); replace B2 := B2.trans (b3.mono (by omega)); clear b3)
    | ((with_reducible refine wpl_at (o := ⟨none, .store 36 (.tmp 4) (.tmp 28), _, _, _, _⟩) ?_); refine wpl_storeAll rfl rfl _ _ _ rfl (w.heap.size + 1 + 1) (zK 6) (zK 0) rfl rfl info_pac (zK_one 6) h3 rfl f3 ?_; intro w4 h4 f4 k4 z4; have B4 : Below w.heap.size w w4 := B2.trans (k4.toBelow (by omega) (by simp; omega)); clear B2; replace h1 := h1.keeps k4 (by simp; omega); replace f2 := f2.keeps k4 h2.1 (by simp); replace h2 := h2.keeps k4 (by simp); clear h3 f3 k4; have c0 := h1.at 0 (u := .int .i64 6) rfl; have c1 := h1.at 1 (u := .int .i64 f) rfl; have c3 := h1.at 3 (u := .string b) rfl))
  refine (refOfId_c b _ hs).mono ?_
  rintro e w5 ⟨rfl, hb5⟩
  replace h1 := h1.keep hb5 (by omega)
  replace h2 := h2.keep hb5 (by omega)
  replace h4 := h4.keep hb5 (by omega)
  replace f2 := f2.keep hb5 (by omega)
  replace f4 := f4.keep hb5 (by omega)
  have B5 := B4.trans (hb5.mono B4.size)
  clear c0 c1 c3
  have e1 := h4.at 1 (u := .int .i64 0) rfl
  have g1 := f4 1
  have hone := Pac.one ({ zP 6 with id := (pOfId (sB b)).1 } : Pac) Nl Nl rfl rfl
  go_wp2_with (first
    | ((with_reducible refine wpl_at (o := ⟨some 136, .load 36 (.tmp 4), _, _, _, _⟩) ?_); refine wpl_loadAt rfl _ _ rfl (w.heap.size + 1 + 1) 0 rfl (({ zP 6 with id := (pOfId (sB b)).1 } : Pac).cells Nl Nl) _ ((h4).set 1 (.int .i64 (pOfId (sB b)).1) (show 1 < 24 by decide)).range Tryz.underlying36 rfl info_pac ?_)
    | ((with_reducible refine wpl_at (o := ⟨none, .store 36 (.tmp 2) (.tmp 136), _, _, _, _⟩) ?_); refine wpl_storeAll rfl rfl _ _ _ rfl (w.heap.size + 1) (({ zP 6 with id := (pOfId (sB b)).1 } : Pac).cells Nl Nl) (zK 0) rfl rfl info_pac hone ((h2).other _ _ _ (by simp)) rfl ((f2).set _ _) ?_; intro w9 h9 f9 k9 z9))
  refine bodyPost_ret (v := .tuple #[.agg ((({ zP 6 with id := (pOfId (sB b)).1 } : Pac).cells Nl Nl)).toArray, .int .i64 (pOfId (sB b)).2]) (results_cell_tmp Tryz.results69 rfl (ret_pac h9 rfl) rfl) rfl ?_
  have B6 := (B5).setCell (p := ⟨(w.heap.size + 1 + 1), 1, none⟩) (by show w.heap.size ≤ w.heap.size + 1 + 1; omega) (.int .i64 (pOfId (sB b)).1)
  exact ⟨Nl, Nl, rfl, PacOwn.nil _ _ rfl rfl, B6.trans (k9.toBelow B6.size (by simp))⟩

set_option maxRecDepth 100000 in
set_option maxHeartbeats 8000000 in
theorem refToldI7_c (k f n : Int) (b : ByteArray) (w : World) (hs : b.size ≤ 140737488351232) (hk : k = 7) :
    Calls Tryz.prog 69 #[.agg #[.int .i64 k, .int .i64 f, .int .i64 n, .string b]] w (GivesO w ({ zP 7 with id := (pOfId (sB b)).1 }, (pOfId (sB b)).2)) := by
  subst hk
  go_enter Tryz.func69, Tryz.ntmps69
  go_wp2_with (first
    | (with_reducible refine wpl_box (o := ⟨some 1, .box 95 (.tmp 0), _, _, _, _⟩) rfl _ _ rfl [.int .i64 7, .int .i64 f, .int .i64 n, .string b] rfl w.heap.size rfl ?_; intro w1 h1 f1 b1 z1)
    | (with_reducible refine wpl_alloc (o := ⟨some 2, .alloc 36, _, _, _, _⟩) rfl _ rfl (zK 0) alloc_pac _ z1 ?_; intro w2 h2 f2 b2 z2; replace h1 := h1.keep b2 (by omega); have B2 : Below w.heap.size w w2 := b1.trans (b2.mono (by omega)); clear f1 b1 b2; have c0 := h1.at 0 (u := .int .i64 7) rfl)
    | (with_reducible refine wpl_alloc (o := ⟨some 4, .alloc 36, _, _, _, _⟩) rfl _ rfl (zK 0) alloc_pac _ z2 ?_; intro w3 h3 f3 b3 z3; clear c0; replace h1 := h1.keep b3 (by omega); replace f2 := f2.keep b3 (by omega); replace h2 := h2.keep b3 (by omega); replace B2 := B2.trans (b3.mono (by omega)); clear b3)
    | ((with_reducible refine wpl_at (o := ⟨none, .store 36 (.tmp 4) (.tmp 28), _, _, _, _⟩) ?_); refine wpl_storeAll rfl rfl _ _ _ rfl (w.heap.size + 1 + 1) (zK 7) (zK 0) rfl rfl info_pac (zK_one 7) h3 rfl f3 ?_; intro w4 h4 f4 k4 z4; have B4 : Below w.heap.size w w4 := B2.trans (k4.toBelow (by omega) (by simp; omega)); clear B2; replace h1 := h1.keeps k4 (by simp; omega); replace f2 := f2.keeps k4 h2.1 (by simp); replace h2 := h2.keeps k4 (by simp); clear h3 f3 k4; have c0 := h1.at 0 (u := .int .i64 7) rfl; have c1 := h1.at 1 (u := .int .i64 f) rfl; have c3 := h1.at 3 (u := .string b) rfl))
  refine (refOfId_c b _ hs).mono ?_
  rintro e w5 ⟨rfl, hb5⟩
  replace h1 := h1.keep hb5 (by omega)
  replace h2 := h2.keep hb5 (by omega)
  replace h4 := h4.keep hb5 (by omega)
  replace f2 := f2.keep hb5 (by omega)
  replace f4 := f4.keep hb5 (by omega)
  have B5 := B4.trans (hb5.mono B4.size)
  clear c0 c1 c3
  have e1 := h4.at 1 (u := .int .i64 0) rfl
  have g1 := f4 1
  have hone := Pac.one ({ zP 7 with id := (pOfId (sB b)).1 } : Pac) Nl Nl rfl rfl
  go_wp2_with (first
    | ((with_reducible refine wpl_at (o := ⟨some 136, .load 36 (.tmp 4), _, _, _, _⟩) ?_); refine wpl_loadAt rfl _ _ rfl (w.heap.size + 1 + 1) 0 rfl (({ zP 7 with id := (pOfId (sB b)).1 } : Pac).cells Nl Nl) _ ((h4).set 1 (.int .i64 (pOfId (sB b)).1) (show 1 < 24 by decide)).range Tryz.underlying36 rfl info_pac ?_)
    | ((with_reducible refine wpl_at (o := ⟨none, .store 36 (.tmp 2) (.tmp 136), _, _, _, _⟩) ?_); refine wpl_storeAll rfl rfl _ _ _ rfl (w.heap.size + 1) (({ zP 7 with id := (pOfId (sB b)).1 } : Pac).cells Nl Nl) (zK 0) rfl rfl info_pac hone ((h2).other _ _ _ (by simp)) rfl ((f2).set _ _) ?_; intro w9 h9 f9 k9 z9))
  refine bodyPost_ret (v := .tuple #[.agg ((({ zP 7 with id := (pOfId (sB b)).1 } : Pac).cells Nl Nl)).toArray, .int .i64 (pOfId (sB b)).2]) (results_cell_tmp Tryz.results69 rfl (ret_pac h9 rfl) rfl) rfl ?_
  have B6 := (B5).setCell (p := ⟨(w.heap.size + 1 + 1), 1, none⟩) (by show w.heap.size ≤ w.heap.size + 1 + 1; omega) (.int .i64 (pOfId (sB b)).1)
  exact ⟨Nl, Nl, rfl, PacOwn.nil _ _ rfl rfl, B6.trans (k9.toBelow B6.size (by simp))⟩

set_option maxRecDepth 100000 in
set_option maxHeartbeats 8000000 in
theorem refToldI11_c (k f n : Int) (b : ByteArray) (w : World) (hs : b.size ≤ 140737488351232) (hk : k = 11) :
    Calls Tryz.prog 69 #[.agg #[.int .i64 k, .int .i64 f, .int .i64 n, .string b]] w (GivesO w ({ zP 11 with id := (pOfId (sB b)).1 }, (pOfId (sB b)).2)) := by
  subst hk
  go_enter Tryz.func69, Tryz.ntmps69
  go_wp2_with (first
    | (with_reducible refine wpl_box (o := ⟨some 1, .box 95 (.tmp 0), _, _, _, _⟩) rfl _ _ rfl [.int .i64 11, .int .i64 f, .int .i64 n, .string b] rfl w.heap.size rfl ?_; intro w1 h1 f1 b1 z1)
    | (with_reducible refine wpl_alloc (o := ⟨some 2, .alloc 36, _, _, _, _⟩) rfl _ rfl (zK 0) alloc_pac _ z1 ?_; intro w2 h2 f2 b2 z2; replace h1 := h1.keep b2 (by omega); have B2 : Below w.heap.size w w2 := b1.trans (b2.mono (by omega)); clear f1 b1 b2; have c0 := h1.at 0 (u := .int .i64 11) rfl)
    | (with_reducible refine wpl_alloc (o := ⟨some 4, .alloc 36, _, _, _, _⟩) rfl _ rfl (zK 0) alloc_pac _ z2 ?_; intro w3 h3 f3 b3 z3; clear c0; replace h1 := h1.keep b3 (by omega); replace f2 := f2.keep b3 (by omega); replace h2 := h2.keep b3 (by omega); replace B2 := B2.trans (b3.mono (by omega)); clear b3)
    | ((with_reducible refine wpl_at (o := ⟨none, .store 36 (.tmp 4) (.tmp 28), _, _, _, _⟩) ?_); refine wpl_storeAll rfl rfl _ _ _ rfl (w.heap.size + 1 + 1) (zK 11) (zK 0) rfl rfl info_pac (zK_one 11) h3 rfl f3 ?_; intro w4 h4 f4 k4 z4; have B4 : Below w.heap.size w w4 := B2.trans (k4.toBelow (by omega) (by simp; omega)); clear B2; replace h1 := h1.keeps k4 (by simp; omega); replace f2 := f2.keeps k4 h2.1 (by simp); replace h2 := h2.keeps k4 (by simp); clear h3 f3 k4; have c0 := h1.at 0 (u := .int .i64 11) rfl; have c1 := h1.at 1 (u := .int .i64 f) rfl; have c3 := h1.at 3 (u := .string b) rfl))
  refine (refOfId_c b _ hs).mono ?_
  rintro e w5 ⟨rfl, hb5⟩
  replace h1 := h1.keep hb5 (by omega)
  replace h2 := h2.keep hb5 (by omega)
  replace h4 := h4.keep hb5 (by omega)
  replace f2 := f2.keep hb5 (by omega)
  replace f4 := f4.keep hb5 (by omega)
  have B5 := B4.trans (hb5.mono B4.size)
  clear c0 c1 c3
  have e1 := h4.at 1 (u := .int .i64 0) rfl
  have g1 := f4 1
  have hone := Pac.one ({ zP 11 with id := (pOfId (sB b)).1 } : Pac) Nl Nl rfl rfl
  go_wp2_with (first
    | ((with_reducible refine wpl_at (o := ⟨some 136, .load 36 (.tmp 4), _, _, _, _⟩) ?_); refine wpl_loadAt rfl _ _ rfl (w.heap.size + 1 + 1) 0 rfl (({ zP 11 with id := (pOfId (sB b)).1 } : Pac).cells Nl Nl) _ ((h4).set 1 (.int .i64 (pOfId (sB b)).1) (show 1 < 24 by decide)).range Tryz.underlying36 rfl info_pac ?_)
    | ((with_reducible refine wpl_at (o := ⟨none, .store 36 (.tmp 2) (.tmp 136), _, _, _, _⟩) ?_); refine wpl_storeAll rfl rfl _ _ _ rfl (w.heap.size + 1) (({ zP 11 with id := (pOfId (sB b)).1 } : Pac).cells Nl Nl) (zK 0) rfl rfl info_pac hone ((h2).other _ _ _ (by simp)) rfl ((f2).set _ _) ?_; intro w9 h9 f9 k9 z9))
  refine bodyPost_ret (v := .tuple #[.agg ((({ zP 11 with id := (pOfId (sB b)).1 } : Pac).cells Nl Nl)).toArray, .int .i64 (pOfId (sB b)).2]) (results_cell_tmp Tryz.results69 rfl (ret_pac h9 rfl) rfl) rfl ?_
  have B6 := (B5).setCell (p := ⟨(w.heap.size + 1 + 1), 1, none⟩) (by show w.heap.size ≤ w.heap.size + 1 + 1; omega) (.int .i64 (pOfId (sB b)).1)
  exact ⟨Nl, Nl, rfl, PacOwn.nil _ _ rfl rfl, B6.trans (k9.toBelow B6.size (by simp))⟩

set_option maxRecDepth 100000 in
set_option maxHeartbeats 8000000 in
theorem refTold8_c (k f n : Int) (b : ByteArray) (w : World) (hs : b.size ≤ 140737488351232) (hk : k = 8) :
    Calls Tryz.prog 69 #[.agg #[.int .i64 k, .int .i64 f, .int .i64 n, .string b]] w (GivesO w ({ zP 8 with id := (sbOf (sB b) false).1, fs := (sbOf (sB b) false).2.1 }, (sbOf (sB b) false).2.2)) := by
  subst hk
  go_enter Tryz.func69, Tryz.ntmps69
  go_wp2_with (first
    | (with_reducible refine wpl_box (o := ⟨some 1, .box 95 (.tmp 0), _, _, _, _⟩) rfl _ _ rfl [.int .i64 8, .int .i64 f, .int .i64 n, .string b] rfl w.heap.size rfl ?_; intro w1 h1 f1 b1 z1)
    | (with_reducible refine wpl_alloc (o := ⟨some 2, .alloc 36, _, _, _, _⟩) rfl _ rfl (zK 0) alloc_pac _ z1 ?_; intro w2 h2 f2 b2 z2; replace h1 := h1.keep b2 (by omega); have B2 : Below w.heap.size w w2 := b1.trans (b2.mono (by omega)); clear f1 b1 b2; have c0 := h1.at 0 (u := .int .i64 8) rfl)
    | (with_reducible refine wpl_alloc (o := ⟨some 4, .alloc 36, _, _, _, _⟩) rfl _ rfl (zK 0) alloc_pac _ z2 ?_; intro w3 h3 f3 b3 z3; clear c0; replace h1 := h1.keep b3 (by omega); replace f2 := f2.keep b3 (by omega); replace h2 := h2.keep b3 (by omega); replace B2 := B2.trans (b3.mono (by omega)); clear b3)
    | ((with_reducible refine wpl_at (o := ⟨none, .store 36 (.tmp 4) (.tmp 28), _, _, _, _⟩) ?_); refine wpl_storeAll rfl rfl _ _ _ rfl (w.heap.size + 1 + 1) (zK 8) (zK 0) rfl rfl info_pac (zK_one 8) h3 rfl f3 ?_; intro w4 h4 f4 k4 z4; have B4 : Below w.heap.size w w4 := B2.trans (k4.toBelow (by omega) (by simp; omega)); clear B2; replace h1 := h1.keeps k4 (by simp; omega); replace f2 := f2.keeps k4 h2.1 (by simp); replace h2 := h2.keeps k4 (by simp); clear h3 f3 k4; have c0 := h1.at 0 (u := .int .i64 8) rfl; have c1 := h1.at 1 (u := .int .i64 f) rfl; have c3 := h1.at 3 (u := .string b) rfl))
  refine (refSubsOf_c b false _ hs).mono ?_
  rintro e w5 ⟨v, rfl, ho5, hb5⟩
  have hz5 := hb5.size
  replace h1 := h1.keep hb5 (by omega)
  replace h2 := h2.keep hb5 (by omega)
  replace h4 := h4.keep hb5 (by omega)
  replace f2 := f2.keep hb5 (by omega)
  replace f4 := f4.keep hb5 (by omega)
  have B5 := B4.trans (hb5.mono B4.size)
  clear c0 c1 c3
  obtain ⟨va, vn, hv⟩ := Owns.slice ho5
  have hln : (sbOf (sB b) false).2.1.length ≤ 9 := sbOf_len _ _
  obtain ⟨ln, hlen⟩ : ∃ ln, (sbOf (sB b) false).2.1.length = ln := ⟨_, rfl⟩
  rw [hlen] at hv hln
  subst hv
  have HO := hd ho5; have HL := hd hlen
  clear ho5 hlen
  have e1 := h4.at 1 (u := .int .i64 0) rfl
  have g1 := f4 1
  have e22 := h4.at 22 (u := .slice none 0 0) rfl
  have g22 := f4 22
  have hone := Pac.one ({ zP 8 with id := (sbOf (sB b) false).1, fs := (sbOf (sB b) false).2.1 } : Pac) (.slice va ln vn) Nl rfl rfl
  go_wp2_with (first
    | ((with_reducible refine wpl_at (o := ⟨some 136, .load 36 (.tmp 4), _, _, _, _⟩) ?_); refine wpl_loadAt rfl _ _ rfl (w.heap.size + 1 + 1) 0 rfl (({ zP 8 with id := (sbOf (sB b) false).1, fs := (sbOf (sB b) false).2.1 } : Pac).cells (.slice va ln vn) Nl) _ (((h4).set 1 (.int .i64 (sbOf (sB b) false).1) (show 1 < 24 by decide)).set 22 ((.slice va ln vn)) (show 22 < 24 by decide)).range Tryz.underlying36 rfl info_pac ?_)
    | ((with_reducible refine wpl_at (o := ⟨none, .store 36 (.tmp 2) (.tmp 136), _, _, _, _⟩) ?_); refine wpl_storeAll rfl rfl _ _ _ rfl (w.heap.size + 1) (({ zP 8 with id := (sbOf (sB b) false).1, fs := (sbOf (sB b) false).2.1 } : Pac).cells (.slice va ln vn) Nl) (zK 0) rfl rfl info_pac hone (((h2).other _ _ _ (by simp)).other _ _ _ (by simp)) rfl (((f2).set _ _).set _ _) ?_; intro w9 h9 f9 k9 z9))
  refine bodyPost_ret (v := .tuple #[.agg ((({ zP 8 with id := (sbOf (sB b) false).1, fs := (sbOf (sB b) false).2.1 } : Pac).cells (.slice va ln vn) Nl)).toArray, .int .i64 (sbOf (sB b) false).2.2]) (results_cell_tmp Tryz.results69 rfl (ret_pac h9 rfl) rfl) rfl ?_
  have B6 := ((B5).setCell (p := ⟨(w.heap.size + 1 + 1), 1, none⟩) (by show w.heap.size ≤ w.heap.size + 1 + 1; omega) (.int .i64 (sbOf (sB b) false).1)).setCell (p := ⟨(w.heap.size + 1 + 1), 22, none⟩) (by show w.heap.size ≤ w.heap.size + 1 + 1; omega) ((.slice va ln vn))
  have ho6 := Owns.keeps (Owns.set (Owns.set HO.out (p := ⟨(w.heap.size + 1 + 1), 1, none⟩) (by show w.heap.size + 1 + 1 < w4.heap.size; omega) (.int .i64 (sbOf (sB b) false).1)) (p := ⟨(w.heap.size + 1 + 1), 22, none⟩) (by show w.heap.size + 1 + 1 < w4.heap.size; omega) (.slice va ln vn)) k9 (by intro j hj; simp at hj; omega)
  refine ⟨_, Nl, rfl, ⟨Owns.le ho6 (by omega), OwnI.nil _ _, ?_, by simp [zP, Pac.zero]⟩, B6.trans (k9.toBelow B6.size (by simp))⟩
  show (sbOf (sB b) false).2.1.length * 24 ≤ 140737488351232
  have := HL.out
  omega

set_option maxRecDepth 100000 in
set_option maxHeartbeats 8000000 in
theorem refTold10_c (k f n : Int) (b : ByteArray) (w : World) (hs : b.size ≤ 140737488351232) (hk : k = 10) :
    Calls Tryz.prog 69 #[.agg #[.int .i64 k, .int .i64 f, .int .i64 n, .string b]] w (GivesO w ({ zP 10 with id := (sbOf (sB b) true).1, fs := (sbOf (sB b) true).2.1 }, (sbOf (sB b) true).2.2)) := by
  subst hk
  go_enter Tryz.func69, Tryz.ntmps69
  go_wp2_with (first
    | (with_reducible refine wpl_box (o := ⟨some 1, .box 95 (.tmp 0), _, _, _, _⟩) rfl _ _ rfl [.int .i64 10, .int .i64 f, .int .i64 n, .string b] rfl w.heap.size rfl ?_; intro w1 h1 f1 b1 z1)
    | (with_reducible refine wpl_alloc (o := ⟨some 2, .alloc 36, _, _, _, _⟩) rfl _ rfl (zK 0) alloc_pac _ z1 ?_; intro w2 h2 f2 b2 z2; replace h1 := h1.keep b2 (by omega); have B2 : Below w.heap.size w w2 := b1.trans (b2.mono (by omega)); clear f1 b1 b2; have c0 := h1.at 0 (u := .int .i64 10) rfl)
    | (with_reducible refine wpl_alloc (o := ⟨some 4, .alloc 36, _, _, _, _⟩) rfl _ rfl (zK 0) alloc_pac _ z2 ?_; intro w3 h3 f3 b3 z3; clear c0; replace h1 := h1.keep b3 (by omega); replace f2 := f2.keep b3 (by omega); replace h2 := h2.keep b3 (by omega); replace B2 := B2.trans (b3.mono (by omega)); clear b3)
    | ((with_reducible refine wpl_at (o := ⟨none, .store 36 (.tmp 4) (.tmp 28), _, _, _, _⟩) ?_); refine wpl_storeAll rfl rfl _ _ _ rfl (w.heap.size + 1 + 1) (zK 10) (zK 0) rfl rfl info_pac (zK_one 10) h3 rfl f3 ?_; intro w4 h4 f4 k4 z4; have B4 : Below w.heap.size w w4 := B2.trans (k4.toBelow (by omega) (by simp; omega)); clear B2; replace h1 := h1.keeps k4 (by simp; omega); replace f2 := f2.keeps k4 h2.1 (by simp); replace h2 := h2.keeps k4 (by simp); clear h3 f3 k4; have c0 := h1.at 0 (u := .int .i64 10) rfl; have c1 := h1.at 1 (u := .int .i64 f) rfl; have c3 := h1.at 3 (u := .string b) rfl))
  refine (refSubsOf_c b true _ hs).mono ?_
  rintro e w5 ⟨v, rfl, ho5, hb5⟩
  have hz5 := hb5.size
  replace h1 := h1.keep hb5 (by omega)
  replace h2 := h2.keep hb5 (by omega)
  replace h4 := h4.keep hb5 (by omega)
  replace f2 := f2.keep hb5 (by omega)
  replace f4 := f4.keep hb5 (by omega)
  have B5 := B4.trans (hb5.mono B4.size)
  clear c0 c1 c3
  obtain ⟨va, vn, hv⟩ := Owns.slice ho5
  have hln : (sbOf (sB b) true).2.1.length ≤ 9 := sbOf_len _ _
  obtain ⟨ln, hlen⟩ : ∃ ln, (sbOf (sB b) true).2.1.length = ln := ⟨_, rfl⟩
  rw [hlen] at hv hln
  subst hv
  have HO := hd ho5; have HL := hd hlen
  clear ho5 hlen
  have e1 := h4.at 1 (u := .int .i64 0) rfl
  have g1 := f4 1
  have e22 := h4.at 22 (u := .slice none 0 0) rfl
  have g22 := f4 22
  have hone := Pac.one ({ zP 10 with id := (sbOf (sB b) true).1, fs := (sbOf (sB b) true).2.1 } : Pac) (.slice va ln vn) Nl rfl rfl
  go_wp2_with (first
    | ((with_reducible refine wpl_at (o := ⟨some 136, .load 36 (.tmp 4), _, _, _, _⟩) ?_); refine wpl_loadAt rfl _ _ rfl (w.heap.size + 1 + 1) 0 rfl (({ zP 10 with id := (sbOf (sB b) true).1, fs := (sbOf (sB b) true).2.1 } : Pac).cells (.slice va ln vn) Nl) _ (((h4).set 1 (.int .i64 (sbOf (sB b) true).1) (show 1 < 24 by decide)).set 22 ((.slice va ln vn)) (show 22 < 24 by decide)).range Tryz.underlying36 rfl info_pac ?_)
    | ((with_reducible refine wpl_at (o := ⟨none, .store 36 (.tmp 2) (.tmp 136), _, _, _, _⟩) ?_); refine wpl_storeAll rfl rfl _ _ _ rfl (w.heap.size + 1) (({ zP 10 with id := (sbOf (sB b) true).1, fs := (sbOf (sB b) true).2.1 } : Pac).cells (.slice va ln vn) Nl) (zK 0) rfl rfl info_pac hone (((h2).other _ _ _ (by simp)).other _ _ _ (by simp)) rfl (((f2).set _ _).set _ _) ?_; intro w9 h9 f9 k9 z9))
  refine bodyPost_ret (v := .tuple #[.agg ((({ zP 10 with id := (sbOf (sB b) true).1, fs := (sbOf (sB b) true).2.1 } : Pac).cells (.slice va ln vn) Nl)).toArray, .int .i64 (sbOf (sB b) true).2.2]) (results_cell_tmp Tryz.results69 rfl (ret_pac h9 rfl) rfl) rfl ?_
  have B6 := ((B5).setCell (p := ⟨(w.heap.size + 1 + 1), 1, none⟩) (by show w.heap.size ≤ w.heap.size + 1 + 1; omega) (.int .i64 (sbOf (sB b) true).1)).setCell (p := ⟨(w.heap.size + 1 + 1), 22, none⟩) (by show w.heap.size ≤ w.heap.size + 1 + 1; omega) ((.slice va ln vn))
  have ho6 := Owns.keeps (Owns.set (Owns.set HO.out (p := ⟨(w.heap.size + 1 + 1), 1, none⟩) (by show w.heap.size + 1 + 1 < w4.heap.size; omega) (.int .i64 (sbOf (sB b) true).1)) (p := ⟨(w.heap.size + 1 + 1), 22, none⟩) (by show w.heap.size + 1 + 1 < w4.heap.size; omega) (.slice va ln vn)) k9 (by intro j hj; simp at hj; omega)
  refine ⟨_, Nl, rfl, ⟨Owns.le ho6 (by omega), OwnI.nil _ _, ?_, by simp [zP, Pac.zero]⟩, B6.trans (k9.toBelow B6.size (by simp))⟩
  show (sbOf (sB b) true).2.1.length * 24 ≤ 140737488351232
  have := HL.out
  omega

set_option maxRecDepth 100000 in
set_option maxHeartbeats 8000000 in
theorem refTold9_c (k f n : Int) (b : ByteArray) (w : World) (hs : b.size ≤ 140737488351232) (hk : k = 9) :
    Calls Tryz.prog 69 #[.agg #[.int .i64 k, .int .i64 f, .int .i64 n, .string b]] w (GivesO w ({ zP 9 with id := (sbOfAck (sB b)).1, cs := (sbOfAck (sB b)).2.1 }, (sbOfAck (sB b)).2.2)) := by
  subst hk
  go_enter Tryz.func69, Tryz.ntmps69
  go_wp2_with (first
    | (with_reducible refine wpl_box (o := ⟨some 1, .box 95 (.tmp 0), _, _, _, _⟩) rfl _ _ rfl [.int .i64 9, .int .i64 f, .int .i64 n, .string b] rfl w.heap.size rfl ?_; intro w1 h1 f1 b1 z1)
    | (with_reducible refine wpl_alloc (o := ⟨some 2, .alloc 36, _, _, _, _⟩) rfl _ rfl (zK 0) alloc_pac _ z1 ?_; intro w2 h2 f2 b2 z2; replace h1 := h1.keep b2 (by omega); have B2 : Below w.heap.size w w2 := b1.trans (b2.mono (by omega)); clear f1 b1 b2; have c0 := h1.at 0 (u := .int .i64 9) rfl)
    | (with_reducible refine wpl_alloc (o := ⟨some 4, .alloc 36, _, _, _, _⟩) rfl _ rfl (zK 0) alloc_pac _ z2 ?_; intro w3 h3 f3 b3 z3; clear c0; replace h1 := h1.keep b3 (by omega); replace f2 := f2.keep b3 (by omega); replace h2 := h2.keep b3 (by omega); replace B2 := B2.trans (b3.mono (by omega)); clear b3)
    | ((with_reducible refine wpl_at (o := ⟨none, .store 36 (.tmp 4) (.tmp 28), _, _, _, _⟩) ?_); refine wpl_storeAll rfl rfl _ _ _ rfl (w.heap.size + 1 + 1) (zK 9) (zK 0) rfl rfl info_pac (zK_one 9) h3 rfl f3 ?_; intro w4 h4 f4 k4 z4; have B4 : Below w.heap.size w w4 := B2.trans (k4.toBelow (by omega) (by simp; omega)); clear B2; replace h1 := h1.keeps k4 (by simp; omega); replace f2 := f2.keeps k4 h2.1 (by simp); replace h2 := h2.keeps k4 (by simp); clear h3 f3 k4; have c0 := h1.at 0 (u := .int .i64 9) rfl; have c1 := h1.at 1 (u := .int .i64 f) rfl; have c3 := h1.at 3 (u := .string b) rfl))
  refine (refOfAck15_c b _ hs).mono ?_
  rintro e w5 ⟨v, rfl, ho5, hb5⟩
  have hz5 := hb5.size
  replace h1 := h1.keep hb5 (by omega)
  replace h2 := h2.keep hb5 (by omega)
  replace h4 := h4.keep hb5 (by omega)
  replace f2 := f2.keep hb5 (by omega)
  replace f4 := f4.keep hb5 (by omega)
  have B5 := B4.trans (hb5.mono B4.size)
  clear c0 c1 c3
  obtain ⟨va, vn, hv⟩ := Owns.slice ho5
  have hln : (sbOfAck (sB b)).2.1.length ≤ 9 := by have := sbOfAck_len (sB b); omega
  obtain ⟨ln, hlen⟩ : ∃ ln, (sbOfAck (sB b)).2.1.length = ln := ⟨_, rfl⟩
  rw [hlen] at hv hln
  subst hv
  have HO := hd ho5; have HL := hd hlen
  clear ho5 hlen
  have e1 := h4.at 1 (u := .int .i64 0) rfl
  have g1 := f4 1
  have e23 := h4.at 23 (u := .slice none 0 0) rfl
  have g23 := f4 23
  have hone := Pac.one ({ zP 9 with id := (sbOfAck (sB b)).1, cs := (sbOfAck (sB b)).2.1 } : Pac) Nl (.slice va ln vn) rfl rfl
  go_wp2_with (first
    | ((with_reducible refine wpl_at (o := ⟨some 136, .load 36 (.tmp 4), _, _, _, _⟩) ?_); refine wpl_loadAt rfl _ _ rfl (w.heap.size + 1 + 1) 0 rfl (({ zP 9 with id := (sbOfAck (sB b)).1, cs := (sbOfAck (sB b)).2.1 } : Pac).cells Nl (.slice va ln vn)) _ (((h4).set 1 (.int .i64 (sbOfAck (sB b)).1) (show 1 < 24 by decide)).set 23 ((.slice va ln vn)) (show 23 < 24 by decide)).range Tryz.underlying36 rfl info_pac ?_)
    | ((with_reducible refine wpl_at (o := ⟨none, .store 36 (.tmp 2) (.tmp 136), _, _, _, _⟩) ?_); refine wpl_storeAll rfl rfl _ _ _ rfl (w.heap.size + 1) (({ zP 9 with id := (sbOfAck (sB b)).1, cs := (sbOfAck (sB b)).2.1 } : Pac).cells Nl (.slice va ln vn)) (zK 0) rfl rfl info_pac hone (((h2).other _ _ _ (by simp)).other _ _ _ (by simp)) rfl (((f2).set _ _).set _ _) ?_; intro w9 h9 f9 k9 z9))
  refine bodyPost_ret (v := .tuple #[.agg ((({ zP 9 with id := (sbOfAck (sB b)).1, cs := (sbOfAck (sB b)).2.1 } : Pac).cells Nl (.slice va ln vn))).toArray, .int .i64 (sbOfAck (sB b)).2.2]) (results_cell_tmp Tryz.results69 rfl (ret_pac h9 rfl) rfl) rfl ?_
  have B6 := ((B5).setCell (p := ⟨(w.heap.size + 1 + 1), 1, none⟩) (by show w.heap.size ≤ w.heap.size + 1 + 1; omega) (.int .i64 (sbOfAck (sB b)).1)).setCell (p := ⟨(w.heap.size + 1 + 1), 23, none⟩) (by show w.heap.size ≤ w.heap.size + 1 + 1; omega) ((.slice va ln vn))
  have ho6 := Owns.keeps (Owns.set (Owns.set HO.out (p := ⟨(w.heap.size + 1 + 1), 1, none⟩) (by show w.heap.size + 1 + 1 < w4.heap.size; omega) (.int .i64 (sbOfAck (sB b)).1)) (p := ⟨(w.heap.size + 1 + 1), 23, none⟩) (by show w.heap.size + 1 + 1 < w4.heap.size; omega) (.slice va ln vn)) k9 (by intro j hj; simp at hj; omega)
  refine ⟨Nl, _, rfl, ⟨OwnW.nil _ _, Owns.le ho6 (by omega), by simp [zP, Pac.zero], ?_⟩, B6.trans (k9.toBelow B6.size (by simp))⟩
  show (sbOfAck (sB b)).2.1.length * 8 ≤ 140737488351232
  have := HL.out
  omega

set_option maxRecDepth 100000 in
set_option maxHeartbeats 8000000 in
theorem refToldOE_c (k f n : Int) (b : ByteArray) (w : World) (hs : b.size ≤ 140737488351232) (b1 : (k == 1) = false) (b2 : (k == 2) = false) (b3 : (k == 3) = false) (b4 : (k == 4) = false) (b5 : (k == 5) = false) (b6 : (k == 6) = false) (b7 : (k == 7) = false) (b8 : (k == 8) = false) (b9 : (k == 9) = false) (b10 : (k == 10) = false) (b11 : (k == 11) = false) (hbe : sB b = []) :
    Calls Tryz.prog 69 #[.agg #[.int .i64 k, .int .i64 f, .int .i64 n, .string b]] w (GivesO w (zP k, 0)) := by
  have hne : (!b.toList.isEmpty) = false := by rw [neq_empty b, hbe]; rfl
  clear hbe
  go_enter Tryz.func69, Tryz.ntmps69
  go_wp2_with (first
    | (with_reducible refine wpl_box (o := ⟨some 1, .box 95 (.tmp 0), _, _, _, _⟩) rfl _ _ rfl [.int .i64 k, .int .i64 f, .int .i64 n, .string b] rfl w.heap.size rfl ?_; intro w1 h1 f1 b1 z1)
    | (with_reducible refine wpl_alloc (o := ⟨some 2, .alloc 36, _, _, _, _⟩) rfl _ rfl (zK 0) alloc_pac _ z1 ?_; intro w2 h2 f2 b2 z2; replace h1 := h1.keep b2 (by omega); have B2 : Below w.heap.size w w2 := b1.trans (b2.mono (by omega)); clear f1 b1 b2; have c0 := h1.at 0 (u := .int .i64 k) rfl)
    | (with_reducible refine wpl_alloc (o := ⟨some 4, .alloc 36, _, _, _, _⟩) rfl _ rfl (zK 0) alloc_pac _ z2 ?_; intro w3 h3 f3 b3 z3; clear c0; replace h1 := h1.keep b3 (by omega); replace f2 := f2.keep b3 (by omega); replace h2 := h2.keep b3 (by omega); replace B2 := B2.trans (b3.mono (by omega)); clear b3)
    | ((with_reducible refine wpl_at (o := ⟨none, .store 36 (.tmp 4) (.tmp 28), _, _, _, _⟩) ?_); refine wpl_storeAll rfl rfl _ _ _ rfl (w.heap.size + 1 + 1) (zK k) (zK 0) rfl rfl info_pac (zK_one k) h3 rfl f3 ?_; intro w4 h4 f4 k4 z4; have B4 : Below w.heap.size w w4 := B2.trans (k4.toBelow (by omega) (by simp; omega)); clear B2; replace h1 := h1.keeps k4 (by simp; omega); replace f2 := f2.keeps k4 h2.1 (by simp); replace h2 := h2.keeps k4 (by simp); clear h3 f3 k4; have c0 := h1.at 0 (u := .int .i64 k) rfl; have c1 := h1.at 1 (u := .int .i64 f) rfl; have c3 := h1.at 3 (u := .string b) rfl)
    | ((with_reducible refine wpl_at (o := ⟨some 136, .load 36 (.tmp 4), _, _, _, _⟩) ?_); refine wpl_loadAt rfl _ _ rfl (w.heap.size + 1 + 1) 0 rfl ((zP k).cells Nl Nl) _ (h4).range Tryz.underlying36 rfl info_pac ?_)
    | ((with_reducible refine wpl_at (o := ⟨none, .store 36 (.tmp 2) (.tmp 136), _, _, _, _⟩) ?_); refine wpl_storeAll rfl rfl _ _ _ rfl (w.heap.size + 1) ((zP k).cells Nl Nl) (zK 0) rfl rfl info_pac ((zP k).one Nl Nl rfl rfl) (h2) rfl (f2) ?_; intro w9 h9 f9 k9 z9))
  refine bodyPost_ret (v := .tuple #[.agg (((zP k).cells Nl Nl)).toArray, .int .i64 0]) (results_cell_tmp Tryz.results69 rfl (ret_pac h9 rfl) rfl) rfl ?_
  exact ⟨Nl, Nl, rfl, PacOwn.nil _ _ rfl rfl, B4.trans (k9.toBelow B4.size (by simp))⟩

set_option maxRecDepth 100000 in
set_option maxHeartbeats 8000000 in
theorem refToldON_c (k f n : Int) (b : ByteArray) (w : World) (hs : b.size ≤ 140737488351232) (b1 : (k == 1) = false) (b2 : (k == 2) = false) (b3 : (k == 3) = false) (b4 : (k == 4) = false) (b5 : (k == 5) = false) (b6 : (k == 6) = false) (b7 : (k == 7) = false) (b8 : (k == 8) = false) (b9 : (k == 9) = false) (b10 : (k == 10) = false) (b11 : (k == 11) = false) (hbe : ¬ sB b = []) :
    Calls Tryz.prog 69 #[.agg #[.int .i64 k, .int .i64 f, .int .i64 n, .string b]] w (GivesO w (zP k, 4)) := by
  have hne : (!b.toList.isEmpty) = true := by rw [neq_empty b]; cases hc : sB b with | nil => exact absurd hc hbe | cons x t => rfl
  clear hbe
  go_enter Tryz.func69, Tryz.ntmps69
  go_wp2_with (first
    | (with_reducible refine wpl_box (o := ⟨some 1, .box 95 (.tmp 0), _, _, _, _⟩) rfl _ _ rfl [.int .i64 k, .int .i64 f, .int .i64 n, .string b] rfl w.heap.size rfl ?_; intro w1 h1 f1 b1 z1)
    | (with_reducible refine wpl_alloc (o := ⟨some 2, .alloc 36, _, _, _, _⟩) rfl _ rfl (zK 0) alloc_pac _ z1 ?_; intro w2 h2 f2 b2 z2; replace h1 := h1.keep b2 (by omega); have B2 : Below w.heap.size w w2 := b1.trans (b2.mono (by omega)); clear f1 b1 b2; have c0 := h1.at 0 (u := .int .i64 k) rfl)
    | (with_reducible refine wpl_alloc (o := ⟨some 4, .alloc 36, _, _, _, _⟩) rfl _ rfl (zK 0) alloc_pac _ z2 ?_; intro w3 h3 f3 b3 z3; clear c0; replace h1 := h1.keep b3 (by omega); replace f2 := f2.keep b3 (by omega); replace h2 := h2.keep b3 (by omega); replace B2 := B2.trans (b3.mono (by omega)); clear b3)
    | ((with_reducible refine wpl_at (o := ⟨none, .store 36 (.tmp 4) (.tmp 28), _, _, _, _⟩) ?_); refine wpl_storeAll rfl rfl _ _ _ rfl (w.heap.size + 1 + 1) (zK k) (zK 0) rfl rfl info_pac (zK_one k) h3 rfl f3 ?_; intro w4 h4 f4 k4 z4; have B4 : Below w.heap.size w w4 := B2.trans (k4.toBelow (by omega) (by simp; omega)); clear B2; replace h1 := h1.keeps k4 (by simp; omega); replace f2 := f2.keeps k4 h2.1 (by simp); replace h2 := h2.keeps k4 (by simp); clear h3 f3 k4; have c0 := h1.at 0 (u := .int .i64 k) rfl; have c1 := h1.at 1 (u := .int .i64 f) rfl; have c3 := h1.at 3 (u := .string b) rfl)
    | ((with_reducible refine wpl_at (o := ⟨some 136, .load 36 (.tmp 4), _, _, _, _⟩) ?_); refine wpl_loadAt rfl _ _ rfl (w.heap.size + 1 + 1) 0 rfl ((zP k).cells Nl Nl) _ (h4).range Tryz.underlying36 rfl info_pac ?_)
    | ((with_reducible refine wpl_at (o := ⟨none, .store 36 (.tmp 2) (.tmp 136), _, _, _, _⟩) ?_); refine wpl_storeAll rfl rfl _ _ _ rfl (w.heap.size + 1) ((zP k).cells Nl Nl) (zK 0) rfl rfl info_pac ((zP k).one Nl Nl rfl rfl) (h2) rfl (f2) ?_; intro w9 h9 f9 k9 z9))
  refine bodyPost_ret (v := .tuple #[.agg (((zP k).cells Nl Nl)).toArray, .int .i64 4]) (results_cell_tmp Tryz.results69 rfl (ret_pac h9 rfl) rfl) rfl ?_
  exact ⟨Nl, Nl, rfl, PacOwn.nil _ _ rfl rfl, B4.trans (k9.toBelow B4.size (by simp))⟩

set_option maxRecDepth 100000 in
set_option maxHeartbeats 8000000 in
theorem refTold1_c (k f n : Int) (b : ByteArray) (w : World) (hs : b.size ≤ 140737488351232) (hk : k = 1) :
    Calls Tryz.prog 69 #[.agg #[.int .i64 k, .int .i64 f, .int .i64 n, .string b]] w (GivesO w ({ zP 1 with c := (cOf (sB b)).1 }, (cOf (sB b)).2)) := by
  subst hk
  go_enter Tryz.func69, Tryz.ntmps69
  go_wp2_with (first
    | (with_reducible refine wpl_box (o := ⟨some 1, .box 95 (.tmp 0), _, _, _, _⟩) rfl _ _ rfl [.int .i64 1, .int .i64 f, .int .i64 n, .string b] rfl w.heap.size rfl ?_; intro w1 h1 f1 b1 z1)
    | (with_reducible refine wpl_alloc (o := ⟨some 2, .alloc 36, _, _, _, _⟩) rfl _ rfl (zK 0) alloc_pac _ z1 ?_; intro w2 h2 f2 b2 z2; replace h1 := h1.keep b2 (by omega); have B2 : Below w.heap.size w w2 := b1.trans (b2.mono (by omega)); clear f1 b1 b2; have c0 := h1.at 0 (u := .int .i64 1) rfl)
    | (with_reducible refine wpl_alloc (o := ⟨some 4, .alloc 36, _, _, _, _⟩) rfl _ rfl (zK 0) alloc_pac _ z2 ?_; intro w3 h3 f3 b3 z3; clear c0; replace h1 := h1.keep b3 (by omega); replace f2 := f2.keep b3 (by omega); replace h2 := h2.keep b3 (by omega); replace B2 := B2.trans (b3.mono (by omega)); clear b3)
    | ((with_reducible refine wpl_at (o := ⟨none, .store 36 (.tmp 4) (.tmp 28), _, _, _, _⟩) ?_); refine wpl_storeAll rfl rfl _ _ _ rfl (w.heap.size + 1 + 1) (zK 1) (zK 0) rfl rfl info_pac (zK_one 1) h3 rfl f3 ?_; intro w4 h4 f4 k4 z4; have B4 : Below w.heap.size w w4 := B2.trans (k4.toBelow (by omega) (by simp; omega)); clear B2; replace h1 := h1.keeps k4 (by simp; omega); replace f2 := f2.keeps k4 h2.1 (by simp); replace h2 := h2.keeps k4 (by simp); clear h3 f3 k4; have c0 := h1.at 0 (u := .int .i64 1) rfl; have c1 := h1.at 1 (u := .int .i64 f) rfl; have c3 := h1.at 3 (u := .string b) rfl))
  refine (refConOf_c b _ hs).mono ?_
  rintro e w5 ⟨rfl, hb5⟩
  have hz5 := hb5.size
  replace h1 := h1.keep hb5 (by omega)
  replace h2 := h2.keep hb5 (by omega)
  replace h4 := h4.keep hb5 (by omega)
  replace f2 := f2.keep hb5 (by omega)
  replace f4 := f4.keep hb5 (by omega)
  have B5 := B4.trans (hb5.mono B4.size)
  clear c0 c1 c3
  have hone := Pac.one ({ zP 1 with c := (cOf (sB b)).1 } : Pac) Nl Nl rfl rfl
  go_wp2_with (first
    | (with_reducible refine wpl_alloc (o := ⟨some 6, .alloc 32, _, _, _, _⟩) rfl _ rfl Con.zero.cells alloc_con _ rfl ?_; intro w6 h6 f6 b6 z6; replace h2 := h2.keep b6 (by omega); replace h4 := h4.keep b6 (by omega); replace f2 := f2.keep b6 (by omega); replace f4 := f4.keep b6 (by omega); have B6 := B5.trans (b6.mono B5.size))
    | ((with_reducible refine wpl_at (o := ⟨none, .store 32 (.tmp 6) (.tmp 41), _, _, _, _⟩) ?_); refine wpl_storeAll rfl rfl _ _ _ rfl w5.heap.size (cOf (sB b)).1.cells Con.zero.cells rfl rfl info_con (Con.one _) h6 rfl f6 ?_; intro w7 h7 f7 k7 z7; replace h2 := h2.keeps k7 (by simp; omega); replace h4 := h4.keeps k7 (by simp; omega); replace f2 := f2.keeps k7 (by omega) (by simp; omega); replace f4 := f4.keeps k7 (by omega) (by simp; omega); have B7 := B6.trans (k7.toBelow B6.size (by simp; omega)))
    | ((with_reducible refine wpl_at (o := ⟨some 43, .load 32 (.tmp 6), _, _, _, _⟩) ?_); refine wpl_loadAt rfl _ _ rfl w5.heap.size 0 rfl (cOf (sB b)).1.cells _ h7.range Tryz.underlying32 rfl info_con ?_)
    | ((with_reducible refine wpl_at (o := ⟨none, .store 32 (.tmp 44) (.tmp 43), _, _, _, _⟩) ?_); refine wpl_storeMid rfl rfl _ _ _ rfl (w.heap.size + 1 + 1) 7 (cOf (sB b)).1.cells (zK 1) (({ zP 1 with c := (cOf (sB b)).1 } : Pac).cells Nl Nl) rfl rfl info_con (Con.one _) h4 rfl (by show 7 + 13 ≤ 24; decide) f4 ?_; intro w8 h8 f8 k8 z8; replace f2 := f2.keeps k8 h2.1 (by simp); replace h2 := h2.keeps k8 (by simp); have B8 := B7.trans (k8.toBelow B7.size (by simp; omega)))
    | ((with_reducible refine wpl_at (o := ⟨some 136, .load 36 (.tmp 4), _, _, _, _⟩) ?_); refine wpl_loadAt rfl _ _ rfl (w.heap.size + 1 + 1) 0 rfl (({ zP 1 with c := (cOf (sB b)).1 } : Pac).cells Nl Nl) _ (h8).range Tryz.underlying36 rfl info_pac ?_)
    | ((with_reducible refine wpl_at (o := ⟨none, .store 36 (.tmp 2) (.tmp 136), _, _, _, _⟩) ?_); refine wpl_storeAll rfl rfl _ _ _ rfl (w.heap.size + 1) (({ zP 1 with c := (cOf (sB b)).1 } : Pac).cells Nl Nl) (zK 0) rfl rfl info_pac hone (h2) rfl (f2) ?_; intro w9 h9 f9 k9 z9))
  refine bodyPost_ret (v := .tuple #[.agg ((({ zP 1 with c := (cOf (sB b)).1 } : Pac).cells Nl Nl)).toArray, .int .i64 (cOf (sB b)).2]) (results_cell_tmp Tryz.results69 rfl (ret_pac h9 rfl) rfl) rfl ?_
  exact ⟨Nl, Nl, rfl, PacOwn.nil _ _ rfl rfl, B8.trans (k9.toBelow B8.size (by simp))⟩

set_option maxRecDepth 100000 in
set_option maxHeartbeats 8000000 in
theorem refTold3_c (k f n : Int) (b : ByteArray) (w : World) (hs : b.size ≤ 140737488351232) (hk : k = 3) :
    Calls Tryz.prog 69 #[.agg #[.int .i64 k, .int .i64 f, .int .i64 n, .string b]] w (GivesO w (paTold k f (sB b))) := by
  subst hk
  obtain ⟨X, Y, I, E, hP⟩ : ∃ X Y I E, pOf (sB b) (hQos f) = (X, Y, I, E) := ⟨_, _, _, _, rfl⟩
  obtain ⟨q, hq⟩ : ∃ q, pOfQ (sB b) (hQos f) = q := ⟨_, rfl⟩
  have hr : paTold 3 f (sB b) = (({ zP 3 with tp := sOf X, tx := sOf Y, q := q, rt := hRet f, dup := hDup f, id := I } : Pac), E) := by
    unfold paTold
    simp only [show ¬ ((3 : Int) = 1) by decide, show ¬ ((3 : Int) = 2) by decide, if_false, if_true, hP, hq]
    rfl
  rw [hr]
  have hpo := fun W => refPubOf_c b (hQos f) W hs
  unfold GivesM at hpo
  rw [hP, hq] at hpo
  have HPO := hd hpo
  clear hpo hr hP hq
  go_enter Tryz.func69, Tryz.ntmps69
  go_wp2_with (first
    | (with_reducible refine wpl_box (o := ⟨some 1, .box 95 (.tmp 0), _, _, _, _⟩) rfl _ _ rfl [.int .i64 3, .int .i64 f, .int .i64 n, .string b] rfl w.heap.size rfl ?_; intro w1 h1 f1 b1 z1)
    | (with_reducible refine wpl_alloc (o := ⟨some 2, .alloc 36, _, _, _, _⟩) rfl _ rfl (zK 0) alloc_pac _ z1 ?_; intro w2 h2 f2 b2 z2; replace h1 := h1.keep b2 (by omega); have B2 : Below w.heap.size w w2 := b1.trans (b2.mono (by omega)); clear f1 b1 b2; have c0 := h1.at 0 (u := .int .i64 3) rfl)
    | (with_reducible refine wpl_alloc (o := ⟨some 4, .alloc 36, _, _, _, _⟩) rfl _ rfl (zK 0) alloc_pac _ z2 ?_; intro w3 h3 f3 b3 z3; clear c0; replace h1 := h1.keep b3 (by omega); replace f2 := f2.keep b3 (by omega); replace h2 := h2.keep b3 (by omega); replace B2 := B2.trans (b3.mono (by omega)); clear b3)
    | ((with_reducible refine wpl_at (o := ⟨none, .store 36 (.tmp 4) (.tmp 28), _, _, _, _⟩) ?_); refine wpl_storeAll rfl rfl _ _ _ rfl (w.heap.size + 1 + 1) (zK 3) (zK 0) rfl rfl info_pac (zK_one 3) h3 rfl f3 ?_; intro w4 h4 f4 k4 z4; have B4 : Below w.heap.size w w4 := B2.trans (k4.toBelow (by omega) (by simp; omega)); clear B2; replace h1 := h1.keeps k4 (by simp; omega); replace f2 := f2.keeps k4 h2.1 (by simp); replace h2 := h2.keeps k4 (by simp); clear h3 f3 k4; have c0 := h1.at 0 (u := .int .i64 3) rfl; have c1 := h1.at 1 (u := .int .i64 f) rfl; have c3 := h1.at 3 (u := .string b) rfl))
  refine (refTold_c f _).mono ?_
  rintro e w' ⟨rfl, rfl⟩
  go_wp2_with fail
  refine (HPO.out _).mono ?_
  rintro e w5 ⟨rfl, hb5⟩
  have hz5 := hb5.size
  replace h1 := h1.keep hb5 (by omega)
  replace h2 := h2.keep hb5 (by omega)
  replace h4 := h4.keep hb5 (by omega)
  replace f2 := f2.keep hb5 (by omega)
  replace f4 := f4.keep hb5 (by omega)
  have B5 := B4.trans (hb5.mono B4.size)
  clear c0 c1 c3
  have hone := Pac.one ({ zP 3 with tp := sOf X, tx := sOf Y, q := q, rt := hRet f, dup := hDup f, id := I } : Pac) Nl Nl rfl rfl
  have hone4 : ∀ v ∈ ([.string (sOf X), .string (sOf Y), .int .i64 q, .bool false] : List Value), v.oneCell' = true := (by intro v hv; simp at hv; rcases hv with rfl | rfl | rfl | rfl <;> rfl)
  go_wp2_with (first
    | (with_reducible refine wpl_alloc (o := ⟨some 14, .alloc 30, _, _, _, _⟩) rfl _ rfl zM alloc_msg _ rfl ?_; intro w6 h6 f6 b6 z6; replace h2 := h2.keep b6 (by omega); replace h4 := h4.keep b6 (by omega); replace f2 := f2.keep b6 (by omega); replace f4 := f4.keep b6 (by omega); have B6 := B5.trans (b6.mono B5.size))
    | ((with_reducible refine wpl_at (o := ⟨none, .store 30 (.tmp 14) (.tmp 75), _, _, _, _⟩) ?_); refine wpl_storeAll rfl rfl _ _ _ rfl w5.heap.size [.string (sOf X), .string (sOf Y), .int .i64 q, .bool false] zM rfl rfl info_msg hone4 h6 rfl f6 ?_; intro w7 h7 f7 k7 z7; replace h2 := h2.keeps k7 (by simp; omega); replace h4 := h4.keeps k7 (by simp; omega); replace f2 := f2.keeps k7 (by omega) (by simp; omega); replace f4 := f4.keeps k7 (by omega) (by simp; omega); have B7 := B6.trans (k7.toBelow B6.size (by simp; omega)))
    | ((with_reducible refine wpl_at (o := ⟨some 78, .load 30 (.tmp 14), _, _, _, _⟩) ?_); refine wpl_loadAt rfl _ _ rfl w5.heap.size 0 rfl [.string (sOf X), .string (sOf Y), .int .i64 q, .bool false] _ h7.range Tryz.underlying30 rfl info_msg ?_)
    | ((with_reducible refine wpl_at (o := ⟨none, .store 30 (.tmp 79) (.tmp 78), _, _, _, _⟩) ?_); refine wpl_storeMid rfl rfl _ _ _ rfl (w.heap.size + 1 + 1) 3 [.string (sOf X), .string (sOf Y), .int .i64 q, .bool false] (zK 3) ((({ zP 3 with tp := sOf X, tx := sOf Y, q := q } : Pac)).cells Nl Nl) rfl rfl info_msg hone4 h4 rfl (by show 3 + 4 ≤ 24; decide) f4 ?_; intro w8 h8 f8 k8 z8; replace f2 := f2.keeps k8 h2.1 (by simp); replace h2 := h2.keeps k8 (by simp); have B8 := B7.trans (k8.toBelow B7.size (by simp; omega)); have e1 := h8.at 1 (u := .int .i64 0) rfl; have e2 := h8.at 2 (u := .bool false) rfl; have e6 := h8.at 6 (u := .bool false) rfl; have g1 := f8 1; have g2 := f8 2; have g6 := f8 6)
    | ((with_reducible refine wpl_at (o := ⟨some 136, .load 36 (.tmp 4), _, _, _, _⟩) ?_); refine wpl_loadAt rfl _ _ rfl (w.heap.size + 1 + 1) 0 rfl (({ zP 3 with tp := sOf X, tx := sOf Y, q := q, rt := hRet f, dup := hDup f, id := I } : Pac).cells Nl Nl) _ ((((h8).set 1 (.int .i64 I) (show 1 < 24 by decide)).set 6 (.bool (hRet f)) (show 6 < 24 by decide)).set 2 (.bool (hDup f)) (show 2 < 24 by decide)).range Tryz.underlying36 rfl info_pac ?_)
    | ((with_reducible refine wpl_at (o := ⟨none, .store 36 (.tmp 2) (.tmp 136), _, _, _, _⟩) ?_); refine wpl_storeAll rfl rfl _ _ _ rfl (w.heap.size + 1) (({ zP 3 with tp := sOf X, tx := sOf Y, q := q, rt := hRet f, dup := hDup f, id := I } : Pac).cells Nl Nl) (zK 0) rfl rfl info_pac hone ((((h2).other _ _ _ (by simp)).other _ _ _ (by simp)).other _ _ _ (by simp)) rfl ((((f2).set _ _).set _ _).set _ _) ?_; intro w9 h9 f9 k9 z9))
  refine bodyPost_ret (v := .tuple #[.agg ((({ zP 3 with tp := sOf X, tx := sOf Y, q := q, rt := hRet f, dup := hDup f, id := I } : Pac).cells Nl Nl)).toArray, .int .i64 E]) (results_cell_tmp Tryz.results69 rfl (ret_pac h9 rfl) rfl) rfl ?_
  have B9 := (((B8).setCell (p := ⟨(w.heap.size + 1 + 1), 1, none⟩) (by show w.heap.size ≤ w.heap.size + 1 + 1; omega) (.int .i64 I)).setCell (p := ⟨(w.heap.size + 1 + 1), 6, none⟩) (by show w.heap.size ≤ w.heap.size + 1 + 1; omega) (.bool (hRet f))).setCell (p := ⟨(w.heap.size + 1 + 1), 2, none⟩) (by show w.heap.size ≤ w.heap.size + 1 + 1; omega) (.bool (hDup f))
  exact ⟨Nl, Nl, rfl, PacOwn.nil _ _ rfl rfl, B9.trans (k9.toBelow B9.size (by simp))⟩

theorem refPaTold_c (k f n : Int) (b : ByteArray) (w : World) (hs : b.size ≤ 140737488351232) :
    Calls Tryz.prog 69 #[.agg #[.int .i64 k, .int .i64 f, .int .i64 n, .string b]] w (GivesO w (paTold k f (sB b))) := by
  by_cases h1 : k = 1
  · have hc := refTold1_c k f n b w hs h1
    subst h1
    exact hc
  by_cases h2 : k = 2
  · have hc := refTold2_c k f n b w hs h2
    subst h2
    exact hc
  by_cases h3 : k = 3
  · have hc := refTold3_c k f n b w hs h3
    subst h3
    exact hc
  by_cases h4 : k = 4
  · have hc := refToldI4_c k f n b w hs h4
    subst h4
    exact hc
  by_cases h5 : k = 5
  · have hc := refToldI5_c k f n b w hs h5
    subst h5
    exact hc
  by_cases h6 : k = 6
  · have hc := refToldI6_c k f n b w hs h6
    subst h6
    exact hc
  by_cases h7 : k = 7
  · have hc := refToldI7_c k f n b w hs h7
    subst h7
    exact hc
  by_cases h8 : k = 8
  · have hc := refTold8_c k f n b w hs h8
    subst h8
    exact hc
  by_cases h9 : k = 9
  · have hc := refTold9_c k f n b w hs h9
    subst h9
    exact hc
  by_cases h10 : k = 10
  · have hc := refTold10_c k f n b w hs h10
    subst h10
    exact hc
  by_cases h11 : k = 11
  · have hc := refToldI11_c k f n b w hs h11
    subst h11
    exact hc
  have hT : paTold k f (sB b) = (zP k, if (sB b).isEmpty then 0 else 4) := by
    unfold paTold
    rw [if_neg h1, if_neg h2, if_neg h3, if_neg (by omega), if_neg h8, if_neg h10, if_neg h9]
    rfl
  rw [hT]
  by_cases hbe : sB b = []
  · have e : (if (sB b).isEmpty = true then (0 : Int) else 4) = 0 := by rw [hbe]; rfl
    rw [e]
    exact refToldOE_c k f n b w hs (by simpa using h1) (by simpa using h2) (by simpa using h3) (by simpa using h4) (by simpa using h5) (by simpa using h6) (by simpa using h7) (by simpa using h8) (by simpa using h9) (by simpa using h10) (by simpa using h11) hbe
  · have e : (if (sB b).isEmpty = true then (0 : Int) else 4) = 4 := by
      cases hc : sB b with
      | nil => exact absurd hc hbe
      | cons x t => rfl
    rw [e]
    exact refToldON_c k f n b w hs (by simpa using h1) (by simpa using h2) (by simpa using h3) (by simpa using h4) (by simpa using h5) (by simpa using h6) (by simpa using h7) (by simpa using h8) (by simpa using h9) (by simpa using h10) (by simpa using h11) hbe
end Go.Proofs.YtjlnlgemngpelaaGreatDoor
