/- A bundle of texts (merged for the limit on files): PacRTold, PacROf, PacLaw3, PacRawOpen. -/
import Derived.Test.YtclicjokgfiegaaDoorZb1
import Derived.Test.YtclicjokgfiegaaDoorZb4
import Derived.Test.YtclicjokgfiegaaDoorZa11
import Derived.Test.YtclicjokgfiegaaDoorZa12
import Derived.Test.YtclicjokgfiegaaDoorZa25
import Derived.Test.YtclicjokgfiegaaDoorZa2
/- Packets: told: the reference: the walks. -/
namespace Go.Proofs.YtclicjokgfiegaaDoor
open Go.RowKit
set_option linter.unusedVariables false
set_option linter.unusedSimpArgs false

set_option maxRecDepth 100000 in
theorem alloc_con (W : World) : (Instr.alloc 25 true (.tuple #[])).run Tryd.prog W = .ok (.pointer (some ⟨W.heap.size, 0, none⟩)) (W.alloc (.cells Con.zero.cells.toArray 25)) := by
  simp [Instr.alloc, newVar, go_sem, Con.zero, Con.cells]
set_option maxRecDepth 100000 in
set_option maxHeartbeats 8000000 in
theorem refTold2_c (k f n : Int) (b : ByteArray) (w : World) (hs : b.size ≤ 140737488351232) (hk : k = 2) :
    Calls Tryd.prog 65 #[.agg #[.int .i64 k, .int .i64 f, .int .i64 n, .string b]] w (GivesO w ({ zP 2 with pr := (aOf (sB b)).1, code := (aOf (sB b)).2.1 }, (aOf (sB b)).2.2)) := by
  subst hk
  go_enter Tryd.func65, Tryd.ntmps65
  go_wp2_with (first
    | (with_reducible refine wpl_box (o := ⟨some 1, .box 74 (.tmp 0), _, _, _, _⟩) rfl _ _ rfl [.int .i64 2, .int .i64 f, .int .i64 n, .string b] rfl w.heap.size rfl ?_; intro w1 h1 f1 b1 z1)
    | (with_reducible refine wpl_alloc (o := ⟨some 2, .alloc 29, _, _, _, _⟩) rfl _ rfl (zK 0) alloc_pac _ z1 ?_; intro w2 h2 f2 b2 z2; replace h1 := h1.keep b2 (by omega); have B2 : Below w.heap.size w w2 := b1.trans (b2.mono (by omega)); clear f1 b1 b2; have c0 := h1.at 0 (u := .int .i64 2) rfl)
    | (with_reducible refine wpl_alloc (o := ⟨some 4, .alloc 29, _, _, _, _⟩) rfl _ rfl (zK 0) alloc_pac _ z2 ?_; intro w3 h3 f3 b3 z3; clear c0; replace h1 := h1.keep b3 (by omega); replace f2 := f2.keep b3 (by omega); replace h2 := h2.keep b3 (by omega); replace B2 := B2.trans (b3.mono (by omega)); clear b3)
    | ((with_reducible refine wpl_at (o := ⟨none, .store 29 (.tmp 4) (.tmp 28), _, _, _, _⟩) ?_); refine wpl_storeAll rfl rfl _ _ _ rfl (w.heap.size + 1 + 1) (zK 2) (zK 0) rfl rfl info_pac (zK_one 2) h3 rfl f3 ?_; intro w4 h4 f4 k4 z4; have B4 : Below w.heap.size w w4 := B2.trans (k4.toBelow (by omega) (by simp; omega)); clear B2; replace h1 := h1.keeps k4 (by simp; omega); replace f2 := f2.keeps k4 h2.1 (by simp); replace h2 := h2.keeps k4 (by simp); clear h3 f3 k4; have c0 := h1.at 0 (u := .int .i64 2) rfl; have c1 := h1.at 1 (u := .int .i64 f) rfl; have c3 := h1.at 3 (u := .string b) rfl))
  refine (refOfAck_c b _).mono ?_
  rintro e w5 ⟨rfl, hb5⟩
  replace h1 := h1.keep hb5 (by omega)
  replace h2 := h2.keep hb5 (by omega)
  replace h4 := h4.keep hb5 (by omega)
  replace f2 := f2.keep hb5 (by omega)
  replace f4 := f4.keep hb5 (by omega)
  have B5 := B4.trans (hb5.mono B4.size)
  clear c0 c1 c3
  have e20 := h4.at 20 (u := .bool false) rfl
  have g20 := f4 20
  have e21 := h4.at 21 (u := .int .i64 0) rfl
  have g21 := f4 21
  have hone := Pac.one ({ zP 2 with pr := (aOf (sB b)).1, code := (aOf (sB b)).2.1 } : Pac) Nl Nl rfl rfl
  go_wp2_with (first
    | ((with_reducible refine wpl_at (o := ⟨some 136, .load 29 (.tmp 4), _, _, _, _⟩) ?_); refine wpl_loadAt rfl _ _ rfl (w.heap.size + 1 + 1) 0 rfl (({ zP 2 with pr := (aOf (sB b)).1, code := (aOf (sB b)).2.1 } : Pac).cells Nl Nl) _ (((h4).set 20 (.bool (aOf (sB b)).1) (show 20 < 24 by decide)).set 21 (.int .i64 (aOf (sB b)).2.1) (show 21 < 24 by decide)).range Tryd.underlying29 rfl info_pac ?_)
    | ((with_reducible refine wpl_at (o := ⟨none, .store 29 (.tmp 2) (.tmp 136), _, _, _, _⟩) ?_); refine wpl_storeAll rfl rfl _ _ _ rfl (w.heap.size + 1) (({ zP 2 with pr := (aOf (sB b)).1, code := (aOf (sB b)).2.1 } : Pac).cells Nl Nl) (zK 0) rfl rfl info_pac hone (((h2).other _ _ _ (by simp)).other _ _ _ (by simp)) rfl (((f2).set _ _).set _ _) ?_; intro w9 h9 f9 k9 z9))
  refine bodyPost_ret (v := .tuple #[.agg ((({ zP 2 with pr := (aOf (sB b)).1, code := (aOf (sB b)).2.1 } : Pac).cells Nl Nl)).toArray, .int .i64 (aOf (sB b)).2.2]) (results_cell_tmp Tryd.results65 rfl (ret_pac h9 rfl) rfl) rfl ?_
  have B6 := ((B5).setCell (p := ⟨(w.heap.size + 1 + 1), 20, none⟩) (by show w.heap.size ≤ w.heap.size + 1 + 1; omega) (.bool (aOf (sB b)).1)).setCell (p := ⟨(w.heap.size + 1 + 1), 21, none⟩) (by show w.heap.size ≤ w.heap.size + 1 + 1; omega) (.int .i64 (aOf (sB b)).2.1)
  exact ⟨Nl, Nl, rfl, PacOwn.nil _ _ rfl rfl, B6.trans (k9.toBelow B6.size (by simp))⟩

set_option maxRecDepth 100000 in
set_option maxHeartbeats 8000000 in
theorem refToldI4_c (k f n : Int) (b : ByteArray) (w : World) (hs : b.size ≤ 140737488351232) (hk : k = 4) :
    Calls Tryd.prog 65 #[.agg #[.int .i64 k, .int .i64 f, .int .i64 n, .string b]] w (GivesO w ({ zP 4 with id := (pOfId (sB b)).1 }, (pOfId (sB b)).2)) := by
  subst hk
  go_enter Tryd.func65, Tryd.ntmps65
  go_wp2_with (first
    | (with_reducible refine wpl_box (o := ⟨some 1, .box 74 (.tmp 0), _, _, _, _⟩) rfl _ _ rfl [.int .i64 4, .int .i64 f, .int .i64 n, .string b] rfl w.heap.size rfl ?_; intro w1 h1 f1 b1 z1)
    | (with_reducible refine wpl_alloc (o := ⟨some 2, .alloc 29, _, _, _, _⟩) rfl _ rfl (zK 0) alloc_pac _ z1 ?_; intro w2 h2 f2 b2 z2; replace h1 := h1.keep b2 (by omega); have B2 : Below w.heap.size w w2 := b1.trans (b2.mono (by omega)); clear f1 b1 b2; have c0 := h1.at 0 (u := .int .i64 4) rfl)
    | (with_reducible refine wpl_alloc (o := ⟨some 4, .alloc 29, _, _, _, _⟩) rfl _ rfl (zK 0) alloc_pac _ z2 ?_; intro w3 h3 f3 b3 z3; clear c0; replace h1 := h1.keep b3 (by omega); replace f2 := f2.keep b3 (by omega); replace h2 := h2.keep b3 (by omega); replace B2 := B2.trans (b3.mono (by omega)); clear b3)
    | ((with_reducible refine wpl_at (o := ⟨none, .store 29 (.tmp 4) (.tmp 28), _, _, _, _⟩) ?_); refine wpl_storeAll rfl rfl _ _ _ rfl (w.heap.size + 1 + 1) (zK 4) (zK 0) rfl rfl info_pac (zK_one 4) h3 rfl f3 ?_; intro w4 h4 f4 k4 z4; have B4 : Below w.heap.size w w4 := B2.trans (k4.toBelow (by omega) (by simp; omega)); clear B2; replace h1 := h1.keeps k4 (by simp; omega); replace f2 := f2.keeps k4 h2.1 (by simp); replace h2 := h2.keeps k4 (by simp); clear h3 f3 k4; have c0 := h1.at 0 (u := .int .i64 4) rfl; have c1 := h1.at 1 (u := .int .i64 f) rfl; have c3 := h1.at 3 (u := .string b) rfl))
  refine (refOfId_c b _ hs).mono ?_
  rintro e w5 ⟨rfl, hb5⟩
  replace h1 := h1.keep hb5 (by omega)
  replace h2 := h2.keep hb5 (by omega)
  replace h4 := h4.keep hb5 (by omega)
  replace f2 := f2.keep hb5 (by omega)
  replace f4 := f4.keep hb5 (by omega)
  have B5 := B4.trans (hb5.mono B4.size)
  clear c0 c1 c3
  have e1 := h4.at 1 (u := .int .i64 0) rfl
  have g1 := f4 1
  have hone := Pac.one ({ zP 4 with id := (pOfId (sB b)).1 } : Pac) Nl Nl rfl rfl
  go_wp2_with (first
    | ((with_reducible refine wpl_at (o := ⟨some 136, .load 29 (.tmp 4), _, _, _, _⟩) ?_); refine wpl_loadAt rfl _ _ rfl (w.heap.size + 1 + 1) 0 rfl (({ zP 4 with id := (pOfId (sB b)).1 } : Pac).cells Nl Nl) _ ((h4).set 1 (.int .i64 (pOfId (sB b)).1) (show 1 < 24 by decide)).range Tryd.underlying29 rfl info_pac ?_)
    | ((with_reducible refine wpl_at (o := ⟨none, .store 29 (.tmp 2) (.tmp 136), _, _, _, _⟩) ?_); refine wpl_storeAll rfl rfl _ _ _ rfl (w.heap.size + 1) (({ zP 4 with id := (pOfId (sB b)).1 } : Pac).cells Nl Nl) (zK 0) rfl rfl info_pac hone ((h2).other _ _ _ (by simp)) rfl ((f2).set _ _) ?_; intro w9 h9 f9 k9 z9))
  refine bodyPost_ret (v := .tuple #[.agg ((({ zP 4 with id := (pOfId (sB b)).1 } : Pac).cells Nl Nl)).toArray, .int .i64 (pOfId (sB b)).2]) (results_cell_tmp Tryd.results65 rfl (ret_pac h9 rfl) rfl) rfl ?_
  have B6 := (B5).setCell (p := ⟨(w.heap.size + 1 + 1), 1, none⟩) (by show w.heap.size ≤ w.heap.size + 1 + 1; omega) (.int .i64 (pOfId (sB b)).1)
  exact ⟨Nl, Nl, rfl, PacOwn.nil _ _ rfl rfl, B6.trans (k9.toBelow B6.size (by simp))⟩

set_option maxRecDepth 100000 in
set_option maxHeartbeats 8000000 in
theorem refToldI5_c (k f n : Int) (b : ByteArray) (w : World) (hs : b.size ≤ 140737488351232) (hk : k = 5) :
    Calls Tryd.prog 65 #[.agg #[.int .i64 k, .int .i64 f, .int .i64 n, .string b]] w (GivesO w ({ zP 5 with id := (pOfId (sB b)).1 }, (pOfId (sB b)).2)) := by
  subst hk
  go_enter Tryd.func65, Tryd.ntmps65
  go_wp2_with (first
    | (with_reducible refine wpl_box (o := ⟨some 1, .box 74 (.tmp 0), _, _, _, _⟩) rfl _ _ rfl [.int .i64 5, .int .i64 f, .int .i64 n, .string b] rfl w.heap.size rfl ?_; intro w1 h1 f1 b1 z1)
    | (with_reducible refine wpl_alloc (o := ⟨some 2, .alloc 29, _, _, _, _⟩) rfl _ rfl (zK 0) alloc_pac _ z1 ?_; intro w2 h2 f2 b2 z2; replace h1 := h1.keep b2 (by omega); have B2 : Below w.heap.size w w2 := b1.trans (b2.mono (by omega)); clear f1 b1 b2; have c0 := h1.at 0 (u := .int .i64 5) rfl)
    | (with_reducible refine wpl_alloc (o := ⟨some 4, .alloc 29, _, _, _, _⟩) rfl _ rfl (zK 0) alloc_pac _ z2 ?_; intro w3 h3 f3 b3 z3; clear c0; replace h1 := h1.keep b3 (by omega); replace f2 := f2.keep b3 (by omega); replace h2 := h2.keep b3 (by omega); replace B2 := B2.trans (b3.mono (by omega)); clear b3)
    | ((with_reducible refine wpl_at (o := ⟨none, .store 29 (.tmp 4) (.tmp 28), _, _, _, _⟩) ?_); refine wpl_storeAll rfl rfl _ _ _ rfl (w.heap.size + 1 + 1) (zK 5) (zK 0) rfl rfl info_pac (zK_one 5) h3 rfl f3 ?_; intro w4 h4 f4 k4 z4; have B4 : Below w.heap.size w w4 := B2.trans (k4.toBelow (by omega) (by simp; omega)); clear B2; replace h1 := h1.keeps k4 (by simp; omega); replace f2 := f2.keeps k4 h2.1 (by simp); replace h2 := h2.keeps k4 (by simp); clear h3 f3 k4; have c0 := h1.at 0 (u := .int .i64 5) rfl; have c1 := h1.at 1 (u := .int .i64 f) rfl; have c3 := h1.at 3 (u := .string b) rfl))
  refine (refOfId_c b _ hs).mono ?_
  rintro e w5 ⟨rfl, hb5⟩
  replace h1 := h1.keep hb5 (by omega)
  replace h2 := h2.keep hb5 (by omega)
  replace h4 := h4.keep hb5 (by omega)
  replace f2 := f2.keep hb5 (by omega)
  replace f4 := f4.keep hb5 (by omega)
  have B5 := B4.trans (hb5.mono B4.size)
  clear c0 c1 c3
  have e1 := h4.at 1 (u := .int .i64 0) rfl
  have g1 := f4 1
  have hone := Pac.one ({ zP 5 with id := (pOfId (sB b)).1 } : Pac) Nl Nl rfl rfl
  go_wp2_with (first
    | ((with_reducible refine wpl_at (o := ⟨some 136, .load 29 (.tmp 4), _, _, _, _⟩) ?_); refine wpl_loadAt rfl _ _ rfl (w.heap.size + 1 + 1) 0 rfl (({ zP 5 with id := (pOfId (sB b)).1 } : Pac).cells Nl Nl) _ ((h4).set 1 (.int .i64 (pOfId (sB b)).1) (show 1 < 24 by decide)).range Tryd.underlying29 rfl info_pac ?_)
    | ((with_reducible refine wpl_at (o := ⟨none, .store 29 (.tmp 2) (.tmp 136), _, _, _, _⟩) ?_); refine wpl_storeAll rfl rfl _ _ _ rfl (w.heap.size + 1) (({ zP 5 with id := (pOfId (sB b)).1 } : Pac).cells Nl Nl) (zK 0) rfl rfl info_pac hone ((h2).other _ _ _ (by simp)) rfl ((f2).set _ _) ?_; intro w9 h9 f9 k9 z9))
  refine bodyPost_ret (v := .tuple #[.agg ((({ zP 5 with id := (pOfId (sB b)).1 } : Pac).cells Nl Nl)).toArray, .int .i64 (pOfId (sB b)).2]) (results_cell_tmp Tryd.results65 rfl (ret_pac h9 rfl) rfl) rfl ?_
  have B6 := (B5).setCell (p := ⟨(w.heap.size + 1 + 1), 1, none⟩) (by show w.heap.size ≤ w.heap.size + 1 + 1; omega) (.int .i64 (pOfId (sB b)).1)
  exact ⟨Nl, Nl, rfl, PacOwn.nil _ _ rfl rfl, B6.trans (k9.toBelow B6.size (by simp))⟩

set_option maxRecDepth 100000 in
set_option maxHeartbeats 8000000 in
theorem refToldI6_c (k f n : Int) (b : ByteArray) (w : World) (hs : b.size ≤ 140737488351232) (hk : k = 6) :
    Calls Tryd.prog 65 #[.agg #[.int .i64 k, .int .i64 f, .int .i64 n, .string b]] w (GivesO w ({ zP 6 with id := (pOfId (sB b)).1 }, (pOfId (sB b)).2)) := by
  subst hk
  go_enter Tryd.func65, Tryd.ntmps65
  go_wp2_with (first
    | (with_reducible refine wpl_box (o := ⟨some 1, .box 74 (.tmp 0), _, _, _, _⟩) rfl _ _ rfl [.int .i64 6, .int .i64 f, .int .i64 n, .string b] rfl w.heap.size rfl ?_; intro w1 h1 f1 b1 z1)
    | (with_reducible refine wpl_alloc (o := ⟨some 2, .alloc 29, _, _, _, _⟩) rfl _ rfl (zK 0) alloc_pac _ z1 ?_; intro w2 h2 f2 b2 z2; replace h1 := h1.keep b2 (by omega); have B2 : Below w.heap.size w w2 := b1.trans (b2.mono (by omega)); clear f1 b1 b2; have c0 := h1.at 0 (u := .int .i64 6) rfl)
    | (with_reducible refine wpl_alloc (o := ⟨some 4, .alloc 29, _, _, _, _⟩) rfl _ rfl (zK 0) alloc_pac _ z2 ?_; intro w3 h3 f3 b3 z3; clear c0; replace h1 := h1.keep b3 (by omega); replace f2 := f2.keep b3 (by omega); replace h2 := h2.keep b3 (by omega); replace B2 := B2.trans (b3.mono (by omega)); clear b3)
    | ((with_reducible refine wpl_at (o := ⟨none, .store 29 (.tmp 4) (.tmp 28), _, _, _, _⟩) ?_); refine wpl_storeAll rfl rfl _ _ _ rfl (w.heap.size + 1 + 1) (zK 6) (zK 0) rfl rfl info_pac (zK_one 6) h3 rfl f3 ?_; intro w4 h4 f4 k4 z4; have B4 : Below w.heap.size w w4 := B2.trans (k4.toBelow (by omega) (by simp; omega)); clear B2; replace h1 := h1.keeps k4 (by simp; omega); replace f2 := f2.keeps k4 h2.1 (by simp); replace h2 := h2.keeps k4 (by simp); clear h3 f3 k4; have c0 := h1.at 0 (u := .int .i64 6) rfl; have c1 := h1.at 1 (u := .int .i64 f) rfl; have c3 := h1.at 3 (u := .string b) rfl))
  refine (refOfId_c b _ hs).mono ?_
  rintro e w5 ⟨rfl, hb5⟩
  replace h1 := h1.keep hb5 (by omega)
  replace h2 := h2.keep hb5 (by omega)
  replace h4 := h4.keep hb5 (by omega)
  replace f2 := f2.keep hb5 (by omega)
  replace f4 := f4.keep hb5 (by omega)
  have B5 := B4.trans (hb5.mono B4.size)
  clear c0 c1 c3
  have e1 := h4.at 1 (u := .int .i64 0) rfl
  have g1 := f4 1
  have hone := Pac.one ({ zP 6 with id := (pOfId (sB b)).1 } : Pac) Nl Nl rfl rfl
  go_wp2_with (first
    | ((with_reducible refine wpl_at (o := ⟨some 136, .load 29 (.tmp 4), _, _, _, _⟩) ?_); refine wpl_loadAt rfl _ _ rfl (w.heap.size + 1 + 1) 0 rfl (({ zP 6 with id := (pOfId (sB b)).1 } : Pac).cells Nl Nl) _ ((h4).set 1 (.int .i64 (pOfId (sB b)).1) (show 1 < 24 by decide)).range Tryd.underlying29 rfl info_pac ?_)
    | ((with_reducible refine wpl_at (o := ⟨none, .store 29 (.tmp 2) (.tmp 136), _, _, _, _⟩) ?_); refine wpl_storeAll rfl rfl _ _ _ rfl (w.heap.size + 1) (({ zP 6 with id := (pOfId (sB b)).1 } : Pac).cells Nl Nl) (zK 0) rfl rfl info_pac hone ((h2).other _ _ _ (by simp)) rfl ((f2).set _ _) ?_; intro w9 h9 f9 k9 z9))
  refine bodyPost_ret (v := .tuple #[.agg ((({ zP 6 with id := (pOfId (sB b)).1 } : Pac).cells Nl Nl)).toArray, .int .i64 (pOfId (sB b)).2]) (results_cell_tmp Tryd.results65 rfl (ret_pac h9 rfl) rfl) rfl ?_
  have B6 := (B5).setCell (p := ⟨(w.heap.size + 1 + 1), 1, none⟩) (by show w.heap.size ≤ w.heap.size + 1 + 1; omega) (.int .i64 (pOfId (sB b)).1)
  exact ⟨Nl, Nl, rfl, PacOwn.nil _ _ rfl rfl, B6.trans (k9.toBelow B6.size (by simp))⟩

set_option maxRecDepth 100000 in
set_option maxHeartbeats 8000000 in
theorem refToldI7_c (k f n : Int) (b : ByteArray) (w : World) (hs : b.size ≤ 140737488351232) (hk : k = 7) :
    Calls Tryd.prog 65 #[.agg #[.int .i64 k, .int .i64 f, .int .i64 n, .string b]] w (GivesO w ({ zP 7 with id := (pOfId (sB b)).1 }, (pOfId (sB b)).2)) := by
  subst hk
  go_enter Tryd.func65, Tryd.ntmps65
  go_wp2_with (first
    | (with_reducible refine wpl_box (o := ⟨some 1, .box 74 (.tmp 0), _, _, _, _⟩) rfl _ _ rfl [.int .i64 7, .int .i64 f, .int .i64 n, .string b] rfl w.heap.size rfl ?_; intro w1 h1 f1 b1 z1)
    | (with_reducible refine wpl_alloc (o := ⟨some 2, .alloc 29, _, _, _, _⟩) rfl _ rfl (zK 0) alloc_pac _ z1 ?_; intro w2 h2 f2 b2 z2; replace h1 := h1.keep b2 (by omega); have B2 : Below w.heap.size w w2 := b1.trans (b2.mono (by omega)); clear f1 b1 b2; have c0 := h1.at 0 (u := .int .i64 7) rfl)
    | (with_reducible refine wpl_alloc (o := ⟨some 4, .alloc 29, _, _, _, _⟩) rfl _ rfl (zK 0) alloc_pac _ z2 ?_; intro w3 h3 f3 b3 z3; clear c0; replace h1 := h1.keep b3 (by omega); replace f2 := f2.keep b3 (by omega); replace h2 := h2.keep b3 (by omega); replace B2 := B2.trans (b3.mono (by omega)); clear b3)
    | ((with_reducible refine wpl_at (o := ⟨none, .store 29 (.tmp 4) (.tmp 28), _, _, _, _⟩) ?_); refine wpl_storeAll rfl rfl _ _ _ rfl (w.heap.size + 1 + 1) (zK 7) (zK 0) rfl rfl info_pac (zK_one 7) h3 rfl f3 ?_; intro w4 h4 f4 k4 z4; have B4 : Below w.heap.size w w4 := B2.trans (k4.toBelow (by omega) (by simp; omega)); clear B2; replace h1 := h1.keeps k4 (by simp; omega); replace f2 := f2.keeps k4 h2.1 (by simp); replace h2 := h2.keeps k4 (by simp); clear h3 f3 k4; have c0 := h1.at 0 (u := .int .i64 7) rfl; have c1 := h1.at 1 (u := .int .i64 f) rfl; have c3 := h1.at 3 (u := .string b) rfl))
  refine (refOfId_c b _ hs).mono ?_
  rintro e w5 ⟨rfl, hb5⟩
  replace h1 := h1.keep hb5 (by omega)
  replace h2 := h2.keep hb5 (by omega)
  replace h4 := h4.keep hb5 (by omega)
  replace f2 := f2.keep hb5 (by omega)
  replace f4 := f4.keep hb5 (by omega)
  have B5 := B4.trans (hb5.mono B4.size)
  clear c0 c1 c3
  have e1 := h4.at 1 (u := .int .i64 0) rfl
  have g1 := f4 1
  have hone := Pac.one ({ zP 7 with id := (pOfId (sB b)).1 } : Pac) Nl Nl rfl rfl
  go_wp2_with (first
    | ((with_reducible refine wpl_at (o := ⟨some 136, .load 29 (.tmp 4), _, _, _, _⟩) ?_); refine wpl_loadAt rfl _ _ rfl (w.heap.size + 1 + 1) 0 rfl (({ zP 7 with id := (pOfId (sB b)).1 } : Pac).cells Nl Nl) _ ((h4).set 1 (.int .i64 (pOfId (sB b)).1) (show 1 < 24 by decide)).range Tryd.underlying29 rfl info_pac ?_)
    | ((with_reducible refine wpl_at (o := ⟨none, .store 29 (.tmp 2) (.tmp 136), _, _, _, _⟩) ?_); refine wpl_storeAll rfl rfl _ _ _ rfl (w.heap.size + 1) (({ zP 7 with id := (pOfId (sB b)).1 } : Pac).cells Nl Nl) (zK 0) rfl rfl info_pac hone ((h2).other _ _ _ (by simp)) rfl ((f2).set _ _) ?_; intro w9 h9 f9 k9 z9))
  refine bodyPost_ret (v := .tuple #[.agg ((({ zP 7 with id := (pOfId (sB b)).1 } : Pac).cells Nl Nl)).toArray, .int .i64 (pOfId (sB b)).2]) (results_cell_tmp Tryd.results65 rfl (ret_pac h9 rfl) rfl) rfl ?_
  have B6 := (B5).setCell (p := ⟨(w.heap.size + 1 + 1), 1, none⟩) (by show w.heap.size ≤ w.heap.size + 1 + 1; omega) (.int .i64 (pOfId (sB b)).1)
  exact ⟨Nl, Nl, rfl, PacOwn.nil _ _ rfl rfl, B6.trans (k9.toBelow B6.size (by simp))⟩

set_option maxRecDepth 100000 in
set_option maxHeartbeats 8000000 in
theorem refToldI11_c (k f n : Int) (b : ByteArray) (w : World) (hs : b.size ≤ 140737488351232) (hk : k = 11) :
    Calls Tryd.prog 65 #[.agg #[.int .i64 k, .int .i64 f, .int .i64 n, .string b]] w (GivesO w ({ zP 11 with id := (pOfId (sB b)).1 }, (pOfId (sB b)).2)) := by
  subst hk
  go_enter Tryd.func65, Tryd.ntmps65
  go_wp2_with (first
    | (with_reducible refine wpl_box (o := ⟨some 1, .box 74 (.tmp 0), _, _, _, _⟩) rfl _ _ rfl [.int .i64 11, .int .i64 f, .int .i64 n, .string b] rfl w.heap.size rfl ?_; intro w1 h1 f1 b1 z1)
    | (with_reducible refine wpl_alloc (o := ⟨some 2, .alloc 29, _, _, _, _⟩) rfl _ rfl (zK 0) alloc_pac _ z1 ?_; intro w2 h2 f2 b2 z2; replace h1 := h1.keep b2 (by omega); have B2 : Below w.heap.size w w2 := b1.trans (b2.mono (by omega)); clear f1 b1 b2; have c0 := h1.at 0 (u := .int .i64 11) rfl)
    | (with_reducible refine wpl_alloc (o := ⟨some 4, .alloc 29, _, _, _, _⟩) rfl _ rfl (zK 0) alloc_pac _ z2 ?_; intro w3 h3 f3 b3 z3; clear c0; replace h1 := h1.keep b3 (by omega); replace f2 := f2.keep b3 (by omega); replace h2 := h2.keep b3 (by omega); replace B2 := B2.trans (b3.mono (by omega)); clear b3)
    | ((with_reducible refine wpl_at (o := ⟨none, .store 29 (.tmp 4) (.tmp 28), _, _, _, _⟩) ?_); refine wpl_storeAll rfl rfl _ _ _ rfl (w.heap.size + 1 + 1) (zK 11) (zK 0) rfl rfl info_pac (zK_one 11) h3 rfl f3 ?_; intro w4 h4 f4 k4 z4; have B4 : Below w.heap.size w w4 := B2.trans (k4.toBelow (by omega) (by simp; omega)); clear B2; replace h1 := h1.keeps k4 (by simp; omega); replace f2 := f2.keeps k4 h2.1 (by simp); replace h2 := h2.keeps k4 (by simp); clear h3 f3 k4; have c0 := h1.at 0 (u := .int .i64 11) rfl; have c1 := h1.at 1 (u := .int .i64 f) rfl; have c3 := h1.at 3 (u := .string b) rfl))
  refine (refOfId_c b _ hs).mono ?_
  rintro e w5 ⟨rfl, hb5⟩
  replace h1 := h1.keep hb5 (by omega)
  replace h2 := h2.keep hb5 (by omega)
  replace h4 := h4.keep hb5 (by omega)
  replace f2 := f2.keep hb5 (by omega)
  replace f4 := f4.keep hb5 (by omega)
  have B5 := B4.trans (hb5.mono B4.size)
  clear c0 c1 c3
  have e1 := h4.at 1 (u := .int .i64 0) rfl
  have g1 := f4 1
  have hone := Pac.one ({ zP 11 with id := (pOfId (sB b)).1 } : Pac) Nl Nl rfl rfl
  go_wp2_with (first
    | ((with_reducible refine wpl_at (o := ⟨some 136, .load 29 (.tmp 4), _, _, _, _⟩) ?_); refine wpl_loadAt rfl _ _ rfl (w.heap.size + 1 + 1) 0 rfl (({ zP 11 with id := (pOfId (sB b)).1 } : Pac).cells Nl Nl) _ ((h4).set 1 (.int .i64 (pOfId (sB b)).1) (show 1 < 24 by decide)).range Tryd.underlying29 rfl info_pac ?_)
    | ((with_reducible refine wpl_at (o := ⟨none, .store 29 (.tmp 2) (.tmp 136), _, _, _, _⟩) ?_); refine wpl_storeAll rfl rfl _ _ _ rfl (w.heap.size + 1) (({ zP 11 with id := (pOfId (sB b)).1 } : Pac).cells Nl Nl) (zK 0) rfl rfl info_pac hone ((h2).other _ _ _ (by simp)) rfl ((f2).set _ _) ?_; intro w9 h9 f9 k9 z9))
  refine bodyPost_ret (v := .tuple #[.agg ((({ zP 11 with id := (pOfId (sB b)).1 } : Pac).cells Nl Nl)).toArray, .int .i64 (pOfId (sB b)).2]) (results_cell_tmp Tryd.results65 rfl (ret_pac h9 rfl) rfl) rfl ?_
  have B6 := (B5).setCell (p := ⟨(w.heap.size + 1 + 1), 1, none⟩) (by show w.heap.size ≤ w.heap.size + 1 + 1; omega) (.int .i64 (pOfId (sB b)).1)
  exact ⟨Nl, Nl, rfl, PacOwn.nil _ _ rfl rfl, B6.trans (k9.toBelow B6.size (by simp))⟩

set_option maxRecDepth 100000 in
set_option maxHeartbeats 8000000 in
theorem refTold8_c (k f n : Int) (b : ByteArray) (w : World) (hs : b.size ≤ 140737488351232) (hk : k = 8) :
    Calls Tryd.prog 65 #[.agg #[.int .i64 k, .int .i64 f, .int .i64 n, .string b]] w (GivesO w ({ zP 8 with id := (sbOf (sB b) false).1, fs := (sbOf (sB b) false).2.1 }, (sbOf (sB b) false).2.2)) := by
  subst hk
  go_enter Tryd.func65, Tryd.ntmps65
  go_wp2_with (first
    | (with_reducible refine wpl_box (o := ⟨some 1, .box 74 (.tmp 0), _, _, _, _⟩) rfl _ _ rfl [.int .i64 8, .int .i64 f, .int .i64 n, .string b] rfl w.heap.size rfl ?_; intro w1 h1 f1 b1 z1)
    | (with_reducible refine wpl_alloc (o := ⟨some 2, .alloc 29, _, _, _, _⟩) rfl _ rfl (zK 0) alloc_pac _ z1 ?_; intro w2 h2 f2 b2 z2; replace h1 := h1.keep b2 (by omega); have B2 : Below w.heap.size w w2 := b1.trans (b2.mono (by omega)); clear f1 b1 b2; have c0 := h1.at 0 (u := .int .i64 8) rfl)
    | (with_reducible refine wpl_alloc (o := ⟨some 4, .alloc 29, _, _, _, _⟩) rfl _ rfl (zK 0) alloc_pac _ z2 ?_; intro w3 h3 f3 b3 z3; clear c0; replace h1 := h1.keep b3 (by omega); replace f2 := f2.keep b3 (by omega); replace h2 := h2.keep b3 (by omega); replace B2 := B2.trans (b3.mono (by omega)); clear b3)
    | ((with_reducible refine wpl_at (o := ⟨none, .store 29 (.tmp 4) (.tmp 28), _, _, _, _⟩) ?_); refine wpl_storeAll rfl rfl _ _ _ rfl (w.heap.size + 1 + 1) (zK 8) (zK 0) rfl rfl info_pac (zK_one 8) h3 rfl f3 ?_; intro w4 h4 f4 k4 z4; have B4 : Below w.heap.size w w4 := B2.trans (k4.toBelow (by omega) (by simp; omega)); clear B2; replace h1 := h1.keeps k4 (by simp; omega); replace f2 := f2.keeps k4 h2.1 (by simp); replace h2 := h2.keeps k4 (by simp); clear h3 f3 k4; have c0 := h1.at 0 (u := .int .i64 8) rfl; have c1 := h1.at 1 (u := .int .i64 f) rfl; have c3 := h1.at 3 (u := .string b) rfl))
  refine (refSubsOf_c b false _ hs).mono ?_
  rintro e w5 ⟨v, rfl, ho5, hb5⟩
  have hz5 := hb5.size
  replace h1 := h1.keep hb5 (by omega)
  replace h2 := h2.keep hb5 (by omega)
  replace h4 := h4.keep hb5 (by omega)
  replace f2 := f2.keep hb5 (by omega)
  replace f4 := f4.keep hb5 (by omega)
  have B5 := B4.trans (hb5.mono B4.size)
  clear c0 c1 c3
  obtain ⟨va, vn, hv⟩ := Owns.slice ho5
  have hln : (sbOf (sB b) false).2.1.length ≤ 9 := sbOf_len _ _
  obtain ⟨ln, hlen⟩ : ∃ ln, (sbOf (sB b) false).2.1.length = ln := ⟨_, rfl⟩
  rw [hlen] at hv hln
  subst hv
  have HO := hd ho5; have HL := hd hlen
  clear ho5 hlen
  have e1 := h4.at 1 (u := .int .i64 0) rfl
  have g1 := f4 1
  have e22 := h4.at 22 (u := .slice none 0 0) rfl
  have g22 := f4 22
  have hone := Pac.one ({ zP 8 with id := (sbOf (sB b) false).1, fs := (sbOf (sB b) false).2.1 } : Pac) (.slice va ln vn) Nl rfl rfl
  go_wp2_with (first
    | ((with_reducible refine wpl_at (o := ⟨some 136, .load 29 (.tmp 4), _, _, _, _⟩) ?_); refine wpl_loadAt rfl _ _ rfl (w.heap.size + 1 + 1) 0 rfl (({ zP 8 with id := (sbOf (sB b) false).1, fs := (sbOf (sB b) false).2.1 } : Pac).cells (.slice va ln vn) Nl) _ (((h4).set 1 (.int .i64 (sbOf (sB b) false).1) (show 1 < 24 by decide)).set 22 ((.slice va ln vn)) (show 22 < 24 by decide)).range Tryd.underlying29 rfl info_pac ?_)
    | ((with_reducible refine wpl_at (o := ⟨none, .store 29 (.tmp 2) (.tmp 136), _, _, _, _⟩) ?_); refine wpl_storeAll rfl rfl _ _ _ rfl (w.heap.size + 1) (({ zP 8 with id := (sbOf (sB b) false).1, fs := (sbOf (sB b) false).2.1 } : Pac).cells (.slice va ln vn) Nl) (zK 0) rfl rfl info_pac hone (((h2).other _ _ _ (by simp)).other _ _ _ (by simp)) rfl (((f2).set _ _).set _ _) ?_; intro w9 h9 f9 k9 z9))
  refine bodyPost_ret (v := .tuple #[.agg ((({ zP 8 with id := (sbOf (sB b) false).1, fs := (sbOf (sB b) false).2.1 } : Pac).cells (.slice va ln vn) Nl)).toArray, .int .i64 (sbOf (sB b) false).2.2]) (results_cell_tmp Tryd.results65 rfl (ret_pac h9 rfl) rfl) rfl ?_
  have B6 := ((B5).setCell (p := ⟨(w.heap.size + 1 + 1), 1, none⟩) (by show w.heap.size ≤ w.heap.size + 1 + 1; omega) (.int .i64 (sbOf (sB b) false).1)).setCell (p := ⟨(w.heap.size + 1 + 1), 22, none⟩) (by show w.heap.size ≤ w.heap.size + 1 + 1; omega) ((.slice va ln vn))
  have ho6 := Owns.keeps (Owns.set (Owns.set HO.out (p := ⟨(w.heap.size + 1 + 1), 1, none⟩) (by show w.heap.size + 1 + 1 < w4.heap.size; omega) (.int .i64 (sbOf (sB b) false).1)) (p := ⟨(w.heap.size + 1 + 1), 22, none⟩) (by show w.heap.size + 1 + 1 < w4.heap.size; omega) (.slice va ln vn)) k9 (by intro j hj; simp at hj; omega)
  refine ⟨_, Nl, rfl, ⟨Owns.le ho6 (by omega), OwnI.nil _ _, ?_, by simp [zP, Pac.zero]⟩, B6.trans (k9.toBelow B6.size (by simp))⟩
  show (sbOf (sB b) false).2.1.length * 24 ≤ 140737488351232
  have := HL.out
  omega

set_option maxRecDepth 100000 in
set_option maxHeartbeats 8000000 in
theorem refTold10_c (k f n : Int) (b : ByteArray) (w : World) (hs : b.size ≤ 140737488351232) (hk : k = 10) :
    Calls Tryd.prog 65 #[.agg #[.int .i64 k, .int .i64 f, .int .i64 n, .string b]] w (GivesO w ({ zP 10 with id := (sbOf (sB b) true).1, fs := (sbOf (sB b) true).2.1 }, (sbOf (sB b) true).2.2)) := by
  subst hk
  go_enter Tryd.func65, Tryd.ntmps65
  go_wp2_with (first
    | (with_reducible refine wpl_box (o := ⟨some 1, .box 74 (.tmp 0), _, _, _, _⟩) rfl _ _ rfl [.int .i64 10, .int .i64 f, .int .i64 n, .string b] rfl w.heap.size rfl ?_; intro w1 h1 f1 b1 z1)
    | (with_reducible refine wpl_alloc (o := ⟨some 2, .alloc 29, _, _, _, _⟩) rfl _ rfl (zK 0) alloc_pac _ z1 ?_; intro w2 h2 f2 b2 z2; replace h1 := h1.keep b2 (by omega); have B2 : Below w.heap.size w w2 := b1.trans (b2.mono (by omega)); clear f1 b1 b2; have c0 := h1.at 0 (u := .int .i64 10) rfl)
    | (with_reducible refine wpl_alloc (o := ⟨some 4, .alloc 29, _, _, _, _⟩) rfl _ rfl (zK 0) alloc_pac _ z2 ?_; intro w3 h3 f3 b3 z3; clear c0; replace h1 := h1.keep b3 (by omega); replace f2 := f2.keep b3 (by omega); replace h2 := h2.keep b3 (by omega); replace B2 := B2.trans (b3.mono (by omega)); clear b3)
    | ((with_reducible refine wpl_at (o := ⟨none, .store 29 (.tmp 4) (.tmp 28), _, _, _, _⟩) ?_); refine wpl_storeAll rfl rfl _ _ _ rfl (w.heap.size + 1 + 1) (zK 10) (zK 0) rfl rfl info_pac (zK_one 10) h3 rfl f3 ?_; intro w4 h4 f4 k4 z4; have B4 : Below w.heap.size w w4 := B2.trans (k4.toBelow (by omega) (by simp; omega)); clear B2; replace h1 := h1.keeps k4 (by simp; omega); replace f2 := f2.keeps k4 h2.1 (by simp); replace h2 := h2.keeps k4 (by simp); clear h3 f3 k4; have c0 := h1.at 0 (u := .int .i64 10) rfl; have c1 := h1.at 1 (u := .int .i64 f) rfl; have c3 := h1.at 3 (u := .string b) rfl))
  refine (refSubsOf_c b true _ hs).mono ?_
  rintro e w5 ⟨v, rfl, ho5, hb5⟩
  have hz5 := hb5.size
  replace h1 := h1.keep hb5 (by omega)
  replace h2 := h2.keep hb5 (by omega)
  replace h4 := h4.keep hb5 (by omega)
  replace f2 := f2.keep hb5 (by omega)
  replace f4 := f4.keep hb5 (by omega)
  have B5 := B4.trans (hb5.mono B4.size)
  clear c0 c1 c3
  obtain ⟨va, vn, hv⟩ := Owns.slice ho5
  have hln : (sbOf (sB b) true).2.1.length ≤ 9 := sbOf_len _ _
  obtain ⟨ln, hlen⟩ : ∃ ln, (sbOf (sB b) true).2.1.length = ln := ⟨_, rfl⟩
  rw [hlen] at hv hln
  subst hv
  have HO := hd ho5; have HL := hd hlen
  clear ho5 hlen
  have e1 := h4.at 1 (u := .int .i64 0) rfl
  have g1 := f4 1
  have e22 := h4.at 22 (u := .slice none 0 0) rfl
  have g22 := f4 22
  have hone := Pac.one ({ zP 10 with id := (sbOf (sB b) true).1, fs := (sbOf (sB b) true).2.1 } : Pac) (.slice va ln vn) Nl rfl rfl
  go_wp2_with (first
    | ((with_reducible refine wpl_at (o := ⟨some 136, .load 29 (.tmp 4), _, _, _, _⟩) ?_); refine wpl_loadAt rfl _ _ rfl (w.heap.size + 1 + 1) 0 rfl (({ zP 10 with id := (sbOf (sB b) true).1, fs := (sbOf (sB b) true).2.1 } : Pac).cells (.slice va ln vn) Nl) _ (((h4).set 1 (.int .i64 (sbOf (sB b) true).1) (show 1 < 24 by decide)).set 22 ((.slice va ln vn)) (show 22 < 24 by decide)).range Tryd.underlying29 rfl info_pac ?_)
    | ((with_reducible refine wpl_at (o := ⟨none, .store 29 (.tmp 2) (.tmp 136), _, _, _, _⟩) ?_); refine wpl_storeAll rfl rfl _ _ _ rfl (w.heap.size + 1) (({ zP 10 with id := (sbOf (sB b) true).1, fs := (sbOf (sB b) true).2.1 } : Pac).cells (.slice va ln vn) Nl) (zK 0) rfl rfl info_pac hone (((h2).other _ _ _ (by simp)).other _ _ _ (by simp)) rfl (((f2).set _ _).set _ _) ?_; intro w9 h9 f9 k9 z9))
  refine bodyPost_ret (v := .tuple #[.agg ((({ zP 10 with id := (sbOf (sB b) true).1, fs := (sbOf (sB b) true).2.1 } : Pac).cells (.slice va ln vn) Nl)).toArray, .int .i64 (sbOf (sB b) true).2.2]) (results_cell_tmp Tryd.results65 rfl (ret_pac h9 rfl) rfl) rfl ?_
  have B6 := ((B5).setCell (p := ⟨(w.heap.size + 1 + 1), 1, none⟩) (by show w.heap.size ≤ w.heap.size + 1 + 1; omega) (.int .i64 (sbOf (sB b) true).1)).setCell (p := ⟨(w.heap.size + 1 + 1), 22, none⟩) (by show w.heap.size ≤ w.heap.size + 1 + 1; omega) ((.slice va ln vn))
  have ho6 := Owns.keeps (Owns.set (Owns.set HO.out (p := ⟨(w.heap.size + 1 + 1), 1, none⟩) (by show w.heap.size + 1 + 1 < w4.heap.size; omega) (.int .i64 (sbOf (sB b) true).1)) (p := ⟨(w.heap.size + 1 + 1), 22, none⟩) (by show w.heap.size + 1 + 1 < w4.heap.size; omega) (.slice va ln vn)) k9 (by intro j hj; simp at hj; omega)
  refine ⟨_, Nl, rfl, ⟨Owns.le ho6 (by omega), OwnI.nil _ _, ?_, by simp [zP, Pac.zero]⟩, B6.trans (k9.toBelow B6.size (by simp))⟩
  show (sbOf (sB b) true).2.1.length * 24 ≤ 140737488351232
  have := HL.out
  omega

set_option maxRecDepth 100000 in
set_option maxHeartbeats 8000000 in
theorem refTold9_c (k f n : Int) (b : ByteArray) (w : World) (hs : b.size ≤ 140737488351232) (hk : k = 9) :
    Calls Tryd.prog 65 #[.agg #[.int .i64 k, .int .i64 f, .int .i64 n, .string b]] w (GivesO w ({ zP 9 with id := (sbOfAck (sB b)).1, cs := (sbOfAck (sB b)).2.1 }, (sbOfAck (sB b)).2.2)) := by
  subst hk
  go_enter Tryd.func65, Tryd.ntmps65
  go_wp2_with (first
    | (with_reducible refine wpl_box (o := ⟨some 1, .box 74 (.tmp 0), _, _, _, _⟩) rfl _ _ rfl [.int .i64 9, .int .i64 f, .int .i64 n, .string b] rfl w.heap.size rfl ?_; intro w1 h1 f1 b1 z1)
    | (with_reducible refine wpl_alloc (o := ⟨some 2, .alloc 29, _, _, _, _⟩) rfl _ rfl (zK 0) alloc_pac _ z1 ?_; intro w2 h2 f2 b2 z2; replace h1 := h1.keep b2 (by omega); have B2 : Below w.heap.size w w2 := b1.trans (b2.mono (by omega)); clear f1 b1 b2; have c0 := h1.at 0 (u := .int .i64 9) rfl)
    | (with_reducible refine wpl_alloc (o := ⟨some 4, .alloc 29, _, _, _, _⟩) rfl _ rfl (zK 0) alloc_pac _ z2 ?_; intro w3 h3 f3 b3 z3; clear c0; replace h1 := h1.keep b3 (by omega); replace f2 := f2.keep b3 (by omega); replace h2 := h2.keep b3 (by omega); replace B2 := B2.trans (b3.mono (by omega)); clear b3)
    | ((with_reducible refine wpl_at (o := ⟨none, .store 29 (.tmp 4) (.tmp 28), _, _, _, _⟩) ?_); refine wpl_storeAll rfl rfl _ _ _ rfl (w.heap.size + 1 + 1) (zK 9) (zK 0) rfl rfl info_pac (zK_one 9) h3 rfl f3 ?_; intro w4 h4 f4 k4 z4; have B4 : Below w.heap.size w w4 := B2.trans (k4.toBelow (by omega) (by simp; omega)); clear B2; replace h1 := h1.keeps k4 (by simp; omega); replace f2 := f2.keeps k4 h2.1 (by simp); replace h2 := h2.keeps k4 (by simp); clear h3 f3 k4; have c0 := h1.at 0 (u := .int .i64 9) rfl; have c1 := h1.at 1 (u := .int .i64 f) rfl; have c3 := h1.at 3 (u := .string b) rfl))
  refine (refOfAck15_c b _ hs).mono ?_
  rintro e w5 ⟨v, rfl, ho5, hb5⟩
  have hz5 := hb5.size
  replace h1 := h1.keep hb5 (by omega)
  replace h2 := h2.keep hb5 (by omega)
  replace h4 := h4.keep hb5 (by omega)
  replace f2 := f2.keep hb5 (by omega)
  replace f4 := f4.keep hb5 (by omega)
  have B5 := B4.trans (hb5.mono B4.size)
  clear c0 c1 c3
  obtain ⟨va, vn, hv⟩ := Owns.slice ho5
  have hln : (sbOfAck (sB b)).2.1.length ≤ 9 := by have := sbOfAck_len (sB b); omega
  obtain ⟨ln, hlen⟩ : ∃ ln, (sbOfAck (sB b)).2.1.length = ln := ⟨_, rfl⟩
  rw [hlen] at hv hln
  subst hv
  have HO := hd ho5; have HL := hd hlen
  clear ho5 hlen
  have e1 := h4.at 1 (u := .int .i64 0) rfl
  have g1 := f4 1
  have e23 := h4.at 23 (u := .slice none 0 0) rfl
  have g23 := f4 23
  have hone := Pac.one ({ zP 9 with id := (sbOfAck (sB b)).1, cs := (sbOfAck (sB b)).2.1 } : Pac) Nl (.slice va ln vn) rfl rfl
  go_wp2_with (first
    | ((with_reducible refine wpl_at (o := ⟨some 136, .load 29 (.tmp 4), _, _, _, _⟩) ?_); refine wpl_loadAt rfl _ _ rfl (w.heap.size + 1 + 1) 0 rfl (({ zP 9 with id := (sbOfAck (sB b)).1, cs := (sbOfAck (sB b)).2.1 } : Pac).cells Nl (.slice va ln vn)) _ (((h4).set 1 (.int .i64 (sbOfAck (sB b)).1) (show 1 < 24 by decide)).set 23 ((.slice va ln vn)) (show 23 < 24 by decide)).range Tryd.underlying29 rfl info_pac ?_)
    | ((with_reducible refine wpl_at (o := ⟨none, .store 29 (.tmp 2) (.tmp 136), _, _, _, _⟩) ?_); refine wpl_storeAll rfl rfl _ _ _ rfl (w.heap.size + 1) (({ zP 9 with id := (sbOfAck (sB b)).1, cs := (sbOfAck (sB b)).2.1 } : Pac).cells Nl (.slice va ln vn)) (zK 0) rfl rfl info_pac hone (((h2).other _ _ _ (by simp)).other _ _ _ (by simp)) rfl (((f2).set _ _).set _ _) ?_; intro w9 h9 f9 k9 z9))
  refine bodyPost_ret (v := .tuple #[.agg ((({ zP 9 with id := (sbOfAck (sB b)).1, cs := (sbOfAck (sB b)).2.1 } : Pac).cells Nl (.slice va ln vn))).toArray, .int .i64 (sbOfAck (sB b)).2.2]) (results_cell_tmp Tryd.results65 rfl (ret_pac h9 rfl) rfl) rfl ?_
  have B6 := ((B5).setCell (p := ⟨(w.heap.size + 1 + 1), 1, none⟩) (by show w.heap.size ≤ w.heap.size + 1 + 1; omega) (.int .i64 (sbOfAck (sB b)).1)).setCell (p := ⟨(w.heap.size + 1 + 1), 23, none⟩) (by show w.heap.size ≤ w.heap.size + 1 + 1; omega) ((.slice va ln vn))
  have ho6 := Owns.keeps (Owns.set (Owns.set HO.out (p := ⟨(w.heap.size + 1 + 1), 1, none⟩) (by show w.heap.size + 1 + 1 < w4.heap.size; omega) (.int .i64 (sbOfAck (sB b)).1)) (p := ⟨(w.heap.size + 1 + 1), 23, none⟩) (by show w.heap.size + 1 + 1 < w4.heap.size; omega) (.slice va ln vn)) k9 (by intro j hj; simp at hj; omega)
  refine ⟨Nl, _, rfl, ⟨OwnW.nil _ _, Owns.le ho6 (by omega), by simp [zP, Pac.zero], ?_⟩, B6.trans (k9.toBelow B6.size (by simp))⟩
  show (sbOfAck (sB b)).2.1.length * 8 ≤ 140737488351232
  have := HL.out
  omega

set_option maxRecDepth 100000 in
set_option maxHeartbeats 8000000 in
theorem refToldOE_c (k f n : Int) (b : ByteArray) (w : World) (hs : b.size ≤ 140737488351232) (b1 : (k == 1) = false) (b2 : (k == 2) = false) (b3 : (k == 3) = false) (b4 : (k == 4) = false) (b5 : (k == 5) = false) (b6 : (k == 6) = false) (b7 : (k == 7) = false) (b8 : (k == 8) = false) (b9 : (k == 9) = false) (b10 : (k == 10) = false) (b11 : (k == 11) = false) (hbe : sB b = []) :
    Calls Tryd.prog 65 #[.agg #[.int .i64 k, .int .i64 f, .int .i64 n, .string b]] w (GivesO w (zP k, 0)) := by
  have hne : (!b.toList.isEmpty) = false := by rw [neq_empty b, hbe]; rfl
  clear hbe
  go_enter Tryd.func65, Tryd.ntmps65
  go_wp2_with (first
    | (with_reducible refine wpl_box (o := ⟨some 1, .box 74 (.tmp 0), _, _, _, _⟩) rfl _ _ rfl [.int .i64 k, .int .i64 f, .int .i64 n, .string b] rfl w.heap.size rfl ?_; intro w1 h1 f1 b1 z1)
    | (with_reducible refine wpl_alloc (o := ⟨some 2, .alloc 29, _, _, _, _⟩) rfl _ rfl (zK 0) alloc_pac _ z1 ?_; intro w2 h2 f2 b2 z2; replace h1 := h1.keep b2 (by omega); have B2 : Below w.heap.size w w2 := b1.trans (b2.mono (by omega)); clear f1 b1 b2; have c0 := h1.at 0 (u := .int .i64 k) rfl)
    | (with_reducible refine wpl_alloc (o := ⟨some 4, .alloc 29, _, _, _, _⟩) rfl _ rfl (zK 0) alloc_pac _ z2 ?_; intro w3 h3 f3 b3 z3; clear c0; replace h1 := h1.keep b3 (by omega); replace f2 := f2.keep b3 (by omega); replace h2 := h2.keep b3 (by omega); replace B2 := B2.trans (b3.mono (by omega)); clear b3)
    | ((with_reducible refine wpl_at (o := ⟨none, .store 29 (.tmp 4) (.tmp 28), _, _, _, _⟩) ?_); refine wpl_storeAll rfl rfl _ _ _ rfl (w.heap.size + 1 + 1) (zK k) (zK 0) rfl rfl info_pac (zK_one k) h3 rfl f3 ?_; intro w4 h4 f4 k4 z4; have B4 : Below w.heap.size w w4 := B2.trans (k4.toBelow (by omega) (by simp; omega)); clear B2; replace h1 := h1.keeps k4 (by simp; omega); replace f2 := f2.keeps k4 h2.1 (by simp); replace h2 := h2.keeps k4 (by simp); clear h3 f3 k4; have c0 := h1.at 0 (u := .int .i64 k) rfl; have c1 := h1.at 1 (u := .int .i64 f) rfl; have c3 := h1.at 3 (u := .string b) rfl)
    | ((with_reducible refine wpl_at (o := ⟨some 136, .load 29 (.tmp 4), _, _, _, _⟩) ?_); refine wpl_loadAt rfl _ _ rfl (w.heap.size + 1 + 1) 0 rfl ((zP k).cells Nl Nl) _ (h4).range Tryd.underlying29 rfl info_pac ?_)
    | ((with_reducible refine wpl_at (o := ⟨none, .store 29 (.tmp 2) (.tmp 136), _, _, _, _⟩) ?_); refine wpl_storeAll rfl rfl _ _ _ rfl (w.heap.size + 1) ((zP k).cells Nl Nl) (zK 0) rfl rfl info_pac ((zP k).one Nl Nl rfl rfl) (h2) rfl (f2) ?_; intro w9 h9 f9 k9 z9))
  refine bodyPost_ret (v := .tuple #[.agg (((zP k).cells Nl Nl)).toArray, .int .i64 0]) (results_cell_tmp Tryd.results65 rfl (ret_pac h9 rfl) rfl) rfl ?_
  exact ⟨Nl, Nl, rfl, PacOwn.nil _ _ rfl rfl, B4.trans (k9.toBelow B4.size (by simp))⟩

set_option maxRecDepth 100000 in
set_option maxHeartbeats 8000000 in
theorem refToldON_c (k f n : Int) (b : ByteArray) (w : World) (hs : b.size ≤ 140737488351232) (b1 : (k == 1) = false) (b2 : (k == 2) = false) (b3 : (k == 3) = false) (b4 : (k == 4) = false) (b5 : (k == 5) = false) (b6 : (k == 6) = false) (b7 : (k == 7) = false) (b8 : (k == 8) = false) (b9 : (k == 9) = false) (b10 : (k == 10) = false) (b11 : (k == 11) = false) (hbe : ¬ sB b = []) :
    Calls Tryd.prog 65 #[.agg #[.int .i64 k, .int .i64 f, .int .i64 n, .string b]] w (GivesO w (zP k, 4)) := by
  have hne : (!b.toList.isEmpty) = true := by rw [neq_empty b]; cases hc : sB b with | nil => exact absurd hc hbe | cons x t => rfl
  clear hbe
  go_enter Tryd.func65, Tryd.ntmps65
  go_wp2_with (first
    | (with_reducible refine wpl_box (o := ⟨some 1, .box 74 (.tmp 0), _, _, _, _⟩) rfl _ _ rfl [.int .i64 k, .int .i64 f, .int .i64 n, .string b] rfl w.heap.size rfl ?_; intro w1 h1 f1 b1 z1)
    | (with_reducible refine wpl_alloc (o := ⟨some 2, .alloc 29, _, _, _, _⟩) rfl _ rfl (zK 0) alloc_pac _ z1 ?_; intro w2 h2 f2 b2 z2; replace h1 := h1.keep b2 (by omega); have B2 : Below w.heap.size w w2 := b1.trans (b2.mono (by omega)); clear f1 b1 b2; have c0 := h1.at 0 (u := .int .i64 k) rfl)
    | (with_reducible refine wpl_alloc (o := ⟨some 4, .alloc 29, _, _, _, _⟩) rfl _ rfl (zK 0) alloc_pac _ z2 ?_; intro w3 h3 f3 b3 z3; clear c0; replace h1 := h1.keep b3 (by omega); replace f2 := f2.keep b3 (by omega); replace h2 := h2.keep b3 (by omega); replace B2 := B2.trans (b3.mono (by omega)); clear b3)
    | ((with_reducible refine wpl_at (o := ⟨none, .store 29 (.tmp 4) (.tmp 28), _, _, _, _⟩) ?_); refine wpl_storeAll rfl rfl _ _ _ rfl (w.heap.size + 1 + 1) (zK k) (zK 0) rfl rfl info_pac (zK_one k) h3 rfl f3 ?_; intro w4 h4 f4 k4 z4; have B4 : Below w.heap.size w w4 := B2.trans (k4.toBelow (by omega) (by simp; omega)); clear B2; replace h1 := h1.keeps k4 (by simp; omega); replace f2 := f2.keeps k4 h2.1 (by simp); replace h2 := h2.keeps k4 (by simp); clear h3 f3 k4; have c0 := h1.at 0 (u := .int .i64 k) rfl; have c1 := h1.at 1 (u := .int .i64 f) rfl; have c3 := h1.at 3 (u := .string b) rfl)
    | ((with_reducible refine wpl_at (o := ⟨some 136, .load 29 (.tmp 4), _, _, _, _⟩) ?_); refine wpl_loadAt rfl _ _ rfl (w.heap.size + 1 + 1) 0 rfl ((zP k).cells Nl Nl) _ (h4).range Tryd.underlying29 rfl info_pac ?_)
    | ((with_reducible refine wpl_at (o := ⟨none, .store 29 (.tmp 2) (.tmp 136), _, _, _, _⟩) ?_); refine wpl_storeAll rfl rfl _ _ _ rfl (w.heap.size + 1) ((zP k).cells Nl Nl) (zK 0) rfl rfl info_pac ((zP k).one Nl Nl rfl rfl) (h2) rfl (f2) ?_; intro w9 h9 f9 k9 z9))
  refine bodyPost_ret (v := .tuple #[.agg (((zP k).cells Nl Nl)).toArray, .int .i64 4]) (results_cell_tmp Tryd.results65 rfl (ret_pac h9 rfl) rfl) rfl ?_
  exact ⟨Nl, Nl, rfl, PacOwn.nil _ _ rfl rfl, B4.trans (k9.toBelow B4.size (by simp))⟩

set_option maxRecDepth 100000 in
set_option maxHeartbeats 8000000 in
theorem refTold1_c (k f n : Int) (b : ByteArray) (w : World) (hs : b.size ≤ 140737488351232) (hk : k = 1) :
    Calls Tryd.prog 65 #[.agg #[.int .i64 k, .int .i64 f, .int .i64 n, .string b]] w (GivesO w ({ zP 1 with c := (cOf (sB b)).1 }, (cOf (sB b)).2)) := by
  subst hk
  go_enter Tryd.func65, Tryd.ntmps65
  go_wp2_with (first
    | (with_reducible refine wpl_box (o := ⟨some 1, .box 74 (.tmp 0), _, _, _, _⟩) rfl _ _ rfl [.int .i64 1, .int .i64 f, .int .i64 n, .string b] rfl w.heap.size rfl ?_; intro w1 h1 f1 b1 z1)
    | (with_reducible refine wpl_alloc (o := ⟨some 2, .alloc 29, _, _, _, _⟩) rfl _ rfl (zK 0) alloc_pac _ z1 ?_; intro w2 h2 f2 b2 z2; replace h1 := h1.keep b2 (by omega); have B2 : Below w.heap.size w w2 := b1.trans (b2.mono (by omega)); clear f1 b1 b2; have c0 := h1.at 0 (u := .int .i64 1) rfl)
    | (with_reducible refine wpl_alloc (o := ⟨some 4, .alloc 29, _, _, _, _⟩) rfl _ rfl (zK 0) alloc_pac _ z2 ?_; intro w3 h3 f3 b3 z3; clear c0; replace h1 := h1.keep b3 (by omega); replace f2 := f2.keep b3 (by omega); replace h2 := h2.keep b3 (by omega); replace B2 := B2.trans (b3.mono (by omega)); clear b3)
    | ((with_reducible refine wpl_at (o := ⟨none, .store 29 (.tmp 4) (.tmp 28), _, _, _, _⟩) ?_); refine wpl_storeAll rfl rfl _ _ _ rfl (w.heap.size + 1 + 1) (zK 1) (zK 0) rfl rfl info_pac (zK_one 1) h3 rfl f3 ?_; intro w4 h4 f4 k4 z4; have B4 : Below w.heap.size w w4 := B2.trans (k4.toBelow (by omega) (by simp; omega)); clear B2; replace h1 := h1.keeps k4 (by simp; omega); replace f2 := f2.keeps k4 h2.1 (by simp); replace h2 := h2.keeps k4 (by simp); clear h3 f3 k4; have c0 := h1.at 0 (u := .int .i64 1) rfl; have c1 := h1.at 1 (u := .int .i64 f) rfl; have c3 := h1.at 3 (u := .string b) rfl))
  refine (refConOf_c b _ hs).mono ?_
  rintro e w5 ⟨rfl, hb5⟩
  have hz5 := hb5.size
  replace h1 := h1.keep hb5 (by omega)
  replace h2 := h2.keep hb5 (by omega)
  replace h4 := h4.keep hb5 (by omega)
  replace f2 := f2.keep hb5 (by omega)
  replace f4 := f4.keep hb5 (by omega)
  have B5 := B4.trans (hb5.mono B4.size)
  clear c0 c1 c3
  have hone := Pac.one ({ zP 1 with c := (cOf (sB b)).1 } : Pac) Nl Nl rfl rfl
  go_wp2_with (first
    | (with_reducible refine wpl_alloc (o := ⟨some 6, .alloc 25, _, _, _, _⟩) rfl _ rfl Con.zero.cells alloc_con _ rfl ?_; intro w6 h6 f6 b6 z6; replace h2 := h2.keep b6 (by omega); replace h4 := h4.keep b6 (by omega); replace f2 := f2.keep b6 (by omega); replace f4 := f4.keep b6 (by omega); have B6 := B5.trans (b6.mono B5.size))
    | ((with_reducible refine wpl_at (o := ⟨none, .store 25 (.tmp 6) (.tmp 41), _, _, _, _⟩) ?_); refine wpl_storeAll rfl rfl _ _ _ rfl w5.heap.size (cOf (sB b)).1.cells Con.zero.cells rfl rfl info_con (Con.one _) h6 rfl f6 ?_; intro w7 h7 f7 k7 z7; replace h2 := h2.keeps k7 (by simp; omega); replace h4 := h4.keeps k7 (by simp; omega); replace f2 := f2.keeps k7 (by omega) (by simp; omega); replace f4 := f4.keeps k7 (by omega) (by simp; omega); have B7 := B6.trans (k7.toBelow B6.size (by simp; omega)))
    | ((with_reducible refine wpl_at (o := ⟨some 43, .load 25 (.tmp 6), _, _, _, _⟩) ?_); refine wpl_loadAt rfl _ _ rfl w5.heap.size 0 rfl (cOf (sB b)).1.cells _ h7.range Tryd.underlying25 rfl info_con ?_)
    | ((with_reducible refine wpl_at (o := ⟨none, .store 25 (.tmp 44) (.tmp 43), _, _, _, _⟩) ?_); refine wpl_storeMid rfl rfl _ _ _ rfl (w.heap.size + 1 + 1) 7 (cOf (sB b)).1.cells (zK 1) (({ zP 1 with c := (cOf (sB b)).1 } : Pac).cells Nl Nl) rfl rfl info_con (Con.one _) h4 rfl (by show 7 + 13 ≤ 24; decide) f4 ?_; intro w8 h8 f8 k8 z8; replace f2 := f2.keeps k8 h2.1 (by simp); replace h2 := h2.keeps k8 (by simp); have B8 := B7.trans (k8.toBelow B7.size (by simp; omega)))
    | ((with_reducible refine wpl_at (o := ⟨some 136, .load 29 (.tmp 4), _, _, _, _⟩) ?_); refine wpl_loadAt rfl _ _ rfl (w.heap.size + 1 + 1) 0 rfl (({ zP 1 with c := (cOf (sB b)).1 } : Pac).cells Nl Nl) _ (h8).range Tryd.underlying29 rfl info_pac ?_)
    | ((with_reducible refine wpl_at (o := ⟨none, .store 29 (.tmp 2) (.tmp 136), _, _, _, _⟩) ?_); refine wpl_storeAll rfl rfl _ _ _ rfl (w.heap.size + 1) (({ zP 1 with c := (cOf (sB b)).1 } : Pac).cells Nl Nl) (zK 0) rfl rfl info_pac hone (h2) rfl (f2) ?_; intro w9 h9 f9 k9 z9))
  refine bodyPost_ret (v := .tuple #[.agg ((({ zP 1 with c := (cOf (sB b)).1 } : Pac).cells Nl Nl)).toArray, .int .i64 (cOf (sB b)).2]) (results_cell_tmp Tryd.results65 rfl (ret_pac h9 rfl) rfl) rfl ?_
  exact ⟨Nl, Nl, rfl, PacOwn.nil _ _ rfl rfl, B8.trans (k9.toBelow B8.size (by simp))⟩

set_option maxRecDepth 100000 in
set_option maxHeartbeats 8000000 in
theorem refTold3_c (k f n : Int) (b : ByteArray) (w : World) (hs : b.size ≤ 140737488351232) (hk : k = 3) :
    Calls Tryd.prog 65 #[.agg #[.int .i64 k, .int .i64 f, .int .i64 n, .string b]] w (GivesO w (paTold k f (sB b))) := by
  subst hk
  obtain ⟨X, Y, I, E, hP⟩ : ∃ X Y I E, pOf (sB b) (hQos f) = (X, Y, I, E) := ⟨_, _, _, _, rfl⟩
  obtain ⟨q, hq⟩ : ∃ q, pOfQ (sB b) (hQos f) = q := ⟨_, rfl⟩
  have hr : paTold 3 f (sB b) = (({ zP 3 with tp := sOf X, tx := sOf Y, q := q, rt := hRet f, dup := hDup f, id := I } : Pac), E) := by
    unfold paTold
    simp only [show ¬ ((3 : Int) = 1) by decide, show ¬ ((3 : Int) = 2) by decide, if_false, if_true, hP, hq]
    rfl
  rw [hr]
  have hpo := fun W => refPubOf_c b (hQos f) W hs
  unfold GivesM at hpo
  rw [hP, hq] at hpo
  have HPO := hd hpo
  clear hpo hr hP hq
  go_enter Tryd.func65, Tryd.ntmps65
  go_wp2_with (first
    | (with_reducible refine wpl_box (o := ⟨some 1, .box 74 (.tmp 0), _, _, _, _⟩) rfl _ _ rfl [.int .i64 3, .int .i64 f, .int .i64 n, .string b] rfl w.heap.size rfl ?_; intro w1 h1 f1 b1 z1)
    | (with_reducible refine wpl_alloc (o := ⟨some 2, .alloc 29, _, _, _, _⟩) rfl _ rfl (zK 0) alloc_pac _ z1 ?_; intro w2 h2 f2 b2 z2; replace h1 := h1.keep b2 (by omega); have B2 : Below w.heap.size w w2 := b1.trans (b2.mono (by omega)); clear f1 b1 b2; have c0 := h1.at 0 (u := .int .i64 3) rfl)
    | (with_reducible refine wpl_alloc (o := ⟨some 4, .alloc 29, _, _, _, _⟩) rfl _ rfl (zK 0) alloc_pac _ z2 ?_; intro w3 h3 f3 b3 z3; clear c0; replace h1 := h1.keep b3 (by omega); replace f2 := f2.keep b3 (by omega); replace h2 := h2.keep b3 (by omega); replace B2 := B2.trans (b3.mono (by omega)); clear b3)
    | ((with_reducible refine wpl_at (o := ⟨none, .store 29 (.tmp 4) (.tmp 28), _, _, _, _⟩) ?_); refine wpl_storeAll rfl rfl _ _ _ rfl (w.heap.size + 1 + 1) (zK 3) (zK 0) rfl rfl info_pac (zK_one 3) h3 rfl f3 ?_; intro w4 h4 f4 k4 z4; have B4 : Below w.heap.size w w4 := B2.trans (k4.toBelow (by omega) (by simp; omega)); clear B2; replace h1 := h1.keeps k4 (by simp; omega); replace f2 := f2.keeps k4 h2.1 (by simp); replace h2 := h2.keeps k4 (by simp); clear h3 f3 k4; have c0 := h1.at 0 (u := .int .i64 3) rfl; have c1 := h1.at 1 (u := .int .i64 f) rfl; have c3 := h1.at 3 (u := .string b) rfl))
  refine (refTold_c f _).mono ?_
  rintro e w' ⟨rfl, rfl⟩
  go_wp2_with fail
  refine (HPO.out _).mono ?_
  rintro e w5 ⟨rfl, hb5⟩
  have hz5 := hb5.size
  replace h1 := h1.keep hb5 (by omega)
  replace h2 := h2.keep hb5 (by omega)
  replace h4 := h4.keep hb5 (by omega)
  replace f2 := f2.keep hb5 (by omega)
  replace f4 := f4.keep hb5 (by omega)
  have B5 := B4.trans (hb5.mono B4.size)
  clear c0 c1 c3
  have hone := Pac.one ({ zP 3 with tp := sOf X, tx := sOf Y, q := q, rt := hRet f, dup := hDup f, id := I } : Pac) Nl Nl rfl rfl
  have hone4 : ∀ v ∈ ([.string (sOf X), .string (sOf Y), .int .i64 q, .bool false] : List Value), v.oneCell' = true := (by intro v hv; simp at hv; rcases hv with rfl | rfl | rfl | rfl <;> rfl)
  go_wp2_with (first
    | (with_reducible refine wpl_alloc (o := ⟨some 14, .alloc 23, _, _, _, _⟩) rfl _ rfl zM alloc_msg _ rfl ?_; intro w6 h6 f6 b6 z6; replace h2 := h2.keep b6 (by omega); replace h4 := h4.keep b6 (by omega); replace f2 := f2.keep b6 (by omega); replace f4 := f4.keep b6 (by omega); have B6 := B5.trans (b6.mono B5.size))
    | ((with_reducible refine wpl_at (o := ⟨none, .store 23 (.tmp 14) (.tmp 75), _, _, _, _⟩) ?_); refine wpl_storeAll rfl rfl _ _ _ rfl w5.heap.size [.string (sOf X), .string (sOf Y), .int .i64 q, .bool false] zM rfl rfl info_msg hone4 h6 rfl f6 ?_; intro w7 h7 f7 k7 z7; replace h2 := h2.keeps k7 (by simp; omega); replace h4 := h4.keeps k7 (by simp; omega); replace f2 := f2.keeps k7 (by omega) (by simp; omega); replace f4 := f4.keeps k7 (by omega) (by simp; omega); have B7 := B6.trans (k7.toBelow B6.size (by simp; omega)))
    | ((with_reducible refine wpl_at (o := ⟨some 78, .load 23 (.tmp 14), _, _, _, _⟩) ?_); refine wpl_loadAt rfl _ _ rfl w5.heap.size 0 rfl [.string (sOf X), .string (sOf Y), .int .i64 q, .bool false] _ h7.range Tryd.underlying23 rfl info_msg ?_)
    | ((with_reducible refine wpl_at (o := ⟨none, .store 23 (.tmp 79) (.tmp 78), _, _, _, _⟩) ?_); refine wpl_storeMid rfl rfl _ _ _ rfl (w.heap.size + 1 + 1) 3 [.string (sOf X), .string (sOf Y), .int .i64 q, .bool false] (zK 3) ((({ zP 3 with tp := sOf X, tx := sOf Y, q := q } : Pac)).cells Nl Nl) rfl rfl info_msg hone4 h4 rfl (by show 3 + 4 ≤ 24; decide) f4 ?_; intro w8 h8 f8 k8 z8; replace f2 := f2.keeps k8 h2.1 (by simp); replace h2 := h2.keeps k8 (by simp); have B8 := B7.trans (k8.toBelow B7.size (by simp; omega)); have e1 := h8.at 1 (u := .int .i64 0) rfl; have e2 := h8.at 2 (u := .bool false) rfl; have e6 := h8.at 6 (u := .bool false) rfl; have g1 := f8 1; have g2 := f8 2; have g6 := f8 6)
    | ((with_reducible refine wpl_at (o := ⟨some 136, .load 29 (.tmp 4), _, _, _, _⟩) ?_); refine wpl_loadAt rfl _ _ rfl (w.heap.size + 1 + 1) 0 rfl (({ zP 3 with tp := sOf X, tx := sOf Y, q := q, rt := hRet f, dup := hDup f, id := I } : Pac).cells Nl Nl) _ ((((h8).set 1 (.int .i64 I) (show 1 < 24 by decide)).set 6 (.bool (hRet f)) (show 6 < 24 by decide)).set 2 (.bool (hDup f)) (show 2 < 24 by decide)).range Tryd.underlying29 rfl info_pac ?_)
    | ((with_reducible refine wpl_at (o := ⟨none, .store 29 (.tmp 2) (.tmp 136), _, _, _, _⟩) ?_); refine wpl_storeAll rfl rfl _ _ _ rfl (w.heap.size + 1) (({ zP 3 with tp := sOf X, tx := sOf Y, q := q, rt := hRet f, dup := hDup f, id := I } : Pac).cells Nl Nl) (zK 0) rfl rfl info_pac hone ((((h2).other _ _ _ (by simp)).other _ _ _ (by simp)).other _ _ _ (by simp)) rfl ((((f2).set _ _).set _ _).set _ _) ?_; intro w9 h9 f9 k9 z9))
  refine bodyPost_ret (v := .tuple #[.agg ((({ zP 3 with tp := sOf X, tx := sOf Y, q := q, rt := hRet f, dup := hDup f, id := I } : Pac).cells Nl Nl)).toArray, .int .i64 E]) (results_cell_tmp Tryd.results65 rfl (ret_pac h9 rfl) rfl) rfl ?_
  have B9 := (((B8).setCell (p := ⟨(w.heap.size + 1 + 1), 1, none⟩) (by show w.heap.size ≤ w.heap.size + 1 + 1; omega) (.int .i64 I)).setCell (p := ⟨(w.heap.size + 1 + 1), 6, none⟩) (by show w.heap.size ≤ w.heap.size + 1 + 1; omega) (.bool (hRet f))).setCell (p := ⟨(w.heap.size + 1 + 1), 2, none⟩) (by show w.heap.size ≤ w.heap.size + 1 + 1; omega) (.bool (hDup f))
  exact ⟨Nl, Nl, rfl, PacOwn.nil _ _ rfl rfl, B9.trans (k9.toBelow B9.size (by simp))⟩

theorem refPaTold_c (k f n : Int) (b : ByteArray) (w : World) (hs : b.size ≤ 140737488351232) :
    Calls Tryd.prog 65 #[.agg #[.int .i64 k, .int .i64 f, .int .i64 n, .string b]] w (GivesO w (paTold k f (sB b))) := by
  by_cases h1 : k = 1
  · have hc := refTold1_c k f n b w hs h1
    subst h1
    exact hc
  by_cases h2 : k = 2
  · have hc := refTold2_c k f n b w hs h2
    subst h2
    exact hc
  by_cases h3 : k = 3
  · have hc := refTold3_c k f n b w hs h3
    subst h3
    exact hc
  by_cases h4 : k = 4
  · have hc := refToldI4_c k f n b w hs h4
    subst h4
    exact hc
  by_cases h5 : k = 5
  · have hc := refToldI5_c k f n b w hs h5
    subst h5
    exact hc
  by_cases h6 : k = 6
  · have hc := refToldI6_c k f n b w hs h6
    subst h6
    exact hc
  by_cases h7 : k = 7
  · have hc := refToldI7_c k f n b w hs h7
    subst h7
    exact hc
  by_cases h8 : k = 8
  · have hc := refTold8_c k f n b w hs h8
    subst h8
    exact hc
  by_cases h9 : k = 9
  · have hc := refTold9_c k f n b w hs h9
    subst h9
    exact hc
  by_cases h10 : k = 10
  · have hc := refTold10_c k f n b w hs h10
    subst h10
    exact hc
  by_cases h11 : k = 11
  · have hc := refToldI11_c k f n b w hs h11
    subst h11
    exact hc
  have hT : paTold k f (sB b) = (zP k, if (sB b).isEmpty then 0 else 4) := by
    unfold paTold
    rw [if_neg h1, if_neg h2, if_neg h3, if_neg (by omega), if_neg h8, if_neg h10, if_neg h9]
    rfl
  rw [hT]
  by_cases hbe : sB b = []
  · have e : (if (sB b).isEmpty = true then (0 : Int) else 4) = 0 := by rw [hbe]; rfl
    rw [e]
    exact refToldOE_c k f n b w hs (by simpa using h1) (by simpa using h2) (by simpa using h3) (by simpa using h4) (by simpa using h5) (by simpa using h6) (by simpa using h7) (by simpa using h8) (by simpa using h9) (by simpa using h10) (by simpa using h11) hbe
  · have e : (if (sB b).isEmpty = true then (0 : Int) else 4) = 4 := by
      cases hc : sB b with
      | nil => exact absurd hc hbe
      | cons x t => rfl
    rw [e]
    exact refToldON_c k f n b w hs (by simpa using h1) (by simpa using h2) (by simpa using h3) (by simpa using h4) (by simpa using h5) (by simpa using h6) (by simpa using h7) (by simpa using h8) (by simpa using h9) (by simpa using h10) (by simpa using h11) hbe
end Go.Proofs.YtclicjokgfiegaaDoor

/- Packets: told: the reference's Of: the walk. -/
namespace Go.Proofs.YtclicjokgfiegaaDoor
open Go.RowKit
set_option linter.unusedVariables false
set_option linter.unusedSimpArgs false

theorem info_raw4 : (Tryd.prog.info? 74).map (·.size) = some 4 := by kernel_rfl
set_option maxRecDepth 100000 in
set_option maxHeartbeats 8000000 in
theorem refPackOf_c (k f n : Int) (b : ByteArray) (w : World) (hs : b.size ≤ 140737488351232) :
    Calls Tryd.prog 30 #[.agg #[.int .i64 k, .int .i64 f, .int .i64 n, .string b]] w (GivesO w (paOf k f n (sB b))) := by
  go_enter Tryd.func30, Tryd.ntmps30
  go_wp2_with (first
    | (with_reducible refine wpl_box (o := ⟨some 1, .box 74 (.tmp 0), _, _, _, _⟩) rfl _ _ rfl [.int .i64 k, .int .i64 f, .int .i64 n, .string b] rfl w.heap.size rfl ?_; intro w1 h1 f1 b1 z1)
    | (with_reducible refine wpl_alloc (o := ⟨some 2, .alloc 29, _, _, _, _⟩) rfl _ rfl (zK 0) alloc_pac _ z1 ?_; intro w2 h2 f2 b2 z2; replace h1 := h1.keep b2 (by omega); have B2 : Below w.heap.size w w2 := b1.trans (b2.mono (by omega)); clear f1 b1 b2; have c0 := h1.at 0 (u := .int .i64 k) rfl; have c1 := h1.at 1 (u := .int .i64 f) rfl; have c2 := h1.at 2 (u := .int .i64 n) rfl; have c3 := h1.at 3 (u := .string b) rfl))
  refine (refHRight_c k f _).mono ?_
  rintro e w' ⟨rfl, rfl⟩
  by_cases hr : hRight k f = 0
  rotate_left
  · have hrb : (hRight k f != 0) = true := by simpa using hr
    have ho : paOf k f n (sB b) = (Pac.zero, hRight k f) := by unfold paOf; rw [if_pos hr]
    have HO0 := hd ho
    clear ho
    go_wp2_with (first
      | ((with_reducible refine wpl_at (o := ⟨none, .store 29 (.tmp 2) (.tmp 15), _, _, _, _⟩) ?_); refine wpl_storeAll rfl rfl _ _ _ rfl (w.heap.size + 1) (zK 0) (zK 0) rfl rfl info_pac (zK_one 0) h2 rfl f2 ?_; intro w9 h9 f9 k9 z9))
    rw [HO0.out]
    refine bodyPost_ret (v := .tuple #[.agg (Pac.zero.cells Nl Nl).toArray, .int .i64 (hRight k f)]) (results_cell_tmp Tryd.results30 rfl (ret_pac h9 rfl) rfl) rfl ?_
    exact ⟨Nl, Nl, rfl, PacOwn.nil (p := Pac.zero) _ _ rfl rfl, B2.trans (k9.toBelow B2.size (by simp))⟩
  rw [hr]
  by_cases hn : n = (b.size : Int)
  rotate_left
  · have hnb : (n != (b.size : Int)) = true := by simpa using hn
    have ho : paOf k f n (sB b) = (Pac.zero, 4) := by unfold paOf; rw [if_neg (by simpa using hr), if_pos (by rw [sB_lenP]; exact hn)]
    have HO0 := hd ho
    clear ho
    go_wp2_with (first
      | ((with_reducible refine wpl_at (o := ⟨none, .store 29 (.tmp 2) (.tmp 24), _, _, _, _⟩) ?_); refine wpl_storeAll rfl rfl _ _ _ rfl (w.heap.size + 1) (zK 0) (zK 0) rfl rfl info_pac (zK_one 0) h2 rfl f2 ?_; intro w9 h9 f9 k9 z9))
    rw [HO0.out]
    refine bodyPost_ret (v := .tuple #[.agg (Pac.zero.cells Nl Nl).toArray, .int .i64 (4)]) (results_cell_tmp Tryd.results30 rfl (ret_pac h9 rfl) rfl) rfl ?_
    exact ⟨Nl, Nl, rfl, PacOwn.nil (p := Pac.zero) _ _ rfl rfl, B2.trans (k9.toBelow B2.size (by simp))⟩
  have ho : paOf k f n (sB b) = if (paTold k f (sB b)).2 ≠ 0 then (Pac.zero, (paTold k f (sB b)).2) else ((paTold k f (sB b)).1, 0) := by
    unfold paOf
    rw [if_neg (by simpa using hr), if_neg (by rw [sB_lenP]; simpa using hn)]
  have HO := hd ho
  clear ho hr
  have hnb : (n != (b.size : Int)) = false := by simpa using hn
  clear hn
  go_wp2_with (first
    | ((with_reducible refine wpl_at (o := ⟨some 26, .load 74 (.tmp 1), _, _, _, _⟩) ?_); refine wpl_loadAt rfl _ _ rfl w.heap.size 0 rfl [.int .i64 k, .int .i64 f, .int .i64 n, .string b] _ h1.range Tryd.underlying74 rfl info_raw4 ?_))
  refine (refPaTold_c k f n b _ hs).mono ?_
  obtain ⟨r, hr⟩ : ∃ r, paTold k f (sB b) = r := ⟨_, rfl⟩
  rw [hr]
  have HO' : Hd (paOf k f n (sB b) = if r.2 ≠ 0 then (Pac.zero, r.2) else (r.1, 0)) := hd (by rw [← hr]; exact HO.out)
  clear HO hr
  obtain ⟨q, E⟩ := r
  rintro e w4 ⟨vf, vc, rfl, hr4, hb4⟩
  have hz4 := hb4.size
  have B4 : Below w.heap.size w w4 := B2.trans (hb4.mono B2.size)
  replace h2 := h2.keep hb4 (by omega)
  replace f2 := f2.keep hb4 (by omega)
  clear c0 c1 c2 c3 h1
  have hone := Pac.one q vf vc hr4.rd.f.oneCell hr4.rd.c.oneCell
  by_cases hE0 : E = 0
  rotate_left
  · have hEb : (E != 0) = true := by simpa using hE0
    go_wp2_with (first
      | (with_reducible refine wpl_alloc (o := ⟨some 5, .alloc 29, _, _, _, _⟩) rfl _ rfl (zK 0) alloc_pac _ rfl ?_; intro w5 h5 f5 b5 z5; replace h2 := h2.keep b5 (by omega); replace f2 := f2.keep b5 (by omega); have B5 := B4.trans (b5.mono B4.size))
      | ((with_reducible refine wpl_at (o := ⟨none, .store 29 (.tmp 5) (.tmp 28), _, _, _, _⟩) ?_); refine wpl_storeAll rfl rfl _ _ _ rfl w4.heap.size (q.cells vf vc) (zK 0) rfl rfl info_pac hone h5 rfl f5 ?_; intro w6 h6 f6 k6 z6; replace h2 := h2.keeps k6 (by simp; omega); replace f2 := f2.keeps k6 (by omega) (by simp; omega); have B6 := B5.trans (k6.toBelow B5.size (by simp; omega)))
      | ((with_reducible refine wpl_at (o := ⟨none, .store 29 (.tmp 2) (.tmp 32), _, _, _, _⟩) ?_); refine wpl_storeAll rfl rfl _ _ _ rfl (w.heap.size + 1) (zK 0) (zK 0) rfl rfl info_pac (zK_one 0) h2 rfl f2 ?_; intro w9 h9 f9 k9 z9))
    rw [HO'.out, if_pos hE0]
    refine bodyPost_ret (v := .tuple #[.agg (Pac.zero.cells Nl Nl).toArray, .int .i64 (E)]) (results_cell_tmp Tryd.results30 rfl (ret_pac h9 rfl) rfl) rfl ?_
    exact ⟨Nl, Nl, rfl, PacOwn.nil (p := Pac.zero) _ _ rfl rfl, B6.trans (k9.toBelow B6.size (by simp))⟩
  subst hE0
  go_wp2_with (first
    | (with_reducible refine wpl_alloc (o := ⟨some 5, .alloc 29, _, _, _, _⟩) rfl _ rfl (zK 0) alloc_pac _ rfl ?_; intro w5 h5 f5 b5 z5; replace h2 := h2.keep b5 (by omega); replace f2 := f2.keep b5 (by omega); have B5 := B4.trans (b5.mono B4.size))
    | ((with_reducible refine wpl_at (o := ⟨none, .store 29 (.tmp 5) (.tmp 28), _, _, _, _⟩) ?_); refine wpl_storeAll rfl rfl _ _ _ rfl w4.heap.size (q.cells vf vc) (zK 0) rfl rfl info_pac hone h5 rfl f5 ?_; intro w6 h6 f6 k6 z6; replace h2 := h2.keeps k6 (by simp; omega); replace f2 := f2.keeps k6 (by omega) (by simp; omega); have B6 := B5.trans (k6.toBelow B5.size (by simp; omega)))
    | ((with_reducible refine wpl_at (o := ⟨some 34, .load 29 (.tmp 5), _, _, _, _⟩) ?_); refine wpl_loadAt rfl _ _ rfl w4.heap.size 0 rfl (q.cells vf vc) _ h6.range Tryd.underlying29 rfl info_pac ?_)
    | ((with_reducible refine wpl_at (o := ⟨none, .store 29 (.tmp 2) (.tmp 34), _, _, _, _⟩) ?_); refine wpl_storeAll rfl rfl _ _ _ rfl (w.heap.size + 1) (q.cells vf vc) (zK 0) rfl rfl info_pac hone h2 rfl f2 ?_; intro w9 h9 f9 k9 z9))
  rw [HO'.out, if_neg (by simp)]
  refine bodyPost_ret (v := .tuple #[.agg (q.cells vf vc).toArray, .int .i64 0]) (results_cell_tmp Tryd.results30 rfl (ret_pac h9 rfl) rfl) rfl ?_
  have K46 : Keeps [w.heap.size + 1] w4 w6 := (Keeps.below b5).next k6 (by intro i hi; simp at hi; subst hi; exact .inr (Nat.le_refl _))
  exact ⟨vf, vc, rfl, (hr4.keeps (K46.trans k9) (by intro j hj; simp at hj; omega)).le (by omega), B6.trans (k9.toBelow B6.size (by simp))⟩
end Go.Proofs.YtclicjokgfiegaaDoor

/- Packets: any head and bytes: the law's walk. -/
namespace Go.Proofs.YtclicjokgfiegaaDoor
open Go.RowKit
set_option linter.unusedVariables false
set_option linter.unusedSimpArgs false

set_option maxRecDepth 100000 in
set_option maxHeartbeats 8000000 in
theorem PacketReads_s (k f n : Int) (b : ByteArray) (w : World) (hs : b.size ≤ 140737488351232) (hH : EnvH w) (hE : EnvU w) :
    Calls Tryd.prog 8 #[.agg #[.int .i64 k, .int .i64 f, .int .i64 n, .string b]] w fun e w' => e = .returned (.bool true) ∧ Below w.heap.size w w' := by
  have HE := hd hE; have HH := hd hH
  clear hE hH
  obtain ⟨r, hr⟩ : ∃ r, paOf k f n (sB b) = r := ⟨_, rfl⟩
  have ho1 := fun W h1 h2 => packOf_c k f n b W hs h1 h2
  have ho2 := fun W => refPackOf_c k f n b W hs
  rw [hr] at ho1 ho2
  obtain ⟨q, E⟩ := r
  have HO1 := hd ho1; have HO2 := hd ho2
  clear ho1 ho2 hr
  go_enter Tryd.func8, Tryd.ntmps8
  go_wp2_with (first
    | (with_reducible refine wpl_box (o := ⟨some 1, .box 74 (.tmp 0), _, _, _, _⟩) rfl _ _ rfl [.int .i64 k, .int .i64 f, .int .i64 n, .string b] rfl w.heap.size rfl ?_; intro w1 h1 f1 b1 z1; have c0 := h1.at 0 (u := .int .i64 k) rfl; have c1 := h1.at 1 (u := .int .i64 f) rfl; have c2 := h1.at 2 (u := .int .i64 n) rfl; have c3 := h1.at 3 (u := .string b) rfl))
  refine (HO1.out _ (HH.out.below b1 (Nat.le_refl _)) (HE.out.below b1)).mono ?_
  rintro e w2 ⟨vf, vc, rfl, hr2, hb2⟩
  have hl1 := h1.lt
  replace h1 := h1.keep hb2 h1.lt
  have B2 := Below.up b1 hb2
  have hz2 := hb2.size
  clear c0 c1 c2 c3
  have hone := Pac.one q vf vc hr2.rd.f.oneCell hr2.rd.c.oneCell
  go_wp2_with (first
    | (with_reducible refine wpl_alloc (o := ⟨some 3, .alloc 29, _, _, _, _⟩) rfl _ rfl (zK 0) alloc_pac _ rfl ?_; intro w3 h3 f3 b3 z3; replace h1 := h1.keep b3 h1.lt; have B3 := Below.up B2 b3)
    | ((with_reducible refine wpl_at (o := ⟨none, .store 29 (.tmp 3) (.tmp 10), _, _, _, _⟩) ?_); refine wpl_storeAll rfl rfl _ _ _ rfl w2.heap.size (q.cells vf vc) (zK 0) rfl rfl info_pac hone h3 rfl f3 ?_; intro w4 h4 f4 k4 z4; replace h1 := h1.keeps k4 (by simp; omega); have B4 := B3.trans (k4.toBelow B3.size (by simp; omega)); have K4 : Keeps [] w2 w4 := (Keeps.below b3).next k4 (by intro i hi; simp at hi; subst hi; exact .inr (Nat.le_refl _)); have c0 := h1.at 0 (u := .int .i64 k) rfl; have c1 := h1.at 1 (u := .int .i64 f) rfl; have c2 := h1.at 2 (u := .int .i64 n) rfl; have c3 := h1.at 3 (u := .string b) rfl))
  refine (HO2.out _).mono ?_
  rintro e w5 ⟨vf', vc', rfl, hr5, hb5⟩
  have hr2' := hr2.keeps K4 (by simp)
  have hz4 : w4.heap.size = w2.heap.size + 1 := by omega
  have hr4 : PacOwn w1.heap.size w5 q vf vc := hr2'.kept hb5 (Nat.le_refl _)
  have h4' := h4.keep hb5 (by omega)
  have B5 := Below.up B4 hb5
  have hz5 := hb5.size
  clear c0 c1 c2 c3 h1 hr2 hr2'
  have hone2 := Pac.one q vf' vc' hr5.rd.f.oneCell hr5.rd.c.oneCell
  go_wp2_with (first
    | (with_reducible refine wpl_alloc (o := ⟨some 5, .alloc 29, _, _, _, _⟩) rfl _ rfl (zK 0) alloc_pac _ rfl ?_; intro w6 h6 f6 b6 z6; replace h4' := h4'.keep b6 (by omega); have B6 := Below.up B5 b6)
    | ((with_reducible refine wpl_at (o := ⟨none, .store 29 (.tmp 5) (.tmp 15), _, _, _, _⟩) ?_); refine wpl_storeAll rfl rfl _ _ _ rfl w5.heap.size (q.cells vf' vc') (zK 0) rfl rfl info_pac hone2 h6 rfl f6 ?_; intro w7 h7 f7 k7 z7; replace h4' := h4'.keeps k7 (by simp; omega); have B7 := B6.trans (k7.toBelow B6.size (by simp; omega)); have K7 : Keeps [] w5 w7 := (Keeps.below b6).next k7 (by intro i hi; simp at hi; subst hi; exact .inr (Nat.le_refl _)))
    | ((with_reducible refine wpl_at (o := ⟨some 17, .load 29 (.tmp 3), _, _, _, _⟩) ?_); refine wpl_loadAt rfl _ _ rfl w2.heap.size 0 rfl (q.cells vf vc) _ h4'.range Tryd.underlying29 rfl info_pac ?_)
    | ((with_reducible refine wpl_at (o := ⟨some 18, .load 29 (.tmp 5), _, _, _, _⟩) ?_); refine wpl_loadAt rfl _ _ rfl w5.heap.size 0 rfl (q.cells vf' vc') _ h7.range Tryd.underlying29 rfl info_pac ?_))
  refine (refSame_c q q vf vc vf' vc' _ (hr4.keeps K7 (by simp)).rd (hr5.keeps K7 (by simp)).rd).mono ?_
  rintro e w8 ⟨rfl, hb8⟩
  rw [decide_eq_true rfl]
  have B8 := Below.up B7 hb8
  go_wp2_with fail
  refine (awake16_c _ (HH.out.below B8 (Nat.le_refl _)) (HE.out.below B8)).mono ?_
  rintro e w9 ⟨rfl, hb9⟩
  go_wp2_with fail
  go_ret
  exact ⟨ret_bool (by simp), Below.up B8 hb9⟩
end Go.Proofs.YtclicjokgfiegaaDoor

/- What a raw packet that came in reads as. Of no function of the program. -/
namespace Go.Proofs.YtclicjokgfiegaaDoor
open Go.ChangeShapes Go.WideShapes Go.ChangeAt Go.RowKit
set_option linter.unusedVariables false
set_option linter.unusedSimpArgs false
theorem raw_cells3 : Tryd.prog.cellsOf 72 = 3 := by kernel_rfl
theorem raw_cells4 : Tryd.prog.cellsOf 74 = 4 := by kernel_rfl
section
variable {H : Type} {enc : TypeId × Value → H} {w : World} {base : Nat} {sp : Nat → Bool} {held : Bool}
set_option maxRecDepth 100000 in
theorem open_raw {r : Reach} {b0 : Nat} {v : Value} {d : DataW H} {p : List MemPlace} (hv : Value.okWide Tryd.prog w r b0 74 v) (h : DataW.Trod enc Tryd.prog w base sp held 74 v d p) (hz : (d.weights Tryd.prog 74).all (· ≤ reachBytes) = true) :
    ∃ x : (Int × Int × Int) × ByteArray, v = .agg #[.int .i64 x.1.1, .int .i64 x.1.2.1, .int .i64 x.1.2.2, .string x.2] ∧ x.2.size ≤ 140737488351232 := by
  obtain ⟨cs0, rfl, hsz⟩ := okWide_struct Tryd.underlying74 hv
  obtain ⟨fuel, hf0⟩ := h
  obtain ⟨cs, hcs⟩ : ∃ cs, (Value.agg cs0).cells.toList = cs := ⟨_, rfl⟩
  have hcs2 : cs0.toList = cs := by simpa [Value.cells] using hcs
  have hf1 : DataW.trod enc Tryd.prog w base sp held fuel 74 cs = some (d, p) := by rw [← hcs]; exact hf0
  obtain ⟨xs, n', _, hx, hlen, hxl, hf⟩ := DataW.trod_struct Tryd.underlying74 hf1
  simp only [Prod.mk.injEq] at hx
  obtain ⟨rfl, rfl⟩ := hx
  rw [raw_cells4] at hlen
  match cs, hlen, xs, hxl with
  | [c0, c1, c2, c3], _, [y0, y1], _ =>
    have g0 : DataW.trod enc Tryd.prog w base sp held n' 72 [c0, c1, c2] = some y0 := by have := hf 0 _ rfl; simpa [raw_cells3] using this
    have g1 : DataW.trod enc Tryd.prog w base sp held n' 9 [c3] = some y1 := by have := hf 1 _ rfl; simpa [cells_string] using this
    obtain ⟨B, e3, rfl, _⟩ := DataW.trod_string Tryd.underlying9 g1
    obtain ⟨xs2, n2, _, hx2, hlen2, hxl2, hf2⟩ := DataW.trod_struct Tryd.underlying72 g0
    match xs2, hxl2 with
    | [z0, z1, z2], _ =>
      have k0 : DataW.trod enc Tryd.prog w base sp held n2 3 [c0] = some z0 := by have := hf2 0 _ rfl; simpa [cells_int] using this
      have k1 : DataW.trod enc Tryd.prog w base sp held n2 3 [c1] = some z1 := by have := hf2 1 _ rfl; simpa [cells_int] using this
      have k2 : DataW.trod enc Tryd.prog w base sp held n2 3 [c2] = some z2 := by have := hf2 2 _ rfl; simpa [cells_int] using this
      obtain ⟨x0, e0, rfl, _⟩ := DataW.trod_int Tryd.underlying3 k0
      obtain ⟨x1, e1, rfl, _⟩ := DataW.trod_int Tryd.underlying3 k1
      obtain ⟨x2, e2, rfl, _⟩ := DataW.trod_int Tryd.underlying3 k2
      simp only [List.cons.injEq, and_true] at e0 e1 e2 e3
      subst e0 e1 e2 e3
      have hw : (DataW.weightsEach Tryd.prog [72, 9] [y0.1, (DataW.lit (.string B.data.toList) : DataW H)]).all (· ≤ reachBytes) = true := by
        simpa [DataW.weights, Tryd.underlying74] using hz
      have hB := sized_string hw (j := 1) (t := 9) rfl rfl
      refine ⟨((x0, x1, x2), B), ?_, hB⟩
      rw [← Array.toArray_toList (xs := cs0), hcs2]
end
end Go.Proofs.YtclicjokgfiegaaDoor
