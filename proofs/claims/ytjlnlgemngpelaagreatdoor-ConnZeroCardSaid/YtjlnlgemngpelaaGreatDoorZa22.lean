/- A bundle of texts (merged for the limit on files): PacOne, MsgOpen, ConOpen, SubOpen, IntOpen, RowOpen, PacOpen. -/
import Derived.Test.YtjlnlgemngpelaaGreatDoorZa20
import Derived.Test.YtjlnlgemngpelaaGreatDoorZa21
import Derived.Test.YtjlnlgemngpelaaGreatDoorZa5
import Derived.Test.YtjlnlgemngpelaaGreatDoorZa11
import Derived.Deep.SlicePairs
import Derived.Deep.Slices
/- Packets: the one at a place: the walk. -/
namespace Go.Proofs.YtjlnlgemngpelaaGreatDoor
open Go.RowKit
set_option linter.unusedVariables false
set_option linter.unusedSimpArgs false

theorem results_cell3 {P : Program} {fn : Func} {tmps : Array Value} {a b c d : Nat} {t : TypeId} {g : Nat} {v x y z : Value} {w : World} (hf : fn.results = #[.cell a t, .tmp b, .tmp c, .tmp d]) (ha : tmps.getD a undef = .pointer (some ⟨g, 0, none⟩))
    (hl : (loadVar t ⟨g, 0, none⟩).run P w = .ok v w) (hb : tmps.getD b undef = x) (hc : tmps.getD c undef = y) (hd : tmps.getD d undef = z) : (results fn tmps).run P w = .ok (.tuple #[v, x, y, z]) w := by
  have four : ∀ (f : ResultVar → Sem Value) (x y z u : ResultVar), #[x, y, z, u].mapM f = (do let a ← f x; let b ← f y; let c ← f z; let d ← f u; pure #[a, b, c, d]) := fun f x y z u => by simp
  unfold results
  rw [hf, four]
  simp only [Sem.run_bind, Sem.run_pure, ha, asAddr, Result.andThen_ok, hl, hb, hc, hd]
  rfl
/-- What one leaves. -/
def GivesOne (w : World) (r : Pac × Int × Bool × Int) (e : Ending) (w' : World) : Prop :=
  ∃ vf vc, e = .returned (.tuple #[.agg (r.1.cells vf vc).toArray, .int .i64 r.2.1, .bool r.2.2.1, .int .i64 r.2.2.2]) ∧ PacOwn w.heap.size w' r.1 vf vc ∧ Below w.heap.size w w'
set_option maxRecDepth 100000 in
theorem alloc_head (W : World) : (Instr.alloc 85 true (.tuple #[])).run Tryz.prog W = .ok (.pointer (some ⟨W.heap.size, 0, none⟩)) (W.alloc (.cells [.int .i64 0, .int .i64 0, .int .i64 0].toArray 85)) := by
  simp [Instr.alloc, newVar, go_sem]
theorem info_head : (Tryz.prog.info? 85).map (·.size) = some 3 := by kernel_rfl
set_option maxRecDepth 100000 in
set_option maxHeartbeats 8000000 in
theorem one16_c (v : Value) (l : List UInt8) (a : Nat) (w : World) (hv : Bs w v l) (hl : l.length ≤ 140737488351232) (hH : EnvH w) (hE : EnvU w) :
    Calls Tryz.prog 38 #[v, .int .i64 a] w (GivesOne w (paOne l a)) := by
  have HE := hd hE; have HH := hd hH; have HV := hd hv
  clear hE hH
  obtain ⟨va, vn, rfl⟩ := hv.slice
  clear hv
  have hO : paOne l a = paOne l a := rfl
  conv at hO => rhs; rw [paOne]
  have hrg := @hGet_rngP l a
  generalize paOne l a = R at hO ⊢
  have HO := hd hO
  clear hO
  go_enter Tryz.func38, Tryz.ntmps38
  go_wp2_with (first
    | (with_reducible refine wpl_alloc (o := ⟨some 4, .alloc 36, _, _, _, _⟩) rfl _ rfl (zK 0) alloc_pac _ rfl ?_; intro w1 h1 f1 b1 z1))
  refine (hGet_c _ l a _ (HH.out.below b1 (Nat.le_refl _)) (HV.out.below' b1 (Nat.le_refl _))).mono ?_
  have hO := HO.out
  clear HO
  generalize hGet l a = r at hO hrg ⊢
  obtain ⟨⟨k, f, n⟩, q, E⟩ := r
  simp only at hO hrg
  have HO := hd hO; have HR := hd hrg
  clear hO hrg
  rintro e w2 ⟨rfl, hb2⟩
  have hz2 := hb2.size
  replace h1 := h1.keep hb2 h1.lt
  replace f1 := f1.keep hb2 (by omega)
  have B2 := Below.up b1 hb2
  have honeh : ∀ v ∈ ([.int .i64 k, .int .i64 f, .int .i64 n] : List Value), v.oneCell' = true := by intro v hv; simp at hv; rcases hv with rfl | rfl | rfl <;> rfl
  by_cases hE2 : E = 2
  · subst hE2
    have hr : R = (Pac.zero, 0, false, 0) := by rw [HO.out, if_pos rfl]
    go_wp2_with (first
      | (with_reducible refine wpl_alloc (o := ⟨some 8, .alloc 85, _, _, _, _⟩) rfl _ rfl [.int .i64 0, .int .i64 0, .int .i64 0] alloc_head _ rfl ?_; intro w3 h3 f3 b3 z3; replace h1 := h1.keep b3 (by omega); replace f1 := f1.keep b3 (by omega); have B3 := Below.up B2 b3)
      | ((with_reducible refine wpl_at (o := ⟨none, .store 85 (.tmp 8) (.tmp 16), _, _, _, _⟩) ?_); refine wpl_storeAll rfl rfl _ _ _ rfl w2.heap.size [.int .i64 k, .int .i64 f, .int .i64 n] [.int .i64 0, .int .i64 0, .int .i64 0] rfl rfl info_head honeh h3 rfl f3 ?_; intro w4 h4 f4 k4 z4; replace h1 := h1.keeps k4 (by simp; omega); replace f1 := f1.keeps k4 (by omega) (by simp; omega); have B4 := B3.trans (k4.toBelow B3.size (by simp; omega)); have K4 : Keeps [] w2 w4 := (Keeps.below b3).next k4 (by intro i hi; simp at hi; subst hi; exact .inr (Nat.le_refl _)); have c2 := h4.at 2 (u := .int .i64 n) rfl)
      | ((with_reducible refine wpl_at (o := ⟨none, .store 36 (.tmp 4) (.tmp 22), _, _, _, _⟩) ?_); refine wpl_storeAll rfl rfl _ _ _ rfl w.heap.size (zK 0) (zK 0) rfl rfl info_pac (zK_one 0) h1 rfl f1 ?_; intro w9 h9 f9 k9 z9))
    rw [hr]
    refine bodyPost_ret (v := .tuple #[.agg (Pac.zero.cells Nl Nl).toArray, .int .i64 (0), .bool false, .int .i64 (0)]) (results_cell3 Tryz.results38 rfl (ret_pac h9 rfl) rfl rfl rfl) rfl ?_
    exact ⟨Nl, Nl, rfl, PacOwn.nil (p := Pac.zero) _ _ rfl rfl, B4.trans (k9.toBelow B4.size (by simp))⟩
  have hE2b : (E == 2) = false := by simpa using hE2
  by_cases hE0 : E = 0
  rotate_left
  · have hE0b : (E != 0) = true := by simpa using hE0
    have hr : R = (Pac.zero, 0, false, E) := by rw [HO.out, if_neg hE2, if_pos hE0]
    clear hE2 hE0
    go_wp2_with (first
      | (with_reducible refine wpl_alloc (o := ⟨some 8, .alloc 85, _, _, _, _⟩) rfl _ rfl [.int .i64 0, .int .i64 0, .int .i64 0] alloc_head _ rfl ?_; intro w3 h3 f3 b3 z3; replace h1 := h1.keep b3 (by omega); replace f1 := f1.keep b3 (by omega); have B3 := Below.up B2 b3)
      | ((with_reducible refine wpl_at (o := ⟨none, .store 85 (.tmp 8) (.tmp 16), _, _, _, _⟩) ?_); refine wpl_storeAll rfl rfl _ _ _ rfl w2.heap.size [.int .i64 k, .int .i64 f, .int .i64 n] [.int .i64 0, .int .i64 0, .int .i64 0] rfl rfl info_head honeh h3 rfl f3 ?_; intro w4 h4 f4 k4 z4; replace h1 := h1.keeps k4 (by simp; omega); replace f1 := f1.keeps k4 (by omega) (by simp; omega); have B4 := B3.trans (k4.toBelow B3.size (by simp; omega)); have K4 : Keeps [] w2 w4 := (Keeps.below b3).next k4 (by intro i hi; simp at hi; subst hi; exact .inr (Nat.le_refl _)); have c2 := h4.at 2 (u := .int .i64 n) rfl)
      | ((with_reducible refine wpl_at (o := ⟨none, .store 36 (.tmp 4) (.tmp 26), _, _, _, _⟩) ?_); refine wpl_storeAll rfl rfl _ _ _ rfl w.heap.size (zK 0) (zK 0) rfl rfl info_pac (zK_one 0) h1 rfl f1 ?_; intro w9 h9 f9 k9 z9))
    rw [hr]
    refine bodyPost_ret (v := .tuple #[.agg (Pac.zero.cells Nl Nl).toArray, .int .i64 (0), .bool false, .int .i64 (E)]) (results_cell3 Tryz.results38 rfl (ret_pac h9 rfl) rfl rfl rfl) rfl ?_
    exact ⟨Nl, Nl, rfl, PacOwn.nil (p := Pac.zero) _ _ rfl rfl, B4.trans (k9.toBelow B4.size (by simp))⟩
  subst hE0
  obtain ⟨r1, r2, r3, r4⟩ := HR.out rfl
  have hwr : IntKind.i64.wrap ((l.length : Int) - q) = (l.length : Int) - q := IntWalk.i64_in _ (by omega)
  by_cases hn : (l.length : Int) - q < n
  · have hr : R = (Pac.zero, 0, false, 0) := by rw [HO.out, if_neg (by decide), if_neg (by simp), if_pos hn]
    go_wp2_with (first
      | (with_reducible refine wpl_alloc (o := ⟨some 8, .alloc 85, _, _, _, _⟩) rfl _ rfl [.int .i64 0, .int .i64 0, .int .i64 0] alloc_head _ rfl ?_; intro w3 h3 f3 b3 z3; replace h1 := h1.keep b3 (by omega); replace f1 := f1.keep b3 (by omega); have B3 := Below.up B2 b3)
      | ((with_reducible refine wpl_at (o := ⟨none, .store 85 (.tmp 8) (.tmp 16), _, _, _, _⟩) ?_); refine wpl_storeAll rfl rfl _ _ _ rfl w2.heap.size [.int .i64 k, .int .i64 f, .int .i64 n] [.int .i64 0, .int .i64 0, .int .i64 0] rfl rfl info_head honeh h3 rfl f3 ?_; intro w4 h4 f4 k4 z4; replace h1 := h1.keeps k4 (by simp; omega); replace f1 := f1.keeps k4 (by omega) (by simp; omega); have B4 := B3.trans (k4.toBelow B3.size (by simp; omega)); have K4 : Keeps [] w2 w4 := (Keeps.below b3).next k4 (by intro i hi; simp at hi; subst hi; exact .inr (Nat.le_refl _)); have c2 := h4.at 2 (u := .int .i64 n) rfl)
      | ((with_reducible refine wpl_at (o := ⟨none, .store 36 (.tmp 4) (.tmp 36), _, _, _, _⟩) ?_); refine wpl_storeAll rfl rfl _ _ _ rfl w.heap.size (zK 0) (zK 0) rfl rfl info_pac (zK_one 0) h1 rfl f1 ?_; intro w9 h9 f9 k9 z9))
    rw [hr]
    refine bodyPost_ret (v := .tuple #[.agg (Pac.zero.cells Nl Nl).toArray, .int .i64 (0), .bool false, .int .i64 (0)]) (results_cell3 Tryz.results38 rfl (ret_pac h9 rfl) rfl rfl rfl) rfl ?_
    exact ⟨Nl, Nl, rfl, PacOwn.nil (p := Pac.zero) _ _ rfl rfl, B4.trans (k9.toBelow B4.size (by simp))⟩
  have hlt := HO.out
  clear HO
  obtain ⟨qn, rfl⟩ := Int.eq_ofNat_of_zero_le (show 0 ≤ q by omega)
  obtain ⟨nn, rfl⟩ := Int.eq_ofNat_of_zero_le r3
  have hr : R = ((paOf k f nn ((l.drop qn).take nn)).1, (qn : Int) + nn, decide ((paOf k f nn ((l.drop qn).take nn)).2 = 0), (paOf k f nn ((l.drop qn).take nn)).2) := by
    rw [hlt, if_neg (by decide), if_neg (by simp), if_neg hn, Int.toNat_natCast, Int.toNat_natCast]
  have HRR := hd hr
  clear hlt hr
  have hwr2 : IntKind.i64.wrap ((qn : Int) + nn) = (qn : Int) + nn := IntWalk.i64_in _ (by omega)
  obtain ⟨pa, pc, hrun, hpart⟩ := run_part HV.out (qn : Int) ((qn : Int) + nn) qn (qn + nn) rfl (by push_cast; rfl) (by omega) (by omega)
  rw [show qn + nn - qn = nn by omega] at hrun hpart
  have hbl : ((l.drop qn).take nn).length = nn := by rw [List.length_take, List.length_drop]; omega
  generalize (l.drop qn).take nn = body at *
  go_wp2_with (first
    | (with_reducible refine wpl_alloc (o := ⟨some 8, .alloc 85, _, _, _, _⟩) rfl _ rfl [.int .i64 0, .int .i64 0, .int .i64 0] alloc_head _ rfl ?_; intro w3 h3 f3 b3 z3; replace h1 := h1.keep b3 (by omega); replace f1 := f1.keep b3 (by omega); have B3 := Below.up B2 b3)
    | ((with_reducible refine wpl_at (o := ⟨none, .store 85 (.tmp 8) (.tmp 16), _, _, _, _⟩) ?_); refine wpl_storeAll rfl rfl _ _ _ rfl w2.heap.size [.int .i64 k, .int .i64 f, .int .i64 nn] [.int .i64 0, .int .i64 0, .int .i64 0] rfl rfl info_head honeh h3 rfl f3 ?_; intro w4 h4 f4 k4 z4; replace h1 := h1.keeps k4 (by simp; omega); replace f1 := f1.keeps k4 (by omega) (by simp; omega); have B4 := B3.trans (k4.toBelow B3.size (by simp; omega)); have K4 : Keeps [] w2 w4 := (Keeps.below b3).next k4 (by intro i hi; simp at hi; subst hi; exact .inr (Nat.le_refl _)); have c2 := h4.at 2 (u := .int .i64 nn) rfl))
  have D1 := (hpart.below' B4 (Nat.le_refl _)).below' ((Below.refl w4.heap.size _).drew) (Nat.le_refl _)
  have D2 := h4.drew
  have h1d := h1.drew
  have f1d := f1.drew
  have B5 := B4.drew
  have hz5 : w4.drew.heap.size = w4.heap.size := rfl
  refine wp_region_T (fun W => Bs W (.slice pa nn pc) body ∧ At W w2.heap.size [.int .i64 k, .int .i64 f, .int .i64 nn]) 16 (.still 0 (.still 1 (.still 2 (.still 3 (.still 4 (.still 5 (.still 6 (.still 7 (.still 8 (.still 9 (.fork 10 (.still 11 (.still 12 (.still 13 (.move 14 (.move 15 (.move 16 .done)))))) 14 (.move 10 (.still 11 (.still 12 (.still 13 (.move 15 (.move 16 .done)))))))))))))))))  (by kernel_rfl) (by kernel_rfl) (fun _ _ _ _ h => h) ⟨D1, D2⟩ ?_
  clear h1 f1 h4 f4 c2 B4 B3 K4
  generalize w4.drew = w5 at *
  apply wpT_still (by rfl) (by rfl)
  · intro W hC
    exact still_loadAt _ _ rfl w2.heap.size 0 rfl [.int .i64 k, .int .i64 f, .int .i64 nn] _ (At.range hC.2) Tryz.underlying85 rfl info_head
  go_simp
  apply wpT_still (by rfl) (by rfl)
  · intro W hC
    go_simp
    rfl
  go_simp
  apply wpT_still (by rfl) (by rfl)
  · intro W hC
    go_simp
    rfl
  go_simp
  apply wpT_still (by rfl) (by rfl)
  · intro W hC
    go_simp
    rfl
  go_simp
  apply wpT_still (by rfl) (by rfl)
  · intro W hC
    go_simp
    rfl
  go_simp
  apply wpT_still (by rfl) (by rfl)
  · intro W hC
    have d := At.at hC.2 2 (u := .int .i64 nn) rfl
    go_simp
    rfl
  go_simp
  apply wpT_still (by rfl) (by rfl)
  · intro W hC
    go_simp
    rfl
  go_simp
  apply wpT_still (by rfl) (by rfl)
  · intro W hC
    go_simp
    rfl
  go_simp
  apply wpT_still (by rfl) (by rfl)
  · intro W hC
    have d := run_str hC.1
    go_simp
    rfl
  go_simp
  apply wpT_still (by rfl) (by rfl)
  · intro W hC
    go_simp
    rfl
  go_simp
  have hpo := packOf_c k f nn (sOf body)
  rw [show sB (sOf body) = body from rfl] at hpo
  obtain ⟨P, E', hPE⟩ : ∃ P E', paOf k f nn body = (P, E') := ⟨_, _, rfl⟩
  rw [hPE] at hpo HRR
  have HPO := hd hpo
  clear hpo hPE
  have hbz : (sOf body).size ≤ 140737488351232 := by rw [sOf_sizeP]; omega
  refine wpT_fork (by rfl) (by rfl) (by rfl) (by rfl) ?_ ?_
  · intro K hK
    go_simp
    refine (HPO.out _ hbz (HH.out.below B5 (Nat.le_refl _)) (HE.out.below B5)).mono ?_
    rintro e w6 ⟨vf, vc, rfl, hr6, hb6⟩
    go_simp
    have hz6 := hb6.size
    have E2 := D2.keep hb6 D2.lt
    replace h1d := h1d.keep hb6 h1d.lt
    replace f1d := f1d.keep hb6 (by omega)
    have B6 := B5.trans (hb6.mono B5.size)
    refine hK _ _ (fun _ => ⟨hpart.below' B6 (Nat.le_refl _), E2⟩) ?_
    clear hK K D1 D2
    have hone := Pac.one P vf vc hr6.rd.f.oneCell hr6.rd.c.oneCell
    apply wpT_still (by rfl) (by rfl)
    · intro W hC
      go_simp
      rfl
    go_simp
    apply wpT_still (by rfl) (by rfl)
    · intro W hC
      go_simp
      rfl
    go_simp
    apply wpT_still (by rfl) (by rfl)
    · intro W hC
      go_simp
      rfl
    go_simp
    apply wpT_move (by rfl) (by rfl)
    intro K hK
    go_simp
    have b7 := (Below.refl w6.heap.size w6).alloc (Nat.le_refl _) (.cells (zK 0).toArray 36)
    have h7 : At (w6.alloc (.cells (zK 0).toArray 36)) w6.heap.size (zK 0) := At.new _ _ _
    have f7 : Free (w6.alloc (.cells (zK 0).toArray 36)) w6.heap.size := Free.new _ _ _
    have z7 : (w6.alloc (.cells (zK 0).toArray 36)).heap.size = w6.heap.size + 1 := by simp [go_sem]
    have F2 := E2.keep b7 E2.lt
    replace h1d := h1d.keep b7 h1d.lt
    replace f1d := f1d.keep b7 (by omega)
    have B7 := B6.trans (b7.mono B6.size)
    have hr7 := hr6.kept b7 (Nat.le_refl _)
    refine hK _ (w6.alloc (.cells (zK 0).toArray 36)) (fun _ => ⟨hpart.below' B7 (Nat.le_refl _), F2⟩) ?_
    clear hK K E2
    generalize w6.alloc (.cells (zK 0).toArray 36) = w7 at *
    apply wpT_move (by rfl) (by rfl)
    intro K hK
    refine wpo_storeMid rfl _ _ _ rfl w6.heap.size 0 (P.cells vf vc) (zK 0) (P.cells vf vc) rfl rfl info_pac hone h7 rfl (by show 0 + 24 ≤ 24; decide) f7 ?_
    intro w8 h8 f8 k8 z8
    have G2 := F2.keeps k8 (by simp; omega)
    replace h1d := h1d.keeps k8 (by simp; omega)
    replace f1d := f1d.keeps k8 (by omega) (by simp; omega)
    have B8 := B7.trans (k8.toBelow B7.size (by simp; omega))
    have K68 : Keeps [] w6 w8 := (Keeps.below b7).next k8 (by intro i hi; simp at hi; subst hi; exact .inr (Nat.le_refl _))
    have hr8 := hr6.keeps K68 (by simp)
    refine hK _ _ (fun _ => ⟨hpart.below' B8 (Nat.le_refl _), G2⟩) ?_
    clear hK K F2 h7 f7
    apply wpT_move (by rfl) (by rfl)
    intro K hK
    go_simp
    refine hK _ _ (fun h => absurd h (by decide)) ?_
    clear hK K
    refine wpT_done ?_
    go_wp2_with fail
    have H8 := h8.drew
    have G2d := G2.drew
    have h1e := h1d.drew
    have f1e := f1d.drew
    have B9 := B8.drew
    have K9 : Keeps [] w8 w8.drew := (Keeps.refl _ _).drew
    have hr9 := hr8.keeps K9 (by simp)
    have hz9 : w8.drew.heap.size = w8.heap.size := rfl
    refine wp_region_M (fun W => At W (w6.heap.size) (P.cells vf vc) ∧ At W w2.heap.size [.int .i64 k, .int .i64 f, .int .i64 nn]) 11 [(0, false), (1, false), (2, false), (3, false), (4, false), (5, false), (6, false), (7, false), (8, true), (9, false), (10, false), (11, true)] (by kernel_rfl) (by kernel_rfl) (fun _ _ _ _ h => h) ⟨H8, G2d⟩ ?_
    clear h1d f1d h8 f8 G2 B8 hr8
    generalize w8.drew = w9 at *
    apply wpM_still (by rfl) (by rfl)
    · intro W hC
      exact still_loadAt _ _ rfl (w6.heap.size) 0 rfl (P.cells vf vc) _ (At.range hC.1) Tryz.underlying36 rfl info_pac
    go_simp
    apply wpM_still (by rfl) (by rfl)
    · intro W hC
      go_simp
      rfl
    go_simp
    apply wpM_still (by rfl) (by rfl)
    · intro W hC
      go_simp
      rfl
    go_simp
    apply wpM_still (by rfl) (by rfl)
    · intro W hC
      have d := At.at hC.2 2 (u := .int .i64 nn) rfl
      go_simp
      rfl
    go_simp
    apply wpM_still (by rfl) (by rfl)
    · intro W hC
      go_simp
      rfl
    go_simp
    apply wpM_still (by rfl) (by rfl)
    · intro W hC
      go_simp
      rfl
    go_simp
    apply wpM_still (by rfl) (by rfl)
    · intro W hC
      go_simp
      rfl
    go_simp
    apply wpM_still (by rfl) (by rfl)
    · intro W hC
      go_simp
      rfl
    go_simp
    apply wpM_move (by rfl) (by rfl)
    intro K hK
    refine wpo_storeMid rfl _ _ _ rfl w.heap.size 0 (P.cells vf vc) (zK 0) (P.cells vf vc) rfl rfl info_pac hone h1e rfl (by show 0 + 24 ≤ 24; decide) f1e ?_
    intro wa ha fa ka za
    refine hK _ _ (fun _ => ⟨H8.keeps ka (by simp; omega), G2d.keeps ka (by simp; omega)⟩) ?_
    clear hK K
    have Ba := B9.trans (ka.toBelow B9.size (by simp))
    have hra := hr9.keeps ka (by intro i hi; simp at hi; omega)
    apply wpM_still (by rfl) (by rfl)
    · intro W hC
      go_simp
      rfl
    go_simp
    apply wpM_still (by rfl) (by rfl)
    · intro W hC
      go_simp
      rfl
    go_simp
    apply wpM_move (by rfl) (by rfl)
    intro K hK
    go_simp
    refine hK _ _ (fun h => absurd h (by decide)) ?_
    clear hK K
    refine wpM_nil ?_
    go_wp2_with fail
    rw [HRR.out]
    refine bodyPost_ret (v := .tuple #[.agg (P.cells vf vc).toArray, .int .i64 ((qn : Int) + nn), .bool (decide (E' = 0)), .int .i64 E']) (results_cell3 Tryz.results38 rfl (ret_pac ha rfl) rfl rfl rfl) rfl ?_
    exact ⟨vf, vc, rfl, hra.le (by omega), Ba⟩
  · intro K hK
    go_simp
    have b6 := (Below.refl w5.heap.size w5).alloc (Nat.le_refl _) (.cells (zK 0).toArray 36)
    have h6 : At (w5.alloc (.cells (zK 0).toArray 36)) w5.heap.size (zK 0) := At.new _ _ _
    have f6 : Free (w5.alloc (.cells (zK 0).toArray 36)) w5.heap.size := Free.new _ _ _
    have z6 : (w5.alloc (.cells (zK 0).toArray 36)).heap.size = w5.heap.size + 1 := by simp [go_sem]
    have E2 := D2.keep b6 D2.lt
    replace h1d := h1d.keep b6 h1d.lt
    replace f1d := f1d.keep b6 (by omega)
    have B6 := B5.trans (b6.mono B5.size)
    refine hK _ (w5.alloc (.cells (zK 0).toArray 36)) (fun _ => ⟨hpart.below' B6 (Nat.le_refl _), E2⟩) ?_
    clear hK K D1 D2
    generalize w5.alloc (.cells (zK 0).toArray 36) = w6 at *
    have hg : w5.heap.size = w2.heap.size + 1 := by omega
    rw [hg] at h6 f6
    apply wpT_move (by rfl) (by rfl)
    intro K hK
    go_simp
    refine (HPO.out _ hbz (HH.out.below B6 (Nat.le_refl _)) (HE.out.below B6)).mono ?_
    rintro e w7 ⟨vf, vc, rfl, hr7, hb7⟩
    go_simp
    have hz7 := hb7.size
    have F2 := E2.keep hb7 E2.lt
    replace h1d := h1d.keep hb7 h1d.lt
    replace f1d := f1d.keep hb7 (by omega)
    have h7 := h6.keep hb7 h6.lt
    have f7 := f6.keep hb7 (by omega)
    have B7 := B6.trans (hb7.mono B6.size)
    refine hK _ _ (fun _ => ⟨hpart.below' B7 (Nat.le_refl _), F2⟩) ?_
    clear hK K E2 h6 f6
    have hone := Pac.one P vf vc hr7.rd.f.oneCell hr7.rd.c.oneCell
    apply wpT_still (by rfl) (by rfl)
    · intro W hC
      go_simp
      rfl
    go_simp
    apply wpT_still (by rfl) (by rfl)
    · intro W hC
      go_simp
      rfl
    go_simp
    apply wpT_still (by rfl) (by rfl)
    · intro W hC
      go_simp
      rfl
    go_simp
    apply wpT_move (by rfl) (by rfl)
    intro K hK
    refine wpo_storeMid rfl _ _ _ rfl (w2.heap.size + 1) 0 (P.cells vf vc) (zK 0) (P.cells vf vc) rfl rfl info_pac hone h7 rfl (by show 0 + 24 ≤ 24; decide) f7 ?_
    intro w8 h8 f8 k8 z8
    have G2 := F2.keeps k8 (by simp)
    replace h1d := h1d.keeps k8 (by simp; omega)
    replace f1d := f1d.keeps k8 (by omega) (by simp; omega)
    have B8 := B7.trans (k8.toBelow B7.size (by simp; omega))
    have hr8 := hr7.keeps k8 (by intro i hi; simp at hi; omega)
    refine hK _ _ (fun _ => ⟨hpart.below' B8 (Nat.le_refl _), G2⟩) ?_
    clear hK K F2 h7 f7
    apply wpT_move (by rfl) (by rfl)
    intro K hK
    go_simp
    refine hK _ _ (fun h => absurd h (by decide)) ?_
    clear hK K
    refine wpT_done ?_
    go_wp2_with fail
    have H8 := h8.drew
    have G2d := G2.drew
    have h1e := h1d.drew
    have f1e := f1d.drew
    have B9 := B8.drew
    have K9 : Keeps [] w8 w8.drew := (Keeps.refl _ _).drew
    have hr9 := hr8.keeps K9 (by simp)
    have hz9 : w8.drew.heap.size = w8.heap.size := rfl
    refine wp_region_M (fun W => At W (w2.heap.size + 1) (P.cells vf vc) ∧ At W w2.heap.size [.int .i64 k, .int .i64 f, .int .i64 nn]) 11 [(0, false), (1, false), (2, false), (3, false), (4, false), (5, false), (6, false), (7, false), (8, true), (9, false), (10, false), (11, true)] (by kernel_rfl) (by kernel_rfl) (fun _ _ _ _ h => h) ⟨H8, G2d⟩ ?_
    clear h1d f1d h8 f8 G2 B8 hr8
    generalize w8.drew = w9 at *
    apply wpM_still (by rfl) (by rfl)
    · intro W hC
      exact still_loadAt _ _ rfl (w2.heap.size + 1) 0 rfl (P.cells vf vc) _ (At.range hC.1) Tryz.underlying36 rfl info_pac
    go_simp
    apply wpM_still (by rfl) (by rfl)
    · intro W hC
      go_simp
      rfl
    go_simp
    apply wpM_still (by rfl) (by rfl)
    · intro W hC
      go_simp
      rfl
    go_simp
    apply wpM_still (by rfl) (by rfl)
    · intro W hC
      have d := At.at hC.2 2 (u := .int .i64 nn) rfl
      go_simp
      rfl
    go_simp
    apply wpM_still (by rfl) (by rfl)
    · intro W hC
      go_simp
      rfl
    go_simp
    apply wpM_still (by rfl) (by rfl)
    · intro W hC
      go_simp
      rfl
    go_simp
    apply wpM_still (by rfl) (by rfl)
    · intro W hC
      go_simp
      rfl
    go_simp
    apply wpM_still (by rfl) (by rfl)
    · intro W hC
      go_simp
      rfl
    go_simp
    apply wpM_move (by rfl) (by rfl)
    intro K hK
    refine wpo_storeMid rfl _ _ _ rfl w.heap.size 0 (P.cells vf vc) (zK 0) (P.cells vf vc) rfl rfl info_pac hone h1e rfl (by show 0 + 24 ≤ 24; decide) f1e ?_
    intro wa ha fa ka za
    refine hK _ _ (fun _ => ⟨H8.keeps ka (by simp; omega), G2d.keeps ka (by simp; omega)⟩) ?_
    clear hK K
    have Ba := B9.trans (ka.toBelow B9.size (by simp))
    have hra := hr9.keeps ka (by intro i hi; simp at hi; omega)
    apply wpM_still (by rfl) (by rfl)
    · intro W hC
      go_simp
      rfl
    go_simp
    apply wpM_still (by rfl) (by rfl)
    · intro W hC
      go_simp
      rfl
    go_simp
    apply wpM_move (by rfl) (by rfl)
    intro K hK
    go_simp
    refine hK _ _ (fun h => absurd h (by decide)) ?_
    clear hK K
    refine wpM_nil ?_
    go_wp2_with fail
    rw [HRR.out]
    refine bodyPost_ret (v := .tuple #[.agg (P.cells vf vc).toArray, .int .i64 ((qn : Int) + nn), .bool (decide (E' = 0)), .int .i64 E']) (results_cell3 Tryz.results38 rfl (ret_pac ha rfl) rfl rfl rfl) rfl ?_
    exact ⟨vf, vc, rfl, hra.le (by omega), Ba⟩
end Go.Proofs.YtjlnlgemngpelaaGreatDoor

/- What a message that came in reads as. Of no function of the program. -/
namespace Go.Proofs.YtjlnlgemngpelaaGreatDoor
open Go.ChangeShapes Go.WideShapes Go.ChangeAt Go.RowKit
set_option maxRecDepth 100000
set_option linter.unusedVariables false
set_option linter.unusedSimpArgs false

theorem cells_string : Tryz.prog.cellsOf 9 = 1 := by kernel_rfl
theorem cells_int : Tryz.prog.cellsOf 3 = 1 := by kernel_rfl
theorem cells_bool : Tryz.prog.cellsOf 4 = 1 := by kernel_rfl
theorem cells_msg : Tryz.prog.cellsOf 30 = 4 := by kernel_rfl

section
variable {H : Type} {enc : TypeId × Value → H} {w : World} {base : Nat} {sp : Nat → Bool} {held : Bool}

theorem str_sized {t : TypeId} {s : ByteArray} {l : List (DataW H)} (h : ((DataW.lit (.string s.data.toList) : DataW H).weights Tryz.prog t).all (· ≤ reachBytes) = true) : s.size ≤ 140737488351232 := by
  simp only [DataW.weights, List.all_cons, List.all_nil, Bool.and_true, decide_eq_true_eq] at h
  have e : s.data.toList.length = s.size := Array.length_toList
  rw [e] at h
  have r : reachBytes = 140737488351232 := rfl
  omega


theorem msg_cells {n : Nat} {cs : List Value} {d : DataW H} {p : List MemPlace} (h : DataW.trod enc Tryz.prog w base sp held n 30 cs = some (d, p)) (hz : (d.weights Tryz.prog 30).all (· ≤ reachBytes) = true) :
    ∃ (T X : ByteArray) (q : Int) (R : Bool), cs = [.string T, .string X, .int .i64 q, .bool R] ∧ T.size ≤ 140737488351232 ∧ X.size ≤ 140737488351232 ∧ (Lit.int .i64 q).wf = true := by
  obtain ⟨xs, n', _, hx, hlen, hxl, hf⟩ := DataW.trod_struct Tryz.underlying30 h
  simp only [Prod.mk.injEq] at hx
  obtain ⟨rfl, rfl⟩ := hx
  rw [cells_msg] at hlen
  match cs, hlen, xs, hxl with
  | [c0, c1, c2, c3], _, [y0, y1, y2, y3], _ =>
    have g0 : DataW.trod enc Tryz.prog w base sp held n' 9 [c0] = some y0 := by have := hf 0 _ rfl; simpa [cells_string] using this
    have g1 : DataW.trod enc Tryz.prog w base sp held n' 9 [c1] = some y1 := by have := hf 1 _ rfl; simpa [cells_string] using this
    have g2 : DataW.trod enc Tryz.prog w base sp held n' 3 [c2] = some y2 := by have := hf 2 _ rfl; simpa [cells_int] using this
    have g3 : DataW.trod enc Tryz.prog w base sp held n' 4 [c3] = some y3 := by have := hf 3 _ rfl; simpa [cells_bool] using this
    obtain ⟨T, e0, rfl, _⟩ := DataW.trod_string Tryz.underlying9 g0
    obtain ⟨X, e1, rfl, _⟩ := DataW.trod_string Tryz.underlying9 g1
    obtain ⟨q, e2, rfl, hq⟩ := DataW.trod_int Tryz.underlying3 g2
    obtain ⟨R, e3, rfl⟩ := DataW.trod_bool Tryz.underlying4 g3
    simp only [List.cons.injEq, and_true] at e0 e1 e2 e3
    subst e0 e1 e2 e3
    have hw : (DataW.weightsEach Tryz.prog [9, 9, 3, 4] [DataW.lit (.string T.data.toList), DataW.lit (.string X.data.toList), DataW.lit (.int .i64 q), (DataW.lit (.bool R) : DataW H)]).all (· ≤ reachBytes) = true := by
      simpa [DataW.weights, Tryz.underlying30] using hz
    exact ⟨T, X, q, R, rfl, sized_string hw (j := 0) (t := 9) rfl rfl, sized_string hw (j := 1) (t := 9) rfl rfl, hq⟩

theorem open_msg {r : Reach} {b0 : Nat} {v : Value} {d : DataW H} {p : List MemPlace} (hv : Value.okWide Tryz.prog w r b0 30 v) (h : DataW.Trod enc Tryz.prog w base sp held 30 v d p) (hz : (d.weights Tryz.prog 30).all (· ≤ reachBytes) = true) :
    ∃ (T X : ByteArray) (q : Int) (R : Bool), v = .agg #[.string T, .string X, .int .i64 q, .bool R] ∧ T.size ≤ 140737488351232 ∧ X.size ≤ 140737488351232 ∧ (Lit.int .i64 q).wf = true := by
  obtain ⟨cs, rfl, hsz⟩ := okWide_struct Tryz.underlying30 hv
  obtain ⟨fuel, hf⟩ := h
  obtain ⟨T, X, q, R, hc, h1⟩ := msg_cells hf hz
  refine ⟨T, X, q, R, ?_, h1⟩
  have : cs.toList = [.string T, .string X, .int .i64 q, .bool R] := by simpa [Value.cells] using hc
  rw [← Array.toArray_toList (xs := cs), this]
end
end Go.Proofs.YtjlnlgemngpelaaGreatDoor

/- What somebody who came in reads as. Of no function of the program. -/
namespace Go.Proofs.YtjlnlgemngpelaaGreatDoor
open Go.ChangeShapes Go.WideShapes Go.ChangeAt Go.RowKit
set_option maxRecDepth 100000
set_option linter.unusedVariables false
set_option linter.unusedSimpArgs false

theorem cells_con : Tryz.prog.cellsOf 32 = 13 := by kernel_rfl

section
variable {H : Type} {enc : TypeId × Value → H} {w : World} {base : Nat} {sp : Nat → Bool} {held : Bool}


theorem con_cells {n : Nat} {cs : List Value} {d : DataW H} {p : List MemPlace} (h : DataW.trod enc Tryz.prog w base sp held n 32 cs = some (d, p)) (hz : (d.weights Tryz.prog 32).all (· ≤ reachBytes) = true) :
    ∃ c : Con, cs = c.cells ∧ c.sized 140737488351232 := by
  obtain ⟨xs, n', _, hx, hlen, hxl, hf⟩ := DataW.trod_struct Tryz.underlying32 h
  simp only [Prod.mk.injEq] at hx
  obtain ⟨rfl, rfl⟩ := hx
  rw [cells_con] at hlen
  match cs, hlen, xs, hxl with
  | [c0, c1, c2, c3, c4, c5, c6, c7, c8, c9, c10, c11, c12], _, [y0, y1, y2, y3, y4, y5, y6, y7, y8, y9], _ =>
    have g0 : DataW.trod enc Tryz.prog w base sp held n' 3 [c0] = some y0 := by have := hf 0 _ rfl; simpa [cells_int] using this
    have g1 : DataW.trod enc Tryz.prog w base sp held n' 4 [c1] = some y1 := by have := hf 1 _ rfl; simpa [cells_bool] using this
    have g2 : DataW.trod enc Tryz.prog w base sp held n' 3 [c2] = some y2 := by have := hf 2 _ rfl; simpa [cells_int] using this
    have g3 : DataW.trod enc Tryz.prog w base sp held n' 9 [c3] = some y3 := by have := hf 3 _ rfl; simpa [cells_string] using this
    have g4 : DataW.trod enc Tryz.prog w base sp held n' 4 [c4] = some y4 := by have := hf 4 _ rfl; simpa [cells_bool] using this
    have g5 : DataW.trod enc Tryz.prog w base sp held n' 30 [c5, c6, c7, c8] = some y5 := by have := hf 5 _ rfl; simpa [cells_msg] using this
    have g6 : DataW.trod enc Tryz.prog w base sp held n' 4 [c9] = some y6 := by have := hf 6 _ rfl; simpa [cells_bool] using this
    have g7 : DataW.trod enc Tryz.prog w base sp held n' 9 [c10] = some y7 := by have := hf 7 _ rfl; simpa [cells_string] using this
    have g8 : DataW.trod enc Tryz.prog w base sp held n' 4 [c11] = some y8 := by have := hf 8 _ rfl; simpa [cells_bool] using this
    have g9 : DataW.trod enc Tryz.prog w base sp held n' 9 [c12] = some y9 := by have := hf 9 _ rfl; simpa [cells_string] using this
    obtain ⟨x0, e0, rfl, _⟩ := DataW.trod_int Tryz.underlying3 g0
    obtain ⟨x1, e1, rfl⟩ := DataW.trod_bool Tryz.underlying4 g1
    obtain ⟨x2, e2, rfl, _⟩ := DataW.trod_int Tryz.underlying3 g2
    obtain ⟨x3, e3, rfl, _⟩ := DataW.trod_string Tryz.underlying9 g3
    obtain ⟨x4, e4, rfl⟩ := DataW.trod_bool Tryz.underlying4 g4
    obtain ⟨x6, e6, rfl⟩ := DataW.trod_bool Tryz.underlying4 g6
    obtain ⟨x7, e7, rfl, _⟩ := DataW.trod_string Tryz.underlying9 g7
    obtain ⟨x8, e8, rfl⟩ := DataW.trod_bool Tryz.underlying4 g8
    obtain ⟨x9, e9, rfl, _⟩ := DataW.trod_string Tryz.underlying9 g9
    obtain ⟨d5, p5⟩ := y5
    have hw : (DataW.weightsEach Tryz.prog [3, 4, 3, 9, 4, 30, 4, 9, 4, 9] [DataW.lit (.int .i64 x0), DataW.lit (.bool x1), DataW.lit (.int .i64 x2), DataW.lit (.string x3.data.toList), DataW.lit (.bool x4), d5, DataW.lit (.bool x6), DataW.lit (.string x7.data.toList), DataW.lit (.bool x8), DataW.lit (.string x9.data.toList)]).all (· ≤ reachBytes) = true := by
      simpa [DataW.weights, Tryz.underlying32] using hz
    obtain ⟨T, X, q, R, e5, hT, hX, _⟩ := msg_cells g5 (sized_at hw (j := 5) (t := 30) rfl rfl)
    simp only [List.cons.injEq, and_true] at e0 e1 e2 e3 e4 e5 e6 e7 e8 e9
    obtain ⟨rfl, rfl, rfl, rfl⟩ := e5
    subst e0 e1 e2 e3 e4 e6 e7 e8 e9
    exact ⟨⟨x0, x1, x2, x3, x4, T, X, q, R, x6, x7, x8, x9⟩, rfl, sized_string hw (j := 3) (t := 9) rfl rfl, hT, hX, sized_string hw (j := 7) (t := 9) rfl rfl, sized_string hw (j := 9) (t := 9) rfl rfl⟩

theorem open_con {r : Reach} {b0 : Nat} {v : Value} {d : DataW H} {p : List MemPlace} (hv : Value.okWide Tryz.prog w r b0 32 v) (h : DataW.Trod enc Tryz.prog w base sp held 32 v d p) (hz : (d.weights Tryz.prog 32).all (· ≤ reachBytes) = true) :
    ∃ c : Con, v = .agg c.cells.toArray ∧ c.sized 140737488351232 := by
  obtain ⟨cs, rfl, hsz⟩ := okWide_struct Tryz.underlying32 hv
  obtain ⟨fuel, hf⟩ := h
  obtain ⟨c, hc, h1⟩ := con_cells hf hz
  refine ⟨c, ?_, h1⟩
  have : cs.toList = c.cells := by simpa [Value.cells] using hc
  rw [← Array.toArray_toList (xs := cs), this]
end
end Go.Proofs.YtjlnlgemngpelaaGreatDoor

/- What wishes, and numbers, that came in read as. Of no function of the program. -/
namespace Go.Proofs.YtjlnlgemngpelaaGreatDoor
open Go.ChangeShapes Go.WideShapes Go.ChangeAt Go.RowKit
set_option linter.unusedVariables false
set_option linter.unusedSimpArgs false

theorem weights_mem {H : Type} {P : Program} {e : TypeId} : ∀ {ds : List (DataW H)} {d : DataW H}, (DataW.weightsAll P e ds).all (· ≤ reachBytes) = true → d ∈ ds → (d.weights P e).all (· ≤ reachBytes) = true
  | d0 :: ds, d, h, hm => by
    rw [DataW.weightsAll, List.all_append, Bool.and_eq_true] at h
    rcases List.mem_cons.1 hm with rfl | hm
    · exact h.1
    · exact weights_mem h.2 hm
theorem weights_slice {H : Type} {P : Program} {t e : TypeId} (ht : P.underlying t = some (.slice e)) {es sp : List (DataW H)} {d : DataW H} (h : ((DataW.slice es sp).weights P t).all (· ≤ reachBytes) = true) (hm : d ∈ es) : (d.weights P e).all (· ≤ reachBytes) = true := by
  simp only [DataW.weights, ht, List.all_cons, List.all_append, Bool.and_eq_true] at h
  exact weights_mem h.2.1 hm

section
variable {H : Type} {enc : TypeId × Value → H} {w : World}

set_option maxRecDepth 100000 in
theorem open_wishes {r : Reach} {b0 : Nat} {v : Value} {d : DataW H} {ps : List MemPlace} (hval : Value.okWide Tryz.prog w r b0 33 v)
    (h : DataW.Trod enc Tryz.prog w 0 (fun _ => true) true 33 v d ps) (hz : (d.weights Tryz.prog 33).all (· ≤ reachBytes) = true) : ∃ l : List Wish, Ws w v l ∧ ∀ f ∈ l, f.1.size ≤ 140737488351232 := by
  obtain ⟨a, len, cap, rfl⟩ := okWide_slice Tryz.underlying33 hval
  obtain ⟨fuel, hf⟩ := h
  have hf' : DataW.trod enc Tryz.prog w 0 (fun _ => true) true fuel 33 [.slice a len cap] = some (d, ps) := by simpa [Value.cells] using hf
  rcases Go.Deep.open_slice_pairs Tryz.underlying33 Tryz.underlying76 (by kernel_rfl) rfl rfl (by kernel_rfl) (by kernel_rfl) hf' with ⟨hcs, hx⟩ | ⟨ad, len', cap', m, n, V0, V1, D0, D1, P0, P1, hcs, _, hl, hm, hmm, hx, hcell⟩
  · simp only [List.cons.injEq, Value.slice.injEq, and_true] at hcs
    obtain ⟨rfl, rfl, rfl⟩ := hcs
    exact ⟨[], Rd.nil w, by simp⟩
  · simp only [List.cons.injEq, Value.slice.injEq, and_true] at hcs
    obtain ⟨rfl, rfl, rfl⟩ := hcs
    simp only [if_true] at hmm
    subst hmm
    simp only [Prod.mk.injEq] at hx
    obtain ⟨rfl, _⟩ := hx
    have each : ∀ i, i < len → ∃ f : Wish, V0 i = .string f.1 ∧ V1 i = .int .i64 f.2 ∧ f.1.size ≤ 140737488351232 := by
      intro i hi
      obtain ⟨_, _, t0, t1⟩ := hcell i (by omega)
      obtain ⟨s, e0, hd0, _⟩ := DataW.trod_string Tryz.underlying9 t0
      obtain ⟨q, e1, hd1, _⟩ := DataW.trod_int Tryz.underlying3 t1
      simp only [List.cons.injEq, and_true] at e0 e1
      have hmem : (DataW.agg [D0 i, D1 i] : DataW H) ∈ (List.range len).map fun i => DataW.agg [D0 i, D1 i] := List.mem_map.2 ⟨i, List.mem_range.2 hi, rfl⟩
      have hw := weights_slice Tryz.underlying33 hz hmem
      refine ⟨(s, q), e0, e1, ?_⟩
      simp only [Prod.mk.injEq] at hd0
      have hw' : (DataW.weightsEach Tryz.prog [9, 3] [D0 i, D1 i]).all (· ≤ reachBytes) = true := by
        simpa [DataW.weights, Tryz.underlying76] using hw
      rw [hd0.1] at hw'
      exact sized_string hw' (j := 0) (t := 9) rfl rfl
    obtain ⟨g, hg⟩ := Go.Deep.choose_lt each
    have hlen : ((List.range len).map g).length = len := by simp
    refine ⟨(List.range len).map g, ?_, ?_⟩
    · unfold Ws
      rw [hlen]
      refine ⟨some ad, _, rfl, hl, hm, (fun e => by cases e), fun ad' e j u hu => ?_⟩
      cases e
      have hj : j < len * 2 := by
        have := (List.getElem?_eq_some_iff.1 hu).1
        rw [wCells_len, hlen] at this
        exact this
      have hi : j / 2 < len := by omega
      have hgi : ((List.range len).map g)[j / 2]? = some (g (j / 2)) := by simp [hi]
      have hwc := wCells_at _ _ _ hgi
      obtain ⟨c0, c1, _, _⟩ := hcell (j / 2) (by omega)
      obtain ⟨v0, v1, _⟩ := hg (j / 2) hi
      rcases Nat.mod_two_eq_zero_or_one j with hp | hp
      · have ej : j / 2 * 2 = j := by omega
        rw [ej] at c0 hwc
        rw [hwc.1] at hu
        cases hu
        rw [c0, v0]
      · have ej : j / 2 * 2 + 1 = j := by omega
        rw [ej] at c1 hwc
        rw [hwc.2] at hu
        cases hu
        rw [c1, v1]
    · intro f hf
      obtain ⟨i, hi, rfl⟩ := List.mem_map.1 hf
      exact (hg i (List.mem_range.1 hi)).2.2
end
end Go.Proofs.YtjlnlgemngpelaaGreatDoor

/- What numbers that came in read as. Of no function of the program. -/
namespace Go.Proofs.YtjlnlgemngpelaaGreatDoor
open Go.ChangeShapes Go.WideShapes Go.ChangeAt Go.RowKit
set_option linter.unusedVariables false
set_option linter.unusedSimpArgs false

set_option maxRecDepth 100000 in
theorem open_nums {H : Type} {enc : TypeId × Value → H} {W : World} {r : Reach} {b0 : Nat} {v : Value} {d : DataW H} {ps : List MemPlace} (hval : Value.okWide Tryz.prog W r b0 34 v)
    (h : DataW.Trod enc Tryz.prog W 0 (fun _ => true) true 34 v d ps) : ∃ l : List Int, Is W v l := by
  obtain ⟨a, len, cap, rfl⟩ := okWide_slice Tryz.underlying34 hval
  obtain ⟨fuel, hf⟩ := h
  have hf' : DataW.trod enc Tryz.prog W 0 (fun _ => true) true fuel 34 [.slice a len cap] = some (d, ps) := by simpa [Value.cells] using hf
  rcases open_ints Tryz.underlying34 Tryz.underlying3 (by kernel_rfl) hf' with ⟨hcs, hx⟩ | ⟨ad, len', cap', zs, hcs, _, hl, hm, hz, hx, hcell, hwz⟩
  · simp only [List.cons.injEq, Value.slice.injEq, and_true] at hcs
    obtain ⟨rfl, rfl, rfl⟩ := hcs
    exact ⟨[], Rd.nil W⟩
  · simp only [List.cons.injEq, Value.slice.injEq, and_true] at hcs
    obtain ⟨rfl, rfl, rfl⟩ := hcs
    simp only [if_true] at hz
    have hlen : (zs.take len).length = len := by simp; omega
    refine ⟨zs.take len, ?_⟩
    unfold Is
    rw [hlen]
    refine ⟨some ad, cap, rfl, hl, hm, (fun e => by cases e), fun ad' e j u hu => ?_⟩
    cases e
    have hj : j < len := by
      have := (List.getElem?_eq_some_iff.1 hu).1
      simp at this; omega
    have hjz : j < zs.length := by omega
    rw [hcell j hjz, ← hu]
    have e2 : ((zs.take len).map iV)[j]? = some (iV (zs[j]'hjz)) := by
      simp [hj, List.getElem?_eq_getElem hjz]
    rw [e2]
    simp [List.getD, hjz, iV]
end Go.Proofs.YtjlnlgemngpelaaGreatDoor

/- What rows of structs that came in read as: for whatever struct. Of no function of the program. -/
namespace Go.Proofs.YtjlnlgemngpelaaGreatDoor
open Go.ChangeShapes Go.WideShapes Go.ChangeAt Go.RowKit
set_option linter.unusedVariables false
set_option linter.unusedSimpArgs false

theorem flat_at {α : Type} (cells : α → List Value) (K : Nat) (hK0 : 0 < K) (hK : ∀ x, (cells x).length = K) : ∀ (l : List α) (j : Nat) (u : Value), (l.flatMap cells)[j]? = some u → ∃ x, l[j / K]? = some x ∧ (cells x)[j % K]? = some u
  | [], j, u, h => by simp at h
  | y :: t, j, u, h => by
    rw [List.flatMap_cons] at h
    by_cases hj : j < K
    · rw [List.getElem?_append_left (by rw [hK]; exact hj)] at h
      exact ⟨y, by rw [Nat.div_eq_of_lt hj]; rfl, by rw [Nat.mod_eq_of_lt hj]; exact h⟩
    · rw [List.getElem?_append_right (by rw [hK]; omega), hK] at h
      obtain ⟨x, h1, h2⟩ := flat_at cells K hK0 hK t (j - K) u h
      refine ⟨x, ?_, ?_⟩
      · have e : j / K = (j - K) / K + 1 := by
          have := Nat.add_div_right (j - K) hK0
          rw [Nat.sub_add_cancel (by omega)] at this
          exact this
        rw [e]; simpa using h1
      · have e : j % K = (j - K) % K := by rw [Nat.mod_eq_sub_mod (by omega)]
        rw [e]; exact h2

theorem rows_weights_mem {H : Type} {P : Program} {e : TypeId} : ∀ {ds : List (DataW H)} {d : DataW H}, (DataW.weightsAll P e ds).all (· ≤ reachBytes) = true → d ∈ ds → (d.weights P e).all (· ≤ reachBytes) = true
  | d0 :: ds, d, h, hm => by
    rw [DataW.weightsAll, List.all_append, Bool.and_eq_true] at h
    rcases List.mem_cons.1 hm with rfl | hm
    · exact h.1
    · exact rows_weights_mem h.2 hm
theorem rows_weights {H : Type} {P : Program} {t e : TypeId} (ht : P.underlying t = some (.slice e)) {es sp : List (DataW H)} {d : DataW H} (h : ((DataW.slice es sp).weights P t).all (· ≤ reachBytes) = true) (hm : d ∈ es) : (d.weights P e).all (· ≤ reachBytes) = true := by
  simp only [DataW.weights, ht, List.all_cons, List.all_append, Bool.and_eq_true] at h
  exact rows_weights_mem h.2.1 hm

section
variable {H : Type} {enc : TypeId × Value → H} {w : World}
set_option maxRecDepth 100000 in
theorem open_rows {α : Type} [Inhabited α] (cells : α → List Value) (K : Nat) (hK0 : 0 < K) (hK : ∀ x, (cells x).length = K) {t e : TypeId} (ht : Tryz.prog.underlying t = some (.slice e)) (hc : Tryz.prog.cellsOf e = K) (Good : α → Prop)
    (one : ∀ n cs d p, DataW.trod enc Tryz.prog w 0 (fun _ => true) true n e cs = some (d, p) → (d.weights Tryz.prog e).all (· ≤ reachBytes) = true → ∃ x, cs = cells x ∧ Good x)
    {r : Reach} {b0 : Nat} {v : Value} {d : DataW H} {ps : List MemPlace} (hval : Value.okWide Tryz.prog w r b0 t v)
    (h : DataW.Trod enc Tryz.prog w 0 (fun _ => true) true t v d ps) (hz : (d.weights Tryz.prog t).all (· ≤ reachBytes) = true) : ∃ l : List α, Rd w v l.length (l.flatMap cells) ∧ ∀ x ∈ l, Good x := by
  obtain ⟨a, len, cap, rfl⟩ := okWide_slice ht hval
  obtain ⟨fuel, hf⟩ := h
  have hf' : DataW.trod enc Tryz.prog w 0 (fun _ => true) true fuel t [.slice a len cap] = some (d, ps) := by simpa [Value.cells] using hf
  rcases Go.Deep.open_slice ht hf' with ⟨hcs, hx⟩ | ⟨ad, len', cap', m, n, D, Pl, hcs, _, hl, hm, hmm, hx, hcell⟩
  · simp only [List.cons.injEq, Value.slice.injEq, and_true] at hcs
    obtain ⟨rfl, rfl, rfl⟩ := hcs
    exact ⟨[], Rd.nil w, by simp⟩
  · simp only [List.cons.injEq, Value.slice.injEq, and_true] at hcs
    obtain ⟨rfl, rfl, rfl⟩ := hcs
    simp only [if_true] at hmm
    subst hmm
    simp only [Prod.mk.injEq] at hx
    obtain ⟨rfl, _⟩ := hx
    have each : ∀ i, i < len → ∃ x : α, w.cells? 0 (ad.add (i * K)) K = some (cells x) ∧ Good x := by
      intro i hi
      obtain ⟨cs', h1, h2⟩ := hcell i (by omega)
      have hmem : D i ∈ (List.range len).map D := List.mem_map.2 ⟨i, List.mem_range.2 hi, rfl⟩
      obtain ⟨x, rfl, hg⟩ := one _ _ _ _ h2 (rows_weights ht hz hmem)
      rw [hc] at h1
      exact ⟨x, h1, hg⟩
    obtain ⟨g, hg⟩ := Go.Deep.choose_lt each
    have hlen : ((List.range len).map g).length = len := by simp
    refine ⟨(List.range len).map g, ?_, ?_⟩
    · rw [hlen]
      refine ⟨some ad, _, rfl, hl, hm, (fun e => by cases e), fun ad' e j u hu => ?_⟩
      cases e
      obtain ⟨x, h1, h2⟩ := flat_at cells K hK0 hK _ j u hu
      have hi : j / K < len := by
        have := (List.getElem?_eq_some_iff.1 h1).1
        simpa using this
      have hgx : g (j / K) = x := by
        have : ((List.range len).map g)[j / K]? = some (g (j / K)) := by simp [hi]
        rw [this] at h1; exact Option.some.inj h1
      obtain ⟨_, _, hcc⟩ := World.cells?_some (hg (j / K) hi).1
      have hcj := hcc (j % K) (Nat.mod_lt _ hK0)
      rw [Go.Deep.add_add, hgx, h2, Nat.mul_comm, Nat.div_add_mod] at hcj
      exact hcj
    · intro f hf
      obtain ⟨i, hi, rfl⟩ := List.mem_map.1 hf
      exact (hg i (List.mem_range.1 hi)).2
end
end Go.Proofs.YtjlnlgemngpelaaGreatDoor

/- What packets that came in read as. Of no function of the program. -/
namespace Go.Proofs.YtjlnlgemngpelaaGreatDoor
open Go.ChangeShapes Go.WideShapes Go.ChangeAt Go.RowKit
set_option linter.unusedVariables false
set_option linter.unusedSimpArgs false
set_option maxRecDepth 100000

theorem cells_pac : Tryz.prog.cellsOf 36 = 24 := by kernel_rfl
theorem cells_wishes : Tryz.prog.cellsOf 33 = 1 := by kernel_rfl
theorem cells_nums : Tryz.prog.cellsOf 34 = 1 := by kernel_rfl
theorem bytes_filter : Tryz.prog.bytesOf 76 = 24 := by kernel_rfl
theorem bytes_int : Tryz.prog.bytesOf 3 = 8 := by kernel_rfl
theorem weights_len {H : Type} {P : Program} {t e : TypeId} (ht : P.underlying t = some (.slice e)) {es sp : List (DataW H)} (h : ((DataW.slice es sp).weights P t).all (· ≤ reachBytes) = true) : es.length * P.bytesOf e ≤ 140737488351232 := by
  simp only [DataW.weights, ht, List.all_cons, List.all_append, Bool.and_eq_true] at h
  have h1 : (es.length + sp.length) * P.bytesOf e ≤ reachBytes := by simpa using h.1
  have r : reachBytes = 140737488351232 := rfl
  rw [Nat.add_mul, r] at h1
  omega

section
variable {H : Type} {enc : TypeId × Value → H} {w : World}

theorem wishes_trod {n : Nat} {v : Value} {d : DataW H} {ps : List MemPlace}
    (hf' : DataW.trod enc Tryz.prog w 0 (fun _ => true) true n 33 [v] = some (d, ps)) (hz : (d.weights Tryz.prog 33).all (· ≤ reachBytes) = true) : ∃ l : List Wish, Ws w v l ∧ (∀ f ∈ l, f.1.size ≤ 140737488351232) ∧ l.length * 24 ≤ 140737488351232 := by
  rcases Go.Deep.open_slice_pairs Tryz.underlying33 Tryz.underlying76 (by kernel_rfl) rfl rfl (by kernel_rfl) (by kernel_rfl) hf' with ⟨hcs, hx⟩ | ⟨ad, len, cap, m, n, V0, V1, D0, D1, P0, P1, hcs, _, hl, hm, hmm, hx, hcell⟩
  · simp only [List.cons.injEq, and_true] at hcs
    subst hcs
    exact ⟨[], Rd.nil w, by simp, by simp⟩
  · simp only [List.cons.injEq, and_true] at hcs
    subst hcs
    simp only [if_true] at hmm
    subst hmm
    simp only [Prod.mk.injEq] at hx
    obtain ⟨rfl, _⟩ := hx
    have each : ∀ i, i < len → ∃ f : Wish, V0 i = .string f.1 ∧ V1 i = .int .i64 f.2 ∧ f.1.size ≤ 140737488351232 := by
      intro i hi
      obtain ⟨_, _, t0, t1⟩ := hcell i (by omega)
      obtain ⟨s, e0, hd0, _⟩ := DataW.trod_string Tryz.underlying9 t0
      obtain ⟨q, e1, hd1, _⟩ := DataW.trod_int Tryz.underlying3 t1
      simp only [List.cons.injEq, and_true] at e0 e1
      have hmem : (DataW.agg [D0 i, D1 i] : DataW H) ∈ (List.range len).map fun i => DataW.agg [D0 i, D1 i] := List.mem_map.2 ⟨i, List.mem_range.2 hi, rfl⟩
      have hw := weights_slice Tryz.underlying33 hz hmem
      refine ⟨(s, q), e0, e1, ?_⟩
      simp only [Prod.mk.injEq] at hd0
      have hw' : (DataW.weightsEach Tryz.prog [9, 3] [D0 i, D1 i]).all (· ≤ reachBytes) = true := by
        simpa [DataW.weights, Tryz.underlying76] using hw
      rw [hd0.1] at hw'
      exact sized_string hw' (j := 0) (t := 9) rfl rfl
    have hlw := weights_len Tryz.underlying33 hz
    rw [bytes_filter, List.length_map, List.length_range] at hlw
    obtain ⟨g, hg⟩ := Go.Deep.choose_lt each
    have hlen : ((List.range len).map g).length = len := by simp
    refine ⟨(List.range len).map g, ?_, ?_, by rw [hlen]; exact hlw⟩
    · unfold Ws
      rw [hlen]
      refine ⟨some ad, _, rfl, hl, hm, (fun e => by cases e), fun ad' e j u hu => ?_⟩
      cases e
      have hj : j < len * 2 := by
        have := (List.getElem?_eq_some_iff.1 hu).1
        rw [wCells_len, hlen] at this
        exact this
      have hi : j / 2 < len := by omega
      have hgi : ((List.range len).map g)[j / 2]? = some (g (j / 2)) := by simp [hi]
      have hwc := wCells_at _ _ _ hgi
      obtain ⟨c0, c1, _, _⟩ := hcell (j / 2) (by omega)
      obtain ⟨v0, v1, _⟩ := hg (j / 2) hi
      rcases Nat.mod_two_eq_zero_or_one j with hp | hp
      · have ej : j / 2 * 2 = j := by omega
        rw [ej] at c0 hwc
        rw [hwc.1] at hu
        cases hu
        rw [c0, v0]
      · have ej : j / 2 * 2 + 1 = j := by omega
        rw [ej] at c1 hwc
        rw [hwc.2] at hu
        cases hu
        rw [c1, v1]
    · intro f hf
      obtain ⟨i, hi, rfl⟩ := List.mem_map.1 hf
      exact (hg i (List.mem_range.1 hi)).2.2

theorem nums_trod {n : Nat} {v : Value} {d : DataW H} {ps : List MemPlace}
    (hf' : DataW.trod enc Tryz.prog w 0 (fun _ => true) true n 34 [v] = some (d, ps)) (hz : (d.weights Tryz.prog 34).all (· ≤ reachBytes) = true) : ∃ l : List Int, Is w v l ∧ l.length * 8 ≤ 140737488351232 := by
  rcases Go.Deep.open_slice Tryz.underlying34 hf' with ⟨hcs, hx⟩ | ⟨ad, len, cap, m, n, D, Pl, hcs, _, hl, hm, hmm, hx, hcell⟩
  · simp only [List.cons.injEq, and_true] at hcs
    subst hcs
    exact ⟨[], Rd.nil w, by simp⟩
  · simp only [List.cons.injEq, and_true] at hcs
    subst hcs
    simp only [if_true] at hmm
    subst hmm
    simp only [Prod.mk.injEq] at hx
    obtain ⟨rfl, _⟩ := hx
    have each : ∀ i, i < len → ∃ x : Int, w.cell? (ad.add i) = some (.int .i64 x) := by
      intro i hi
      obtain ⟨cs', h1, h2⟩ := hcell i (by omega)
      obtain ⟨x, rfl, _, _⟩ := DataW.trod_int Tryz.underlying3 h2
      rw [cells_int, Nat.mul_one] at h1
      obtain ⟨_, _, hcc⟩ := World.cells?_some h1
      have := hcc 0 (by decide)
      rw [Go.Deep.add_add] at this
      exact ⟨x, by simpa using this⟩
    have hlw := weights_len Tryz.underlying34 hz
    rw [bytes_int, List.length_map, List.length_range] at hlw
    obtain ⟨g, hg⟩ := Go.Deep.choose_lt each
    have hlen : ((List.range len).map g).length = len := by simp
    refine ⟨(List.range len).map g, ?_, by rw [hlen]; exact hlw⟩
    unfold Is
    rw [hlen]
    refine ⟨some ad, _, rfl, hl, hm, (fun e => by cases e), fun ad' e j u hu => ?_⟩
    cases e
    have hj : j < len := by
      have := (List.getElem?_eq_some_iff.1 hu).1
      simpa using this
    rw [hg j hj, ← hu]
    simp [hj, iV]

/-- A packet's cells that came in: what they are, and that the rows behind them read. -/
def PacIn (w : World) (p : Pac) (vf vc : Value) : Prop := Ws w vf p.fs ∧ Is w vc p.cs ∧ p.sized 140737488351232 ∧ p.fs.length * 24 ≤ 140737488351232 ∧ p.cs.length * 8 ≤ 140737488351232

theorem pac_cells {n : Nat} {cs : List Value} {d : DataW H} {p : List MemPlace} (h : DataW.trod enc Tryz.prog w 0 (fun _ => true) true n 36 cs = some (d, p)) (hz : (d.weights Tryz.prog 36).all (· ≤ reachBytes) = true) :
    ∃ (p : Pac) (vf vc : Value), cs = p.cells vf vc ∧ PacIn w p vf vc := by
  obtain ⟨xs, n', _, hx, hlen, hxl, hf⟩ := DataW.trod_struct Tryz.underlying36 h
  simp only [Prod.mk.injEq] at hx
  obtain ⟨rfl, rfl⟩ := hx
  rw [cells_pac] at hlen
  match cs, hlen, xs, hxl with
  | [c0, c1, c2, c3, c4, c5, c6, c7, c8, c9, c10, c11, c12, c13, c14, c15, c16, c17, c18, c19, c20, c21, c22, c23], _, [y0, y1, y2, y3, y4, y5, y6, y7, y8], _ =>
    have g0 : DataW.trod enc Tryz.prog w 0 (fun _ => true) true n' 3 [c0] = some y0 := by have := hf 0 _ rfl; simpa [cells_int] using this
    have g1 : DataW.trod enc Tryz.prog w 0 (fun _ => true) true n' 3 [c1] = some y1 := by have := hf 1 _ rfl; simpa [cells_int] using this
    have g2 : DataW.trod enc Tryz.prog w 0 (fun _ => true) true n' 4 [c2] = some y2 := by have := hf 2 _ rfl; simpa [cells_bool] using this
    have g3 : DataW.trod enc Tryz.prog w 0 (fun _ => true) true n' 30 [c3, c4, c5, c6] = some y3 := by have := hf 3 _ rfl; simpa [cells_msg] using this
    have g4 : DataW.trod enc Tryz.prog w 0 (fun _ => true) true n' 32 [c7, c8, c9, c10, c11, c12, c13, c14, c15, c16, c17, c18, c19] = some y4 := by have := hf 4 _ rfl; simpa [cells_con] using this
    have g5 : DataW.trod enc Tryz.prog w 0 (fun _ => true) true n' 4 [c20] = some y5 := by have := hf 5 _ rfl; simpa [cells_bool] using this
    have g6 : DataW.trod enc Tryz.prog w 0 (fun _ => true) true n' 3 [c21] = some y6 := by have := hf 6 _ rfl; simpa [cells_int] using this
    have g7 : DataW.trod enc Tryz.prog w 0 (fun _ => true) true n' 33 [c22] = some y7 := by have := hf 7 _ rfl; simpa [cells_wishes] using this
    have g8 : DataW.trod enc Tryz.prog w 0 (fun _ => true) true n' 34 [c23] = some y8 := by have := hf 8 _ rfl; simpa [cells_nums] using this
    obtain ⟨x0, e0, rfl, _⟩ := DataW.trod_int Tryz.underlying3 g0
    obtain ⟨x1, e1, rfl, _⟩ := DataW.trod_int Tryz.underlying3 g1
    obtain ⟨x2, e2, rfl⟩ := DataW.trod_bool Tryz.underlying4 g2
    obtain ⟨x5, e5, rfl⟩ := DataW.trod_bool Tryz.underlying4 g5
    obtain ⟨x6, e6, rfl, _⟩ := DataW.trod_int Tryz.underlying3 g6
    obtain ⟨d3, p3⟩ := y3
    obtain ⟨d4, p4⟩ := y4
    obtain ⟨d7, p7⟩ := y7
    obtain ⟨d8, p8⟩ := y8
    have hw : (DataW.weightsEach Tryz.prog [3, 3, 4, 30, 32, 4, 3, 33, 34] [DataW.lit (.int .i64 x0), DataW.lit (.int .i64 x1), DataW.lit (.bool x2), d3, d4, DataW.lit (.bool x5), DataW.lit (.int .i64 x6), d7, d8]).all (· ≤ reachBytes) = true := by
      simpa [DataW.weights, Tryz.underlying36] using hz
    obtain ⟨T, X, q, R, e3, hT, hX, _⟩ := msg_cells g3 (sized_at hw (j := 3) (t := 30) rfl rfl)
    obtain ⟨c, e4, hc⟩ := con_cells g4 (sized_at hw (j := 4) (t := 32) rfl rfl)
    obtain ⟨fs, hfs, hfz, hfl⟩ := wishes_trod g7 (sized_at hw (j := 7) (t := 33) rfl rfl)
    obtain ⟨ns, hns, hnl⟩ := nums_trod g8 (sized_at hw (j := 8) (t := 34) rfl rfl)
    simp only [List.cons.injEq, and_true, Con.cells] at e0 e1 e2 e3 e4 e5 e6
    obtain ⟨rfl, rfl, rfl, rfl⟩ := e3
    obtain ⟨rfl, rfl, rfl, rfl, rfl, rfl, rfl, rfl, rfl, rfl, rfl, rfl, rfl⟩ := e4
    subst e0 e1 e2 e5 e6
    exact ⟨⟨x0, x1, x2, T, X, q, R, c, x5, x6, fs, ns⟩, c22, c23, rfl, hfs, hns, ⟨hT, hX, hc, hfz⟩, hfl, hnl⟩

theorem open_pac {r : Reach} {b0 : Nat} {v : Value} {d : DataW H} {p : List MemPlace} (hv : Value.okWide Tryz.prog w r b0 36 v) (h : DataW.Trod enc Tryz.prog w 0 (fun _ => true) true 36 v d p) (hz : (d.weights Tryz.prog 36).all (· ≤ reachBytes) = true) :
    ∃ (p : Pac) (vf vc : Value), v = .agg (p.cells vf vc).toArray ∧ PacIn w p vf vc := by
  obtain ⟨cs, rfl, hsz⟩ := okWide_struct Tryz.underlying36 hv
  obtain ⟨fuel, hf⟩ := h
  obtain ⟨p, vf, vc, hc, h1⟩ := pac_cells hf hz
  refine ⟨p, vf, vc, ?_, h1⟩
  have : cs.toList = p.cells vf vc := by simpa [Value.cells] using hc
  rw [← Array.toArray_toList (xs := cs), this]

/-- A packet in a row, with the values of its slices. -/
abbrev PacV := Pac × Value × Value
def PacV.cells (x : PacV) : List Value := x.1.cells x.2.1 x.2.2
instance : Inhabited PacV := ⟨(Pac.zero, .slice none 0 0, .slice none 0 0)⟩
theorem open_pacs {r : Reach} {b0 : Nat} {v : Value} {d : DataW H} {ps : List MemPlace} (hval : Value.okWide Tryz.prog w r b0 44 v)
    (h : DataW.Trod enc Tryz.prog w 0 (fun _ => true) true 44 v d ps) (hz : (d.weights Tryz.prog 44).all (· ≤ reachBytes) = true) : ∃ l : List PacV, Rd w v l.length (l.flatMap PacV.cells) ∧ ∀ x ∈ l, PacIn w x.1 x.2.1 x.2.2 :=
  open_rows PacV.cells 24 (by decide) (fun _ => rfl) Tryz.underlying44 cells_pac (fun x => PacIn w x.1 x.2.1 x.2.2) (fun n cs d p h hz => by
    obtain ⟨p, vf, vc, h1, h2⟩ := pac_cells h hz
    exact ⟨(p, vf, vc), h1, h2⟩) hval h hz
end
end Go.Proofs.YtjlnlgemngpelaaGreatDoor
