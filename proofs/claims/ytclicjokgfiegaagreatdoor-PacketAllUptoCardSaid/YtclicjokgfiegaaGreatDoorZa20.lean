/- A bundle of texts (merged for the limit on files): PacOne, Close, MsgOpen, ConOpen, SubOpen, IntOpen, RowOpen. -/
import Derived.Test.YtclicjokgfiegaaGreatDoorZa18
import Derived.Test.YtclicjokgfiegaaGreatDoorZa19
import Derived.Test.YtclicjokgfiegaaGreatDoorZa1
import Derived.ProofKit
import Derived.OpenShut
import Derived.Deep.DeepHandedRow
import Derived.Lib.LaidTab
import Derived.LaidSub
import Derived.Lib.SmallJoins
import Derived.LaidLaws
import Derived.Test.YtclicjokgfiegaaGreatDoorZa3
import Derived.Test.YtclicjokgfiegaaGreatDoorZa9
import Derived.Deep.SlicePairs
import Derived.Deep.Slices
/- Packets: the one at a place: the walk. -/
namespace Go.Proofs.YtclicjokgfiegaaGreatDoor
open Go.RowKit
set_option linter.unusedVariables false
set_option linter.unusedSimpArgs false

theorem results_cell3 {P : Program} {fn : Func} {tmps : Array Value} {a b c d : Nat} {t : TypeId} {g : Nat} {v x y z : Value} {w : World} (hf : fn.results = #[.cell a t, .tmp b, .tmp c, .tmp d]) (ha : tmps.getD a undef = .pointer (some ⟨g, 0, none⟩))
    (hl : (loadVar t ⟨g, 0, none⟩).run P w = .ok v w) (hb : tmps.getD b undef = x) (hc : tmps.getD c undef = y) (hd : tmps.getD d undef = z) : (results fn tmps).run P w = .ok (.tuple #[v, x, y, z]) w := by
  have four : ∀ (f : ResultVar → Sem Value) (x y z u : ResultVar), #[x, y, z, u].mapM f = (do let a ← f x; let b ← f y; let c ← f z; let d ← f u; pure #[a, b, c, d]) := fun f x y z u => by simp
  unfold results
  rw [hf, four]
  simp only [Sem.run_bind, Sem.run_pure, ha, asAddr, Result.andThen_ok, hl, hb, hc, hd]
  rfl
/-- What one leaves. -/
def GivesOne (w : World) (r : Pac × Int × Bool × Int) (e : Ending) (w' : World) : Prop :=
  ∃ vf vc, e = .returned (.tuple #[.agg (r.1.cells vf vc).toArray, .int .i64 r.2.1, .bool r.2.2.1, .int .i64 r.2.2.2]) ∧ PacOwn w.heap.size w' r.1 vf vc ∧ Below w.heap.size w w'
set_option maxRecDepth 100000 in
theorem alloc_head (W : World) : (Instr.alloc 83 true (.tuple #[])).run Tryz.prog W = .ok (.pointer (some ⟨W.heap.size, 0, none⟩)) (W.alloc (.cells [.int .i64 0, .int .i64 0, .int .i64 0].toArray 83)) := by
  simp [Instr.alloc, newVar, go_sem]
theorem info_head : (Tryz.prog.info? 83).map (·.size) = some 3 := by kernel_rfl
set_option maxRecDepth 100000 in
set_option maxHeartbeats 8000000 in
theorem one16_c (v : Value) (l : List UInt8) (a : Nat) (w : World) (hv : Bs w v l) (hl : l.length ≤ 140737488351232) (hH : EnvH w) (hE : EnvU w) :
    Calls Tryz.prog 36 #[v, .int .i64 a] w (GivesOne w (paOne l a)) := by
  have HE := hd hE; have HH := hd hH; have HV := hd hv
  clear hE hH
  obtain ⟨va, vn, rfl⟩ := hv.slice
  clear hv
  have hO : paOne l a = paOne l a := rfl
  conv at hO => rhs; rw [paOne]
  have hrg := @hGet_rngP l a
  generalize paOne l a = R at hO ⊢
  have HO := hd hO
  clear hO
  go_enter Tryz.func36, Tryz.ntmps36
  go_wp2_with (first
    | (with_reducible refine wpl_alloc (o := ⟨some 4, .alloc 56, _, _, _, _⟩) rfl _ rfl (zK 0) alloc_pac _ rfl ?_; intro w1 h1 f1 b1 z1))
  refine (hGet_c _ l a _ (HH.out.below b1 (Nat.le_refl _)) (HV.out.below' b1 (Nat.le_refl _))).mono ?_
  have hO := HO.out
  clear HO
  generalize hGet l a = r at hO hrg ⊢
  obtain ⟨⟨k, f, n⟩, q, E⟩ := r
  simp only at hO hrg
  have HO := hd hO; have HR := hd hrg
  clear hO hrg
  rintro e w2 ⟨rfl, hb2⟩
  have hz2 := hb2.size
  replace h1 := h1.keep hb2 h1.lt
  replace f1 := f1.keep hb2 (by omega)
  have B2 := Below.up b1 hb2
  have honeh : ∀ v ∈ ([.int .i64 k, .int .i64 f, .int .i64 n] : List Value), v.oneCell' = true := by intro v hv; simp at hv; rcases hv with rfl | rfl | rfl <;> rfl
  by_cases hE2 : E = 2
  · subst hE2
    have hr : R = (Pac.zero, 0, false, 0) := by rw [HO.out, if_pos rfl]
    go_wp2_with (first
      | (with_reducible refine wpl_alloc (o := ⟨some 8, .alloc 83, _, _, _, _⟩) rfl _ rfl [.int .i64 0, .int .i64 0, .int .i64 0] alloc_head _ rfl ?_; intro w3 h3 f3 b3 z3; replace h1 := h1.keep b3 (by omega); replace f1 := f1.keep b3 (by omega); have B3 := Below.up B2 b3)
      | ((with_reducible refine wpl_at (o := ⟨none, .store 83 (.tmp 8) (.tmp 16), _, _, _, _⟩) ?_); refine wpl_storeAll rfl rfl _ _ _ rfl w2.heap.size [.int .i64 k, .int .i64 f, .int .i64 n] [.int .i64 0, .int .i64 0, .int .i64 0] rfl rfl info_head honeh h3 rfl f3 ?_; intro w4 h4 f4 k4 z4; replace h1 := h1.keeps k4 (by simp; omega); replace f1 := f1.keeps k4 (by omega) (by simp; omega); have B4 := B3.trans (k4.toBelow B3.size (by simp; omega)); have K4 : Keeps [] w2 w4 := (Keeps.below b3).next k4 (by intro i hi; simp at hi; subst hi; exact .inr (Nat.le_refl _)); have c2 := h4.at 2 (u := .int .i64 n) rfl)
      | ((with_reducible refine wpl_at (o := ⟨none, .store 56 (.tmp 4) (.tmp 22), _, _, _, _⟩) ?_); refine wpl_storeAll rfl rfl _ _ _ rfl w.heap.size (zK 0) (zK 0) rfl rfl info_pac (zK_one 0) h1 rfl f1 ?_; intro w9 h9 f9 k9 z9))
    rw [hr]
    refine bodyPost_ret (v := .tuple #[.agg (Pac.zero.cells Nl Nl).toArray, .int .i64 (0), .bool false, .int .i64 (0)]) (results_cell3 Tryz.results36 rfl (ret_pac h9 rfl) rfl rfl rfl) rfl ?_
    exact ⟨Nl, Nl, rfl, PacOwn.nil (p := Pac.zero) _ _ rfl rfl, B4.trans (k9.toBelow B4.size (by simp))⟩
  have hE2b : (E == 2) = false := by simpa using hE2
  by_cases hE0 : E = 0
  rotate_left
  · have hE0b : (E != 0) = true := by simpa using hE0
    have hr : R = (Pac.zero, 0, false, E) := by rw [HO.out, if_neg hE2, if_pos hE0]
    clear hE2 hE0
    go_wp2_with (first
      | (with_reducible refine wpl_alloc (o := ⟨some 8, .alloc 83, _, _, _, _⟩) rfl _ rfl [.int .i64 0, .int .i64 0, .int .i64 0] alloc_head _ rfl ?_; intro w3 h3 f3 b3 z3; replace h1 := h1.keep b3 (by omega); replace f1 := f1.keep b3 (by omega); have B3 := Below.up B2 b3)
      | ((with_reducible refine wpl_at (o := ⟨none, .store 83 (.tmp 8) (.tmp 16), _, _, _, _⟩) ?_); refine wpl_storeAll rfl rfl _ _ _ rfl w2.heap.size [.int .i64 k, .int .i64 f, .int .i64 n] [.int .i64 0, .int .i64 0, .int .i64 0] rfl rfl info_head honeh h3 rfl f3 ?_; intro w4 h4 f4 k4 z4; replace h1 := h1.keeps k4 (by simp; omega); replace f1 := f1.keeps k4 (by omega) (by simp; omega); have B4 := B3.trans (k4.toBelow B3.size (by simp; omega)); have K4 : Keeps [] w2 w4 := (Keeps.below b3).next k4 (by intro i hi; simp at hi; subst hi; exact .inr (Nat.le_refl _)); have c2 := h4.at 2 (u := .int .i64 n) rfl)
      | ((with_reducible refine wpl_at (o := ⟨none, .store 56 (.tmp 4) (.tmp 26), _, _, _, _⟩) ?_); refine wpl_storeAll rfl rfl _ _ _ rfl w.heap.size (zK 0) (zK 0) rfl rfl info_pac (zK_one 0) h1 rfl f1 ?_; intro w9 h9 f9 k9 z9))
    rw [hr]
    refine bodyPost_ret (v := .tuple #[.agg (Pac.zero.cells Nl Nl).toArray, .int .i64 (0), .bool false, .int .i64 (E)]) (results_cell3 Tryz.results36 rfl (ret_pac h9 rfl) rfl rfl rfl) rfl ?_
    exact ⟨Nl, Nl, rfl, PacOwn.nil (p := Pac.zero) _ _ rfl rfl, B4.trans (k9.toBelow B4.size (by simp))⟩
  subst hE0
  obtain ⟨r1, r2, r3, r4⟩ := HR.out rfl
  have hwr : IntKind.i64.wrap ((l.length : Int) - q) = (l.length : Int) - q := IntWalk.i64_in _ (by omega)
  by_cases hn : (l.length : Int) - q < n
  · have hr : R = (Pac.zero, 0, false, 0) := by rw [HO.out, if_neg (by decide), if_neg (by simp), if_pos hn]
    go_wp2_with (first
      | (with_reducible refine wpl_alloc (o := ⟨some 8, .alloc 83, _, _, _, _⟩) rfl _ rfl [.int .i64 0, .int .i64 0, .int .i64 0] alloc_head _ rfl ?_; intro w3 h3 f3 b3 z3; replace h1 := h1.keep b3 (by omega); replace f1 := f1.keep b3 (by omega); have B3 := Below.up B2 b3)
      | ((with_reducible refine wpl_at (o := ⟨none, .store 83 (.tmp 8) (.tmp 16), _, _, _, _⟩) ?_); refine wpl_storeAll rfl rfl _ _ _ rfl w2.heap.size [.int .i64 k, .int .i64 f, .int .i64 n] [.int .i64 0, .int .i64 0, .int .i64 0] rfl rfl info_head honeh h3 rfl f3 ?_; intro w4 h4 f4 k4 z4; replace h1 := h1.keeps k4 (by simp; omega); replace f1 := f1.keeps k4 (by omega) (by simp; omega); have B4 := B3.trans (k4.toBelow B3.size (by simp; omega)); have K4 : Keeps [] w2 w4 := (Keeps.below b3).next k4 (by intro i hi; simp at hi; subst hi; exact .inr (Nat.le_refl _)); have c2 := h4.at 2 (u := .int .i64 n) rfl)
      | ((with_reducible refine wpl_at (o := ⟨none, .store 56 (.tmp 4) (.tmp 36), _, _, _, _⟩) ?_); refine wpl_storeAll rfl rfl _ _ _ rfl w.heap.size (zK 0) (zK 0) rfl rfl info_pac (zK_one 0) h1 rfl f1 ?_; intro w9 h9 f9 k9 z9))
    rw [hr]
    refine bodyPost_ret (v := .tuple #[.agg (Pac.zero.cells Nl Nl).toArray, .int .i64 (0), .bool false, .int .i64 (0)]) (results_cell3 Tryz.results36 rfl (ret_pac h9 rfl) rfl rfl rfl) rfl ?_
    exact ⟨Nl, Nl, rfl, PacOwn.nil (p := Pac.zero) _ _ rfl rfl, B4.trans (k9.toBelow B4.size (by simp))⟩
  have hlt := HO.out
  clear HO
  obtain ⟨qn, rfl⟩ := Int.eq_ofNat_of_zero_le (show 0 ≤ q by omega)
  obtain ⟨nn, rfl⟩ := Int.eq_ofNat_of_zero_le r3
  have hr : R = ((paOf k f nn ((l.drop qn).take nn)).1, (qn : Int) + nn, decide ((paOf k f nn ((l.drop qn).take nn)).2 = 0), (paOf k f nn ((l.drop qn).take nn)).2) := by
    rw [hlt, if_neg (by decide), if_neg (by simp), if_neg hn, Int.toNat_natCast, Int.toNat_natCast]
  have HRR := hd hr
  clear hlt hr
  have hwr2 : IntKind.i64.wrap ((qn : Int) + nn) = (qn : Int) + nn := IntWalk.i64_in _ (by omega)
  obtain ⟨pa, pc, hrun, hpart⟩ := run_part HV.out (qn : Int) ((qn : Int) + nn) qn (qn + nn) rfl (by push_cast; rfl) (by omega) (by omega)
  rw [show qn + nn - qn = nn by omega] at hrun hpart
  have hbl : ((l.drop qn).take nn).length = nn := by rw [List.length_take, List.length_drop]; omega
  generalize (l.drop qn).take nn = body at *
  go_wp2_with (first
    | (with_reducible refine wpl_alloc (o := ⟨some 8, .alloc 83, _, _, _, _⟩) rfl _ rfl [.int .i64 0, .int .i64 0, .int .i64 0] alloc_head _ rfl ?_; intro w3 h3 f3 b3 z3; replace h1 := h1.keep b3 (by omega); replace f1 := f1.keep b3 (by omega); have B3 := Below.up B2 b3)
    | ((with_reducible refine wpl_at (o := ⟨none, .store 83 (.tmp 8) (.tmp 16), _, _, _, _⟩) ?_); refine wpl_storeAll rfl rfl _ _ _ rfl w2.heap.size [.int .i64 k, .int .i64 f, .int .i64 nn] [.int .i64 0, .int .i64 0, .int .i64 0] rfl rfl info_head honeh h3 rfl f3 ?_; intro w4 h4 f4 k4 z4; replace h1 := h1.keeps k4 (by simp; omega); replace f1 := f1.keeps k4 (by omega) (by simp; omega); have B4 := B3.trans (k4.toBelow B3.size (by simp; omega)); have K4 : Keeps [] w2 w4 := (Keeps.below b3).next k4 (by intro i hi; simp at hi; subst hi; exact .inr (Nat.le_refl _)); have c2 := h4.at 2 (u := .int .i64 nn) rfl))
  have D1 := (hpart.below' B4 (Nat.le_refl _)).below' ((Below.refl w4.heap.size _).drew) (Nat.le_refl _)
  have D2 := h4.drew
  have h1d := h1.drew
  have f1d := f1.drew
  have B5 := B4.drew
  have hz5 : w4.drew.heap.size = w4.heap.size := rfl
  refine wp_region_T (fun W => Bs W (.slice pa nn pc) body ∧ At W w2.heap.size [.int .i64 k, .int .i64 f, .int .i64 nn]) 16 (.still 0 (.still 1 (.still 2 (.still 3 (.still 4 (.still 5 (.still 6 (.still 7 (.still 8 (.still 9 (.fork 10 (.still 11 (.still 12 (.still 13 (.move 14 (.move 15 (.move 16 .done)))))) 14 (.move 10 (.still 11 (.still 12 (.still 13 (.move 15 (.move 16 .done)))))))))))))))))  (by kernel_rfl) (by kernel_rfl) (fun _ _ _ _ h => h) ⟨D1, D2⟩ ?_
  clear h1 f1 h4 f4 c2 B4 B3 K4
  generalize w4.drew = w5 at *
  apply wpT_still (by rfl) (by rfl)
  · intro W hC
    exact still_loadAt _ _ rfl w2.heap.size 0 rfl [.int .i64 k, .int .i64 f, .int .i64 nn] _ (At.range hC.2) Tryz.underlying83 rfl info_head
  go_simp
  apply wpT_still (by rfl) (by rfl)
  · intro W hC
    go_simp
    rfl
  go_simp
  apply wpT_still (by rfl) (by rfl)
  · intro W hC
    go_simp
    rfl
  go_simp
  apply wpT_still (by rfl) (by rfl)
  · intro W hC
    go_simp
    rfl
  go_simp
  apply wpT_still (by rfl) (by rfl)
  · intro W hC
    go_simp
    rfl
  go_simp
  apply wpT_still (by rfl) (by rfl)
  · intro W hC
    have d := At.at hC.2 2 (u := .int .i64 nn) rfl
    go_simp
    rfl
  go_simp
  apply wpT_still (by rfl) (by rfl)
  · intro W hC
    go_simp
    rfl
  go_simp
  apply wpT_still (by rfl) (by rfl)
  · intro W hC
    go_simp
    rfl
  go_simp
  apply wpT_still (by rfl) (by rfl)
  · intro W hC
    have d := run_str hC.1
    go_simp
    rfl
  go_simp
  apply wpT_still (by rfl) (by rfl)
  · intro W hC
    go_simp
    rfl
  go_simp
  have hpo := packOf_c k f nn (sOf body)
  rw [show sB (sOf body) = body from rfl] at hpo
  obtain ⟨P, E', hPE⟩ : ∃ P E', paOf k f nn body = (P, E') := ⟨_, _, rfl⟩
  rw [hPE] at hpo HRR
  have HPO := hd hpo
  clear hpo hPE
  have hbz : (sOf body).size ≤ 140737488351232 := by rw [sOf_sizeP]; omega
  refine wpT_fork (by rfl) (by rfl) (by rfl) (by rfl) ?_ ?_
  · intro K hK
    go_simp
    refine (HPO.out _ hbz (HH.out.below B5 (Nat.le_refl _)) (HE.out.below B5)).mono ?_
    rintro e w6 ⟨vf, vc, rfl, hr6, hb6⟩
    go_simp
    have hz6 := hb6.size
    have E2 := D2.keep hb6 D2.lt
    replace h1d := h1d.keep hb6 h1d.lt
    replace f1d := f1d.keep hb6 (by omega)
    have B6 := B5.trans (hb6.mono B5.size)
    refine hK _ _ (fun _ => ⟨hpart.below' B6 (Nat.le_refl _), E2⟩) ?_
    clear hK K D1 D2
    have hone := Pac.one P vf vc hr6.rd.f.oneCell hr6.rd.c.oneCell
    apply wpT_still (by rfl) (by rfl)
    · intro W hC
      go_simp
      rfl
    go_simp
    apply wpT_still (by rfl) (by rfl)
    · intro W hC
      go_simp
      rfl
    go_simp
    apply wpT_still (by rfl) (by rfl)
    · intro W hC
      go_simp
      rfl
    go_simp
    apply wpT_move (by rfl) (by rfl)
    intro K hK
    go_simp
    have b7 := (Below.refl w6.heap.size w6).alloc (Nat.le_refl _) (.cells (zK 0).toArray 56)
    have h7 : At (w6.alloc (.cells (zK 0).toArray 56)) w6.heap.size (zK 0) := At.new _ _ _
    have f7 : Free (w6.alloc (.cells (zK 0).toArray 56)) w6.heap.size := Free.new _ _ _
    have z7 : (w6.alloc (.cells (zK 0).toArray 56)).heap.size = w6.heap.size + 1 := by simp [go_sem]
    have F2 := E2.keep b7 E2.lt
    replace h1d := h1d.keep b7 h1d.lt
    replace f1d := f1d.keep b7 (by omega)
    have B7 := B6.trans (b7.mono B6.size)
    have hr7 := hr6.kept b7 (Nat.le_refl _)
    refine hK _ (w6.alloc (.cells (zK 0).toArray 56)) (fun _ => ⟨hpart.below' B7 (Nat.le_refl _), F2⟩) ?_
    clear hK K E2
    generalize w6.alloc (.cells (zK 0).toArray 56) = w7 at *
    apply wpT_move (by rfl) (by rfl)
    intro K hK
    refine wpo_storeMid rfl _ _ _ rfl w6.heap.size 0 (P.cells vf vc) (zK 0) (P.cells vf vc) rfl rfl info_pac hone h7 rfl (by show 0 + 24 ≤ 24; decide) f7 ?_
    intro w8 h8 f8 k8 z8
    have G2 := F2.keeps k8 (by simp; omega)
    replace h1d := h1d.keeps k8 (by simp; omega)
    replace f1d := f1d.keeps k8 (by omega) (by simp; omega)
    have B8 := B7.trans (k8.toBelow B7.size (by simp; omega))
    have K68 : Keeps [] w6 w8 := (Keeps.below b7).next k8 (by intro i hi; simp at hi; subst hi; exact .inr (Nat.le_refl _))
    have hr8 := hr6.keeps K68 (by simp)
    refine hK _ _ (fun _ => ⟨hpart.below' B8 (Nat.le_refl _), G2⟩) ?_
    clear hK K F2 h7 f7
    apply wpT_move (by rfl) (by rfl)
    intro K hK
    go_simp
    refine hK _ _ (fun h => absurd h (by decide)) ?_
    clear hK K
    refine wpT_done ?_
    go_wp2_with fail
    have H8 := h8.drew
    have G2d := G2.drew
    have h1e := h1d.drew
    have f1e := f1d.drew
    have B9 := B8.drew
    have K9 : Keeps [] w8 w8.drew := (Keeps.refl _ _).drew
    have hr9 := hr8.keeps K9 (by simp)
    have hz9 : w8.drew.heap.size = w8.heap.size := rfl
    refine wp_region_M (fun W => At W (w6.heap.size) (P.cells vf vc) ∧ At W w2.heap.size [.int .i64 k, .int .i64 f, .int .i64 nn]) 11 [(0, false), (1, false), (2, false), (3, false), (4, false), (5, false), (6, false), (7, false), (8, true), (9, false), (10, false), (11, true)] (by kernel_rfl) (by kernel_rfl) (fun _ _ _ _ h => h) ⟨H8, G2d⟩ ?_
    clear h1d f1d h8 f8 G2 B8 hr8
    generalize w8.drew = w9 at *
    apply wpM_still (by rfl) (by rfl)
    · intro W hC
      exact still_loadAt _ _ rfl (w6.heap.size) 0 rfl (P.cells vf vc) _ (At.range hC.1) Tryz.underlying56 rfl info_pac
    go_simp
    apply wpM_still (by rfl) (by rfl)
    · intro W hC
      go_simp
      rfl
    go_simp
    apply wpM_still (by rfl) (by rfl)
    · intro W hC
      go_simp
      rfl
    go_simp
    apply wpM_still (by rfl) (by rfl)
    · intro W hC
      have d := At.at hC.2 2 (u := .int .i64 nn) rfl
      go_simp
      rfl
    go_simp
    apply wpM_still (by rfl) (by rfl)
    · intro W hC
      go_simp
      rfl
    go_simp
    apply wpM_still (by rfl) (by rfl)
    · intro W hC
      go_simp
      rfl
    go_simp
    apply wpM_still (by rfl) (by rfl)
    · intro W hC
      go_simp
      rfl
    go_simp
    apply wpM_still (by rfl) (by rfl)
    · intro W hC
      go_simp
      rfl
    go_simp
    apply wpM_move (by rfl) (by rfl)
    intro K hK
    refine wpo_storeMid rfl _ _ _ rfl w.heap.size 0 (P.cells vf vc) (zK 0) (P.cells vf vc) rfl rfl info_pac hone h1e rfl (by show 0 + 24 ≤ 24; decide) f1e ?_
    intro wa ha fa ka za
    refine hK _ _ (fun _ => ⟨H8.keeps ka (by simp; omega), G2d.keeps ka (by simp; omega)⟩) ?_
    clear hK K
    have Ba := B9.trans (ka.toBelow B9.size (by simp))
    have hra := hr9.keeps ka (by intro i hi; simp at hi; omega)
    apply wpM_still (by rfl) (by rfl)
    · intro W hC
      go_simp
      rfl
    go_simp
    apply wpM_still (by rfl) (by rfl)
    · intro W hC
      go_simp
      rfl
    go_simp
    apply wpM_move (by rfl) (by rfl)
    intro K hK
    go_simp
    refine hK _ _ (fun h => absurd h (by decide)) ?_
    clear hK K
    refine wpM_nil ?_
    go_wp2_with fail
    rw [HRR.out]
    refine bodyPost_ret (v := .tuple #[.agg (P.cells vf vc).toArray, .int .i64 ((qn : Int) + nn), .bool (decide (E' = 0)), .int .i64 E']) (results_cell3 Tryz.results36 rfl (ret_pac ha rfl) rfl rfl rfl) rfl ?_
    exact ⟨vf, vc, rfl, hra.le (by omega), Ba⟩
  · intro K hK
    go_simp
    have b6 := (Below.refl w5.heap.size w5).alloc (Nat.le_refl _) (.cells (zK 0).toArray 56)
    have h6 : At (w5.alloc (.cells (zK 0).toArray 56)) w5.heap.size (zK 0) := At.new _ _ _
    have f6 : Free (w5.alloc (.cells (zK 0).toArray 56)) w5.heap.size := Free.new _ _ _
    have z6 : (w5.alloc (.cells (zK 0).toArray 56)).heap.size = w5.heap.size + 1 := by simp [go_sem]
    have E2 := D2.keep b6 D2.lt
    replace h1d := h1d.keep b6 h1d.lt
    replace f1d := f1d.keep b6 (by omega)
    have B6 := B5.trans (b6.mono B5.size)
    refine hK _ (w5.alloc (.cells (zK 0).toArray 56)) (fun _ => ⟨hpart.below' B6 (Nat.le_refl _), E2⟩) ?_
    clear hK K D1 D2
    generalize w5.alloc (.cells (zK 0).toArray 56) = w6 at *
    have hg : w5.heap.size = w2.heap.size + 1 := by omega
    rw [hg] at h6 f6
    apply wpT_move (by rfl) (by rfl)
    intro K hK
    go_simp
    refine (HPO.out _ hbz (HH.out.below B6 (Nat.le_refl _)) (HE.out.below B6)).mono ?_
    rintro e w7 ⟨vf, vc, rfl, hr7, hb7⟩
    go_simp
    have hz7 := hb7.size
    have F2 := E2.keep hb7 E2.lt
    replace h1d := h1d.keep hb7 h1d.lt
    replace f1d := f1d.keep hb7 (by omega)
    have h7 := h6.keep hb7 h6.lt
    have f7 := f6.keep hb7 (by omega)
    have B7 := B6.trans (hb7.mono B6.size)
    refine hK _ _ (fun _ => ⟨hpart.below' B7 (Nat.le_refl _), F2⟩) ?_
    clear hK K E2 h6 f6
    have hone := Pac.one P vf vc hr7.rd.f.oneCell hr7.rd.c.oneCell
    apply wpT_still (by rfl) (by rfl)
    · intro W hC
      go_simp
      rfl
    go_simp
    apply wpT_still (by rfl) (by rfl)
    · intro W hC
      go_simp
      rfl
    go_simp
    apply wpT_still (by rfl) (by rfl)
    · intro W hC
      go_simp
      rfl
    go_simp
    apply wpT_move (by rfl) (by rfl)
    intro K hK
    refine wpo_storeMid rfl _ _ _ rfl (w2.heap.size + 1) 0 (P.cells vf vc) (zK 0) (P.cells vf vc) rfl rfl info_pac hone h7 rfl (by show 0 + 24 ≤ 24; decide) f7 ?_
    intro w8 h8 f8 k8 z8
    have G2 := F2.keeps k8 (by simp)
    replace h1d := h1d.keeps k8 (by simp; omega)
    replace f1d := f1d.keeps k8 (by omega) (by simp; omega)
    have B8 := B7.trans (k8.toBelow B7.size (by simp; omega))
    have hr8 := hr7.keeps k8 (by intro i hi; simp at hi; omega)
    refine hK _ _ (fun _ => ⟨hpart.below' B8 (Nat.le_refl _), G2⟩) ?_
    clear hK K F2 h7 f7
    apply wpT_move (by rfl) (by rfl)
    intro K hK
    go_simp
    refine hK _ _ (fun h => absurd h (by decide)) ?_
    clear hK K
    refine wpT_done ?_
    go_wp2_with fail
    have H8 := h8.drew
    have G2d := G2.drew
    have h1e := h1d.drew
    have f1e := f1d.drew
    have B9 := B8.drew
    have K9 : Keeps [] w8 w8.drew := (Keeps.refl _ _).drew
    have hr9 := hr8.keeps K9 (by simp)
    have hz9 : w8.drew.heap.size = w8.heap.size := rfl
    refine wp_region_M (fun W => At W (w2.heap.size + 1) (P.cells vf vc) ∧ At W w2.heap.size [.int .i64 k, .int .i64 f, .int .i64 nn]) 11 [(0, false), (1, false), (2, false), (3, false), (4, false), (5, false), (6, false), (7, false), (8, true), (9, false), (10, false), (11, true)] (by kernel_rfl) (by kernel_rfl) (fun _ _ _ _ h => h) ⟨H8, G2d⟩ ?_
    clear h1d f1d h8 f8 G2 B8 hr8
    generalize w8.drew = w9 at *
    apply wpM_still (by rfl) (by rfl)
    · intro W hC
      exact still_loadAt _ _ rfl (w2.heap.size + 1) 0 rfl (P.cells vf vc) _ (At.range hC.1) Tryz.underlying56 rfl info_pac
    go_simp
    apply wpM_still (by rfl) (by rfl)
    · intro W hC
      go_simp
      rfl
    go_simp
    apply wpM_still (by rfl) (by rfl)
    · intro W hC
      go_simp
      rfl
    go_simp
    apply wpM_still (by rfl) (by rfl)
    · intro W hC
      have d := At.at hC.2 2 (u := .int .i64 nn) rfl
      go_simp
      rfl
    go_simp
    apply wpM_still (by rfl) (by rfl)
    · intro W hC
      go_simp
      rfl
    go_simp
    apply wpM_still (by rfl) (by rfl)
    · intro W hC
      go_simp
      rfl
    go_simp
    apply wpM_still (by rfl) (by rfl)
    · intro W hC
      go_simp
      rfl
    go_simp
    apply wpM_still (by rfl) (by rfl)
    · intro W hC
      go_simp
      rfl
    go_simp
    apply wpM_move (by rfl) (by rfl)
    intro K hK
    refine wpo_storeMid rfl _ _ _ rfl w.heap.size 0 (P.cells vf vc) (zK 0) (P.cells vf vc) rfl rfl info_pac hone h1e rfl (by show 0 + 24 ≤ 24; decide) f1e ?_
    intro wa ha fa ka za
    refine hK _ _ (fun _ => ⟨H8.keeps ka (by simp; omega), G2d.keeps ka (by simp; omega)⟩) ?_
    clear hK K
    have Ba := B9.trans (ka.toBelow B9.size (by simp))
    have hra := hr9.keeps ka (by intro i hi; simp at hi; omega)
    apply wpM_still (by rfl) (by rfl)
    · intro W hC
      go_simp
      rfl
    go_simp
    apply wpM_still (by rfl) (by rfl)
    · intro W hC
      go_simp
      rfl
    go_simp
    apply wpM_move (by rfl) (by rfl)
    intro K hK
    go_simp
    refine hK _ _ (fun h => absurd h (by decide)) ?_
    clear hK K
    refine wpM_nil ?_
    go_wp2_with fail
    rw [HRR.out]
    refine bodyPost_ret (v := .tuple #[.agg (P.cells vf vc).toArray, .int .i64 ((qn : Int) + nn), .bool (decide (E' = 0)), .int .i64 E']) (results_cell3 Tryz.results36 rfl (ret_pac ha rfl) rfl rfl rfl) rfl ?_
    exact ⟨vf, vc, rfl, hra.le (by omega), Ba⟩
end Go.Proofs.YtclicjokgfiegaaGreatDoor

/- From a walk to a law's statement: what a law leaves behind, argument by argument; what a listed variable reads as. Of no function of the program. -/
namespace Go.Proofs.YtclicjokgfiegaaGreatDoor
open Go.ChangeShapes Go.WideShapes Go.ChangeAt Go.RowKit

section
variable {H : Type} {enc : TypeId × Value → H} {P : Program}

/-- Every argument reads behind the call as it did, if nothing that was there has turned. -/
theorem trodAll_below (hl : laidOutB P = true) {W W' : World} (hb : Below W.heap.size W W') :
    ∀ (ts : List TypeId) (vs : List Value) (ds : List (DataW H)) (p : List MemPlace), (ts.all fun t => P.readableRec t && decide (t < P.types.size)) = true →
      DataW.TrodAll enc P W 0 (fun _ => true) true ts vs ds p → (∀ x ∈ p, x.block < W.heap.size) → DataW.TrodAll enc P W' 0 (fun b => decide (b < W.heap.size)) true ts vs ds p
  | [], [], [], _, _, h, _ => h
  | t :: ts, v :: vs, d :: ds, p, hr, h, hp => by
    obtain ⟨p1, q, h1, h2, rfl⟩ := h
    simp only [List.all_cons, Bool.and_eq_true, decide_eq_true_eq] at hr
    exact ⟨p1, q, Below.trod hl hr.1.1 hr.1.2 h1 hb (fun x hx => hp x (by simp [hx])),
      trodAll_below hl hb ts vs ds q (by simpa using hr.2) h2 (fun x hx => hp x (by simp [hx])), rfl⟩
  | [], _ :: _, _, _, _, h, _ => by cases h
  | [], [], _ :: _, _, _, h, _ => by cases h
  | _ :: _, [], _, _, _, h, _ => by cases h
  | _ :: _, _ :: _, [], _, _, h, _ => by cases h

/-- A LAW's END: it returns true; nothing that was there has turned. -/
theorem post_law {f : Func} {s : ChangeSpec} {W W' : World} {args : Array Value} {ds gs : List (DataW H)} {before : List MemPlace} {T : TypeId}
    (hl : laidOutB P = true) (hT : P.underlying T = some .bool) (hres : f.resultTypes = #[T]) (hvars : s.vars = [])
    (hread : (f.params.toList.all fun t => P.readableRec t && decide (t < P.types.size)) = true)
    (hW : DataW.Whole enc P f.params.toList s.vars false W args.toList ds gs before) (hfn : s.fn H (ds ++ gs) = { results := [.lit (.bool true)], args := ds })
    (hb : Below W.heap.size W W') : s.post enc P f false true false false W args (.bool true) W' := by
  have hW' := hW
  obtain ⟨p, q, hA, hV, rfl, hfz, hnd⟩ := hW
  rw [hvars] at hV
  obtain ⟨rfl, rfl⟩ := trodVars_none hV
  have hlt : ∀ x ∈ p, x.block < W.heap.size := fun x hx => by simpa using hW'.lt x (by simpa using hx)
  refine ⟨ds, [], p ++ [], [], p, [], hW', ?_, ?_, ?_, hb.frame _, fun h => by cases h⟩
  · rw [hfn, hres]
    exact trodAll_cons_mk (shut_bool hT _) trodAll_mk0
  · rw [hfn]
    exact trodAll_below hl hb _ _ _ _ hread hA hlt
  · rw [hvars, hfn]
    rfl

/-! ### A listed variable that is an array of plain literals -/
theorem bytes_eta (s : ByteArray) : (⟨s.data.toList.toArray⟩ : ByteArray) = s := by cases s; simp
def litV : Lit → Value
  | .bool b => .bool b
  | .int k n => .int k n
  | .float k b => .float k b
  | .string l => .string ⟨l.toArray⟩
  | .nil => undef

theorem cell_of_lit {w : World} {base : Nat} {sp : Nat → Bool} {held : Bool} {fuel : Nat} {e : TypeId} {cs : List Value} {l : Lit} {p : List MemPlace} (he : P.underlying e = some .bool ∨ (∃ k, P.underlying e = some (.int k)) ∨ P.underlying e = some .string)
    (h : DataW.trod enc P w base sp held fuel e cs = some (.lit l, p)) : cs = [litV l] := by
  cases fuel with
  | zero => simp [DataW.trod] at h
  | succ n =>
    rcases he with he | ⟨k, he⟩ | he
    · unfold DataW.trod at h
      rw [he] at h
      split at h <;> simp_all
      obtain ⟨h1, _⟩ := h
      rw [← h1]; rfl
    · unfold DataW.trod at h
      rw [he] at h
      split at h <;> simp_all
      obtain ⟨⟨h1, h2⟩, h3, h4⟩ := h
      subst h1 h3
      rfl
    · unfold DataW.trod at h
      rw [he] at h
      split at h <;> simp_all
      obtain ⟨h1, h3, h4⟩ := h
      subst h3
      exact congrArg Value.string (bytes_eta _).symm

theorem cells_of_lits {w : World} {base : Nat} {sp : Nat → Bool} {held : Bool} {fuel : Nat} {t e : TypeId} {n : Nat} {cs : List Value} {ls : List Lit} {p : List MemPlace}
    (ht : P.underlying t = some (.array n e)) (he : P.underlying e = some .bool ∨ (∃ k, P.underlying e = some (.int k)) ∨ P.underlying e = some .string) (hce : P.cellsOf e = 1) (hct : P.cellsOf t = n)
    (h : DataW.trod enc P w base sp held fuel t cs = some (.agg (ls.map DataW.lit), p)) : cs = ls.map litV := by
  obtain ⟨xs, m, rfl, hx, hl, hxl, hel⟩ := DataW.trod_array ht h
  simp only [Prod.mk.injEq, DataW.agg.injEq] at hx
  obtain ⟨hx, _⟩ := hx
  have hln : ls.length = n := by have := congrArg List.length hx; simp at this; omega
  rw [hce] at hel
  apply List.ext_getElem?
  intro i
  by_cases hi : i < n
  · have h1 := hel i hi
    have hxi : xs[i]? = some (xs[i]'(by omega)) := List.getElem?_eq_getElem _
    rw [hxi, Nat.mul_one] at h1
    have h2 : (xs[i]'(by omega)).1 = .lit (ls[i]'(by omega)) := by
      have := congrArg (·[i]?) hx
      simp [hi, hxl, hln] at this
      exact this.symm
    have h3 : xs[i]'(by omega) = (.lit (ls[i]'(by omega)), (xs[i]'(by omega)).2) := by rw [← h2]
    rw [h3] at h1
    have h4 := cell_of_lit he h1
    have h5 := congrArg (·[0]?) h4
    simp [List.getElem?_drop] at h5
    rw [h5]
    simp [hln, hi]
  · rw [List.getElem?_eq_none (by omega), List.getElem?_eq_none (by simp; omega)]

/-- What a list says of its variable number i. -/
theorem laidVars_get {w : World} : ∀ (l : List (String × DataW Unit)) (ps : List MemPlace), DataW.LaidVars P w l ps → ∀ (i : Nat) (n : String) (d : DataW Unit), l[i]? = some (n, d) →
    ∃ g t cs fuel p, P.globalNamed n = some g ∧ (P.globals[g]?).map (·.type) = some t ∧ w.var? P n = some cs ∧ DataW.trod (fun _ => ()) P w 0 (fun _ => true) false fuel t cs.toList = some (d, p)
  | [], _, _, i, n, d, hi => by simp at hi
  | (n0, d0) :: r, ps, h, i, n, d, hi => by
    obtain ⟨g, t, cs, fuel, p, q, h1, h2, h3, h4, h5, _⟩ := h
    cases i with
    | zero => cases hi; exact ⟨g, t, cs, fuel, p, h1, h2, h3, h4⟩
    | succ i => exact laidVars_get r q h5 i n d (by simpa using hi)

/-- The cells of a listed array of plain literals. -/
theorem laid_lits {W : World} {l : List (String × DataW Unit)} (h : laidMetH P l W) (i : Nat) {n : String} {ls : List Lit} {g : Nat} {t e : TypeId} {k : Nat}
    (hi : (l.filter fun x => x.2.handleName?.isNone)[i]? = some (n, .agg (ls.map DataW.lit)))
    (hg : P.globalNamed n = some g) (hty : (P.globals[g]?).map (·.type) = some t) (ht : P.underlying t = some (.array k e))
    (he : P.underlying e = some .bool ∨ (∃ k, P.underlying e = some (.int k)) ∨ P.underlying e = some .string) (hce : P.cellsOf e = 1) (hct : P.cellsOf t = k) :
    g < W.heap.size ∧ ∀ j, j < ls.length → W.cell? ⟨g, j, none⟩ = (ls[j]?).map litV := by
  obtain ⟨h1, _⟩ := laidMetH_iff.1 h
  obtain ⟨ps, hv, _⟩ := h1
  obtain ⟨g', t', cs, fuel, p, a1, a2, a3, a4⟩ := laidVars_get _ ps hv i n _ hi
  obtain rfl := Option.some.inj (hg.symm.trans a1)
  obtain rfl := Option.some.inj (hty.symm.trans a2)
  have hc := cells_of_lits ht he hce hct a4
  have hlt : g < W.heap.size := by
    unfold World.var? at a3
    rw [hg] at a3
    simp only [Option.bind_some] at a3
    rcases Nat.lt_or_ge g W.heap.size with h' | h'
    · exact h'
    · rw [Array.getElem?_eq_none h'] at a3; cases a3
  refine ⟨hlt, fun j hj => ?_⟩
  rw [World.var?_cell hg a3 j]
  have h6 : cs.toList[j]? = (ls.map litV)[j]? := by rw [hc]
  simpa using h6
end

/-! ### What the bound of the second form gives -/
theorem bulk_one {H : Type} (d : DataW H) : 1 ≤ Rows.uptoBulk d := by
  cases d with
  | lit l => cases l <;> simp [Rows.uptoBulk]
  | nil => simp [Rows.uptoBulk]
  | ptr d => simp [Rows.uptoBulk]
  | slice elems spare => simp [Rows.uptoBulk]
  | agg parts => simp [Rows.uptoBulk]
  | iface t d => simp [Rows.uptoBulk]
  | map entries => simp [Rows.uptoBulk]
  | held h => simp [Rows.uptoBulk]
theorem bulk_part {H : Type} {d : DataW H} {l : List (DataW H)} (h : d ∈ l) : Rows.uptoBulk d ≤ Rows.uptoBulkAll l := by
  induction l with
  | nil => cases h
  | cons x r ih =>
    simp only [Rows.uptoBulkAll]
    cases List.mem_cons.1 h with
    | inl e => subst e; omega
    | inr e => have := ih e; omega
theorem bulk_length {H : Type} (l : List (DataW H)) : l.length ≤ Rows.uptoBulkAll l := by
  induction l with
  | nil => simp [Rows.uptoBulkAll]
  | cons x r ih => have := bulk_one x; simp only [Rows.uptoBulkAll, List.length_cons]; omega
theorem bulk_bound {H : Type} {l : List (DataW H)} (hk : Rows.uptoSmall H l = true) : Rows.uptoBulkAll l ≤ 1048576 := of_decide_eq_true hk

/-! ### What the reach gives: a string takes at most so many bytes -/
theorem sized_at {H : Type} {P : Program} : ∀ {ts : List TypeId} {ds : List (DataW H)}, (DataW.weightsEach P ts ds).all (· ≤ reachBytes) = true → ∀ {j : Nat} {t : TypeId} {d : DataW H}, ts[j]? = some t → ds[j]? = some d → (d.weights P t).all (· ≤ reachBytes) = true
  | t0 :: ts, d0 :: ds, h, j, t, d, ht, hd => by
    rw [DataW.weightsEach, List.all_append, Bool.and_eq_true] at h
    cases j with
    | zero =>
      simp only [List.getElem?_cons_zero, Option.some.injEq] at ht hd
      subst ht hd
      exact h.1
    | succ j => exact sized_at h.2 (by simpa using ht) (by simpa using hd)
  | [], _, _, j, t, d, ht, _ => by simp at ht
  | _ :: _, [], _, j, t, d, _, hd => by simp at hd
theorem sized_string {H : Type} {P : Program} {ts : List TypeId} {ds : List (DataW H)} (h : (DataW.weightsEach P ts ds).all (· ≤ reachBytes) = true) {j : Nat} {t : TypeId} {s : ByteArray} (ht : ts[j]? = some t) (hd : ds[j]? = some (.lit (.string s.data.toList))) : s.size ≤ 140737488351232 := by
  have := sized_at h ht hd
  simp only [DataW.weights, List.all_cons, List.all_nil, Bool.and_true, decide_eq_true_eq] at this
  have e : s.data.toList.length = s.size := Array.length_toList
  rw [e] at this
  have r : reachBytes = 140737488351232 := rfl
  omega

/-! ### Opening arguments -/
set_option maxRecDepth 100000 in
/-- []byte -/
theorem open_bytes {H : Type} {enc : TypeId × Value → H} {W : World} {r : Reach} {b0 : Nat} {v : Value} {d : DataW H} {ps : List MemPlace} (hval : Value.okWide Tryz.prog W r b0 79 v)
    (h : DataW.Trod enc Tryz.prog W 0 (fun _ => true) true 79 v d ps) : ∃ l : List UInt8, Bs W v l ∧ l.length ≤ Rows.uptoBulk d := by
  obtain ⟨a, len, cap, rfl⟩ := okWide_slice Tryz.underlying79 hval
  obtain ⟨fuel, hf⟩ := h
  have hf' : DataW.trod enc Tryz.prog W 0 (fun _ => true) true fuel 79 [.slice a len cap] = some (d, ps) := by simpa [Value.cells] using hf
  rcases open_ints Tryz.underlying79 Tryz.underlying5 (by kernel_rfl) hf' with ⟨hcs, hx⟩ | ⟨ad, len', cap', zs, hcs, _, hl, hm, hz, hx, hcell, hwz⟩
  · simp only [List.cons.injEq, Value.slice.injEq, and_true] at hcs
    obtain ⟨rfl, rfl, rfl⟩ := hcs
    exact ⟨[], Rd.nil W, by simp⟩
  · simp only [List.cons.injEq, Value.slice.injEq, and_true] at hcs
    obtain ⟨rfl, rfl, rfl⟩ := hcs
    simp only [if_true] at hz
    simp only [Prod.mk.injEq] at hx
    obtain ⟨rfl, _⟩ := hx
    have hlen : ((zs.take len).map fun z => B8 z.toNat).length = len := by simp; omega
    refine ⟨(zs.take len).map fun z => B8 z.toNat, ?_, ?_⟩
    · unfold Bs
      rw [hlen]
      refine ⟨some ad, cap, rfl, hl, hm, (fun e => by cases e), fun ad' e j u hu => ?_⟩
      cases e
      have hj : j < len := by
        have := (List.getElem?_eq_some_iff.1 hu).1
        simp at this; omega
      have hjz : j < zs.length := by omega
      rw [hcell j hjz, ← hu]
      have hw := hwz (zs[j]'hjz) (List.getElem_mem _)
      have hb : 0 ≤ zs[j]'hjz ∧ zs[j]'hjz ≤ 255 := by simpa [Lit.wf, IntKind.min, IntKind.max, IntKind.signed, IntKind.bits] using hw
      have e2 : (((zs.take len).map fun z => B8 z.toNat).map byteV)[j]? = some (byteV (B8 (zs[j]'hjz).toNat)) := by
        simp [hj, List.getElem?_eq_getElem hjz]
      rw [e2, byteV_B8 (show (zs[j]'hjz).toNat < 256 by omega) (show zs[j]'hjz = ((zs[j]'hjz).toNat : Int) by omega)]
      simp [List.getD, hjz]
    · rw [hlen]
      have := bulk_length (lits .u8 (zs.take len) : List (DataW H))
      have h2 : (lits .u8 (zs.take len) : List (DataW H)).length = len := by simp [lits]; omega
      simp only [Rows.uptoBulk]
      omega

theorem laidOut : laidOutB Tryz.prog = true := by kernel_rfl
theorem own : ownKnob Tryz.prog.godebug = none := by kernel_rfl

end Go.Proofs.YtclicjokgfiegaaGreatDoor

/- What a message that came in reads as. Of no function of the program. -/
namespace Go.Proofs.YtclicjokgfiegaaGreatDoor
open Go.ChangeShapes Go.WideShapes Go.ChangeAt Go.RowKit
set_option maxRecDepth 100000
set_option linter.unusedVariables false
set_option linter.unusedSimpArgs false

theorem cells_string : Tryz.prog.cellsOf 9 = 1 := by kernel_rfl
theorem cells_int : Tryz.prog.cellsOf 3 = 1 := by kernel_rfl
theorem cells_bool : Tryz.prog.cellsOf 4 = 1 := by kernel_rfl
theorem cells_msg : Tryz.prog.cellsOf 51 = 4 := by kernel_rfl

section
variable {H : Type} {enc : TypeId × Value → H} {w : World} {base : Nat} {sp : Nat → Bool} {held : Bool}

theorem str_sized {t : TypeId} {s : ByteArray} {l : List (DataW H)} (h : ((DataW.lit (.string s.data.toList) : DataW H).weights Tryz.prog t).all (· ≤ reachBytes) = true) : s.size ≤ 140737488351232 := by
  simp only [DataW.weights, List.all_cons, List.all_nil, Bool.and_true, decide_eq_true_eq] at h
  have e : s.data.toList.length = s.size := Array.length_toList
  rw [e] at h
  have r : reachBytes = 140737488351232 := rfl
  omega


theorem msg_cells {n : Nat} {cs : List Value} {d : DataW H} {p : List MemPlace} (h : DataW.trod enc Tryz.prog w base sp held n 51 cs = some (d, p)) (hz : (d.weights Tryz.prog 51).all (· ≤ reachBytes) = true) :
    ∃ (T X : ByteArray) (q : Int) (R : Bool), cs = [.string T, .string X, .int .i64 q, .bool R] ∧ T.size ≤ 140737488351232 ∧ X.size ≤ 140737488351232 ∧ (Lit.int .i64 q).wf = true := by
  obtain ⟨xs, n', _, hx, hlen, hxl, hf⟩ := DataW.trod_struct Tryz.underlying51 h
  simp only [Prod.mk.injEq] at hx
  obtain ⟨rfl, rfl⟩ := hx
  rw [cells_msg] at hlen
  match cs, hlen, xs, hxl with
  | [c0, c1, c2, c3], _, [y0, y1, y2, y3], _ =>
    have g0 : DataW.trod enc Tryz.prog w base sp held n' 9 [c0] = some y0 := by have := hf 0 _ rfl; simpa [cells_string] using this
    have g1 : DataW.trod enc Tryz.prog w base sp held n' 9 [c1] = some y1 := by have := hf 1 _ rfl; simpa [cells_string] using this
    have g2 : DataW.trod enc Tryz.prog w base sp held n' 3 [c2] = some y2 := by have := hf 2 _ rfl; simpa [cells_int] using this
    have g3 : DataW.trod enc Tryz.prog w base sp held n' 4 [c3] = some y3 := by have := hf 3 _ rfl; simpa [cells_bool] using this
    obtain ⟨T, e0, rfl, _⟩ := DataW.trod_string Tryz.underlying9 g0
    obtain ⟨X, e1, rfl, _⟩ := DataW.trod_string Tryz.underlying9 g1
    obtain ⟨q, e2, rfl, hq⟩ := DataW.trod_int Tryz.underlying3 g2
    obtain ⟨R, e3, rfl⟩ := DataW.trod_bool Tryz.underlying4 g3
    simp only [List.cons.injEq, and_true] at e0 e1 e2 e3
    subst e0 e1 e2 e3
    have hw : (DataW.weightsEach Tryz.prog [9, 9, 3, 4] [DataW.lit (.string T.data.toList), DataW.lit (.string X.data.toList), DataW.lit (.int .i64 q), (DataW.lit (.bool R) : DataW H)]).all (· ≤ reachBytes) = true := by
      simpa [DataW.weights, Tryz.underlying51] using hz
    exact ⟨T, X, q, R, rfl, sized_string hw (j := 0) (t := 9) rfl rfl, sized_string hw (j := 1) (t := 9) rfl rfl, hq⟩

theorem open_msg {r : Reach} {b0 : Nat} {v : Value} {d : DataW H} {p : List MemPlace} (hv : Value.okWide Tryz.prog w r b0 51 v) (h : DataW.Trod enc Tryz.prog w base sp held 51 v d p) (hz : (d.weights Tryz.prog 51).all (· ≤ reachBytes) = true) :
    ∃ (T X : ByteArray) (q : Int) (R : Bool), v = .agg #[.string T, .string X, .int .i64 q, .bool R] ∧ T.size ≤ 140737488351232 ∧ X.size ≤ 140737488351232 ∧ (Lit.int .i64 q).wf = true := by
  obtain ⟨cs, rfl, hsz⟩ := okWide_struct Tryz.underlying51 hv
  obtain ⟨fuel, hf⟩ := h
  obtain ⟨T, X, q, R, hc, h1⟩ := msg_cells hf hz
  refine ⟨T, X, q, R, ?_, h1⟩
  have : cs.toList = [.string T, .string X, .int .i64 q, .bool R] := by simpa [Value.cells] using hc
  rw [← Array.toArray_toList (xs := cs), this]
end
end Go.Proofs.YtclicjokgfiegaaGreatDoor

/- What somebody who came in reads as. Of no function of the program. -/
namespace Go.Proofs.YtclicjokgfiegaaGreatDoor
open Go.ChangeShapes Go.WideShapes Go.ChangeAt Go.RowKit
set_option maxRecDepth 100000
set_option linter.unusedVariables false
set_option linter.unusedSimpArgs false

theorem cells_con : Tryz.prog.cellsOf 53 = 13 := by kernel_rfl

section
variable {H : Type} {enc : TypeId × Value → H} {w : World} {base : Nat} {sp : Nat → Bool} {held : Bool}


theorem con_cells {n : Nat} {cs : List Value} {d : DataW H} {p : List MemPlace} (h : DataW.trod enc Tryz.prog w base sp held n 53 cs = some (d, p)) (hz : (d.weights Tryz.prog 53).all (· ≤ reachBytes) = true) :
    ∃ c : Con, cs = c.cells ∧ c.sized 140737488351232 := by
  obtain ⟨xs, n', _, hx, hlen, hxl, hf⟩ := DataW.trod_struct Tryz.underlying53 h
  simp only [Prod.mk.injEq] at hx
  obtain ⟨rfl, rfl⟩ := hx
  rw [cells_con] at hlen
  match cs, hlen, xs, hxl with
  | [c0, c1, c2, c3, c4, c5, c6, c7, c8, c9, c10, c11, c12], _, [y0, y1, y2, y3, y4, y5, y6, y7, y8, y9], _ =>
    have g0 : DataW.trod enc Tryz.prog w base sp held n' 3 [c0] = some y0 := by have := hf 0 _ rfl; simpa [cells_int] using this
    have g1 : DataW.trod enc Tryz.prog w base sp held n' 4 [c1] = some y1 := by have := hf 1 _ rfl; simpa [cells_bool] using this
    have g2 : DataW.trod enc Tryz.prog w base sp held n' 3 [c2] = some y2 := by have := hf 2 _ rfl; simpa [cells_int] using this
    have g3 : DataW.trod enc Tryz.prog w base sp held n' 9 [c3] = some y3 := by have := hf 3 _ rfl; simpa [cells_string] using this
    have g4 : DataW.trod enc Tryz.prog w base sp held n' 4 [c4] = some y4 := by have := hf 4 _ rfl; simpa [cells_bool] using this
    have g5 : DataW.trod enc Tryz.prog w base sp held n' 51 [c5, c6, c7, c8] = some y5 := by have := hf 5 _ rfl; simpa [cells_msg] using this
    have g6 : DataW.trod enc Tryz.prog w base sp held n' 4 [c9] = some y6 := by have := hf 6 _ rfl; simpa [cells_bool] using this
    have g7 : DataW.trod enc Tryz.prog w base sp held n' 9 [c10] = some y7 := by have := hf 7 _ rfl; simpa [cells_string] using this
    have g8 : DataW.trod enc Tryz.prog w base sp held n' 4 [c11] = some y8 := by have := hf 8 _ rfl; simpa [cells_bool] using this
    have g9 : DataW.trod enc Tryz.prog w base sp held n' 9 [c12] = some y9 := by have := hf 9 _ rfl; simpa [cells_string] using this
    obtain ⟨x0, e0, rfl, _⟩ := DataW.trod_int Tryz.underlying3 g0
    obtain ⟨x1, e1, rfl⟩ := DataW.trod_bool Tryz.underlying4 g1
    obtain ⟨x2, e2, rfl, _⟩ := DataW.trod_int Tryz.underlying3 g2
    obtain ⟨x3, e3, rfl, _⟩ := DataW.trod_string Tryz.underlying9 g3
    obtain ⟨x4, e4, rfl⟩ := DataW.trod_bool Tryz.underlying4 g4
    obtain ⟨x6, e6, rfl⟩ := DataW.trod_bool Tryz.underlying4 g6
    obtain ⟨x7, e7, rfl, _⟩ := DataW.trod_string Tryz.underlying9 g7
    obtain ⟨x8, e8, rfl⟩ := DataW.trod_bool Tryz.underlying4 g8
    obtain ⟨x9, e9, rfl, _⟩ := DataW.trod_string Tryz.underlying9 g9
    obtain ⟨d5, p5⟩ := y5
    have hw : (DataW.weightsEach Tryz.prog [3, 4, 3, 9, 4, 51, 4, 9, 4, 9] [DataW.lit (.int .i64 x0), DataW.lit (.bool x1), DataW.lit (.int .i64 x2), DataW.lit (.string x3.data.toList), DataW.lit (.bool x4), d5, DataW.lit (.bool x6), DataW.lit (.string x7.data.toList), DataW.lit (.bool x8), DataW.lit (.string x9.data.toList)]).all (· ≤ reachBytes) = true := by
      simpa [DataW.weights, Tryz.underlying53] using hz
    obtain ⟨T, X, q, R, e5, hT, hX, _⟩ := msg_cells g5 (sized_at hw (j := 5) (t := 51) rfl rfl)
    simp only [List.cons.injEq, and_true] at e0 e1 e2 e3 e4 e5 e6 e7 e8 e9
    obtain ⟨rfl, rfl, rfl, rfl⟩ := e5
    subst e0 e1 e2 e3 e4 e6 e7 e8 e9
    exact ⟨⟨x0, x1, x2, x3, x4, T, X, q, R, x6, x7, x8, x9⟩, rfl, sized_string hw (j := 3) (t := 9) rfl rfl, hT, hX, sized_string hw (j := 7) (t := 9) rfl rfl, sized_string hw (j := 9) (t := 9) rfl rfl⟩

theorem open_con {r : Reach} {b0 : Nat} {v : Value} {d : DataW H} {p : List MemPlace} (hv : Value.okWide Tryz.prog w r b0 53 v) (h : DataW.Trod enc Tryz.prog w base sp held 53 v d p) (hz : (d.weights Tryz.prog 53).all (· ≤ reachBytes) = true) :
    ∃ c : Con, v = .agg c.cells.toArray ∧ c.sized 140737488351232 := by
  obtain ⟨cs, rfl, hsz⟩ := okWide_struct Tryz.underlying53 hv
  obtain ⟨fuel, hf⟩ := h
  obtain ⟨c, hc, h1⟩ := con_cells hf hz
  refine ⟨c, ?_, h1⟩
  have : cs.toList = c.cells := by simpa [Value.cells] using hc
  rw [← Array.toArray_toList (xs := cs), this]
end
end Go.Proofs.YtclicjokgfiegaaGreatDoor

/- What wishes, and numbers, that came in read as. Of no function of the program. -/
namespace Go.Proofs.YtclicjokgfiegaaGreatDoor
open Go.ChangeShapes Go.WideShapes Go.ChangeAt Go.RowKit
set_option linter.unusedVariables false
set_option linter.unusedSimpArgs false

theorem weights_mem {H : Type} {P : Program} {e : TypeId} : ∀ {ds : List (DataW H)} {d : DataW H}, (DataW.weightsAll P e ds).all (· ≤ reachBytes) = true → d ∈ ds → (d.weights P e).all (· ≤ reachBytes) = true
  | d0 :: ds, d, h, hm => by
    rw [DataW.weightsAll, List.all_append, Bool.and_eq_true] at h
    rcases List.mem_cons.1 hm with rfl | hm
    · exact h.1
    · exact weights_mem h.2 hm
theorem weights_slice {H : Type} {P : Program} {t e : TypeId} (ht : P.underlying t = some (.slice e)) {es sp : List (DataW H)} {d : DataW H} (h : ((DataW.slice es sp).weights P t).all (· ≤ reachBytes) = true) (hm : d ∈ es) : (d.weights P e).all (· ≤ reachBytes) = true := by
  simp only [DataW.weights, ht, List.all_cons, List.all_append, Bool.and_eq_true] at h
  exact weights_mem h.2.1 hm

section
variable {H : Type} {enc : TypeId × Value → H} {w : World}

set_option maxRecDepth 100000 in
theorem open_wishes {r : Reach} {b0 : Nat} {v : Value} {d : DataW H} {ps : List MemPlace} (hval : Value.okWide Tryz.prog w r b0 23 v)
    (h : DataW.Trod enc Tryz.prog w 0 (fun _ => true) true 23 v d ps) (hz : (d.weights Tryz.prog 23).all (· ≤ reachBytes) = true) : ∃ l : List Wish, Ws w v l ∧ ∀ f ∈ l, f.1.size ≤ 140737488351232 := by
  obtain ⟨a, len, cap, rfl⟩ := okWide_slice Tryz.underlying23 hval
  obtain ⟨fuel, hf⟩ := h
  have hf' : DataW.trod enc Tryz.prog w 0 (fun _ => true) true fuel 23 [.slice a len cap] = some (d, ps) := by simpa [Value.cells] using hf
  rcases Go.Deep.open_slice_pairs Tryz.underlying23 Tryz.underlying77 (by kernel_rfl) rfl rfl (by kernel_rfl) (by kernel_rfl) hf' with ⟨hcs, hx⟩ | ⟨ad, len', cap', m, n, V0, V1, D0, D1, P0, P1, hcs, _, hl, hm, hmm, hx, hcell⟩
  · simp only [List.cons.injEq, Value.slice.injEq, and_true] at hcs
    obtain ⟨rfl, rfl, rfl⟩ := hcs
    exact ⟨[], Rd.nil w, by simp⟩
  · simp only [List.cons.injEq, Value.slice.injEq, and_true] at hcs
    obtain ⟨rfl, rfl, rfl⟩ := hcs
    simp only [if_true] at hmm
    subst hmm
    simp only [Prod.mk.injEq] at hx
    obtain ⟨rfl, _⟩ := hx
    have each : ∀ i, i < len → ∃ f : Wish, V0 i = .string f.1 ∧ V1 i = .int .i64 f.2 ∧ f.1.size ≤ 140737488351232 := by
      intro i hi
      obtain ⟨_, _, t0, t1⟩ := hcell i (by omega)
      obtain ⟨s, e0, hd0, _⟩ := DataW.trod_string Tryz.underlying9 t0
      obtain ⟨q, e1, hd1, _⟩ := DataW.trod_int Tryz.underlying3 t1
      simp only [List.cons.injEq, and_true] at e0 e1
      have hmem : (DataW.agg [D0 i, D1 i] : DataW H) ∈ (List.range len).map fun i => DataW.agg [D0 i, D1 i] := List.mem_map.2 ⟨i, List.mem_range.2 hi, rfl⟩
      have hw := weights_slice Tryz.underlying23 hz hmem
      refine ⟨(s, q), e0, e1, ?_⟩
      simp only [Prod.mk.injEq] at hd0
      have hw' : (DataW.weightsEach Tryz.prog [9, 3] [D0 i, D1 i]).all (· ≤ reachBytes) = true := by
        simpa [DataW.weights, Tryz.underlying77] using hw
      rw [hd0.1] at hw'
      exact sized_string hw' (j := 0) (t := 9) rfl rfl
    obtain ⟨g, hg⟩ := Go.Deep.choose_lt each
    have hlen : ((List.range len).map g).length = len := by simp
    refine ⟨(List.range len).map g, ?_, ?_⟩
    · unfold Ws
      rw [hlen]
      refine ⟨some ad, _, rfl, hl, hm, (fun e => by cases e), fun ad' e j u hu => ?_⟩
      cases e
      have hj : j < len * 2 := by
        have := (List.getElem?_eq_some_iff.1 hu).1
        rw [wCells_len, hlen] at this
        exact this
      have hi : j / 2 < len := by omega
      have hgi : ((List.range len).map g)[j / 2]? = some (g (j / 2)) := by simp [hi]
      have hwc := wCells_at _ _ _ hgi
      obtain ⟨c0, c1, _, _⟩ := hcell (j / 2) (by omega)
      obtain ⟨v0, v1, _⟩ := hg (j / 2) hi
      rcases Nat.mod_two_eq_zero_or_one j with hp | hp
      · have ej : j / 2 * 2 = j := by omega
        rw [ej] at c0 hwc
        rw [hwc.1] at hu
        cases hu
        rw [c0, v0]
      · have ej : j / 2 * 2 + 1 = j := by omega
        rw [ej] at c1 hwc
        rw [hwc.2] at hu
        cases hu
        rw [c1, v1]
    · intro f hf
      obtain ⟨i, hi, rfl⟩ := List.mem_map.1 hf
      exact (hg i (List.mem_range.1 hi)).2.2
end
end Go.Proofs.YtclicjokgfiegaaGreatDoor

/- What numbers that came in read as. Of no function of the program. -/
namespace Go.Proofs.YtclicjokgfiegaaGreatDoor
open Go.ChangeShapes Go.WideShapes Go.ChangeAt Go.RowKit
set_option linter.unusedVariables false
set_option linter.unusedSimpArgs false

set_option maxRecDepth 100000 in
theorem open_nums {H : Type} {enc : TypeId × Value → H} {W : World} {r : Reach} {b0 : Nat} {v : Value} {d : DataW H} {ps : List MemPlace} (hval : Value.okWide Tryz.prog W r b0 54 v)
    (h : DataW.Trod enc Tryz.prog W 0 (fun _ => true) true 54 v d ps) : ∃ l : List Int, Is W v l := by
  obtain ⟨a, len, cap, rfl⟩ := okWide_slice Tryz.underlying54 hval
  obtain ⟨fuel, hf⟩ := h
  have hf' : DataW.trod enc Tryz.prog W 0 (fun _ => true) true fuel 54 [.slice a len cap] = some (d, ps) := by simpa [Value.cells] using hf
  rcases open_ints Tryz.underlying54 Tryz.underlying3 (by kernel_rfl) hf' with ⟨hcs, hx⟩ | ⟨ad, len', cap', zs, hcs, _, hl, hm, hz, hx, hcell, hwz⟩
  · simp only [List.cons.injEq, Value.slice.injEq, and_true] at hcs
    obtain ⟨rfl, rfl, rfl⟩ := hcs
    exact ⟨[], Rd.nil W⟩
  · simp only [List.cons.injEq, Value.slice.injEq, and_true] at hcs
    obtain ⟨rfl, rfl, rfl⟩ := hcs
    simp only [if_true] at hz
    have hlen : (zs.take len).length = len := by simp; omega
    refine ⟨zs.take len, ?_⟩
    unfold Is
    rw [hlen]
    refine ⟨some ad, cap, rfl, hl, hm, (fun e => by cases e), fun ad' e j u hu => ?_⟩
    cases e
    have hj : j < len := by
      have := (List.getElem?_eq_some_iff.1 hu).1
      simp at this; omega
    have hjz : j < zs.length := by omega
    rw [hcell j hjz, ← hu]
    have e2 : ((zs.take len).map iV)[j]? = some (iV (zs[j]'hjz)) := by
      simp [hj, List.getElem?_eq_getElem hjz]
    rw [e2]
    simp [List.getD, hjz, iV]
end Go.Proofs.YtclicjokgfiegaaGreatDoor

/- What rows of structs that came in read as: for whatever struct. Of no function of the program. -/
namespace Go.Proofs.YtclicjokgfiegaaGreatDoor
open Go.ChangeShapes Go.WideShapes Go.ChangeAt Go.RowKit
set_option linter.unusedVariables false
set_option linter.unusedSimpArgs false

theorem flat_at {α : Type} (cells : α → List Value) (K : Nat) (hK0 : 0 < K) (hK : ∀ x, (cells x).length = K) : ∀ (l : List α) (j : Nat) (u : Value), (l.flatMap cells)[j]? = some u → ∃ x, l[j / K]? = some x ∧ (cells x)[j % K]? = some u
  | [], j, u, h => by simp at h
  | y :: t, j, u, h => by
    rw [List.flatMap_cons] at h
    by_cases hj : j < K
    · rw [List.getElem?_append_left (by rw [hK]; exact hj)] at h
      exact ⟨y, by rw [Nat.div_eq_of_lt hj]; rfl, by rw [Nat.mod_eq_of_lt hj]; exact h⟩
    · rw [List.getElem?_append_right (by rw [hK]; omega), hK] at h
      obtain ⟨x, h1, h2⟩ := flat_at cells K hK0 hK t (j - K) u h
      refine ⟨x, ?_, ?_⟩
      · have e : j / K = (j - K) / K + 1 := by
          have := Nat.add_div_right (j - K) hK0
          rw [Nat.sub_add_cancel (by omega)] at this
          exact this
        rw [e]; simpa using h1
      · have e : j % K = (j - K) % K := by rw [Nat.mod_eq_sub_mod (by omega)]
        rw [e]; exact h2

theorem rows_weights_mem {H : Type} {P : Program} {e : TypeId} : ∀ {ds : List (DataW H)} {d : DataW H}, (DataW.weightsAll P e ds).all (· ≤ reachBytes) = true → d ∈ ds → (d.weights P e).all (· ≤ reachBytes) = true
  | d0 :: ds, d, h, hm => by
    rw [DataW.weightsAll, List.all_append, Bool.and_eq_true] at h
    rcases List.mem_cons.1 hm with rfl | hm
    · exact h.1
    · exact rows_weights_mem h.2 hm
theorem rows_weights {H : Type} {P : Program} {t e : TypeId} (ht : P.underlying t = some (.slice e)) {es sp : List (DataW H)} {d : DataW H} (h : ((DataW.slice es sp).weights P t).all (· ≤ reachBytes) = true) (hm : d ∈ es) : (d.weights P e).all (· ≤ reachBytes) = true := by
  simp only [DataW.weights, ht, List.all_cons, List.all_append, Bool.and_eq_true] at h
  exact rows_weights_mem h.2.1 hm

section
variable {H : Type} {enc : TypeId × Value → H} {w : World}
set_option maxRecDepth 100000 in
theorem open_rows {α : Type} [Inhabited α] (cells : α → List Value) (K : Nat) (hK0 : 0 < K) (hK : ∀ x, (cells x).length = K) {t e : TypeId} (ht : Tryz.prog.underlying t = some (.slice e)) (hc : Tryz.prog.cellsOf e = K) (Good : α → Prop)
    (one : ∀ n cs d p, DataW.trod enc Tryz.prog w 0 (fun _ => true) true n e cs = some (d, p) → (d.weights Tryz.prog e).all (· ≤ reachBytes) = true → ∃ x, cs = cells x ∧ Good x)
    {r : Reach} {b0 : Nat} {v : Value} {d : DataW H} {ps : List MemPlace} (hval : Value.okWide Tryz.prog w r b0 t v)
    (h : DataW.Trod enc Tryz.prog w 0 (fun _ => true) true t v d ps) (hz : (d.weights Tryz.prog t).all (· ≤ reachBytes) = true) : ∃ l : List α, Rd w v l.length (l.flatMap cells) ∧ ∀ x ∈ l, Good x := by
  obtain ⟨a, len, cap, rfl⟩ := okWide_slice ht hval
  obtain ⟨fuel, hf⟩ := h
  have hf' : DataW.trod enc Tryz.prog w 0 (fun _ => true) true fuel t [.slice a len cap] = some (d, ps) := by simpa [Value.cells] using hf
  rcases Go.Deep.open_slice ht hf' with ⟨hcs, hx⟩ | ⟨ad, len', cap', m, n, D, Pl, hcs, _, hl, hm, hmm, hx, hcell⟩
  · simp only [List.cons.injEq, Value.slice.injEq, and_true] at hcs
    obtain ⟨rfl, rfl, rfl⟩ := hcs
    exact ⟨[], Rd.nil w, by simp⟩
  · simp only [List.cons.injEq, Value.slice.injEq, and_true] at hcs
    obtain ⟨rfl, rfl, rfl⟩ := hcs
    simp only [if_true] at hmm
    subst hmm
    simp only [Prod.mk.injEq] at hx
    obtain ⟨rfl, _⟩ := hx
    have each : ∀ i, i < len → ∃ x : α, w.cells? 0 (ad.add (i * K)) K = some (cells x) ∧ Good x := by
      intro i hi
      obtain ⟨cs', h1, h2⟩ := hcell i (by omega)
      have hmem : D i ∈ (List.range len).map D := List.mem_map.2 ⟨i, List.mem_range.2 hi, rfl⟩
      obtain ⟨x, rfl, hg⟩ := one _ _ _ _ h2 (rows_weights ht hz hmem)
      rw [hc] at h1
      exact ⟨x, h1, hg⟩
    obtain ⟨g, hg⟩ := Go.Deep.choose_lt each
    have hlen : ((List.range len).map g).length = len := by simp
    refine ⟨(List.range len).map g, ?_, ?_⟩
    · rw [hlen]
      refine ⟨some ad, _, rfl, hl, hm, (fun e => by cases e), fun ad' e j u hu => ?_⟩
      cases e
      obtain ⟨x, h1, h2⟩ := flat_at cells K hK0 hK _ j u hu
      have hi : j / K < len := by
        have := (List.getElem?_eq_some_iff.1 h1).1
        simpa using this
      have hgx : g (j / K) = x := by
        have : ((List.range len).map g)[j / K]? = some (g (j / K)) := by simp [hi]
        rw [this] at h1; exact Option.some.inj h1
      obtain ⟨_, _, hcc⟩ := World.cells?_some (hg (j / K) hi).1
      have hcj := hcc (j % K) (Nat.mod_lt _ hK0)
      rw [Go.Deep.add_add, hgx, h2, Nat.mul_comm, Nat.div_add_mod] at hcj
      exact hcj
    · intro f hf
      obtain ⟨i, hi, rfl⟩ := List.mem_map.1 hf
      exact (hg i (List.mem_range.1 hi)).2
end
end Go.Proofs.YtclicjokgfiegaaGreatDoor
