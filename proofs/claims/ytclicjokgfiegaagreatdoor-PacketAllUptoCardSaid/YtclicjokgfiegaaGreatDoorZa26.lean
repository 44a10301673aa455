/- A bundle of texts (merged for the limit on files): PacROf, PacRAll, PacRef, PacRows, HeadVars. -/
import Derived.Test.YtclicjokgfiegaaGreatDoorZa25
import Derived.Test.YtclicjokgfiegaaGreatDoorZa21
import Derived.Test.YtclicjokgfiegaaGreatDoorZa17
import Derived.Test.YtclicjokgfiegaaGreatDoorZa12
import Derived.Test.YtclicjokgfiegaaGreatDoorZa15
import Derived.Test.YtclicjokgfiegaaGreatDoorZa4
import Derived.Test.YtclicjokgfiegaaGreatDoorZa10
import Derived.Test.YtclicjokgfiegaaGreatDoorZa1
import Derived.Test.YtclicjokgfiegaaGreatDoorZa20
/- Packets: told: the reference's Of: the walk. -/
namespace Go.Proofs.YtclicjokgfiegaaGreatDoor
open Go.RowKit
set_option linter.unusedVariables false
set_option linter.unusedSimpArgs false

theorem info_raw4 : (Tryz.prog.info? 89).map (·.size) = some 4 := by kernel_rfl
set_option maxRecDepth 100000 in
set_option maxHeartbeats 8000000 in
theorem refPackOf_c (k f n : Int) (b : ByteArray) (w : World) (hs : b.size ≤ 140737488351232) :
    Calls Tryz.prog 38 #[.agg #[.int .i64 k, .int .i64 f, .int .i64 n, .string b]] w (GivesO w (paOf k f n (sB b))) := by
  go_enter Tryz.func38, Tryz.ntmps38
  go_wp2_with (first
    | (with_reducible refine wpl_box (o := ⟨some 1, .box 89 (.tmp 0), _, _, _, _⟩) rfl _ _ rfl [.int .i64 k, .int .i64 f, .int .i64 n, .string b] rfl w.heap.size rfl ?_; intro w1 h1 f1 b1 z1)
    | (with_reducible refine wpl_alloc (o := ⟨some 2, .alloc 56, _, _, _, _⟩) rfl _ rfl (zK 0) alloc_pac _ z1 ?_; intro w2 h2 f2 b2 z2; replace h1 := h1.keep b2 (by omega); have B2 : Below w.heap.size w w2 := b1.trans (b2.mono (by omega)); clear f1 b1 b2; have c0 := h1.at 0 (u := .int .i64 k) rfl; have c1 := h1.at 1 (u := .int .i64 f) rfl; have c2 := h1.at 2 (u := .int .i64 n) rfl; have c3 := h1.at 3 (u := .string b) rfl))
  refine (refHRight_c k f _).mono ?_
  rintro e w' ⟨rfl, rfl⟩
  by_cases hr : hRight k f = 0
  rotate_left
  · have hrb : (hRight k f != 0) = true := by simpa using hr
    have ho : paOf k f n (sB b) = (Pac.zero, hRight k f) := by unfold paOf; rw [if_pos hr]
    have HO0 := hd ho
    clear ho
    go_wp2_with (first
      | ((with_reducible refine wpl_at (o := ⟨none, .store 56 (.tmp 2) (.tmp 15), _, _, _, _⟩) ?_); refine wpl_storeAll rfl rfl _ _ _ rfl (w.heap.size + 1) (zK 0) (zK 0) rfl rfl info_pac (zK_one 0) h2 rfl f2 ?_; intro w9 h9 f9 k9 z9))
    rw [HO0.out]
    refine bodyPost_ret (v := .tuple #[.agg (Pac.zero.cells Nl Nl).toArray, .int .i64 (hRight k f)]) (results_cell_tmp Tryz.results38 rfl (ret_pac h9 rfl) rfl) rfl ?_
    exact ⟨Nl, Nl, rfl, PacOwn.nil (p := Pac.zero) _ _ rfl rfl, B2.trans (k9.toBelow B2.size (by simp))⟩
  rw [hr]
  by_cases hn : n = (b.size : Int)
  rotate_left
  · have hnb : (n != (b.size : Int)) = true := by simpa using hn
    have ho : paOf k f n (sB b) = (Pac.zero, 4) := by unfold paOf; rw [if_neg (by simpa using hr), if_pos (by rw [sB_lenP]; exact hn)]
    have HO0 := hd ho
    clear ho
    go_wp2_with (first
      | ((with_reducible refine wpl_at (o := ⟨none, .store 56 (.tmp 2) (.tmp 24), _, _, _, _⟩) ?_); refine wpl_storeAll rfl rfl _ _ _ rfl (w.heap.size + 1) (zK 0) (zK 0) rfl rfl info_pac (zK_one 0) h2 rfl f2 ?_; intro w9 h9 f9 k9 z9))
    rw [HO0.out]
    refine bodyPost_ret (v := .tuple #[.agg (Pac.zero.cells Nl Nl).toArray, .int .i64 (4)]) (results_cell_tmp Tryz.results38 rfl (ret_pac h9 rfl) rfl) rfl ?_
    exact ⟨Nl, Nl, rfl, PacOwn.nil (p := Pac.zero) _ _ rfl rfl, B2.trans (k9.toBelow B2.size (by simp))⟩
  have ho : paOf k f n (sB b) = if (paTold k f (sB b)).2 ≠ 0 then (Pac.zero, (paTold k f (sB b)).2) else ((paTold k f (sB b)).1, 0) := by
    unfold paOf
    rw [if_neg (by simpa using hr), if_neg (by rw [sB_lenP]; simpa using hn)]
  have HO := hd ho
  clear ho hr
  have hnb : (n != (b.size : Int)) = false := by simpa using hn
  clear hn
  go_wp2_with (first
    | ((with_reducible refine wpl_at (o := ⟨some 26, .load 89 (.tmp 1), _, _, _, _⟩) ?_); refine wpl_loadAt rfl _ _ rfl w.heap.size 0 rfl [.int .i64 k, .int .i64 f, .int .i64 n, .string b] _ h1.range Tryz.underlying89 rfl info_raw4 ?_))
  refine (refPaTold_c k f n b _ hs).mono ?_
  obtain ⟨r, hr⟩ : ∃ r, paTold k f (sB b) = r := ⟨_, rfl⟩
  rw [hr]
  have HO' : Hd (paOf k f n (sB b) = if r.2 ≠ 0 then (Pac.zero, r.2) else (r.1, 0)) := hd (by rw [← hr]; exact HO.out)
  clear HO hr
  obtain ⟨q, E⟩ := r
  rintro e w4 ⟨vf, vc, rfl, hr4, hb4⟩
  have hz4 := hb4.size
  have B4 : Below w.heap.size w w4 := B2.trans (hb4.mono B2.size)
  replace h2 := h2.keep hb4 (by omega)
  replace f2 := f2.keep hb4 (by omega)
  clear c0 c1 c2 c3 h1
  have hone := Pac.one q vf vc hr4.rd.f.oneCell hr4.rd.c.oneCell
  by_cases hE0 : E = 0
  rotate_left
  · have hEb : (E != 0) = true := by simpa using hE0
    go_wp2_with (first
      | (with_reducible refine wpl_alloc (o := ⟨some 5, .alloc 56, _, _, _, _⟩) rfl _ rfl (zK 0) alloc_pac _ rfl ?_; intro w5 h5 f5 b5 z5; replace h2 := h2.keep b5 (by omega); replace f2 := f2.keep b5 (by omega); have B5 := B4.trans (b5.mono B4.size))
      | ((with_reducible refine wpl_at (o := ⟨none, .store 56 (.tmp 5) (.tmp 28), _, _, _, _⟩) ?_); refine wpl_storeAll rfl rfl _ _ _ rfl w4.heap.size (q.cells vf vc) (zK 0) rfl rfl info_pac hone h5 rfl f5 ?_; intro w6 h6 f6 k6 z6; replace h2 := h2.keeps k6 (by simp; omega); replace f2 := f2.keeps k6 (by omega) (by simp; omega); have B6 := B5.trans (k6.toBelow B5.size (by simp; omega)))
      | ((with_reducible refine wpl_at (o := ⟨none, .store 56 (.tmp 2) (.tmp 32), _, _, _, _⟩) ?_); refine wpl_storeAll rfl rfl _ _ _ rfl (w.heap.size + 1) (zK 0) (zK 0) rfl rfl info_pac (zK_one 0) h2 rfl f2 ?_; intro w9 h9 f9 k9 z9))
    rw [HO'.out, if_pos hE0]
    refine bodyPost_ret (v := .tuple #[.agg (Pac.zero.cells Nl Nl).toArray, .int .i64 (E)]) (results_cell_tmp Tryz.results38 rfl (ret_pac h9 rfl) rfl) rfl ?_
    exact ⟨Nl, Nl, rfl, PacOwn.nil (p := Pac.zero) _ _ rfl rfl, B6.trans (k9.toBelow B6.size (by simp))⟩
  subst hE0
  go_wp2_with (first
    | (with_reducible refine wpl_alloc (o := ⟨some 5, .alloc 56, _, _, _, _⟩) rfl _ rfl (zK 0) alloc_pac _ rfl ?_; intro w5 h5 f5 b5 z5; replace h2 := h2.keep b5 (by omega); replace f2 := f2.keep b5 (by omega); have B5 := B4.trans (b5.mono B4.size))
    | ((with_reducible refine wpl_at (o := ⟨none, .store 56 (.tmp 5) (.tmp 28), _, _, _, _⟩) ?_); refine wpl_storeAll rfl rfl _ _ _ rfl w4.heap.size (q.cells vf vc) (zK 0) rfl rfl info_pac hone h5 rfl f5 ?_; intro w6 h6 f6 k6 z6; replace h2 := h2.keeps k6 (by simp; omega); replace f2 := f2.keeps k6 (by omega) (by simp; omega); have B6 := B5.trans (k6.toBelow B5.size (by simp; omega)))
    | ((with_reducible refine wpl_at (o := ⟨some 34, .load 56 (.tmp 5), _, _, _, _⟩) ?_); refine wpl_loadAt rfl _ _ rfl w4.heap.size 0 rfl (q.cells vf vc) _ h6.range Tryz.underlying56 rfl info_pac ?_)
    | ((with_reducible refine wpl_at (o := ⟨none, .store 56 (.tmp 2) (.tmp 34), _, _, _, _⟩) ?_); refine wpl_storeAll rfl rfl _ _ _ rfl (w.heap.size + 1) (q.cells vf vc) (zK 0) rfl rfl info_pac hone h2 rfl f2 ?_; intro w9 h9 f9 k9 z9))
  rw [HO'.out, if_neg (by simp)]
  refine bodyPost_ret (v := .tuple #[.agg (q.cells vf vc).toArray, .int .i64 0]) (results_cell_tmp Tryz.results38 rfl (ret_pac h9 rfl) rfl) rfl ?_
  have K46 : Keeps [w.heap.size + 1] w4 w6 := (Keeps.below b5).next k6 (by intro i hi; simp at hi; subst hi; exact .inr (Nat.le_refl _))
  exact ⟨vf, vc, rfl, (hr4.keeps (K46.trans k9) (by intro j hj; simp at hj; omega)).le (by omega), B6.trans (k9.toBelow B6.size (by simp))⟩
end Go.Proofs.YtclicjokgfiegaaGreatDoor

/- Packets: all of them, by the document: the walk. -/
namespace Go.Proofs.YtclicjokgfiegaaGreatDoor
open Go.RowKit
set_option linter.unusedVariables false
set_option linter.unusedSimpArgs false

theorem cut_mid (s : ByteArray) (i n : Nat) (h : i + n ≤ s.size) (hs : s.size ≤ 9223372036854775000) (W : World) : (Instr.slice 9 (.string s) (some (.int .i64 i)) (some (.int .i64 ((i : Int) + n))) none).run Tryz.prog W = .ok (.string (sOf (((sB s).drop i).take n))) W := by
  rw [show ((i : Int) + n) = ((i + n : Nat) : Int) by push_cast; rfl, run_slice_string W 9 s .i64 .i64 i ((i + n : Nat) : Int) Tryz.underlying9 (by omega) (by omega) (by omega)]
  have : s.extract (i : Int).toNat ((i + n : Nat) : Int).toNat = sOf (((sB s).drop i).take n) := by
    have h : sB (s.extract i (i + n)) = ((sB s).drop i).take n := by
      simp only [sB, ByteArray.data_extract, Array.toList_extract]
      show ((s.data.toList).drop i).take (i + n - i) = _
      rw [Nat.add_sub_cancel_left]
    have e : ∀ t : ByteArray, sOf (sB t) = t := fun t => by cases t; simp [sOf, sB]
    rw [Int.toNat_natCast, Int.toNat_natCast, ← e (s.extract i (i + n)), h]
  rw [this]
set_option maxRecDepth 100000 in
set_option maxHeartbeats 8000000 in
theorem refAll_c (s : ByteArray) (w : World) (hs : s.size ≤ 1048576) :
    Calls Tryz.prog 19 #[.string s] w (GivesAllP w (paAllB (sB s))) := by
  obtain ⟨bc, wb, hrun, hB, hb⟩ := run_bytes s (by omega) w
  have hbl : (sB s).length = s.size := sB_lenP s
  have hcut := fun (i n : Nat) (h : i + n ≤ (sB s).length) => cut_mid s i n (by omega) (by omega)
  generalize sB s = b at *
  have HB := hd hB; have hbm : b.length ≤ 1048576 := by omega
  have HCUT := hd hcut
  clear hB hcut hbl
  go_enter Tryz.func19, Tryz.ntmps19
  go_wp2_with fail
  have I0 : AllP wb b (.slice none 0 0) [] 0 wb := ⟨OwnPs.nil _ _, Nat.zero_le _, Nat.zero_le _, by unfold paAllB; simp, Below.refl _ _⟩
  go_loopw [5, 7] (fun v a w' => ∃ (xs : List PacV) (n : Nat), a = .int .i64 n ∧ AllP wb b v xs n w') (fun _ a _ => match a with | .int _ m => b.length - m.toNat | _ => 0)
  case atStart => exact ⟨[], 0, rfl, I0⟩
  case round =>
    obtain ⟨xs, n, rfl, I⟩ := hrel
    have HI := hd I
    have hle := I.le
    have hw := I.below.size
    have hcnt := I.cnt
    clear I I0
    by_cases hnb : n < b.length
    rotate_left
    · have hne : n = b.length := by omega
      have he : paAllB b = (xs.map (·.1), (n : Int), 0) := by
        rw [HI.out.eq, paAll_succ, hne, paOne_end, if_neg (by simp)]
        simp
      subst hne
      have HE := hd he
      clear he
      go_wp2_with fail
      go_ret3
      rw [HE.out]
      exact ⟨_, xs, rfl, HI.out.own.le hb.size, rfl, Below.up hb HI.out.below⟩
    go_wp2_with fail
    have hc := refHGet_c (.slice (some ⟨w.heap.size, 0, none⟩) b.length bc) b n wr (HB.out.below' HI.out.below (Nat.le_refl _))
    clear hrun
    refine hc.mono ?_
    clear hc
    have hO : paOne b n = paOne b n := rfl
    conv at hO => rhs; rw [paOne]
    have hrg := @hGet_rngP b n
    have hst := fun (x : PacV) (v' : Value) (w3 : World) (hx : x.1 = (paOne b n).1) (hok : (paOne b n).2.2.1 = true) (ho : OwnPs wb.heap.size w3 v' (xs ++ [x])) (hB3 : Below wb.heap.size wb w3) => HI.out.step x hx hok ho hB3
    have hend : (paOne b n).2.2.1 = false → paAllB b = (xs.map (·.1), (n : Int), (paOne b n).2.2.2) := fun hok => by
      rw [HI.out.eq, paAll_succ, if_neg (by rw [hok]; simp)]
      simp
    generalize paOne b n = R at *
    generalize hGet b n = r at *
    obtain ⟨⟨k, f, m⟩, q, E⟩ := r
    simp only at hO hrg
    have HO := hd hO; have HR := hd hrg; have HST := hd hst; have HEN := hd hend
    clear hO hrg hst hend
    rintro e w2 ⟨rfl, hb2⟩
    have hz2 := hb2.size
    have B2 := hb2
    have honeh : ∀ v ∈ ([.int .i64 k, .int .i64 f, .int .i64 m] : List Value), v.oneCell' = true := by intro v hv; simp at hv; rcases hv with rfl | rfl | rfl <;> rfl
    by_cases hE2 : E = 2
    · subst hE2
      have hr : R = (Pac.zero, 0, false, 0) := by rw [HO.out, if_pos rfl]
      have he : paAllB b = (xs.map (·.1), (n : Int), 0) := by
        have h := HEN.out (by rw [hr])
        rw [hr] at h
        exact h
      go_wp2_with (first
        | (with_reducible refine wpl_alloc (o := ⟨some 8, .alloc 83, _, _, _, _⟩) rfl _ rfl [.int .i64 0, .int .i64 0, .int .i64 0] alloc_head _ rfl ?_; intro w3 h3 f3 b3 z3; have B3 := B2.trans (b3.mono B2.size))
        | ((with_reducible refine wpl_at (o := ⟨none, .store 83 (.tmp 8) (.tmp 22), _, _, _, _⟩) ?_); refine wpl_storeAll rfl rfl _ _ _ rfl w2.heap.size [.int .i64 k, .int .i64 f, .int .i64 m] [.int .i64 0, .int .i64 0, .int .i64 0] rfl rfl info_head honeh h3 rfl f3 ?_; intro w4 h4 f4 k4 z4; have B4 := B3.trans (k4.toBelow B3.size (by simp; omega)); have c2 := h4.at 2 (u := .int .i64 m) rfl))
      go_ret3
      try rw [he]
      exact ⟨_, xs, rfl, (HI.out.own.kept B4 (Nat.le_refl _)).le hb.size, rfl, Below.up hb (HI.out.below.trans (B4.mono hw))⟩
    have hE2b : (E == 2) = false := by simpa using hE2
    by_cases hE0 : E = 0
    rotate_left
    · have hE0b : (E != 0) = true := by simpa using hE0
      have hE0c : (E == 0) = false := by simpa using hE0
      have hr : R = (Pac.zero, 0, false, E) := by rw [HO.out, if_neg hE2, if_pos hE0]
      have he : paAllB b = (xs.map (·.1), (n : Int), E) := by
        have h := HEN.out (by rw [hr])
        rw [hr] at h
        exact h
      clear hE2 hE0
      go_wp2_with (first
        | (with_reducible refine wpl_alloc (o := ⟨some 8, .alloc 83, _, _, _, _⟩) rfl _ rfl [.int .i64 0, .int .i64 0, .int .i64 0] alloc_head _ rfl ?_; intro w3 h3 f3 b3 z3; have B3 := B2.trans (b3.mono B2.size))
        | ((with_reducible refine wpl_at (o := ⟨none, .store 83 (.tmp 8) (.tmp 22), _, _, _, _⟩) ?_); refine wpl_storeAll rfl rfl _ _ _ rfl w2.heap.size [.int .i64 k, .int .i64 f, .int .i64 m] [.int .i64 0, .int .i64 0, .int .i64 0] rfl rfl info_head honeh h3 rfl f3 ?_; intro w4 h4 f4 k4 z4; have B4 := B3.trans (k4.toBelow B3.size (by simp; omega)); have c2 := h4.at 2 (u := .int .i64 m) rfl))
      go_ret3
      try rw [he]
      exact ⟨_, xs, rfl, (HI.out.own.kept B4 (Nat.le_refl _)).le hb.size, rfl, Below.up hb (HI.out.below.trans (B4.mono hw))⟩
    subst hE0
    obtain ⟨r1, r2, r3, r4⟩ := HR.out rfl
    have hwr : IntKind.i64.wrap ((b.length : Int) - q) = (b.length : Int) - q := IntWalk.i64_in _ (by omega)
    by_cases hn : (b.length : Int) - q < m
    · have hr : R = (Pac.zero, 0, false, 0) := by rw [HO.out, if_neg (by decide), if_neg (by simp), if_pos hn]
      have he : paAllB b = (xs.map (·.1), (n : Int), 0) := by
        have h := HEN.out (by rw [hr])
        rw [hr] at h
        exact h
      go_wp2_with (first
        | (with_reducible refine wpl_alloc (o := ⟨some 8, .alloc 83, _, _, _, _⟩) rfl _ rfl [.int .i64 0, .int .i64 0, .int .i64 0] alloc_head _ rfl ?_; intro w3 h3 f3 b3 z3; have B3 := B2.trans (b3.mono B2.size))
        | ((with_reducible refine wpl_at (o := ⟨none, .store 83 (.tmp 8) (.tmp 22), _, _, _, _⟩) ?_); refine wpl_storeAll rfl rfl _ _ _ rfl w2.heap.size [.int .i64 k, .int .i64 f, .int .i64 m] [.int .i64 0, .int .i64 0, .int .i64 0] rfl rfl info_head honeh h3 rfl f3 ?_; intro w4 h4 f4 k4 z4; have B4 := B3.trans (k4.toBelow B3.size (by simp; omega)); have c2 := h4.at 2 (u := .int .i64 m) rfl))
      go_ret3
      try rw [he]
      exact ⟨_, xs, rfl, (HI.out.own.kept B4 (Nat.le_refl _)).le hb.size, rfl, Below.up hb (HI.out.below.trans (B4.mono hw))⟩
    have hlt := HO.out
    clear HO
    obtain ⟨qn, rfl⟩ := Int.eq_ofNat_of_zero_le (show 0 ≤ q by omega)
    obtain ⟨nn, rfl⟩ := Int.eq_ofNat_of_zero_le r3
    have hr : R = ((paOf k f nn ((b.drop qn).take nn)).1, (qn : Int) + nn, decide ((paOf k f nn ((b.drop qn).take nn)).2 = 0), (paOf k f nn ((b.drop qn).take nn)).2) := by
      rw [hlt, if_neg (by decide), if_neg (by simp), if_neg hn, Int.toNat_natCast, Int.toNat_natCast]
    have HRR := hd hr
    clear hlt hr
    have hwr2 : IntKind.i64.wrap ((qn : Int) + nn) = (qn : Int) + nn := IntWalk.i64_in _ (by omega)
    have hrun2 := HCUT.out qn nn (by omega)
    have hbl2 : ((b.drop qn).take nn).length = nn := by rw [List.length_take, List.length_drop]; omega
    generalize (b.drop qn).take nn = body at *
    go_wp2_with (first
      | (with_reducible refine wpl_alloc (o := ⟨some 8, .alloc 83, _, _, _, _⟩) rfl _ rfl [.int .i64 0, .int .i64 0, .int .i64 0] alloc_head _ rfl ?_; intro w3 h3 f3 b3 z3; have B3 := B2.trans (b3.mono B2.size))
      | ((with_reducible refine wpl_at (o := ⟨none, .store 83 (.tmp 8) (.tmp 22), _, _, _, _⟩) ?_); refine wpl_storeAll rfl rfl _ _ _ rfl w2.heap.size [.int .i64 k, .int .i64 f, .int .i64 nn] [.int .i64 0, .int .i64 0, .int .i64 0] rfl rfl info_head honeh h3 rfl f3 ?_; intro w4 h4 f4 k4 z4; have B4 := B3.trans (k4.toBelow B3.size (by simp; omega)); have c2 := h4.at 2 (u := .int .i64 nn) rfl))
    have D2 := h4.drew
    have B5 := B4.drew
    have hz5 : w4.drew.heap.size = w4.heap.size := rfl
    refine wp_region_T (fun W => At W w2.heap.size [.int .i64 k, .int .i64 f, .int .i64 nn]) 15 (.still 0 (.still 1 (.still 2 (.still 3 (.still 4 (.still 5 (.still 6 (.still 7 (.still 8 (.fork 9 (.still 10 (.still 11 (.still 12 (.move 13 (.move 14 (.move 15 .done)))))) 13 (.move 9 (.still 10 (.still 11 (.still 12 (.move 14 (.move 15 .done))))))))))))))))  (by kernel_rfl) (by kernel_rfl) (fun _ _ _ _ h => h) D2 ?_
    clear h4 f4 c2 B4 B3
    generalize w4.drew = w5 at *
    apply wpT_still (by rfl) (by rfl)
    · intro W hC
      exact still_loadAt _ _ rfl w2.heap.size 0 rfl [.int .i64 k, .int .i64 f, .int .i64 nn] _ (At.range hC) Tryz.underlying83 rfl info_head
    go_simp
    apply wpT_still (by rfl) (by rfl)
    · intro W hC
      go_simp
      rfl
    go_simp
    apply wpT_still (by rfl) (by rfl)
    · intro W hC
      go_simp
      rfl
    go_simp
    apply wpT_still (by rfl) (by rfl)
    · intro W hC
      go_simp
      rfl
    go_simp
    apply wpT_still (by rfl) (by rfl)
    · intro W hC
      go_simp
      rfl
    go_simp
    apply wpT_still (by rfl) (by rfl)
    · intro W hC
      have d := At.at hC 2 (u := .int .i64 nn) rfl
      go_simp
      rfl
    go_simp
    apply wpT_still (by rfl) (by rfl)
    · intro W hC
      go_simp
      rfl
    go_simp
    apply wpT_still (by rfl) (by rfl)
    · intro W hC
      go_simp
      rfl
    go_simp
    apply wpT_still (by rfl) (by rfl)
    · intro W hC
      go_simp
      rfl
    go_simp
    have hpo := refPackOf_c k f nn (sOf body)
    rw [show sB (sOf body) = body from rfl] at hpo
    obtain ⟨P, E', hPE⟩ : ∃ P E', paOf k f nn body = (P, E') := ⟨_, _, rfl⟩
    rw [hPE] at hpo HRR
    have HPO := hd hpo
    clear hpo hPE
    have hbz : (sOf body).size ≤ 140737488351232 := by rw [sOf_sizeP]; omega
    refine wpT_fork (by rfl) (by rfl) (by rfl) (by rfl) ?_ ?_
    · intro K hK
      go_simp
      refine (HPO.out _ hbz).mono ?_
      rintro e w6 ⟨vf, vc, rfl, hr6, hb6⟩
      go_simp
      have hz6 := hb6.size
      have E2 := D2.keep hb6 D2.lt
      have B6 := B5.trans (hb6.mono B5.size)
      refine hK _ _ (fun _ => E2) ?_
      clear hK K D2
      have hone := Pac.one P vf vc hr6.rd.f.oneCell hr6.rd.c.oneCell
      apply wpT_still (by rfl) (by rfl)
      · intro W hC
        go_simp
        rfl
      go_simp
      apply wpT_still (by rfl) (by rfl)
      · intro W hC
        go_simp
        rfl
      go_simp
      apply wpT_still (by rfl) (by rfl)
      · intro W hC
        go_simp
        rfl
      go_simp
      apply wpT_move (by rfl) (by rfl)
      intro K hK
      go_simp
      have b7 := (Below.refl w6.heap.size w6).alloc (Nat.le_refl _) (.cells (zK 0).toArray 56)
      have h7 : At (w6.alloc (.cells (zK 0).toArray 56)) w6.heap.size (zK 0) := At.new _ _ _
      have f7 : Free (w6.alloc (.cells (zK 0).toArray 56)) w6.heap.size := Free.new _ _ _
      have z7 : (w6.alloc (.cells (zK 0).toArray 56)).heap.size = w6.heap.size + 1 := by simp [go_sem]
      have F2 := E2.keep b7 E2.lt
      have B7 := B6.trans (b7.mono B6.size)
      refine hK _ (w6.alloc (.cells (zK 0).toArray 56)) (fun _ => F2) ?_
      clear hK K E2
      generalize w6.alloc (.cells (zK 0).toArray 56) = w7 at *
      apply wpT_move (by rfl) (by rfl)
      intro K hK
      refine wpo_storeMid rfl _ _ _ rfl w6.heap.size 0 (P.cells vf vc) (zK 0) (P.cells vf vc) rfl rfl info_pac hone h7 rfl (by show 0 + 24 ≤ 24; decide) f7 ?_
      intro w8 h8 f8 k8 z8
      have G2 := F2.keeps k8 (by simp; omega)
      have B8 := B7.trans (k8.toBelow B7.size (by simp; omega))
      have K68 : Keeps [] w6 w8 := (Keeps.below b7).next k8 (by intro i hi; simp at hi; subst hi; exact .inr (Nat.le_refl _))
      have hr8 := hr6.keeps K68 (by simp)
      refine hK _ _ (fun _ => G2) ?_
      clear hK K F2 h7 f7
      apply wpT_move (by rfl) (by rfl)
      intro K hK
      go_simp
      refine hK _ _ (fun h => absurd h (by decide)) ?_
      clear hK K
      refine wpT_done ?_
      by_cases hE' : E' = 0
      rotate_left
      · have hEb : (E' != 0) = true := by simpa using hE'
        have he : paAllB b = (xs.map (·.1), (n : Int), E') := by
          have h := HEN.out (by rw [HRR.out]; simpa using hE')
          rw [HRR.out] at h
          exact h
        clear hE'
        go_wp2_with fail
        go_ret3
        try rw [he]
        exact ⟨_, xs, rfl, (HI.out.own.kept B8 (Nat.le_refl _)).le hb.size, rfl, Below.up hb (HI.out.below.trans (B8.mono hw))⟩
      subst hE'
      have ho8 := HI.out.own.kept B8 (Nat.le_refl _)
      have hz8 := B8.size
      go_wp2_with (first
        | ((with_reducible refine wpl_at (o := ⟨some 66, .load 56 (.tmp 11), _, _, _, _⟩) ?_); refine wpl_loadAt rfl _ _ rfl (w6.heap.size) 0 rfl (P.cells vf vc) _ h8.range Tryz.underlying56 rfl info_pac ?_)
        | ((with_reducible refine wpl_at (o := ⟨some 67, .buildSlice 44 1 #[(0, .tmp 66)], _, _, _, _⟩) ?_); refine wpl_buildSlice1 rfl _ _ rfl (.agg (P.cells vf vc).toArray) rfl _ (w8.alloc (.cells (P.cells vf vc).toArray 56)) (build_row P vf vc w8) ?_; have b9 := (Below.refl w8.heap.size w8).alloc (Nat.le_refl _) (.cells (P.cells vf vc).toArray 56); have h9 : At (w8.alloc (.cells (P.cells vf vc).toArray 56)) w8.heap.size (P.cells vf vc) := At.new _ _ _; generalize w8.alloc (.cells (P.cells vf vc).toArray 56) = w9 at *; have K9 := Keeps.below (S := []) b9; have ho9 := ho8.keeps0 K9; have hr9 := hr8.keeps K9 (fun k hk => by simp at hk); have B9 := B8.trans (b9.mono B8.size); have G9 := G2.keep b9 G2.lt)
        | (at_builtin; refine wpl_appPs rfl _ _ rfl wb.heap.size u5 xs rfl ho9 P vf vc w8.heap.size rfl h9 (hr9.le (by omega)) (fun k hk hm => by have h1 := blk_ge hr9.f hk; have h2 := blk_lt HI.out.own.row hm; omega) (fun k hk hm => by have h1 := blk_ge hr9.c hk; have h2 := blk_lt HI.out.own.row hm; omega) (by omega) (by have := B9.size; omega) ?_; intro va wa hoa hka hba hna; have Ga := G9.keeps hka (fun hm => by have h2 := blk_lt HI.out.own.row hm; omega); have ca := Ga.at 2 (u := .int .i64 nn) rfl))
      have Ia := HST.out (P, vf, vc) va wa (by rw [HRR.out]) (by rw [HRR.out]; rfl) hoa ((HI.out.below.trans (B9.mono hw)).trans hba)
      have hq : (R.2.1).toNat = qn + nn := by rw [HRR.out]; show ((qn : Int) + (nn : Int)).toNat = qn + nn; omega
      rw [hq] at Ia
      have HIa := hd Ia
      clear Ia
      go_roundw
      case rel => exact ⟨xs ++ [(P, vf, vc)], qn + nn, by congr 1, HIa.out⟩
      case measure => simp; omega
    · intro K hK
      go_simp
      have b6 := (Below.refl w5.heap.size w5).alloc (Nat.le_refl _) (.cells (zK 0).toArray 56)
      have h6 : At (w5.alloc (.cells (zK 0).toArray 56)) w5.heap.size (zK 0) := At.new _ _ _
      have f6 : Free (w5.alloc (.cells (zK 0).toArray 56)) w5.heap.size := Free.new _ _ _
      have z6 : (w5.alloc (.cells (zK 0).toArray 56)).heap.size = w5.heap.size + 1 := by simp [go_sem]
      have E2 := D2.keep b6 D2.lt
      have B6 := B5.trans (b6.mono B5.size)
      refine hK _ (w5.alloc (.cells (zK 0).toArray 56)) (fun _ => E2) ?_
      clear hK K D2
      generalize w5.alloc (.cells (zK 0).toArray 56) = w6 at *
      have hg : w5.heap.size = w2.heap.size + 1 := by omega
      rw [hg] at h6 f6
      apply wpT_move (by rfl) (by rfl)
      intro K hK
      go_simp
      refine (HPO.out _ hbz).mono ?_
      rintro e w7 ⟨vf, vc, rfl, hr7, hb7⟩
      go_simp
      have hz7 := hb7.size
      have F2 := E2.keep hb7 E2.lt
      have h7 := h6.keep hb7 h6.lt
      have f7 := f6.keep hb7 (by omega)
      have B7 := B6.trans (hb7.mono B6.size)
      refine hK _ _ (fun _ => F2) ?_
      clear hK K E2 h6 f6
      have hone := Pac.one P vf vc hr7.rd.f.oneCell hr7.rd.c.oneCell
      apply wpT_still (by rfl) (by rfl)
      · intro W hC
        go_simp
        rfl
      go_simp
      apply wpT_still (by rfl) (by rfl)
      · intro W hC
        go_simp
        rfl
      go_simp
      apply wpT_still (by rfl) (by rfl)
      · intro W hC
        go_simp
        rfl
      go_simp
      apply wpT_move (by rfl) (by rfl)
      intro K hK
      refine wpo_storeMid rfl _ _ _ rfl (w2.heap.size + 1) 0 (P.cells vf vc) (zK 0) (P.cells vf vc) rfl rfl info_pac hone h7 rfl (by show 0 + 24 ≤ 24; decide) f7 ?_
      intro w8 h8 f8 k8 z8
      have G2 := F2.keeps k8 (by simp)
      have B8 := B7.trans (k8.toBelow B7.size (by simp; omega))
      have hr8 := hr7.keeps k8 (by intro i hi; simp at hi; omega)
      refine hK _ _ (fun _ => G2) ?_
      clear hK K F2 h7 f7
      apply wpT_move (by rfl) (by rfl)
      intro K hK
      go_simp
      refine hK _ _ (fun h => absurd h (by decide)) ?_
      clear hK K
      refine wpT_done ?_
      by_cases hE' : E' = 0
      rotate_left
      · have hEb : (E' != 0) = true := by simpa using hE'
        have he : paAllB b = (xs.map (·.1), (n : Int), E') := by
          have h := HEN.out (by rw [HRR.out]; simpa using hE')
          rw [HRR.out] at h
          exact h
        clear hE'
        go_wp2_with fail
        go_ret3
        try rw [he]
        exact ⟨_, xs, rfl, (HI.out.own.kept B8 (Nat.le_refl _)).le hb.size, rfl, Below.up hb (HI.out.below.trans (B8.mono hw))⟩
      subst hE'
      have ho8 := HI.out.own.kept B8 (Nat.le_refl _)
      have hz8 := B8.size
      go_wp2_with (first
        | ((with_reducible refine wpl_at (o := ⟨some 66, .load 56 (.tmp 11), _, _, _, _⟩) ?_); refine wpl_loadAt rfl _ _ rfl (w2.heap.size + 1) 0 rfl (P.cells vf vc) _ h8.range Tryz.underlying56 rfl info_pac ?_)
        | ((with_reducible refine wpl_at (o := ⟨some 67, .buildSlice 44 1 #[(0, .tmp 66)], _, _, _, _⟩) ?_); refine wpl_buildSlice1 rfl _ _ rfl (.agg (P.cells vf vc).toArray) rfl _ (w8.alloc (.cells (P.cells vf vc).toArray 56)) (build_row P vf vc w8) ?_; have b9 := (Below.refl w8.heap.size w8).alloc (Nat.le_refl _) (.cells (P.cells vf vc).toArray 56); have h9 : At (w8.alloc (.cells (P.cells vf vc).toArray 56)) w8.heap.size (P.cells vf vc) := At.new _ _ _; generalize w8.alloc (.cells (P.cells vf vc).toArray 56) = w9 at *; have K9 := Keeps.below (S := []) b9; have ho9 := ho8.keeps0 K9; have hr9 := hr8.keeps K9 (fun k hk => by simp at hk); have B9 := B8.trans (b9.mono B8.size); have G9 := G2.keep b9 G2.lt)
        | (at_builtin; refine wpl_appPs rfl _ _ rfl wb.heap.size u5 xs rfl ho9 P vf vc w8.heap.size rfl h9 (hr9.le (by omega)) (fun k hk hm => by have h1 := blk_ge hr9.f hk; have h2 := blk_lt HI.out.own.row hm; omega) (fun k hk hm => by have h1 := blk_ge hr9.c hk; have h2 := blk_lt HI.out.own.row hm; omega) (by omega) (by have := B9.size; omega) ?_; intro va wa hoa hka hba hna; have Ga := G9.keeps hka (fun hm => by have h2 := blk_lt HI.out.own.row hm; omega); have ca := Ga.at 2 (u := .int .i64 nn) rfl))
      have Ia := HST.out (P, vf, vc) va wa (by rw [HRR.out]) (by rw [HRR.out]; rfl) hoa ((HI.out.below.trans (B9.mono hw)).trans hba)
      have hq : (R.2.1).toNat = qn + nn := by rw [HRR.out]; show ((qn : Int) + (nn : Int)).toNat = qn + nn; omega
      rw [hq] at Ia
      have HIa := hd Ia
      clear Ia
      go_roundw
      case rel => exact ⟨xs ++ [(P, vf, vc)], qn + nn, by congr 1, HIa.out⟩
      case measure => simp; omega
end Go.Proofs.YtclicjokgfiegaaGreatDoor

/- Packets: laid: the reference: the walks. -/
namespace Go.Proofs.YtclicjokgfiegaaGreatDoor
open Go.RowKit
set_option linter.unusedVariables false
set_option linter.unusedSimpArgs false

def GivesF (w : World) (fl : Int) (b : List UInt8) (E : Int) (e : Ending) (w' : World) : Prop :=
  ∃ v, e = .returned (.tuple #[.int .i64 fl, v, .int .i64 E]) ∧ Owned w.heap.size w' v b ∧ Below w.heap.size w w'
end Go.Proofs.YtclicjokgfiegaaGreatDoor

/- Packets: rows of packets that are read; what there and back keeps. -/
namespace Go.Proofs.YtclicjokgfiegaaGreatDoor
open Go.RowKit
set_option linter.unusedVariables false
set_option linter.unusedSimpArgs false

theorem pflat_at : ∀ (l : List PacV) (k : Nat) (x : PacV), l[k]? = some x → ∀ j v, (PacV.cells x)[j]? = some v → (l.flatMap PacV.cells)[k * 24 + j]? = some v
  | [], k, x, h => by simp at h
  | y :: t, 0, x, h => by
    intro j v hv
    simp only [List.getElem?_cons_zero, Option.some.injEq] at h
    subst h
    rw [List.flatMap_cons, Nat.zero_mul, Nat.zero_add, List.getElem?_append_left (List.getElem?_eq_some_iff.1 hv).1]
    exact hv
  | y :: t, k + 1, x, h => by
    intro j v hv
    rw [List.getElem?_cons_succ] at h
    have := pflat_at t k x h j v hv
    rw [List.flatMap_cons, List.getElem?_append_right (by rw [pacv_len]; omega), pacv_len, show (k + 1) * 24 + j - 24 = k * 24 + j by omega]
    exact this
theorem prow_at {w : World} {a : Option Addr} {n c : Nat} {l : List PacV} (h : Rd w (.slice a n c) l.length (l.flatMap PacV.cells)) {k : Nat} {x : PacV} (hk : l[k]? = some x) :
    ∃ b o, a = some ⟨b, o, none⟩ ∧ b < w.heap.size ∧ w.rangeAt b (o + k * 24) (PacV.cells x) := by
  have hx := pflat_at l k x hk
  have hw := @Rd.split w (.slice a n c) l.length (l.flatMap PacV.cells) h
  rcases hw with ⟨hn, _⟩ | ⟨_, b, o, c', hv, _, _, hlt, hcell⟩
  · have : l = [] := by
      have := pcells_len l
      rw [hn] at this
      simp at this
      exact List.eq_nil_of_length_eq_zero (by omega)
    subst this
    simp at hk
  · simp only [Value.slice.injEq] at hv
    refine ⟨b, o, hv.1, hlt, fun j v hv => ?_⟩
    have := hcell _ _ (hx j v hv)
    rwa [← Nat.add_assoc] at this
theorem rangeAt_keep {B : Nat} {w w' : World} {b o : Nat} {l : List Value} (h : w.rangeAt b o l) (hb : Below B w w') (hB : b < B) : w'.rangeAt b o l := fun j v hv => (bcell hb _ _ hB).trans (h j v hv)
theorem OwnPs.rd {B : Nat} {w : World} {v : Value} {l : List PacV} (h : OwnPs B w v l) : Rd w v l.length (l.flatMap PacV.cells) := Owns.rd h.row
theorem OwnPs.at {B : Nat} {w : World} {v : Value} {l : List PacV} (h : OwnPs B w v l) {k : Nat} {x : PacV} (hk : l[k]? = some x) : PacRd w x.1 x.2.1 x.2.2 := (h.each x (List.mem_of_getElem? hk)).1.rd

theorem paCat_len : ∀ l : List Pac, (paCat l).length ≤ 4099 * l.length
  | [] => by simp [paCat]
  | p :: t => by
    have h1 := paCat_len t
    have h2 := paPutB_len p
    unfold paCat
    rw [List.length_append, List.length_cons]
    split
    · omega
    · simp; omega
theorem paWant_len : ∀ l : List Pac, (paWant l).length ≤ l.length
  | [] => by simp [paWant]
  | p :: t => by
    have h1 := paWant_len t
    unfold paWant
    rw [List.length_append, List.length_cons]
    split
    · simp; omega
    · simp; omega
theorem take_putP {l : List PacV} {k : Nat} {x : PacV} (hk : l[k]? = some x) : (l.take (k + 1)).map (·.1) = (l.take k).map (·.1) ++ [x.1] := by
  rw [List.take_add_one, hk, List.map_append]; rfl
theorem paCat_snoc (a : List Pac) (p : Pac) : paCat (a ++ [p]) = paCat a ++ (if paPutE p = 0 then paPutB p else []) := by
  rw [paCat_append]; simp [paCat]
theorem paWant_snoc (a : List Pac) (p : Pac) : paWant (a ++ [p]) = paWant a ++ (if paPutE p = 0 then [paClean p] else []) := by
  rw [paWant_append]; simp [paWant]
/-- What stands behind k rounds of putting. -/
structure BackP (w : World) (l : List PacV) (k : Nat) (s : ByteArray) (v : Value) (xs : List PacV) (w' : World) : Prop where
  own : OwnPs w.heap.size w' v xs
  want : xs.map (·.1) = paWant ((l.take k).map (·.1))
  cat : sB s = paCat ((l.take k).map (·.1))
  cnt : xs.length ≤ k
  below : Below w.heap.size w w'
theorem BackP.size {w w' : World} {l : List PacV} {k : Nat} {s : ByteArray} {v : Value} {xs : List PacV} (h : BackP w l k s v xs w') : s.size ≤ 4099 * k := by
  have h1 := paCat_len ((l.take k).map (·.1))
  rw [← h.cat] at h1
  have h2 : (sB s).length = s.size := sB_lenP s
  rw [h2, List.length_map, List.length_take] at h1
  have : 4099 * min k l.length ≤ 4099 * k := Nat.mul_le_mul_left _ (Nat.min_le_left _ _)
  omega
theorem BackP.skip {w w' w2 : World} {l : List PacV} {k : Nat} {s : ByteArray} {v : Value} {xs : List PacV} (h : BackP w l k s v xs w') {x : PacV} (hk : l[k]? = some x) (he : ¬ paPutE x.1 = 0) (hb : Below w'.heap.size w' w2) : BackP w l (k + 1) s v xs w2 :=
  ⟨h.own.kept hb (Nat.le_refl _), by rw [take_putP hk, paWant_snoc, if_neg he, List.append_nil]; exact h.want, by rw [take_putP hk, paCat_snoc, if_neg he, List.append_nil]; exact h.cat, by have := h.cnt; omega, h.below.trans (hb.mono h.below.size)⟩
theorem BackP.put {w w' w2 : World} {l : List PacV} {k : Nat} {s t : ByteArray} {v v' : Value} {xs : List PacV} (h : BackP w l k s v xs w') {x : PacV} (hk : l[k]? = some x) (he : paPutE x.1 = 0) (ht : sB t = paPutB x.1) {vf vc : Value} (ho : OwnPs w.heap.size w2 v' (xs ++ [(paClean x.1, vf, vc)])) (hb : Below w.heap.size w w2) :
    BackP w l (k + 1) (s ++ t) v' (xs ++ [(paClean x.1, vf, vc)]) w2 :=
  ⟨ho, by rw [take_putP hk, paWant_snoc, if_pos he, List.map_append, h.want]; rfl, by rw [take_putP hk, paCat_snoc, if_pos he, ← h.cat, ← ht]; simp [sB], by have := h.cnt; rw [List.length_append, List.length_singleton]; omega, hb⟩
end Go.Proofs.YtclicjokgfiegaaGreatDoor

/- The table of flags, out of a row's list. -/
namespace Go.Proofs.YtclicjokgfiegaaGreatDoor
open Go.RowKit

/-- The table of flags, as a row's list says it. -/
def mayLits : List Lit := [.bool true, .bool true, .bool true, .bool true, .bool true, .bool true, .bool false, .bool false, .bool false, .bool false, .bool true, .bool true, .bool true, .bool true, .bool false, .bool false]
theorem envH_of {W : World} {l : List (String × DataW Unit)} (h : laidMetH Tryz.prog l W) (i : Nat) (hi : (l.filter fun x => x.2.handleName?.isNone)[i]? = some ("crier/head.may", .agg (mayLits.map DataW.lit))) : EnvH W := by
  obtain ⟨h1, h2⟩ := laid_lits h i hi (g := 2) (t := 177) (e := 4) (k := 16) (by kernel_rfl) (by kernel_rfl) Tryz.underlying177 (.inl Tryz.underlying4) (by kernel_rfl) (by kernel_rfl)
  refine ⟨h1, fun i hi => ?_⟩
  rw [h2 i (by simpa [mayLits] using hi)]
  match i, hi with
  | 0, _ => rfl
  | 1, _ => rfl
  | 2, _ => rfl
  | 3, _ => rfl
  | 4, _ => rfl
  | 5, _ => rfl
  | 6, _ => rfl
  | 7, _ => rfl
  | 8, _ => rfl
  | 9, _ => rfl
  | 10, _ => rfl
  | 11, _ => rfl
  | 12, _ => rfl
  | 13, _ => rfl
  | 14, _ => rfl
  | 15, _ => rfl
  | n + 16, h => exact absurd h (by omega)

end Go.Proofs.YtclicjokgfiegaaGreatDoor
