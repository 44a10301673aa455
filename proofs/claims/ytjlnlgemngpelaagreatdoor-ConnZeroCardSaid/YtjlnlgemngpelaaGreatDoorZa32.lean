/- A bundle of texts (merged for the limit on files): PacROf, PacRAll, LevPlain, Lev. -/
import Derived.Test.YtjlnlgemngpelaaGreatDoorZa31
import Derived.Test.YtjlnlgemngpelaaGreatDoorZa23
import Derived.Test.YtjlnlgemngpelaaGreatDoorZa1
import Derived.Lib.MapLaws
import Derived.Lib.Bytealg
import Derived.Lib.Join
import Derived.Test.YtjlnlgemngpelaaGreatDoorZa3
/- Packets: told: the reference's Of: the walk. -/
namespace Go.Proofs.YtjlnlgemngpelaaGreatDoor
open Go.RowKit
set_option linter.unusedVariables false
set_option linter.unusedSimpArgs false

theorem info_raw4 : (Tryz.prog.info? 95).map (·.size) = some 4 := by kernel_rfl
set_option maxRecDepth 100000 in
set_option maxHeartbeats 8000000 in
theorem refPackOf_c (k f n : Int) (b : ByteArray) (w : World) (hs : b.size ≤ 140737488351232) :
    Calls Tryz.prog 45 #[.agg #[.int .i64 k, .int .i64 f, .int .i64 n, .string b]] w (GivesO w (paOf k f n (sB b))) := by
  go_enter Tryz.func45, Tryz.ntmps45
  go_wp2_with (first
    | (with_reducible refine wpl_box (o := ⟨some 1, .box 95 (.tmp 0), _, _, _, _⟩) rfl _ _ rfl [.int .i64 k, .int .i64 f, .int .i64 n, .string b] rfl w.heap.size rfl ?_; intro w1 h1 f1 b1 z1)
    | (with_reducible refine wpl_alloc (o := ⟨some 2, .alloc 36, _, _, _, _⟩) rfl _ rfl (zK 0) alloc_pac _ z1 ?_; intro w2 h2 f2 b2 z2; replace h1 := h1.keep b2 (by omega); have B2 : Below w.heap.size w w2 := b1.trans (b2.mono (by omega)); clear f1 b1 b2; have c0 := h1.at 0 (u := .int .i64 k) rfl; have c1 := h1.at 1 (u := .int .i64 f) rfl; have c2 := h1.at 2 (u := .int .i64 n) rfl; have c3 := h1.at 3 (u := .string b) rfl))
  refine (refHRight_c k f _).mono ?_
  rintro e w' ⟨rfl, rfl⟩
  by_cases hr : hRight k f = 0
  rotate_left
  · have hrb : (hRight k f != 0) = true := by simpa using hr
    have ho : paOf k f n (sB b) = (Pac.zero, hRight k f) := by unfold paOf; rw [if_pos hr]
    have HO0 := hd ho
    clear ho
    go_wp2_with (first
      | ((with_reducible refine wpl_at (o := ⟨none, .store 36 (.tmp 2) (.tmp 15), _, _, _, _⟩) ?_); refine wpl_storeAll rfl rfl _ _ _ rfl (w.heap.size + 1) (zK 0) (zK 0) rfl rfl info_pac (zK_one 0) h2 rfl f2 ?_; intro w9 h9 f9 k9 z9))
    rw [HO0.out]
    refine bodyPost_ret (v := .tuple #[.agg (Pac.zero.cells Nl Nl).toArray, .int .i64 (hRight k f)]) (results_cell_tmp Tryz.results45 rfl (ret_pac h9 rfl) rfl) rfl ?_
    exact ⟨Nl, Nl, rfl, PacOwn.nil (p := Pac.zero) _ _ rfl rfl, B2.trans (k9.toBelow B2.size (by simp))⟩
  rw [hr]
  by_cases hn : n = (b.size : Int)
  rotate_left
  · have hnb : (n != (b.size : Int)) = true := by simpa using hn
    have ho : paOf k f n (sB b) = (Pac.zero, 4) := by unfold paOf; rw [if_neg (by simpa using hr), if_pos (by rw [sB_lenP]; exact hn)]
    have HO0 := hd ho
    clear ho
    go_wp2_with (first
      | ((with_reducible refine wpl_at (o := ⟨none, .store 36 (.tmp 2) (.tmp 24), _, _, _, _⟩) ?_); refine wpl_storeAll rfl rfl _ _ _ rfl (w.heap.size + 1) (zK 0) (zK 0) rfl rfl info_pac (zK_one 0) h2 rfl f2 ?_; intro w9 h9 f9 k9 z9))
    rw [HO0.out]
    refine bodyPost_ret (v := .tuple #[.agg (Pac.zero.cells Nl Nl).toArray, .int .i64 (4)]) (results_cell_tmp Tryz.results45 rfl (ret_pac h9 rfl) rfl) rfl ?_
    exact ⟨Nl, Nl, rfl, PacOwn.nil (p := Pac.zero) _ _ rfl rfl, B2.trans (k9.toBelow B2.size (by simp))⟩
  have ho : paOf k f n (sB b) = if (paTold k f (sB b)).2 ≠ 0 then (Pac.zero, (paTold k f (sB b)).2) else ((paTold k f (sB b)).1, 0) := by
    unfold paOf
    rw [if_neg (by simpa using hr), if_neg (by rw [sB_lenP]; simpa using hn)]
  have HO := hd ho
  clear ho hr
  have hnb : (n != (b.size : Int)) = false := by simpa using hn
  clear hn
  go_wp2_with (first
    | ((with_reducible refine wpl_at (o := ⟨some 26, .load 95 (.tmp 1), _, _, _, _⟩) ?_); refine wpl_loadAt rfl _ _ rfl w.heap.size 0 rfl [.int .i64 k, .int .i64 f, .int .i64 n, .string b] _ h1.range Tryz.underlying95 rfl info_raw4 ?_))
  refine (refPaTold_c k f n b _ hs).mono ?_
  obtain ⟨r, hr⟩ : ∃ r, paTold k f (sB b) = r := ⟨_, rfl⟩
  rw [hr]
  have HO' : Hd (paOf k f n (sB b) = if r.2 ≠ 0 then (Pac.zero, r.2) else (r.1, 0)) := hd (by rw [← hr]; exact HO.out)
  clear HO hr
  obtain ⟨q, E⟩ := r
  rintro e w4 ⟨vf, vc, rfl, hr4, hb4⟩
  have hz4 := hb4.size
  have B4 : Below w.heap.size w w4 := B2.trans (hb4.mono B2.size)
  replace h2 := h2.keep hb4 (by omega)
  replace f2 := f2.keep hb4 (by omega)
  clear c0 c1 c2 c3 h1
  have hone := Pac.one q vf vc hr4.rd.f.oneCell hr4.rd.c.oneCell
  by_cases hE0 : E = 0
  rotate_left
  · have hEb : (E != 0) = true := by simpa using hE0
    go_wp2_with (first
      | (with_reducible refine wpl_alloc (o := ⟨some 5, .alloc 36, _, _, _, _⟩) rfl _ rfl (zK 0) alloc_pac _ rfl ?_; intro w5 h5 f5 b5 z5; replace h2 := h2.keep b5 (by omega); replace f2 := f2.keep b5 (by omega); have B5 := B4.trans (b5.mono B4.size))
      | ((with_reducible refine wpl_at (o := ⟨none, .store 36 (.tmp 5) (.tmp 28), _, _, _, _⟩) ?_); refine wpl_storeAll rfl rfl _ _ _ rfl w4.heap.size (q.cells vf vc) (zK 0) rfl rfl info_pac hone h5 rfl f5 ?_; intro w6 h6 f6 k6 z6; replace h2 := h2.keeps k6 (by simp; omega); replace f2 := f2.keeps k6 (by omega) (by simp; omega); have B6 := B5.trans (k6.toBelow B5.size (by simp; omega)))
      | ((with_reducible refine wpl_at (o := ⟨none, .store 36 (.tmp 2) (.tmp 32), _, _, _, _⟩) ?_); refine wpl_storeAll rfl rfl _ _ _ rfl (w.heap.size + 1) (zK 0) (zK 0) rfl rfl info_pac (zK_one 0) h2 rfl f2 ?_; intro w9 h9 f9 k9 z9))
    rw [HO'.out, if_pos hE0]
    refine bodyPost_ret (v := .tuple #[.agg (Pac.zero.cells Nl Nl).toArray, .int .i64 (E)]) (results_cell_tmp Tryz.results45 rfl (ret_pac h9 rfl) rfl) rfl ?_
    exact ⟨Nl, Nl, rfl, PacOwn.nil (p := Pac.zero) _ _ rfl rfl, B6.trans (k9.toBelow B6.size (by simp))⟩
  subst hE0
  go_wp2_with (first
    | (with_reducible refine wpl_alloc (o := ⟨some 5, .alloc 36, _, _, _, _⟩) rfl _ rfl (zK 0) alloc_pac _ rfl ?_; intro w5 h5 f5 b5 z5; replace h2 := h2.keep b5 (by omega); replace f2 := f2.keep b5 (by omega); have B5 := B4.trans (b5.mono B4.size))
    | ((with_reducible refine wpl_at (o := ⟨none, .store 36 (.tmp 5) (.tmp 28), _, _, _, _⟩) ?_); refine wpl_storeAll rfl rfl _ _ _ rfl w4.heap.size (q.cells vf vc) (zK 0) rfl rfl info_pac hone h5 rfl f5 ?_; intro w6 h6 f6 k6 z6; replace h2 := h2.keeps k6 (by simp; omega); replace f2 := f2.keeps k6 (by omega) (by simp; omega); have B6 := B5.trans (k6.toBelow B5.size (by simp; omega)))
    | ((with_reducible refine wpl_at (o := ⟨some 34, .load 36 (.tmp 5), _, _, _, _⟩) ?_); refine wpl_loadAt rfl _ _ rfl w4.heap.size 0 rfl (q.cells vf vc) _ h6.range Tryz.underlying36 rfl info_pac ?_)
    | ((with_reducible refine wpl_at (o := ⟨none, .store 36 (.tmp 2) (.tmp 34), _, _, _, _⟩) ?_); refine wpl_storeAll rfl rfl _ _ _ rfl (w.heap.size + 1) (q.cells vf vc) (zK 0) rfl rfl info_pac hone h2 rfl f2 ?_; intro w9 h9 f9 k9 z9))
  rw [HO'.out, if_neg (by simp)]
  refine bodyPost_ret (v := .tuple #[.agg (q.cells vf vc).toArray, .int .i64 0]) (results_cell_tmp Tryz.results45 rfl (ret_pac h9 rfl) rfl) rfl ?_
  have K46 : Keeps [w.heap.size + 1] w4 w6 := (Keeps.below b5).next k6 (by intro i hi; simp at hi; subst hi; exact .inr (Nat.le_refl _))
  exact ⟨vf, vc, rfl, (hr4.keeps (K46.trans k9) (by intro j hj; simp at hj; omega)).le (by omega), B6.trans (k9.toBelow B6.size (by simp))⟩
end Go.Proofs.YtjlnlgemngpelaaGreatDoor

/- Packets: all of them, by the document: the walk. -/
namespace Go.Proofs.YtjlnlgemngpelaaGreatDoor
open Go.RowKit
set_option linter.unusedVariables false
set_option linter.unusedSimpArgs false

theorem cut_mid (s : ByteArray) (i n : Nat) (h : i + n ≤ s.size) (hs : s.size ≤ 9223372036854775000) (W : World) : (Instr.slice 9 (.string s) (some (.int .i64 i)) (some (.int .i64 ((i : Int) + n))) none).run Tryz.prog W = .ok (.string (sOf (((sB s).drop i).take n))) W := by
  rw [show ((i : Int) + n) = ((i + n : Nat) : Int) by push_cast; rfl, run_slice_string W 9 s .i64 .i64 i ((i + n : Nat) : Int) Tryz.underlying9 (by omega) (by omega) (by omega)]
  have : s.extract (i : Int).toNat ((i + n : Nat) : Int).toNat = sOf (((sB s).drop i).take n) := by
    have h : sB (s.extract i (i + n)) = ((sB s).drop i).take n := by
      simp only [sB, ByteArray.data_extract, Array.toList_extract]
      show ((s.data.toList).drop i).take (i + n - i) = _
      rw [Nat.add_sub_cancel_left]
    have e : ∀ t : ByteArray, sOf (sB t) = t := fun t => by cases t; simp [sOf, sB]
    rw [Int.toNat_natCast, Int.toNat_natCast, ← e (s.extract i (i + n)), h]
  rw [this]
set_option maxRecDepth 100000 in
set_option maxHeartbeats 8000000 in
theorem refAll_c (s : ByteArray) (w : World) (hs : s.size ≤ 1048576) :
    Calls Tryz.prog 30 #[.string s] w (GivesAllP w (paAllB (sB s))) := by
  obtain ⟨bc, wb, hrun, hB, hb⟩ := run_bytes s (by omega) w
  have hbl : (sB s).length = s.size := sB_lenP s
  have hcut := fun (i n : Nat) (h : i + n ≤ (sB s).length) => cut_mid s i n (by omega) (by omega)
  generalize sB s = b at *
  have HB := hd hB; have hbm : b.length ≤ 1048576 := by omega
  have HCUT := hd hcut
  clear hB hcut hbl
  go_enter Tryz.func30, Tryz.ntmps30
  go_wp2_with fail
  have I0 : AllP wb b (.slice none 0 0) [] 0 wb := ⟨OwnPs.nil _ _, Nat.zero_le _, Nat.zero_le _, by unfold paAllB; simp, Below.refl _ _⟩
  go_loopw [5, 7] (fun v a w' => ∃ (xs : List PacV) (n : Nat), a = .int .i64 n ∧ AllP wb b v xs n w') (fun _ a _ => match a with | .int _ m => b.length - m.toNat | _ => 0)
  case atStart => exact ⟨[], 0, rfl, I0⟩
  case round =>
    obtain ⟨xs, n, rfl, I⟩ := hrel
    have HI := hd I
    have hle := I.le
    have hw := I.below.size
    have hcnt := I.cnt
    clear I I0
    by_cases hnb : n < b.length
    rotate_left
    · have hne : n = b.length := by omega
      have he : paAllB b = (xs.map (·.1), (n : Int), 0) := by
        rw [HI.out.eq, paAll_succ, hne, paOne_end, if_neg (by simp)]
        simp
      subst hne
      have HE := hd he
      clear he
      go_wp2_with fail
      go_ret3
      rw [HE.out]
      exact ⟨_, xs, rfl, HI.out.own.le hb.size, rfl, Below.up hb HI.out.below⟩
    go_wp2_with fail
    have hc := refHGet_c (.slice (some ⟨w.heap.size, 0, none⟩) b.length bc) b n wr (HB.out.below' HI.out.below (Nat.le_refl _))
    clear hrun
    refine hc.mono ?_
    clear hc
    have hO : paOne b n = paOne b n := rfl
    conv at hO => rhs; rw [paOne]
    have hrg := @hGet_rngP b n
    have hst := fun (x : PacV) (v' : Value) (w3 : World) (hx : x.1 = (paOne b n).1) (hok : (paOne b n).2.2.1 = true) (ho : OwnPs wb.heap.size w3 v' (xs ++ [x])) (hB3 : Below wb.heap.size wb w3) => HI.out.step x hx hok ho hB3
    have hend : (paOne b n).2.2.1 = false → paAllB b = (xs.map (·.1), (n : Int), (paOne b n).2.2.2) := fun hok => by
      rw [HI.out.eq, paAll_succ, if_neg (by rw [hok]; simp)]
      simp
    generalize paOne b n = R at *
    generalize hGet b n = r at *
    obtain ⟨⟨k, f, m⟩, q, E⟩ := r
    simp only at hO hrg
    have HO := hd hO; have HR := hd hrg; have HST := hd hst; have HEN := hd hend
    clear hO hrg hst hend
    rintro e w2 ⟨rfl, hb2⟩
    have hz2 := hb2.size
    have B2 := hb2
    have honeh : ∀ v ∈ ([.int .i64 k, .int .i64 f, .int .i64 m] : List Value), v.oneCell' = true := by intro v hv; simp at hv; rcases hv with rfl | rfl | rfl <;> rfl
    by_cases hE2 : E = 2
    · subst hE2
      have hr : R = (Pac.zero, 0, false, 0) := by rw [HO.out, if_pos rfl]
      have he : paAllB b = (xs.map (·.1), (n : Int), 0) := by
        have h := HEN.out (by rw [hr])
        rw [hr] at h
        exact h
      go_wp2_with (first
        | (with_reducible refine wpl_alloc (o := ⟨some 8, .alloc 85, _, _, _, _⟩) rfl _ rfl [.int .i64 0, .int .i64 0, .int .i64 0] alloc_head _ rfl ?_; intro w3 h3 f3 b3 z3; have B3 := B2.trans (b3.mono B2.size))
        | ((with_reducible refine wpl_at (o := ⟨none, .store 85 (.tmp 8) (.tmp 22), _, _, _, _⟩) ?_); refine wpl_storeAll rfl rfl _ _ _ rfl w2.heap.size [.int .i64 k, .int .i64 f, .int .i64 m] [.int .i64 0, .int .i64 0, .int .i64 0] rfl rfl info_head honeh h3 rfl f3 ?_; intro w4 h4 f4 k4 z4; have B4 := B3.trans (k4.toBelow B3.size (by simp; omega)); have c2 := h4.at 2 (u := .int .i64 m) rfl))
      go_ret3
      try rw [he]
      exact ⟨_, xs, rfl, (HI.out.own.kept B4 (Nat.le_refl _)).le hb.size, rfl, Below.up hb (HI.out.below.trans (B4.mono hw))⟩
    have hE2b : (E == 2) = false := by simpa using hE2
    by_cases hE0 : E = 0
    rotate_left
    · have hE0b : (E != 0) = true := by simpa using hE0
      have hE0c : (E == 0) = false := by simpa using hE0
      have hr : R = (Pac.zero, 0, false, E) := by rw [HO.out, if_neg hE2, if_pos hE0]
      have he : paAllB b = (xs.map (·.1), (n : Int), E) := by
        have h := HEN.out (by rw [hr])
        rw [hr] at h
        exact h
      clear hE2 hE0
      go_wp2_with (first
        | (with_reducible refine wpl_alloc (o := ⟨some 8, .alloc 85, _, _, _, _⟩) rfl _ rfl [.int .i64 0, .int .i64 0, .int .i64 0] alloc_head _ rfl ?_; intro w3 h3 f3 b3 z3; have B3 := B2.trans (b3.mono B2.size))
        | ((with_reducible refine wpl_at (o := ⟨none, .store 85 (.tmp 8) (.tmp 22), _, _, _, _⟩) ?_); refine wpl_storeAll rfl rfl _ _ _ rfl w2.heap.size [.int .i64 k, .int .i64 f, .int .i64 m] [.int .i64 0, .int .i64 0, .int .i64 0] rfl rfl info_head honeh h3 rfl f3 ?_; intro w4 h4 f4 k4 z4; have B4 := B3.trans (k4.toBelow B3.size (by simp; omega)); have c2 := h4.at 2 (u := .int .i64 m) rfl))
      go_ret3
      try rw [he]
      exact ⟨_, xs, rfl, (HI.out.own.kept B4 (Nat.le_refl _)).le hb.size, rfl, Below.up hb (HI.out.below.trans (B4.mono hw))⟩
    subst hE0
    obtain ⟨r1, r2, r3, r4⟩ := HR.out rfl
    have hwr : IntKind.i64.wrap ((b.length : Int) - q) = (b.length : Int) - q := IntWalk.i64_in _ (by omega)
    by_cases hn : (b.length : Int) - q < m
    · have hr : R = (Pac.zero, 0, false, 0) := by rw [HO.out, if_neg (by decide), if_neg (by simp), if_pos hn]
      have he : paAllB b = (xs.map (·.1), (n : Int), 0) := by
        have h := HEN.out (by rw [hr])
        rw [hr] at h
        exact h
      go_wp2_with (first
        | (with_reducible refine wpl_alloc (o := ⟨some 8, .alloc 85, _, _, _, _⟩) rfl _ rfl [.int .i64 0, .int .i64 0, .int .i64 0] alloc_head _ rfl ?_; intro w3 h3 f3 b3 z3; have B3 := B2.trans (b3.mono B2.size))
        | ((with_reducible refine wpl_at (o := ⟨none, .store 85 (.tmp 8) (.tmp 22), _, _, _, _⟩) ?_); refine wpl_storeAll rfl rfl _ _ _ rfl w2.heap.size [.int .i64 k, .int .i64 f, .int .i64 m] [.int .i64 0, .int .i64 0, .int .i64 0] rfl rfl info_head honeh h3 rfl f3 ?_; intro w4 h4 f4 k4 z4; have B4 := B3.trans (k4.toBelow B3.size (by simp; omega)); have c2 := h4.at 2 (u := .int .i64 m) rfl))
      go_ret3
      try rw [he]
      exact ⟨_, xs, rfl, (HI.out.own.kept B4 (Nat.le_refl _)).le hb.size, rfl, Below.up hb (HI.out.below.trans (B4.mono hw))⟩
    have hlt := HO.out
    clear HO
    obtain ⟨qn, rfl⟩ := Int.eq_ofNat_of_zero_le (show 0 ≤ q by omega)
    obtain ⟨nn, rfl⟩ := Int.eq_ofNat_of_zero_le r3
    have hr : R = ((paOf k f nn ((b.drop qn).take nn)).1, (qn : Int) + nn, decide ((paOf k f nn ((b.drop qn).take nn)).2 = 0), (paOf k f nn ((b.drop qn).take nn)).2) := by
      rw [hlt, if_neg (by decide), if_neg (by simp), if_neg hn, Int.toNat_natCast, Int.toNat_natCast]
    have HRR := hd hr
    clear hlt hr
    have hwr2 : IntKind.i64.wrap ((qn : Int) + nn) = (qn : Int) + nn := IntWalk.i64_in _ (by omega)
    have hrun2 := HCUT.out qn nn (by omega)
    have hbl2 : ((b.drop qn).take nn).length = nn := by rw [List.length_take, List.length_drop]; omega
    generalize (b.drop qn).take nn = body at *
    go_wp2_with (first
      | (with_reducible refine wpl_alloc (o := ⟨some 8, .alloc 85, _, _, _, _⟩) rfl _ rfl [.int .i64 0, .int .i64 0, .int .i64 0] alloc_head _ rfl ?_; intro w3 h3 f3 b3 z3; have B3 := B2.trans (b3.mono B2.size))
      | ((with_reducible refine wpl_at (o := ⟨none, .store 85 (.tmp 8) (.tmp 22), _, _, _, _⟩) ?_); refine wpl_storeAll rfl rfl _ _ _ rfl w2.heap.size [.int .i64 k, .int .i64 f, .int .i64 nn] [.int .i64 0, .int .i64 0, .int .i64 0] rfl rfl info_head honeh h3 rfl f3 ?_; intro w4 h4 f4 k4 z4; have B4 := B3.trans (k4.toBelow B3.size (by simp; omega)); have c2 := h4.at 2 (u := .int .i64 nn) rfl))
    have D2 := h4.drew
    have B5 := B4.drew
    have hz5 : w4.drew.heap.size = w4.heap.size := rfl
    refine wp_region_T (fun W => At W w2.heap.size [.int .i64 k, .int .i64 f, .int .i64 nn]) 15 (.still 0 (.still 1 (.still 2 (.still 3 (.still 4 (.still 5 (.still 6 (.still 7 (.still 8 (.fork 9 (.still 10 (.still 11 (.still 12 (.move 13 (.move 14 (.move 15 .done)))))) 13 (.move 9 (.still 10 (.still 11 (.still 12 (.move 14 (.move 15 .done))))))))))))))))  (by kernel_rfl) (by kernel_rfl) (fun _ _ _ _ h => h) D2 ?_
    clear h4 f4 c2 B4 B3
    generalize w4.drew = w5 at *
    apply wpT_still (by rfl) (by rfl)
    · intro W hC
      exact still_loadAt _ _ rfl w2.heap.size 0 rfl [.int .i64 k, .int .i64 f, .int .i64 nn] _ (At.range hC) Tryz.underlying85 rfl info_head
    go_simp
    apply wpT_still (by rfl) (by rfl)
    · intro W hC
      go_simp
      rfl
    go_simp
    apply wpT_still (by rfl) (by rfl)
    · intro W hC
      go_simp
      rfl
    go_simp
    apply wpT_still (by rfl) (by rfl)
    · intro W hC
      go_simp
      rfl
    go_simp
    apply wpT_still (by rfl) (by rfl)
    · intro W hC
      go_simp
      rfl
    go_simp
    apply wpT_still (by rfl) (by rfl)
    · intro W hC
      have d := At.at hC 2 (u := .int .i64 nn) rfl
      go_simp
      rfl
    go_simp
    apply wpT_still (by rfl) (by rfl)
    · intro W hC
      go_simp
      rfl
    go_simp
    apply wpT_still (by rfl) (by rfl)
    · intro W hC
      go_simp
      rfl
    go_simp
    apply wpT_still (by rfl) (by rfl)
    · intro W hC
      go_simp
      rfl
    go_simp
    have hpo := refPackOf_c k f nn (sOf body)
    rw [show sB (sOf body) = body from rfl] at hpo
    obtain ⟨P, E', hPE⟩ : ∃ P E', paOf k f nn body = (P, E') := ⟨_, _, rfl⟩
    rw [hPE] at hpo HRR
    have HPO := hd hpo
    clear hpo hPE
    have hbz : (sOf body).size ≤ 140737488351232 := by rw [sOf_sizeP]; omega
    refine wpT_fork (by rfl) (by rfl) (by rfl) (by rfl) ?_ ?_
    · intro K hK
      go_simp
      refine (HPO.out _ hbz).mono ?_
      rintro e w6 ⟨vf, vc, rfl, hr6, hb6⟩
      go_simp
      have hz6 := hb6.size
      have E2 := D2.keep hb6 D2.lt
      have B6 := B5.trans (hb6.mono B5.size)
      refine hK _ _ (fun _ => E2) ?_
      clear hK K D2
      have hone := Pac.one P vf vc hr6.rd.f.oneCell hr6.rd.c.oneCell
      apply wpT_still (by rfl) (by rfl)
      · intro W hC
        go_simp
        rfl
      go_simp
      apply wpT_still (by rfl) (by rfl)
      · intro W hC
        go_simp
        rfl
      go_simp
      apply wpT_still (by rfl) (by rfl)
      · intro W hC
        go_simp
        rfl
      go_simp
      apply wpT_move (by rfl) (by rfl)
      intro K hK
      go_simp
      have b7 := (Below.refl w6.heap.size w6).alloc (Nat.le_refl _) (.cells (zK 0).toArray 36)
      have h7 : At (w6.alloc (.cells (zK 0).toArray 36)) w6.heap.size (zK 0) := At.new _ _ _
      have f7 : Free (w6.alloc (.cells (zK 0).toArray 36)) w6.heap.size := Free.new _ _ _
      have z7 : (w6.alloc (.cells (zK 0).toArray 36)).heap.size = w6.heap.size + 1 := by simp [go_sem]
      have F2 := E2.keep b7 E2.lt
      have B7 := B6.trans (b7.mono B6.size)
      refine hK _ (w6.alloc (.cells (zK 0).toArray 36)) (fun _ => F2) ?_
      clear hK K E2
      generalize w6.alloc (.cells (zK 0).toArray 36) = w7 at *
      apply wpT_move (by rfl) (by rfl)
      intro K hK
      refine wpo_storeMid rfl _ _ _ rfl w6.heap.size 0 (P.cells vf vc) (zK 0) (P.cells vf vc) rfl rfl info_pac hone h7 rfl (by show 0 + 24 ≤ 24; decide) f7 ?_
      intro w8 h8 f8 k8 z8
      have G2 := F2.keeps k8 (by simp; omega)
      have B8 := B7.trans (k8.toBelow B7.size (by simp; omega))
      have K68 : Keeps [] w6 w8 := (Keeps.below b7).next k8 (by intro i hi; simp at hi; subst hi; exact .inr (Nat.le_refl _))
      have hr8 := hr6.keeps K68 (by simp)
      refine hK _ _ (fun _ => G2) ?_
      clear hK K F2 h7 f7
      apply wpT_move (by rfl) (by rfl)
      intro K hK
      go_simp
      refine hK _ _ (fun h => absurd h (by decide)) ?_
      clear hK K
      refine wpT_done ?_
      by_cases hE' : E' = 0
      rotate_left
      · have hEb : (E' != 0) = true := by simpa using hE'
        have he : paAllB b = (xs.map (·.1), (n : Int), E') := by
          have h := HEN.out (by rw [HRR.out]; simpa using hE')
          rw [HRR.out] at h
          exact h
        clear hE'
        go_wp2_with fail
        go_ret3
        try rw [he]
        exact ⟨_, xs, rfl, (HI.out.own.kept B8 (Nat.le_refl _)).le hb.size, rfl, Below.up hb (HI.out.below.trans (B8.mono hw))⟩
      subst hE'
      have ho8 := HI.out.own.kept B8 (Nat.le_refl _)
      have hz8 := B8.size
      go_wp2_with (first
        | ((with_reducible refine wpl_at (o := ⟨some 66, .load 36 (.tmp 11), _, _, _, _⟩) ?_); refine wpl_loadAt rfl _ _ rfl (w6.heap.size) 0 rfl (P.cells vf vc) _ h8.range Tryz.underlying36 rfl info_pac ?_)
        | ((with_reducible refine wpl_at (o := ⟨some 67, .buildSlice 44 1 #[(0, .tmp 66)], _, _, _, _⟩) ?_); refine wpl_buildSlice1 rfl _ _ rfl (.agg (P.cells vf vc).toArray) rfl _ (w8.alloc (.cells (P.cells vf vc).toArray 36)) (build_row P vf vc w8) ?_; have b9 := (Below.refl w8.heap.size w8).alloc (Nat.le_refl _) (.cells (P.cells vf vc).toArray 36); have h9 : At (w8.alloc (.cells (P.cells vf vc).toArray 36)) w8.heap.size (P.cells vf vc) := At.new _ _ _; generalize w8.alloc (.cells (P.cells vf vc).toArray 36) = w9 at *; have K9 := Keeps.below (S := []) b9; have ho9 := ho8.keeps0 K9; have hr9 := hr8.keeps K9 (fun k hk => by simp at hk); have B9 := B8.trans (b9.mono B8.size); have G9 := G2.keep b9 G2.lt)
        | (at_builtin; refine wpl_appPs rfl _ _ rfl wb.heap.size u5 xs rfl ho9 P vf vc w8.heap.size rfl h9 (hr9.le (by omega)) (fun k hk hm => by have h1 := blk_ge hr9.f hk; have h2 := blk_lt HI.out.own.row hm; omega) (fun k hk hm => by have h1 := blk_ge hr9.c hk; have h2 := blk_lt HI.out.own.row hm; omega) (by omega) (by have := B9.size; omega) ?_; intro va wa hoa hka hba hna; have Ga := G9.keeps hka (fun hm => by have h2 := blk_lt HI.out.own.row hm; omega); have ca := Ga.at 2 (u := .int .i64 nn) rfl))
      have Ia := HST.out (P, vf, vc) va wa (by rw [HRR.out]) (by rw [HRR.out]; rfl) hoa ((HI.out.below.trans (B9.mono hw)).trans hba)
      have hq : (R.2.1).toNat = qn + nn := by rw [HRR.out]; show ((qn : Int) + (nn : Int)).toNat = qn + nn; omega
      rw [hq] at Ia
      have HIa := hd Ia
      clear Ia
      go_roundw
      case rel => exact ⟨xs ++ [(P, vf, vc)], qn + nn, by congr 1, HIa.out⟩
      case measure => simp; omega
    · intro K hK
      go_simp
      have b6 := (Below.refl w5.heap.size w5).alloc (Nat.le_refl _) (.cells (zK 0).toArray 36)
      have h6 : At (w5.alloc (.cells (zK 0).toArray 36)) w5.heap.size (zK 0) := At.new _ _ _
      have f6 : Free (w5.alloc (.cells (zK 0).toArray 36)) w5.heap.size := Free.new _ _ _
      have z6 : (w5.alloc (.cells (zK 0).toArray 36)).heap.size = w5.heap.size + 1 := by simp [go_sem]
      have E2 := D2.keep b6 D2.lt
      have B6 := B5.trans (b6.mono B5.size)
      refine hK _ (w5.alloc (.cells (zK 0).toArray 36)) (fun _ => E2) ?_
      clear hK K D2
      generalize w5.alloc (.cells (zK 0).toArray 36) = w6 at *
      have hg : w5.heap.size = w2.heap.size + 1 := by omega
      rw [hg] at h6 f6
      apply wpT_move (by rfl) (by rfl)
      intro K hK
      go_simp
      refine (HPO.out _ hbz).mono ?_
      rintro e w7 ⟨vf, vc, rfl, hr7, hb7⟩
      go_simp
      have hz7 := hb7.size
      have F2 := E2.keep hb7 E2.lt
      have h7 := h6.keep hb7 h6.lt
      have f7 := f6.keep hb7 (by omega)
      have B7 := B6.trans (hb7.mono B6.size)
      refine hK _ _ (fun _ => F2) ?_
      clear hK K E2 h6 f6
      have hone := Pac.one P vf vc hr7.rd.f.oneCell hr7.rd.c.oneCell
      apply wpT_still (by rfl) (by rfl)
      · intro W hC
        go_simp
        rfl
      go_simp
      apply wpT_still (by rfl) (by rfl)
      · intro W hC
        go_simp
        rfl
      go_simp
      apply wpT_still (by rfl) (by rfl)
      · intro W hC
        go_simp
        rfl
      go_simp
      apply wpT_move (by rfl) (by rfl)
      intro K hK
      refine wpo_storeMid rfl _ _ _ rfl (w2.heap.size + 1) 0 (P.cells vf vc) (zK 0) (P.cells vf vc) rfl rfl info_pac hone h7 rfl (by show 0 + 24 ≤ 24; decide) f7 ?_
      intro w8 h8 f8 k8 z8
      have G2 := F2.keeps k8 (by simp)
      have B8 := B7.trans (k8.toBelow B7.size (by simp; omega))
      have hr8 := hr7.keeps k8 (by intro i hi; simp at hi; omega)
      refine hK _ _ (fun _ => G2) ?_
      clear hK K F2 h7 f7
      apply wpT_move (by rfl) (by rfl)
      intro K hK
      go_simp
      refine hK _ _ (fun h => absurd h (by decide)) ?_
      clear hK K
      refine wpT_done ?_
      by_cases hE' : E' = 0
      rotate_left
      · have hEb : (E' != 0) = true := by simpa using hE'
        have he : paAllB b = (xs.map (·.1), (n : Int), E') := by
          have h := HEN.out (by rw [HRR.out]; simpa using hE')
          rw [HRR.out] at h
          exact h
        clear hE'
        go_wp2_with fail
        go_ret3
        try rw [he]
        exact ⟨_, xs, rfl, (HI.out.own.kept B8 (Nat.le_refl _)).le hb.size, rfl, Below.up hb (HI.out.below.trans (B8.mono hw))⟩
      subst hE'
      have ho8 := HI.out.own.kept B8 (Nat.le_refl _)
      have hz8 := B8.size
      go_wp2_with (first
        | ((with_reducible refine wpl_at (o := ⟨some 66, .load 36 (.tmp 11), _, _, _, _⟩) ?_); refine wpl_loadAt rfl _ _ rfl (w2.heap.size + 1) 0 rfl (P.cells vf vc) _ h8.range Tryz.underlying36 rfl info_pac ?_)
        | ((with_reducible refine wpl_at (o := ⟨some 67, .buildSlice 44 1 #[(0, .tmp 66)], _, _, _, _⟩) ?_); refine wpl_buildSlice1 rfl _ _ rfl (.agg (P.cells vf vc).toArray) rfl _ (w8.alloc (.cells (P.cells vf vc).toArray 36)) (build_row P vf vc w8) ?_; have b9 := (Below.refl w8.heap.size w8).alloc (Nat.le_refl _) (.cells (P.cells vf vc).toArray 36); have h9 : At (w8.alloc (.cells (P.cells vf vc).toArray 36)) w8.heap.size (P.cells vf vc) := At.new _ _ _; generalize w8.alloc (.cells (P.cells vf vc).toArray 36) = w9 at *; have K9 := Keeps.below (S := []) b9; have ho9 := ho8.keeps0 K9; have hr9 := hr8.keeps K9 (fun k hk => by simp at hk); have B9 := B8.trans (b9.mono B8.size); have G9 := G2.keep b9 G2.lt)
        | (at_builtin; refine wpl_appPs rfl _ _ rfl wb.heap.size u5 xs rfl ho9 P vf vc w8.heap.size rfl h9 (hr9.le (by omega)) (fun k hk hm => by have h1 := blk_ge hr9.f hk; have h2 := blk_lt HI.out.own.row hm; omega) (fun k hk hm => by have h1 := blk_ge hr9.c hk; have h2 := blk_lt HI.out.own.row hm; omega) (by omega) (by have := B9.size; omega) ?_; intro va wa hoa hka hba hna; have Ga := G9.keeps hka (fun hm => by have h2 := blk_lt HI.out.own.row hm; omega); have ca := Ga.at 2 (u := .int .i64 nn) rfl))
      have Ia := HST.out (P, vf, vc) va wa (by rw [HRR.out]) (by rw [HRR.out]; rfl) hoa ((HI.out.below.trans (B9.mono hw)).trans hba)
      have hq : (R.2.1).toNat = qn + nn := by rw [HRR.out]; show ((qn : Int) + (nn : Int)).toNat = qn + nn; omega
      rw [hq] at Ia
      have HIa := hd Ia
      clear Ia
      go_roundw
      case rel => exact ⟨xs ++ [(P, vf, vc)], qn + nn, by congr 1, HIa.out⟩
      case measure => simp; omega
end Go.Proofs.YtjlnlgemngpelaaGreatDoor

/- Levels of texts: plain facts. -/
namespace Go.Proofs.YtjlnlgemngpelaaGreatDoor
open Go.RowKit
set_option linter.unusedVariables false
set_option linter.unusedSimpArgs false

/-- One step of a range over a string's runes, for a byte below 128. -/
theorem range_asc (l : List UInt8) (i : Nat) (hi : i < l.length) (c : Nat) (hc : c < 128) :
    ((Lib.decodeL (l.drop i)).1 = c → (Lib.decodeL (l.drop i)).2 = 1 ∧ bN l i = c) ∧
    ((Lib.decodeL (l.drop i)).1 ≠ c → ∀ j, j < (Lib.decodeL (l.drop i)).2 → bN l (i + j) ≠ c) ∧
    1 ≤ (Lib.decodeL (l.drop i)).2 ∧ i + (Lib.decodeL (l.drop i)).2 ≤ l.length ∧ (Lib.decodeL (l.drop i)).1 ≤ 1114111 := by
  rw [Lib.decodeL_N]
  have e0 : ((l.drop i).getD 0 0).toNat = bN l i := by have := bN_drop l i 0; rw [Nat.add_zero] at this; exact this
  have e1 : ((l.drop i).getD 1 0).toNat = bN l (i + 1) := bN_drop l i 1
  have e2 : ((l.drop i).getD 2 0).toNat = bN l (i + 2) := bN_drop l i 2
  have e3 : ((l.drop i).getD 3 0).toNat = bN l (i + 3) := bN_drop l i 3
  rw [e0, e1, e2, e3, List.length_drop]
  clear e0 e1 e2 e3
  have hz : Lib.decodeN (l.length - i) (bN l i) (bN l (i + 1)) (bN l (i + 2)) (bN l (i + 3)) = (65533, 1) → bN l i ≠ c := fun h h0 => by
    rw [h0] at h
    unfold Lib.decodeN at h
    rw [if_pos hc] at h
    have := (Prod.mk.inj h).1
    omega
  rcases Lib.decodeN_shape (l.length - i) (bN l i) (bN l (i + 1)) (bN l (i + 2)) (bN l (i + 3)) with ⟨c0, e⟩ | ⟨c1, c2, c3, cv, e⟩ | ⟨c1, c2, c3, c4, cv, cs, e⟩ | ⟨c1, c2, c3, c4, c5, cv, cw, e⟩ | e
  · rw [e]
    exact ⟨fun h => ⟨rfl, h⟩, fun h j hj => by simp only at hj h; have : j = 0 := by omega
                                               subst this; rw [Nat.add_zero]; exact h, by omega, by simp only; omega, by simp only; omega⟩
  · rw [e]
    refine ⟨fun h => by simp only at h; omega, fun h j hj => ?_, by omega, by simp only; omega, by simp only; omega⟩
    match j, hj with
    | 0, _ => rw [Nat.add_zero]; omega
    | 1, _ => omega
  · rw [e]
    refine ⟨fun h => by simp only at h; omega, fun h j hj => ?_, by omega, by simp only; omega, by simp only; omega⟩
    match j, hj with
    | 0, _ => rw [Nat.add_zero]; omega
    | 1, _ => omega
    | 2, _ => omega
  · rw [e]
    refine ⟨fun h => by simp only at h; omega, fun h j hj => ?_, by omega, by simp only; omega, by simp only; omega⟩
    match j, hj with
    | 0, _ => rw [Nat.add_zero]; omega
    | 1, _ => omega
    | 2, _ => omega
    | 3, _ => omega
  · have := hz e
    rw [e]
    refine ⟨fun h => by simp only at h; omega, fun h j hj => ?_, by omega, by simp only; omega, by simp only; omega⟩
    simp only at hj
    have : j = 0 := by omega
    subst this
    rw [Nat.add_zero]; assumption

/-- has a text + or #? -/
def wildL (l : List UInt8) : Bool := l.any fun b => b == 43 || b == 35
theorem b8_of_bN {l : List UInt8} {i : Nat} (hi : i < l.length) {c : UInt8} : bN l i = c.toNat ↔ l[i] = c := by
  unfold bN
  rw [List.getD_eq_getElem?_getD, List.getElem?_eq_getElem hi, Option.getD_some]
  exact UInt8.toNat_inj
theorem wildL_drop : ∀ (n : Nat) (l : List UInt8), n ≤ l.length → (∀ j, j < n → bN l j ≠ 43 ∧ bN l j ≠ 35) → wildL l = wildL (l.drop n)
  | 0, l, _, _ => by simp
  | n + 1, [], h, _ => by simp at h
  | n + 1, b :: t, h, hb => by
    have h0 := hb 0 (by omega)
    have e : wildL (b :: t) = wildL t := by
      unfold wildL
      have h43 : (b == 43) = false := by
        rw [beq_eq_false_iff_ne]; intro hc; apply h0.1; subst hc; rfl
      have h35 : (b == 35) = false := by
        rw [beq_eq_false_iff_ne]; intro hc; apply h0.2; subst hc; rfl
      simp [h43, h35]
    rw [e, List.drop_succ_cons]
    refine wildL_drop n t (by simpa using h) (fun j hj => ?_)
    have := hb (j + 1) (by omega)
    unfold bN at this ⊢
    simpa using this
theorem wildL_hit {l : List UInt8} {i : Nat} (hi : i < l.length) (h : bN l i = 43 ∨ bN l i = 35) : wildL (l.drop i) = true := by
  have e : l.drop i = l[i] :: l.drop (i + 1) := List.drop_eq_getElem_cons hi
  rw [e]
  unfold wildL
  have : l[i] = 43 ∨ l[i] = 35 := by
    rcases h with h | h
    · exact .inl ((b8_of_bN hi (c := 43)).1 h)
    · exact .inr ((b8_of_bN hi (c := 35)).1 h)
  rcases this with h | h <;> simp [h]
theorem wildL_miss {l : List UInt8} {i n : Nat} (hn : i + n ≤ l.length) (h : ∀ j, j < n → bN l (i + j) ≠ 43 ∧ bN l (i + j) ≠ 35) : wildL (l.drop i) = wildL (l.drop (i + n)) := by
  have := wildL_drop n (l.drop i) (by rw [List.length_drop]; omega) (fun j hj => by rw [bN_drop]; exact h j hj)
  rw [List.drop_drop] at this
  exact this

/-- a text's levels -/
def lSplit : List UInt8 → List (List UInt8)
  | [] => [[]]
  | b :: t => if b = 47 then [] :: lSplit t else match lSplit t with
    | [] => [[b]]
    | x :: r => (b :: x) :: r
theorem lSplit_ne : ∀ l, lSplit l ≠ []
  | [] => by simp [lSplit]
  | b :: t => by
    rw [lSplit]
    split
    · simp
    · split <;> simp
theorem lSplit_hit : ∀ (i : Nat) (l : List UInt8) (hi : i < l.length), (∀ j, j < i → bN l j ≠ 47) → bN l i = 47 → lSplit l = l.take i :: lSplit (l.drop (i + 1))
  | i, [], hi, _, _ => by simp at hi
  | 0, b :: t, hi, _, h => by
    have hb : b = 47 := (b8_of_bN (l := b :: t) hi (c := 47)).1 h
    rw [lSplit, if_pos hb]
    simp
  | i + 1, b :: t, hi, hn, h => by
    have hb : b ≠ 47 := fun e => hn 0 (by omega) (by subst e; rfl)
    have ih := lSplit_hit i t (by simpa using hi) (fun j hj => by
      have := hn (j + 1) (by omega)
      unfold bN at this ⊢
      simpa using this) (by unfold bN at h ⊢; simpa using h)
    rw [lSplit, if_neg hb, ih]
    simp
theorem lSplit_none : ∀ (l : List UInt8), (∀ j, j < l.length → bN l j ≠ 47) → lSplit l = [l]
  | [], _ => rfl
  | b :: t, h => by
    have hb : b ≠ 47 := fun e => h 0 (by simp) (by subst e; rfl)
    have ih := lSplit_none t (fun j hj => by
      have := h (j + 1) (by simpa using hj)
      unfold bN at this ⊢
      simpa using this)
    rw [lSplit, if_neg hb, ih]
theorem lSplit_len : ∀ l : List UInt8, (lSplit l).length = l.count 47 + 1
  | [] => rfl
  | b :: t => by
    have ih := lSplit_len t
    rw [lSplit]
    by_cases hb : b = 47
    · rw [if_pos hb, hb]
      simp [ih]
    · rw [if_neg hb]
      have hc : (b :: t).count 47 = t.count 47 := by rw [List.count_cons]; simp [hb]
      rw [hc]
      split
      · rename_i e; rw [e] at ih; simp at ih
      · rename_i x r e
        rw [e] at ih
        simpa using ih
theorem lSplit_parts : ∀ (l x : List UInt8), x ∈ lSplit l → (47 : UInt8) ∉ x ∧ x.length ≤ l.length
  | [], x, h => by simp [lSplit] at h; subst h; simp
  | b :: t, x, h => by
    rw [lSplit] at h
    by_cases hb : b = 47
    · rw [if_pos hb] at h
      rcases List.mem_cons.1 h with rfl | h
      · simp
      · have := lSplit_parts t x h
        exact ⟨this.1, by simp; omega⟩
    · rw [if_neg hb] at h
      split at h
      · rename_i e; exact absurd e (lSplit_ne t)
      · rename_i y r e
        have hy := lSplit_parts t y (by rw [e]; simp)
        rcases List.mem_cons.1 h with rfl | h
        · refine ⟨?_, by simp; exact hy.2⟩
          intro hm
          rcases List.mem_cons.1 hm with h1 | h1
          · exact hb h1.symm
          · exact hy.1 h1
        · have := lSplit_parts t x (by rw [e]; simp [h])
          exact ⟨this.1, by simp; omega⟩
/-- levels as a text -/
def lJoin (p : List (List UInt8)) : List UInt8 := Lib.join p [47]
theorem lJoin_cons2 (x y : List UInt8) (r : List (List UInt8)) : lJoin (x :: y :: r) = x ++ 47 :: lJoin (y :: r) := by
  simp [lJoin, Lib.join, List.intercalate, List.intersperse]
theorem lJoin_one (x : List UInt8) : lJoin [x] = x := by simp [lJoin, Lib.join, List.intercalate]
theorem lJoin_split : ∀ l, lJoin (lSplit l) = l
  | [] => by simp [lSplit, lJoin_one]
  | b :: t => by
    have ih := lJoin_split t
    rw [lSplit]
    by_cases hb : b = 47
    · rw [if_pos hb]
      cases e : lSplit t with
      | nil => exact absurd e (lSplit_ne t)
      | cons y r =>
        rw [lJoin_cons2, ← e, ih, hb]
        simp
    · rw [if_neg hb]
      split
      · rename_i e; exact absurd e (lSplit_ne t)
      · rename_i y r e
        rw [e] at ih
        cases r with
        | nil => rw [lJoin_one] at ih ⊢; rw [ih]
        | cons z r => rw [lJoin_cons2] at ih ⊢; rw [List.cons_append, ih]

def lSized (l : List UInt8) : Bool := !l.isEmpty && (decide (l.length ≤ 96) && (uRight l && decide ((lSplit l).length ≤ 12)))
def lName (l : List UInt8) : Bool := lSized l && !wildL l
def okLevels : List (List UInt8) → Bool
  | [] => true
  | x :: r => (x == [43] || !wildL x || (x == [35] && r.isEmpty)) && okLevels r
def lFilter (l : List UInt8) : Bool := lSized l && okLevels (lSplit l)
def lHidden (l : List UInt8) : Bool := !l.isEmpty && decide (bN l 0 = 36)
theorem okLevels_at {p : List (List UInt8)} {k : Nat} {x : List UInt8} (hk : p[k]? = some x) : okLevels (p.drop k) = ((x == [43] || !wildL x || (x == [35] && decide (k + 1 = p.length))) && okLevels (p.drop (k + 1))) := by
  have hlt : k < p.length := (List.getElem?_eq_some_iff.1 hk).1
  have hx : p[k] = x := (List.getElem?_eq_some_iff.1 hk).2
  rw [List.drop_eq_getElem_cons hlt, hx, okLevels]
  congr 3
  have : (p.drop (k + 1)).isEmpty = decide (k + 1 = p.length) := by
    rw [Bool.eq_iff_iff]
    simp
    omega
  rw [this]
end Go.Proofs.YtjlnlgemngpelaaGreatDoor

/- Levels of texts: the walks of the small functions. -/
namespace Go.Proofs.YtjlnlgemngpelaaGreatDoor
open Go.RowKit
set_option linter.unusedVariables false
set_option linter.unusedSimpArgs false

theorem sB_sOfL (l : List UInt8) : sB (sOf l) = l := rfl
theorem sOf_sizeL (l : List UInt8) : (sOf l).size = l.length := by rw [← sB_len, sB_sOfL]
theorem sOf_sBL (s : ByteArray) : sOf (sB s) = s := by cases s; simp [sOf, sB]

set_option maxRecDepth 100000 in
set_option maxHeartbeats 1000000 in
theorem wild_c (l : List UInt8) (w : World) (hs : l.length ≤ 9223372036854775000) : Calls Tryz.prog 95 #[.string (sOf l)] w fun e w' => e = .returned (.bool (wildL l)) ∧ Below w.heap.size w w' := by
  obtain ⟨r, hr⟩ : ∃ r, wildL l = r := ⟨_, rfl⟩
  rw [hr]
  have hsz := sOf_sizeL l
  go_enter Tryz.func95, Tryz.ntmps95
  go_wp2_with fail
  go_loopw [4] (fun _ w' => ∃ pos : Nat, w' = w.iter (sOf l) pos ∧ pos ≤ l.length ∧ wildL (l.drop pos) = r) (fun _ w' => l.length - w'.iterPos w.heap.size)
  case atStart => exact ⟨0, rfl, by omega, by simpa using hr⟩
  case round =>
    obtain ⟨pos, rfl, hp1, hc⟩ := hrel
    by_cases hp : pos < l.length
    · have hnx : ∀ ty, (Instr.next (.pointer (some ⟨w.heap.size, 0, none⟩)) true ty).run Tryz.prog (w.iter (sOf l) pos) = _ := fun ty => run_next_any w (sOf l) pos ty (by omega)
      have h43 := range_asc l pos hp 43 (by omega)
      have h35 := range_asc l pos hp 35 (by omega)
      have hdd : Lib.decodeL (l.drop pos) = Utf8.decode (sOf l) pos := Lib.decodeL_drop (sOf l) pos
      rw [hdd] at h43 h35
      generalize Utf8.decode (sOf l) pos = q at h43 h35 hnx
      obtain ⟨qr, qn⟩ := q
      simp only at h43 h35 hnx
      obtain ⟨a0, a1, hn1, hn2, hq⟩ := h43
      obtain ⟨b0, b1, -, -, -⟩ := h35
      by_cases hr0 : qr = 43 ∨ qr = 35
      · have hw : wildL (l.drop pos) = true := wildL_hit hp (hr0.elim (fun h => .inl (a0 h).2) (fun h => .inr (b0 h).2))
        rw [hw] at hc
        subst hc
        clear a0 a1 b0 b1 hw
        rcases hr0 with rfl | rfl
        all_goals
          go_wp2_with fail
          go_ret
          exact ⟨rfl, (Below.refl _ _).alloc (Nat.le_refl _) (.stringIter (sOf l) (pos + qn))⟩
      · rw [wildL_miss hn2 (fun j hj => ⟨a1 (by omega) j hj, b1 (by omega) j hj⟩)] at hc
        have hr0b : ((qr : Int) == 43) = false := by simp; omega
        have hr1b : ((qr : Int) == 35) = false := by simp; omega
        clear a0 a1 b0 b1
        go_wp2_with fail
        go_roundw
        case rel => exact ⟨pos + qn, rfl, by omega, hc⟩
        case measure => simp; omega
    · have hnx : ∀ ty, (Instr.next (.pointer (some ⟨w.heap.size, 0, none⟩)) true ty).run Tryz.prog (w.iter (sOf l) pos) = _ := fun ty => run_next_end w (sOf l) pos ty (by omega)
      have : pos = l.length := by omega
      subst this
      rw [List.drop_of_length_le (Nat.le_refl _)] at hc
      have hc2 : false = r := hc
      subst hc2
      go_wp2_with fail
      go_ret
      exact ⟨rfl, (Below.refl _ _).alloc (Nat.le_refl _) (.stringIter (sOf l) l.length)⟩

theorem eq_empty (l : List UInt8) : (sOf l).toList.isEmpty = l.isEmpty := by
  rw [ByteArray.toList_eq]; rfl

theorem lSized_of {l : List UInt8} (h0 : l ≠ []) (h1 : l.length ≤ 96) : lSized l = (uRight l && decide (l.count 47 < 12)) := by
  unfold lSized
  have e0 : l.isEmpty = false := by simpa using h0
  rw [e0, decide_eq_true h1, lSplit_len]
  have e : decide (l.count 47 + 1 ≤ 12) = decide (l.count 47 < 12) := by rw [Bool.eq_iff_iff]; simp; omega
  rw [e]
  simp
set_option maxRecDepth 100000 in
set_option maxHeartbeats 1000000 in
theorem sized_c (l : List UInt8) (w : World) (hE : EnvU w) (hs : l.length ≤ 9223372036854775000) : Calls Tryz.prog 94 #[.string (sOf l)] w fun e w' => e = .returned (.bool (lSized l)) ∧ Below w.heap.size w w' := by
  have HE := hd hE; clear hE
  have hsz := sOf_sizeL l
  have hem := eq_empty l
  by_cases h0 : l = []
  · have e0 : l.isEmpty = true := by simpa using h0
    rw [e0] at hem
    have hn : lSized l = false := by unfold lSized; rw [e0]; rfl
    rw [hn]
    subst h0
    have hem2 : (sOf []).toList = [] := by rw [ByteArray.toList_eq]; rfl
    clear hn e0 hem
    go_enter Tryz.func94, Tryz.ntmps94
    go_wp2_with fail
    go_ret
    exact ⟨rfl, Below.refl _ _⟩
  have e0 : l.isEmpty = false := by simpa using h0
  rw [e0] at hem
  by_cases h96 : 96 < l.length
  · have hn : lSized l = false := by unfold lSized; rw [decide_eq_false (by omega)]; simp
    rw [hn]
    go_enter Tryz.func94, Tryz.ntmps94
    go_wp2_with fail
    go_ret
    exact ⟨rfl, Below.refl _ _⟩
  rw [lSized_of h0 (by omega)]
  go_enter Tryz.func94, Tryz.ntmps94
  go_wp2_with fail
  refine (Right_c (sOf l) _ HE.out (by omega)).mono ?_
  rw [sB_sOfL]
  rintro e w1 ⟨rfl, hb1⟩
  cases hu : uRight l
  · go_wp2_with fail
    go_ret
    exact ⟨ret_bool (by simp [hu]), hb1⟩
  · go_wp2_with fail
    refine (Tryz.strings_Count_one (sOf l) 47 _).mono ?_
    rintro e w2 ⟨rfl, rfl⟩
    have hc : Lib.countByte (sOf l).data.toList 47 = l.count 47 := rfl
    rw [hc]
    go_wp2_with fail
    go_ret
    exact ⟨ret_bool (by simp [hu]; omega), hb1⟩

set_option maxRecDepth 100000 in
set_option maxHeartbeats 1000000 in
theorem Name_c (l : List UInt8) (w : World) (hE : EnvU w) (hs : l.length ≤ 9223372036854775000) : Calls Tryz.prog 67 #[.string (sOf l)] w fun e w' => e = .returned (.bool (lName l)) ∧ Below w.heap.size w w' := by
  unfold lName
  go_enter Tryz.func67, Tryz.ntmps67
  go_wp2_with fail
  refine (sized_c l _ hE hs).mono ?_
  rintro e w1 ⟨rfl, hb1⟩
  cases hu : lSized l
  · go_wp2_with fail
    go_ret
    exact ⟨ret_bool (by simp [hu]), hb1⟩
  · go_wp2_with fail
    refine (wild_c l _ hs).mono ?_
    rintro e w2 ⟨rfl, hb2⟩
    have hb := Below.up hb1 hb2
    go_wp2_with fail
    go_ret
    exact ⟨ret_bool (by simp [hu]), hb⟩

end Go.Proofs.YtjlnlgemngpelaaGreatDoor
