/- Packets: there and back: the law's walk. -/
import Derived.Test.YtclicjokgfiegaaDoorZp21
namespace Go.Proofs.YtclicjokgfiegaaDoor
open Go.RowKit
set_option linter.unusedVariables false
set_option linter.unusedSimpArgs false

theorem rangeAt_drew {w : World} {b o : Nat} {l : List Value} (h : w.rangeAt b o l) : w.drew.rangeAt b o l := fun j v hv => by have := h j v hv; simpa [go_sem] using this
theorem paAllB_back (L : List Pac) (S : ByteArray) (h : sB S = paCat L) : paAllB (sB S) = (paWant L, (S.size : Int), 0) := by
  have h2 : (sB S).length = S.size := sB_lenP S
  unfold paAllB
  rw [paAll_fuel (sB S) (sB S).length ((sB S).length + L.length) 0 (by omega) (by omega)]
  have h3 := paAll_back L [] ((sB S).length + L.length + 1) (by omega)
  simp only [List.nil_append, List.length_nil] at h3
  rw [← h] at h3
  rw [h3, h2]
theorem map_at {l m : List PacV} (h : l.map (·.1) = m.map (·.1)) {k : Nat} {x y : PacV} (hx : l[k]? = some x) (hy : m[k]? = some y) : x.1 = y.1 := by
  have h1 : (l.map (·.1))[k]? = some x.1 := by rw [List.getElem?_map, hx]; rfl
  have h2 : (m.map (·.1))[k]? = some y.1 := by rw [List.getElem?_map, hy]; rfl
  rw [h, h2] at h1
  exact (Option.some.inj h1).symm

set_option maxRecDepth 100000 in
set_option maxHeartbeats 8000000 in
theorem PacketBack_s (v : Value) (l : List PacV) (w : World) (hB : Rd w v l.length (l.flatMap PacV.cells)) (hS : ∀ x ∈ l, PacIn w x.1 x.2.1 x.2.2) (hH : EnvH w) (hE : EnvU w) :
    Calls Tryd.prog 9 #[v] w fun e w' => e = .returned (.bool true) ∧ Below w.heap.size w w' := by
  have HE := hd hE; have HH := hd hH; have HS := hd hS
  clear hE hH hS
  have hll : l.length ≤ 9223372036854775807 := by
    have := hB.len
    unfold maxLen at this
    omega
  have HV := hd hB
  obtain ⟨a, c, rfl, -⟩ := hB
  go_enter Tryd.func9, Tryd.ntmps9
  go_wp2_with fail
  have I0 : BackP w l 0 ⟨#[]⟩ (.slice none 0 0) [] w := ⟨OwnPs.nil _ _, rfl, rfl, Nat.zero_le _, Below.refl _ _⟩
  go_loopw [3, 4, 5] (fun s v i w' => ∃ (k : Nat) (S : ByteArray) (xs : List PacV), s = .string S ∧ i = .int .i64 k ∧ k ≤ l.length ∧ k ≤ 12 ∧ BackP w l k S v xs w') (fun _ _ i _ => match i with | .int _ m => l.length - m.toNat | _ => 0)
  case atStart => exact ⟨0, _, [], rfl, rfl, by omega, by omega, I0⟩
  case round =>
    obtain ⟨k, S, xs, rfl, rfl, hk, hk12, I⟩ := hrel
    clear I0
    have HI := hd I
    have hbw := I.below
    have hbs := hbw.size
    have hxk := I.cnt
    clear I
    by_cases hk1 : k < l.length
    · by_cases hk2 : k < 12
      · obtain ⟨x, hx⟩ : ∃ x, l[k]? = some x := ⟨_, List.getElem?_eq_getElem hk1⟩
        obtain ⟨b, o, rfl, hbl, hra⟩ := prow_at HV.out hx
        have hin := (HS.out x (List.mem_of_getElem? hx)).ok
        have HX := hd hx
        have HIN := hd hin
        clear hx hin
        have hra1 := rangeAt_keep hra hbw hbl
        go_wp2_with (first
          | ((with_reducible refine wpl_at (o := ⟨some 26, .load 29 (.tmp 25), _, _, _, _⟩) ?_); refine wpl_loadAt rfl _ _ rfl b (o + k * 24) rfl (PacV.cells x) _ hra1 Tryd.underlying29 rfl info_pac ?_))
        refine (packPut_c x.1 x.2.1 x.2.2 _ (HIN.out.below hbw (Nat.le_refl _)) (HH.out.below hbw (Nat.le_refl _)) (HE.out.below hbw)).mono ?_
        rintro e w2 ⟨v2, rfl, ho2, hb2⟩
        have B2 := hbw.trans (hb2.mono hbs)
        have hz2 := hb2.size
        have hs2 := ho2.bs
        clear ho2
        obtain ⟨a2, c2, rfl⟩ := hs2.slice
        have hst := run_str hs2
        rw [show (⟨(paPutB x.1).toArray⟩ : ByteArray) = sOf (paPutB x.1) from rfl] at hst
        clear hs2
        have hra2 := rangeAt_keep hra B2 hbl
        have hxs : (sOf (paPutB x.1)).size ≤ 4099 := by rw [sOf_sizeP]; exact paPutB_len _
        have hSs := HI.out.size
        by_cases h0 : paPutE x.1 = 0
        · have hskip := h0
          rw [h0]
          have HP := hd h0
          clear h0 hskip
          have hst' : sB (sOf (paPutB x.1)) = paPutB x.1 := by simp [sB, sOf]
          have HST := hd hst'
          clear hst'
          generalize hbn : (paPutB x.1).length = bn at *
          clear hbn
          generalize sOf (paPutB x.1) = Bx at *
          go_wp2_with (first
            | ((with_reducible refine wpl_at (o := ⟨some 40, .load 29 (.tmp 39), _, _, _, _⟩) ?_); refine wpl_loadAt rfl _ _ rfl b (o + k * 24) rfl (PacV.cells x) _ hra2 Tryd.underlying29 rfl info_pac ?_))
          refine (CleanO_c x.1 x.2.1 x.2.2 _ (HIN.out.rd.below B2 (Nat.le_refl _))).mono ?_
          rintro e w3 ⟨vf, vc, rfl, ⟨of, oc, lf, lc⟩, hb3⟩
          have hput := fun (v' : Value) (w3 : World) (ho : OwnPs w.heap.size w3 v' (xs ++ [(paClean x.1, vf, vc)])) (hb : Below w.heap.size w w3) => HI.out.put HX.out HP.out HST.out ho hb
          generalize paClean x.1 = P at *
          have HPUT := hd hput
          clear hput
          have hr3 : PacOwn w2.heap.size w3 (P) vf vc := ⟨of, oc, lf, lc⟩
          have B3 := B2.trans (hb3.mono B2.size)
          have hor := (HI.out.own.kept hb2 (Nat.le_refl _)).kept hb3 (Nat.le_refl _)
          have HOR := hd hor
          clear of oc lf lc hor
          have hone := Pac.one (P) vf vc hr3.rd.f.oneCell hr3.rd.c.oneCell
          go_wp2_with (first
            | ((with_reducible refine wpl_at (o := ⟨some 42, .buildSlice 80 1 #[(0, .tmp 41)], _, _, _, _⟩) ?_); refine wpl_buildSlice1 rfl _ _ rfl (.agg ((P).cells vf vc).toArray) rfl _ (w3.alloc (.cells ((P).cells vf vc).toArray 29)) (build_row (P) vf vc w3) ?_; have b5 := (Below.refl w3.heap.size w3).alloc (Nat.le_refl _) (.cells ((P).cells vf vc).toArray 29); have h5 : At (w3.alloc (.cells ((P).cells vf vc).toArray 29)) w3.heap.size ((P).cells vf vc) := At.new _ _ _; generalize w3.alloc (.cells ((P).cells vf vc).toArray 29) = w5 at *; have K5 := Keeps.below (S := []) b5; have ho5 := HOR.out.keeps0 K5; have hr5 := hr3.keeps K5 (fun k hk => by simp at hk); have B5 := B3.trans (b5.mono B3.size))
            | (at_builtin; refine wpl_appPs rfl _ _ rfl w.heap.size u4 xs rfl ho5 (P) vf vc w3.heap.size rfl h5 (hr5.le B2.size) (fun k hk hm => by have h1 := blk_ge hr5.f hk; have h2 := blk_lt HI.out.own.row hm; omega) (fun k hk hm => by have h1 := blk_ge hr5.c hk; have h2 := blk_lt HI.out.own.row hm; omega) (by omega) (by have := B5.size; omega) ?_; intro v6 w6 ho6 hk6 hb6 hn6))
          have I6 := HPUT.out _ _ ho6 (B5.trans hb6)
          have HI6 := hd I6
          clear I6
          go_roundw
          case rel => exact ⟨k + 1, _, _, rfl, by congr 1, by omega, by omega, HI6.out⟩
          case measure => simp; omega
        · have h0b : (paPutE x.1 == 0) = false := by simpa using h0
          have I6 := HI.out.skip HX.out h0 hb2
          have HI6 := hd I6
          clear I6 h0 hst
          generalize paPutE x.1 = E at *
          go_wp2_with fail
          go_roundw
          case rel => exact ⟨k + 1, _, _, rfl, by congr 1, by omega, by omega, HI6.out⟩
          case measure => simp; omega
      · skip
        obtain ⟨va, vcap, rfl⟩ := Owns.slice HI.out.own.row
        have hcat := HI.out.cat
        have hwant := HI.out.want
        have hSs := HI.out.size
        generalize hL : (l.take k).map (·.1) = L at *
        clear hL
        have hall := paAllB_back L S hcat
        rw [← hwant] at hall
        go_wp2_with fail
        have hc := packAll_c S _ (by omega) (HH.out.below hbw (Nat.le_refl _)) (HE.out.below hbw)
        rw [hall] at hc
        refine hc.mono ?_
        clear hc hall hcat hwant
        rintro e w2 ⟨v2, ys, rfl, hos, hys, hb2⟩
        simp only at hys
        have hlen : ys.length = xs.length := by have := congrArg List.length hys; simpa using this
        have B2 := hbw.trans (hb2.mono hbs)
        have HX := HI.out.own.kept hb2 (Nat.le_refl _)
        obtain ⟨ya, yc, rfl⟩ := Owns.slice hos.row
        have HOX := hd HX; have HOY := hd hos; have HYS := hd hys
        clear HX hos hys
        have hxl : xs.length ≤ 12 := by omega
        rw [hlen]
        go_wp2_with fail
        go_loopw [11] (fun i w' => ∃ j : Nat, i = .int .i64 j ∧ j ≤ xs.length ∧ Below w2.heap.size w2 w') (fun i _ => match i with | .int _ m => xs.length - m.toNat | _ => 0)
        case atStart => exact ⟨0, rfl, by omega, Below.refl _ _⟩
        case round =>
          obtain ⟨j, rfl, hj, hb3⟩ := hrel
          have hz3 := hb3.size
          have B3 := B2.trans (hb3.mono B2.size)
          by_cases hj1 : j < xs.length
          · obtain ⟨x, hx⟩ : ∃ x, xs[j]? = some x := ⟨_, List.getElem?_eq_getElem hj1⟩
            obtain ⟨y, hy⟩ : ∃ y, ys[j]? = some y := ⟨_, List.getElem?_eq_getElem (by rw [hlen]; exact hj1)⟩
            have hxy := map_at HYS.out hy hx
            obtain ⟨x1, xf, xc⟩ := x
            obtain ⟨y1, yf, yc'⟩ := y
            simp only at hxy
            subst hxy
            obtain ⟨bx, ox, rfl, hlx, hrx⟩ := prow_at HOX.out.rd hx
            obtain ⟨b_y, oy, rfl, hly, hry⟩ := prow_at (n := ys.length) HOY.out.rd hy
            have hrdx := (HOX.out.at hx).below hb3 (Nat.le_refl _)
            have hrdy := (HOY.out.at hy).below hb3 (Nat.le_refl _)
            simp only at hrdx hrdy
            have D1 := rangeAt_drew (rangeAt_keep hrx hb3 hlx)
            have D2 := rangeAt_drew (rangeAt_keep hry hb3 hly)
            have HRX := hd hrdx; have HRY := hd hrdy
            clear hx hy hrx hry hrdx hrdy
            have BD := (Below.refl wr.heap.size wr).drew
            go_wp2_with fail
            refine wp_region_M (fun W => W.rangeAt bx (ox + j * 24) (PacV.cells (y1, xf, xc)) ∧ W.rangeAt b_y (oy + j * 24) (PacV.cells (y1, yf, yc'))) 21 [(0, false), (1, false), (2, false), (3, false), (4, false), (5, false), (6, false), (7, false), (8, true), (9, false), (10, false), (11, false), (12, false), (13, false), (14, false), (15, false), (16, false), (17, false), (18, false), (19, true), (20, false), (21, true)] (by kernel_rfl) (by kernel_rfl) (fun _ _ _ _ h => h) ⟨D1, D2⟩ ?_
            have zd : wr.drew.heap.size = wr.heap.size := rfl
            generalize wr.drew = w4 at *
            apply wpM_still (by rfl) (by rfl)
            · intro W hC
              go_simp
              rfl
            go_simp
            apply wpM_still (by rfl) (by rfl)
            · intro W hC
              go_simp
              rfl
            go_simp
            apply wpM_still (by rfl) (by rfl)
            · intro W hC
              go_simp
              rfl
            go_simp
            apply wpM_still (by rfl) (by rfl)
            · intro W hC
              exact still_loadAt _ _ rfl b_y (oy + j * 24) rfl _ _ hC.2 Tryd.underlying29 rfl (Pac.info _ _ _)
            go_simp
            apply wpM_still (by rfl) (by rfl)
            · intro W hC
              go_simp
              rfl
            go_simp
            apply wpM_still (by rfl) (by rfl)
            · intro W hC
              go_simp
              rfl
            go_simp
            apply wpM_still (by rfl) (by rfl)
            · intro W hC
              go_simp
              rfl
            go_simp
            apply wpM_still (by rfl) (by rfl)
            · intro W hC
              exact still_loadAt _ _ rfl bx (ox + j * 24) rfl _ _ hC.1 Tryd.underlying29 rfl (Pac.info _ _ _)
            go_simp
            apply wpM_move (by rfl) (by rfl)
            intro K hK
            go_simp
            refine (Same_c y1 y1 yf yc' xf xc _ (HRY.out.below BD (Nat.le_refl _)) (HRX.out.below BD (Nat.le_refl _))).mono ?_
            rintro e w5 ⟨rfl, hb5⟩
            rw [decide_eq_true rfl]
            go_simp
            have hz5 := hb5.size
            refine hK _ _ (fun _ => ⟨rangeAt_keep D1 hb5 (by omega), rangeAt_keep D2 hb5 (by omega)⟩) ?_
            clear hK K
            replace BD := BD.trans (hb5.mono BD.size)
            apply wpM_still (by rfl) (by rfl)
            · intro W hC
              go_simp
              rfl
            go_simp
            apply wpM_still (by rfl) (by rfl)
            · intro W hC
              go_simp
              rfl
            go_simp
            apply wpM_still (by rfl) (by rfl)
            · intro W hC
              go_simp
              rfl
            go_simp
            apply wpM_still (by rfl) (by rfl)
            · intro W hC
              go_simp
              rfl
            go_simp
            apply wpM_still (by rfl) (by rfl)
            · intro W hC
              go_simp
              rfl
            go_simp
            apply wpM_still (by rfl) (by rfl)
            · intro W hC
              exact still_loadAt _ _ rfl b_y (oy + j * 24) rfl _ _ hC.2 Tryd.underlying29 rfl (Pac.info _ _ _)
            go_simp
            apply wpM_still (by rfl) (by rfl)
            · intro W hC
              go_simp
              rfl
            go_simp
            apply wpM_still (by rfl) (by rfl)
            · intro W hC
              go_simp
              rfl
            go_simp
            apply wpM_still (by rfl) (by rfl)
            · intro W hC
              go_simp
              rfl
            go_simp
            apply wpM_still (by rfl) (by rfl)
            · intro W hC
              exact still_loadAt _ _ rfl bx (ox + j * 24) rfl _ _ hC.1 Tryd.underlying29 rfl (Pac.info _ _ _)
            go_simp
            apply wpM_move (by rfl) (by rfl)
            intro K hK
            go_simp
            refine (refSame_c y1 y1 yf yc' xf xc _ (HRY.out.below BD (Nat.le_refl _)) (HRX.out.below BD (Nat.le_refl _))).mono ?_
            rintro e w6 ⟨rfl, hb6⟩
            rw [decide_eq_true rfl]
            go_simp
            have hz6 := hb6.size
            refine hK _ _ (fun _ => ⟨rangeAt_keep (rangeAt_keep D1 hb5 (by omega)) hb6 (by omega), rangeAt_keep (rangeAt_keep D2 hb5 (by omega)) hb6 (by omega)⟩) ?_
            clear hK K
            replace BD := BD.trans (hb6.mono BD.size)
            apply wpM_still (by rfl) (by rfl)
            · intro W hC
              go_simp
              rfl
            go_simp
            apply wpM_move (by rfl) (by rfl)
            intro K hK
            go_simp
            refine hK _ _ (fun h => absurd h (by decide)) ?_
            clear hK K
            refine wpM_nil ?_
            go_wp2_with fail
            go_roundw
            case rel => exact ⟨j + 1, by congr 1, by omega, hb3.trans (BD.mono hz3)⟩
            case measure => simp; omega
          · have hje : j = xs.length := by omega
            subst hje
            go_wp2_with fail
            refine (awake16_c _ (HH.out.below B3 (Nat.le_refl _)) (HE.out.below B3)).mono ?_
            rintro e w9 ⟨rfl, hb9⟩
            go_wp2_with fail
            go_ret
            exact ⟨rfl, B3.trans (hb9.mono B3.size)⟩
    · skip
      obtain ⟨va, vcap, rfl⟩ := Owns.slice HI.out.own.row
      have hcat := HI.out.cat
      have hwant := HI.out.want
      have hSs := HI.out.size
      generalize hL : (l.take k).map (·.1) = L at *
      clear hL
      have hall := paAllB_back L S hcat
      rw [← hwant] at hall
      go_wp2_with fail
      have hc := packAll_c S _ (by omega) (HH.out.below hbw (Nat.le_refl _)) (HE.out.below hbw)
      rw [hall] at hc
      refine hc.mono ?_
      clear hc hall hcat hwant
      rintro e w2 ⟨v2, ys, rfl, hos, hys, hb2⟩
      simp only at hys
      have hlen : ys.length = xs.length := by have := congrArg List.length hys; simpa using this
      have B2 := hbw.trans (hb2.mono hbs)
      have HX := HI.out.own.kept hb2 (Nat.le_refl _)
      obtain ⟨ya, yc, rfl⟩ := Owns.slice hos.row
      have HOX := hd HX; have HOY := hd hos; have HYS := hd hys
      clear HX hos hys
      have hxl : xs.length ≤ 12 := by omega
      rw [hlen]
      go_wp2_with fail
      go_loopw [11] (fun i w' => ∃ j : Nat, i = .int .i64 j ∧ j ≤ xs.length ∧ Below w2.heap.size w2 w') (fun i _ => match i with | .int _ m => xs.length - m.toNat | _ => 0)
      case atStart => exact ⟨0, rfl, by omega, Below.refl _ _⟩
      case round =>
        obtain ⟨j, rfl, hj, hb3⟩ := hrel
        have hz3 := hb3.size
        have B3 := B2.trans (hb3.mono B2.size)
        by_cases hj1 : j < xs.length
        · obtain ⟨x, hx⟩ : ∃ x, xs[j]? = some x := ⟨_, List.getElem?_eq_getElem hj1⟩
          obtain ⟨y, hy⟩ : ∃ y, ys[j]? = some y := ⟨_, List.getElem?_eq_getElem (by rw [hlen]; exact hj1)⟩
          have hxy := map_at HYS.out hy hx
          obtain ⟨x1, xf, xc⟩ := x
          obtain ⟨y1, yf, yc'⟩ := y
          simp only at hxy
          subst hxy
          obtain ⟨bx, ox, rfl, hlx, hrx⟩ := prow_at HOX.out.rd hx
          obtain ⟨b_y, oy, rfl, hly, hry⟩ := prow_at (n := ys.length) HOY.out.rd hy
          have hrdx := (HOX.out.at hx).below hb3 (Nat.le_refl _)
          have hrdy := (HOY.out.at hy).below hb3 (Nat.le_refl _)
          simp only at hrdx hrdy
          have D1 := rangeAt_drew (rangeAt_keep hrx hb3 hlx)
          have D2 := rangeAt_drew (rangeAt_keep hry hb3 hly)
          have HRX := hd hrdx; have HRY := hd hrdy
          clear hx hy hrx hry hrdx hrdy
          have BD := (Below.refl wr.heap.size wr).drew
          go_wp2_with fail
          refine wp_region_M (fun W => W.rangeAt bx (ox + j * 24) (PacV.cells (y1, xf, xc)) ∧ W.rangeAt b_y (oy + j * 24) (PacV.cells (y1, yf, yc'))) 21 [(0, false), (1, false), (2, false), (3, false), (4, false), (5, false), (6, false), (7, false), (8, true), (9, false), (10, false), (11, false), (12, false), (13, false), (14, false), (15, false), (16, false), (17, false), (18, false), (19, true), (20, false), (21, true)] (by kernel_rfl) (by kernel_rfl) (fun _ _ _ _ h => h) ⟨D1, D2⟩ ?_
          have zd : wr.drew.heap.size = wr.heap.size := rfl
          generalize wr.drew = w4 at *
          apply wpM_still (by rfl) (by rfl)
          · intro W hC
            go_simp
            rfl
          go_simp
          apply wpM_still (by rfl) (by rfl)
          · intro W hC
            go_simp
            rfl
          go_simp
          apply wpM_still (by rfl) (by rfl)
          · intro W hC
            go_simp
            rfl
          go_simp
          apply wpM_still (by rfl) (by rfl)
          · intro W hC
            exact still_loadAt _ _ rfl b_y (oy + j * 24) rfl _ _ hC.2 Tryd.underlying29 rfl (Pac.info _ _ _)
          go_simp
          apply wpM_still (by rfl) (by rfl)
          · intro W hC
            go_simp
            rfl
          go_simp
          apply wpM_still (by rfl) (by rfl)
          · intro W hC
            go_simp
            rfl
          go_simp
          apply wpM_still (by rfl) (by rfl)
          · intro W hC
            go_simp
            rfl
          go_simp
          apply wpM_still (by rfl) (by rfl)
          · intro W hC
            exact still_loadAt _ _ rfl bx (ox + j * 24) rfl _ _ hC.1 Tryd.underlying29 rfl (Pac.info _ _ _)
          go_simp
          apply wpM_move (by rfl) (by rfl)
          intro K hK
          go_simp
          refine (Same_c y1 y1 yf yc' xf xc _ (HRY.out.below BD (Nat.le_refl _)) (HRX.out.below BD (Nat.le_refl _))).mono ?_
          rintro e w5 ⟨rfl, hb5⟩
          rw [decide_eq_true rfl]
          go_simp
          have hz5 := hb5.size
          refine hK _ _ (fun _ => ⟨rangeAt_keep D1 hb5 (by omega), rangeAt_keep D2 hb5 (by omega)⟩) ?_
          clear hK K
          replace BD := BD.trans (hb5.mono BD.size)
          apply wpM_still (by rfl) (by rfl)
          · intro W hC
            go_simp
            rfl
          go_simp
          apply wpM_still (by rfl) (by rfl)
          · intro W hC
            go_simp
            rfl
          go_simp
          apply wpM_still (by rfl) (by rfl)
          · intro W hC
            go_simp
            rfl
          go_simp
          apply wpM_still (by rfl) (by rfl)
          · intro W hC
            go_simp
            rfl
          go_simp
          apply wpM_still (by rfl) (by rfl)
          · intro W hC
            go_simp
            rfl
          go_simp
          apply wpM_still (by rfl) (by rfl)
          · intro W hC
            exact still_loadAt _ _ rfl b_y (oy + j * 24) rfl _ _ hC.2 Tryd.underlying29 rfl (Pac.info _ _ _)
          go_simp
          apply wpM_still (by rfl) (by rfl)
          · intro W hC
            go_simp
            rfl
          go_simp
          apply wpM_still (by rfl) (by rfl)
          · intro W hC
            go_simp
            rfl
          go_simp
          apply wpM_still (by rfl) (by rfl)
          · intro W hC
            go_simp
            rfl
          go_simp
          apply wpM_still (by rfl) (by rfl)
          · intro W hC
            exact still_loadAt _ _ rfl bx (ox + j * 24) rfl _ _ hC.1 Tryd.underlying29 rfl (Pac.info _ _ _)
          go_simp
          apply wpM_move (by rfl) (by rfl)
          intro K hK
          go_simp
          refine (refSame_c y1 y1 yf yc' xf xc _ (HRY.out.below BD (Nat.le_refl _)) (HRX.out.below BD (Nat.le_refl _))).mono ?_
          rintro e w6 ⟨rfl, hb6⟩
          rw [decide_eq_true rfl]
          go_simp
          have hz6 := hb6.size
          refine hK _ _ (fun _ => ⟨rangeAt_keep (rangeAt_keep D1 hb5 (by omega)) hb6 (by omega), rangeAt_keep (rangeAt_keep D2 hb5 (by omega)) hb6 (by omega)⟩) ?_
          clear hK K
          replace BD := BD.trans (hb6.mono BD.size)
          apply wpM_still (by rfl) (by rfl)
          · intro W hC
            go_simp
            rfl
          go_simp
          apply wpM_move (by rfl) (by rfl)
          intro K hK
          go_simp
          refine hK _ _ (fun h => absurd h (by decide)) ?_
          clear hK K
          refine wpM_nil ?_
          go_wp2_with fail
          go_roundw
          case rel => exact ⟨j + 1, by congr 1, by omega, hb3.trans (BD.mono hz3)⟩
          case measure => simp; omega
        · have hje : j = xs.length := by omega
          subst hje
          go_wp2_with fail
          refine (awake16_c _ (HH.out.below B3 (Nat.le_refl _)) (HE.out.below B3)).mono ?_
          rintro e w9 ⟨rfl, hb9⟩
          go_wp2_with fail
          go_ret
          exact ⟨rfl, B3.trans (hb9.mono B3.size)⟩
end Go.Proofs.YtclicjokgfiegaaDoor
