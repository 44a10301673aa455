/- A bundle of texts (merged for the limit on files): PacLaw1, PacLaw4. -/
import Derived.Test.YtclicjokgfiegaaGreatDoorZa17
import Derived.Test.YtclicjokgfiegaaGreatDoorZa26
import Derived.Test.YtclicjokgfiegaaGreatDoorZa30
import Derived.Test.YtclicjokgfiegaaGreatDoorZa27
/- Packets: any packet as bytes: the law's walk. -/
namespace Go.Proofs.YtclicjokgfiegaaGreatDoor
open Go.RowKit
set_option linter.unusedVariables false
set_option linter.unusedSimpArgs false

theorem Pac.info (p : Pac) (vf vc : Value) : (Tryz.prog.info? 56).map (·.size) = some (p.cells vf vc).length := info_pac
theorem PacOk.below {B : Nat} {w w' : World} {p : Pac} {vf vc : Value} (h : PacOk w p vf vc) (hb : Below B w w') (hB : w.heap.size ≤ B) : PacOk w' p vf vc := ⟨h.rd.below hb hB, h.sized⟩
def pac5 : Pac := { zP 4 with id := 5 }
theorem pac5_ok (w : World) : PacOk w pac5 Nl Nl := ⟨⟨Ws.nil _, Is.nil _, by simp [pac5, zP, Pac.zero], by simp [pac5, zP, Pac.zero]⟩, ⟨Nat.zero_le _, Nat.zero_le _, ⟨Nat.zero_le _, Nat.zero_le _, Nat.zero_le _, Nat.zero_le _, Nat.zero_le _⟩, by simp [pac5, zP, Pac.zero]⟩⟩
theorem pac5_put : paPutB pac5 = [64, 2, 0, 5] ∧ paPutE pac5 = 0 := by decide +kernel
set_option maxRecDepth 100000 in
set_option maxHeartbeats 8000000 in
theorem awake16_c (w : World) (hH : EnvH w) (hE : EnvU w) : Calls Tryz.prog 21 #[] w fun e w' => e = .returned (.bool true) ∧ Below w.heap.size w w' := by
  have HE := hd hE; have HH := hd hH
  clear hE hH
  go_enter Tryz.func21, Tryz.ntmps21
  go_wp2_with fail
  refine (packPut_c pac5 Nl Nl _ (pac5_ok _) HH.out HE.out).mono ?_
  rintro e w1 ⟨v, rfl, ho, hb⟩
  rw [pac5_put.1] at ho
  rw [pac5_put.2]
  obtain ⟨a, c, rfl⟩ := ho.bs.slice
  have hs := run_str ho.bs
  clear ho
  generalize ([64, 2, 0, 5] : List UInt8).length = n at *
  go_wp2_with fail
  go_ret
  exact ⟨ret_bool (by simp), hb⟩
end Go.Proofs.YtclicjokgfiegaaGreatDoor

/- Packets: any bytes as packets one behind the other: the law's walk. -/
namespace Go.Proofs.YtclicjokgfiegaaGreatDoor
open Go.RowKit
set_option linter.unusedVariables false
set_option linter.unusedSimpArgs false

theorem rangeAt_drewA {w : World} {b o : Nat} {l : List Value} (h : w.rangeAt b o l) : w.drew.rangeAt b o l := fun j v hv => by have := h j v hv; simpa [go_sem] using this
theorem map_atA {l m : List PacV} (h : l.map (·.1) = m.map (·.1)) {k : Nat} {x y : PacV} (hx : l[k]? = some x) (hy : m[k]? = some y) : x.1 = y.1 := by
  have h1 : (l.map (·.1))[k]? = some x.1 := by rw [List.getElem?_map, hx]; rfl
  have h2 : (m.map (·.1))[k]? = some y.1 := by rw [List.getElem?_map, hy]; rfl
  rw [h, h2] at h1
  exact (Option.some.inj h1).symm

set_option maxRecDepth 100000 in
set_option maxHeartbeats 8000000 in
theorem PacketAll_s (s : ByteArray) (w : World) (hs : s.size ≤ 1048576) (hH : EnvH w) (hE : EnvU w) :
    Calls Tryz.prog 4 #[.string s] w fun e w' => e = .returned (.bool true) ∧ Below w.heap.size w w' := by
  have HE := hd hE; have HH := hd hH
  clear hE hH
  have hc1 := fun W => packAll_c s W hs
  have hc2 := fun W => refAll_c s W hs
  have hcnt : ∀ (xs : List PacV), xs.map (·.1) = (paAllB (sB s)).1 → xs.length ≤ 1048576 := fun xs h => by
    have h1 := paAllB_len (sB s)
    rw [← h, List.length_map, sB_lenP] at h1
    omega
  generalize paAllB (sB s) = R at *
  have HC1 := hd hc1; have HC2 := hd hc2; have HN := hd hcnt
  clear hc1 hc2 hcnt
  obtain ⟨L, n, E⟩ := R
  go_enter Tryz.func4, Tryz.ntmps4
  go_wp2_with fail
  refine (HC1.out _ HH.out HE.out).mono ?_
  rintro e w1 ⟨v1, xs, rfl, ho1, hx1, hb1⟩
  simp only at hx1
  obtain ⟨xa, xc, rfl⟩ := Owns.slice ho1.row
  have hxl := HN.out xs hx1
  have HO1 := hd ho1; have HX1 := hd hx1
  clear ho1 hx1
  go_wp2_with fail
  refine (HC2.out _).mono ?_
  rintro e w2 ⟨v2, ys, rfl, ho2, hy2, hb2⟩
  simp only at hy2
  obtain ⟨ya, yc, rfl⟩ := Owns.slice ho2.row
  have hlen : ys.length = xs.length := by have h1 := congrArg List.length (HX1.out.trans hy2.symm); simpa using h1.symm
  have HXY := hd (HX1.out.trans hy2.symm)
  have HOX := hd (HO1.out.kept hb2 (Nat.le_refl _)); have HOY := hd ho2
  have B2 := Below.up hb1 hb2
  clear ho2 hy2
  rw [hlen]
  go_wp2_with fail
  go_loopw [9] (fun i w' => ∃ j : Nat, i = .int .i64 j ∧ j ≤ xs.length ∧ Below w2.heap.size w2 w') (fun i _ => match i with | .int _ m => xs.length - m.toNat | _ => 0)
  case atStart => exact ⟨0, rfl, by omega, Below.refl _ _⟩
  case round =>
    obtain ⟨j, rfl, hj, hb3⟩ := hrel
    have hz3 := hb3.size
    have B3 := B2.trans (hb3.mono B2.size)
    by_cases hj1 : j < xs.length
    · obtain ⟨x, hx⟩ : ∃ x, xs[j]? = some x := ⟨_, List.getElem?_eq_getElem hj1⟩
      obtain ⟨y, hy⟩ : ∃ y, ys[j]? = some y := ⟨_, List.getElem?_eq_getElem (by rw [hlen]; exact hj1)⟩
      have hxy := map_atA HXY.out hx hy
      obtain ⟨x1, xf, xc'⟩ := x
      obtain ⟨y1, yf, yc'⟩ := y
      simp only at hxy
      subst hxy
      obtain ⟨bx, ox, rfl, hlx, hrx⟩ := prow_at HOX.out.rd hx
      obtain ⟨b_y, oy, rfl, hly, hry⟩ := prow_at (n := ys.length) HOY.out.rd hy
      have hrdx := (HOX.out.at hx).below hb3 (Nat.le_refl _)
      have hrdy := (HOY.out.at hy).below hb3 (Nat.le_refl _)
      simp only at hrdx hrdy
      have D1 := rangeAt_drewA (rangeAt_keep hrx hb3 hlx)
      have D2 := rangeAt_drewA (rangeAt_keep hry hb3 hly)
      have HRX := hd hrdx; have HRY := hd hrdy
      clear hx hy hrx hry hrdx hrdy
      have BD := (Below.refl wr.heap.size wr).drew
      go_wp2_with fail
      refine wp_region_M (fun W => W.rangeAt bx (ox + j * 24) (PacV.cells (x1, xf, xc')) ∧ W.rangeAt b_y (oy + j * 24) (PacV.cells (x1, yf, yc'))) 9 [(0, false), (1, false), (2, false), (3, false), (4, false), (5, false), (6, false), (7, false), (8, true), (9, true)] (by kernel_rfl) (by kernel_rfl) (fun _ _ _ _ h => h) ⟨D1, D2⟩ ?_
      have zd : wr.drew.heap.size = wr.heap.size := rfl
      generalize wr.drew = w4 at *
      apply wpM_still (by rfl) (by rfl)
      · intro W hC
        go_simp
        rfl
      go_simp
      apply wpM_still (by rfl) (by rfl)
      · intro W hC
        go_simp
        rfl
      go_simp
      apply wpM_still (by rfl) (by rfl)
      · intro W hC
        go_simp
        rfl
      go_simp
      apply wpM_still (by rfl) (by rfl)
      · intro W hC
        exact still_loadAt _ _ rfl bx (ox + j * 24) rfl _ _ hC.1 Tryz.underlying56 rfl (Pac.info _ _ _)
      go_simp
      apply wpM_still (by rfl) (by rfl)
      · intro W hC
        go_simp
        rfl
      go_simp
      apply wpM_still (by rfl) (by rfl)
      · intro W hC
        go_simp
        rfl
      go_simp
      apply wpM_still (by rfl) (by rfl)
      · intro W hC
        go_simp
        rfl
      go_simp
      apply wpM_still (by rfl) (by rfl)
      · intro W hC
        exact still_loadAt _ _ rfl b_y (oy + j * 24) rfl _ _ hC.2 Tryz.underlying56 rfl (Pac.info _ _ _)
      go_simp
      apply wpM_move (by rfl) (by rfl)
      intro K hK
      go_simp
      refine (refSame_c x1 x1 xf xc' yf yc' _ (HRX.out.below BD (Nat.le_refl _)) (HRY.out.below BD (Nat.le_refl _))).mono ?_
      rintro e w5 ⟨rfl, hb5⟩
      rw [decide_eq_true rfl]
      go_simp
      have hz5 := hb5.size
      refine hK _ _ (fun _ => ⟨rangeAt_keep D1 hb5 (by omega), rangeAt_keep D2 hb5 (by omega)⟩) ?_
      clear hK K
      replace BD := BD.trans (hb5.mono BD.size)
      apply wpM_move (by rfl) (by rfl)
      intro K hK
      go_simp
      refine hK _ _ (fun h => absurd h (by decide)) ?_
      clear hK K
      refine wpM_nil ?_
      go_wp2_with fail
      go_roundw
      case rel => exact ⟨j + 1, by congr 1, by omega, hb3.trans (BD.mono hz3)⟩
      case measure => simp; omega
    · have hje : j = xs.length := by omega
      subst hje
      go_wp2_with fail
      refine (awake16_c _ (HH.out.below B3 (Nat.le_refl _)) (HE.out.below B3)).mono ?_
      rintro e w9 ⟨rfl, hb9⟩
      go_wp2_with fail
      go_ret
      exact ⟨rfl, Below.up B3 hb9⟩
end Go.Proofs.YtclicjokgfiegaaGreatDoor
