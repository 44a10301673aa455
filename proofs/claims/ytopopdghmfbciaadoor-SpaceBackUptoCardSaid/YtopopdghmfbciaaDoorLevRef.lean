/- Levels of texts: the reference: the walks. -/
import Derived.Test.YtopopdghmfbciaaDoorLevFilter
namespace Go.Proofs.YtopopdghmfbciaaDoor
open Go.RowKit
set_option linter.unusedVariables false
set_option linter.unusedSimpArgs false

theorem at_sOf (l : List UInt8) (k : Nat) (hk : k < l.length) (W : World) : (Instr.index 9 (.string (sOf l)) (.int .i64 (k : Int))).run Tryd.prog W = .ok (.int .u8 (bN l k)) W := run_at (sOf l) k k rfl (by rw [sOf_sizeL]; exact hk) W
theorem sl_mid (l : List UInt8) (i j : Nat) (hij : i ≤ j) (hj : j ≤ l.length) (hl : l.length ≤ 9223372036854775000) (W : World) : (Instr.slice 9 (.string (sOf l)) (some (.int .i64 i)) (some (.int .i64 j)) none).run Tryd.prog W = .ok (.string (sOf ((l.drop i).take (j - i)))) W := by
  have hs := sOf_size l
  rw [run_slice_string W 9 (sOf l) .i64 .i64 i j Tryd.underlying9 (by omega) (by omega) (by omega)]
  have : (sOf l).extract (i : Int).toNat (j : Int).toNat = sOf ((l.drop i).take (j - i)) := by
    have h : sB ((sOf l).extract i j) = (l.drop i).take (j - i) := by simp [sB, sOf]
    have e : ∀ t : ByteArray, sOf (sB t) = t := fun t => by cases t; simp [sOf, sB]
    rw [Int.toNat_natCast, Int.toNat_natCast, ← e ((sOf l).extract i j), h]
  rw [this]

set_option maxRecDepth 100000 in
set_option maxHeartbeats 1000000 in
theorem refWild_c (l : List UInt8) (w : World) (hs : l.length ≤ 9223372036854775000) : Calls Tryd.prog 58 #[.string (sOf l)] w fun e w' => e = .returned (.bool (wildL l)) ∧ w = w' := by
  obtain ⟨r, hr⟩ : ∃ r, wildL l = r := ⟨_, rfl⟩
  rw [hr]
  have hsz := sOf_sizeL l
  go_enter Tryd.func58, Tryd.ntmps58
  go_wp2_with fail
  go_loopw [3] (fun n w' => ∃ k : Nat, n = .int .i64 k ∧ k ≤ l.length ∧ w = w' ∧ wildL (l.drop k) = r) (fun n _ => leftL l.length n)
  case atStart => exact ⟨0, rfl, by omega, rfl, by simpa using hr⟩
  case round =>
    obtain ⟨k, rfl, hk, rfl, hc⟩ := hrel
    by_cases hks : k < l.length
    · have hx : ∀ W : World, (Instr.index 9 (.string (sOf l)) (.int .i64 (k : Int))).run Tryd.prog W = .ok (.int .u8 (bN l k)) W := at_sOf l k hks
      have hb0 := bN_lt l k
      have hit : (bN l k = 43 ∨ bN l k = 35) → wildL (l.drop k) = true := wildL_hit hks
      have miss : (bN l k ≠ 43 ∧ bN l k ≠ 35) → wildL (l.drop k) = wildL (l.drop (k + 1)) := fun h => wildL_miss (by omega) (fun j hj => by
        match j, hj with
        | 0, _ => rw [Nat.add_zero]; exact h)
      generalize bN l k = x at *
      by_cases hr0 : x = 43 ∨ x = 35
      · rw [hit hr0] at hc
        subst hc
        clear hit miss
        rcases hr0 with rfl | rfl
        all_goals
          go_wp2_with fail
          go_ret
          exact ⟨rfl, rfl⟩
      · rw [miss (by omega)] at hc
        have hr0b : ((x : Int) == 43) = false := by simp; omega
        have hr1b : ((x : Int) == 35) = false := by simp; omega
        clear hit miss
        go_wp2_with fail
        go_roundw
        case rel => exact ⟨k + 1, by congr 1, by omega, trivial, hc⟩
        case measure => simp [leftL]; omega
    · have : k = l.length := by omega
      subst this
      rw [List.drop_of_length_le (Nat.le_refl _)] at hc
      have hc2 : false = r := hc
      subst hc2
      go_wp2_with fail
      go_ret
      exact ⟨rfl, rfl⟩

structure RefS (l : List UInt8) (w : World) (p : List (List UInt8)) (i k : Nat) (v : Value) (w' : World) : Prop where
  own : OwnL w.heap.size w' v p
  below : Below w.heap.size w w'
  eq : lSplit l = p ++ lSplit (l.drop i)
  ik : i ≤ k
  len : p.length ≤ k
  no : ∀ j, i ≤ j → j < k → bN l j ≠ 47

set_option maxRecDepth 100000 in
set_option maxHeartbeats 4000000 in
theorem refSplit_c (l : List UInt8) (w : World) (hs : l.length ≤ 100000000) : Calls Tryd.prog 29 #[.string (sOf l)] w (GivesL w (lSplit l)) := by
  have hsz := sOf_sizeL l
  go_enter Tryd.func29, Tryd.ntmps29
  go_wp2_with fail
  go_loopw [3, 4, 5] (fun o f n w' => ∃ (p : List (List UInt8)) (i k : Nat), f = .int .i64 i ∧ n = .int .i64 k ∧ k ≤ l.length ∧ RefS l w p i k o w') (fun _ _ n _ => leftL l.length n)
  case atStart => exact ⟨[], 0, 0, rfl, rfl, by omega, ⟨OwnL.nil _ _, Below.refl _ _, by simp, by omega, by simp, fun j h1 h2 => by omega⟩⟩
  case round =>
    obtain ⟨p, i, k, rfl, rfl, hk, R⟩ := hrel
    obtain ⟨va, vc, rfl⟩ := R.own.ls.slice
    have hik := R.ik; have hpl := R.len
    have hO := R.own
    have hBs := R.below.size
    have HR := hd R; clear R
    by_cases hks : k < l.length
    · have hx : ∀ W : World, (Instr.index 9 (.string (sOf l)) (.int .i64 (k : Int))).run Tryd.prog W = .ok (.int .u8 (bN l k)) W := at_sOf l k hks
      have hb0 := bN_lt l k
      obtain ⟨x, hxe⟩ : ∃ x, bN l k = x := ⟨_, rfl⟩
      rw [hxe] at hx hb0
      have HX := hd hxe; clear hxe
      by_cases h47 : x = 47
      · subst h47
        have hsl := fun W => sl_mid l i k hik (by omega) (by omega) W
        have hhit := lSplit_hit (k - i) (l.drop i) (by simp; omega) (fun j hj => by rw [bN_drop]; exact HR.out.no _ (by omega) (by omega)) (by rw [bN_drop, show i + (k - i) = k by omega]; exact HX.out)
        rw [List.drop_drop, show i + (k - i + 1) = k + 1 by omega] at hhit
        have HH := hd hhit; clear hhit
        go_wp2_with (at_builtin; refine wp_appL rfl _ _ rfl w.heap.size _ p rfl hO ((l.drop i).take (k - i)) rfl (by omega) hBs ?_; intro v4 w4 ho4 hb4)
        go_roundw
        case rel => exact ⟨p ++ [(l.drop i).take (k - i)], k + 1, k + 1, by congr 1, by congr 1, by omega, ⟨ho4, HR.out.below.trans hb4, by rw [HR.out.eq, HH.out]; simp, by omega, by simp; omega, fun j h1 h2 => by omega⟩⟩
        case measure => simp [leftL]; omega
      · have hr0b : ((x : Int) == 47) = false := by simp; omega
        have HO := hd hO; clear hO
        go_wp2_with fail
        go_roundw
        case rel =>
          refine ⟨p, i, k + 1, rfl, by congr 1, by omega, ⟨HO.out, HR.out.below, HR.out.eq, by omega, by omega, fun j h1 h2 => ?_⟩⟩
          by_cases hj : j = k
          · subst hj; rw [HX.out]; exact h47
          · exact HR.out.no j h1 (by omega)
        case measure => simp [leftL]; omega
    · have : k = l.length := by omega
      subst this
      have hsl := fun W => sl_from l i (by omega) (by omega) W
      have hnone := lSplit_none (l.drop i) (fun j hj => by rw [bN_drop]; exact HR.out.no _ (by omega) (by simp at hj; omega))
      have HN := hd hnone; clear hnone
      go_wp2_with (at_builtin; refine wp_appL rfl _ _ rfl w.heap.size _ p rfl hO (l.drop i) rfl (by omega) hBs ?_; intro v4 w4 ho4 hb4)
      go_ret
      exact ⟨_, rfl, by rw [HR.out.eq, HN.out]; exact ho4, HR.out.below.trans hb4⟩

set_option maxRecDepth 100000 in
set_option maxHeartbeats 1000000 in
theorem refSized_c (l : List UInt8) (w : World) (hs : l.length ≤ 9223372036854775000) : Calls Tryd.prog 57 #[.string (sOf l)] w fun e w' => e = .returned (.bool (lSized l)) ∧ Below w.heap.size w w' := by
  have hsz := sOf_sizeL l
  by_cases h0 : l = []
  · subst h0
    have hn : lSized [] = false := rfl
    rw [hn]
    have hz : (sOf []).size = 0 := hsz
    clear hsz hn
    go_enter Tryd.func57, Tryd.ntmps57
    go_wp2_with fail
    go_ret
    exact ⟨rfl, Below.refl _ _⟩
  have h1 : 1 ≤ l.length := List.length_pos_iff.2 h0
  by_cases h96 : 96 < l.length
  · have hn : lSized l = false := by unfold lSized; rw [decide_eq_false (by omega)]; simp
    rw [hn]
    go_enter Tryd.func57, Tryd.ntmps57
    go_wp2_with fail
    go_ret
    exact ⟨rfl, Below.refl _ _⟩
  obtain ⟨r, hr⟩ : ∃ r, lSized l = r := ⟨_, rfl⟩
  rw [hr]
  have hr2 : (uRight l && decide ((lSplit l).length ≤ 12)) = r := by
    rw [← hr]; unfold lSized
    have e0 : l.isEmpty = false := by simpa using h0
    rw [e0, decide_eq_true (by omega : l.length ≤ 96)]
    simp
  have HR := hd hr2
  clear hr hr2
  go_enter Tryd.func57, Tryd.ntmps57
  go_wp2_with fail
  refine (refRight_c (sOf l) _ (by omega)).mono ?_
  rw [sB_sOfL]
  rintro e w1 ⟨rfl, hb1⟩
  cases hu : uRight l
  · have hr := HR.out; rw [hu] at hr
    have hr3 : false = r := hr
    subst hr3
    clear HR hr hu
    go_wp2_with fail
    go_ret
    exact ⟨rfl, hb1⟩
  · have hr := HR.out; rw [hu, Bool.true_and] at hr
    have HR2 := hd hr
    clear HR hr hu
    go_wp2_with fail
    refine (refSplit_c l _ (by omega)).mono ?_
    rintro e w2 ⟨v2, rfl, ho2, hb2⟩
    obtain ⟨a2, c2, rfl⟩ := ho2.ls.slice
    have hb := Below.up hb1 hb2
    clear ho2
    go_wp2_with fail
    go_ret
    exact ⟨ret_bool (by rw [← HR2.out, Bool.eq_iff_iff]; simp; omega), hb⟩

set_option maxRecDepth 100000 in
set_option maxHeartbeats 1000000 in
theorem refName_c (l : List UInt8) (w : World) (hs : l.length ≤ 9223372036854775000) : Calls Tryd.prog 30 #[.string (sOf l)] w fun e w' => e = .returned (.bool (lName l)) ∧ Below w.heap.size w w' := by
  obtain ⟨r, hr⟩ : ∃ r, lName l = r := ⟨_, rfl⟩
  rw [hr]
  unfold lName at hr
  have HR := hd hr; clear hr
  go_enter Tryd.func30, Tryd.ntmps30
  go_wp2_with fail
  refine (refSized_c l _ hs).mono ?_
  rintro e w1 ⟨rfl, hb1⟩
  cases hu : lSized l
  · have hr := HR.out; rw [hu, Bool.false_and] at hr; subst hr
    go_wp2_with fail
    go_ret
    exact ⟨rfl, hb1⟩
  · have hr := HR.out; rw [hu, Bool.true_and] at hr
    have HR2 := hd hr; clear HR hr hu
    go_wp2_with fail
    refine (refWild_c l _ hs).mono ?_
    rintro e w2 ⟨rfl, rfl⟩
    go_wp2_with fail
    go_ret
    exact ⟨ret_bool HR2.out, hb1⟩

set_option maxRecDepth 100000 in
set_option maxHeartbeats 1000000 in
theorem refHidden_c (l : List UInt8) (w : World) (hs : l.length ≤ 9223372036854775000) : Calls Tryd.prog 32 #[.string (sOf l)] w fun e w' => e = .returned (.bool (lHidden l)) ∧ w = w' := by
  have hsz := sOf_sizeL l
  cases l with
  | nil =>
    have hz : (sOf []).size = 0 := hsz
    rw [show lHidden [] = false from rfl]
    clear hsz
    go_enter Tryd.func32, Tryd.ntmps32
    go_wp2_with fail
    go_ret
    exact ⟨rfl, rfl⟩
  | cons b t =>
    have hx : ∀ W : World, (Instr.index 9 (.string (sOf (b :: t))) (.int .i64 0)).run Tryd.prog W = .ok (.int .u8 (bN (b :: t) 0)) W := at_sOf (b :: t) 0 (by simp)
    have hh : lHidden (b :: t) = decide (bN (b :: t) 0 = 36) := by unfold lHidden; simp
    have hpos : (0 : Int) < ((b :: t).length : Int) := by simp only [List.length_cons]; omega
    have hb0 := bN_lt (b :: t) 0
    rw [hh]
    generalize bN (b :: t) 0 = x at *
    generalize (b :: t) = l at *
    go_enter Tryd.func32, Tryd.ntmps32
    go_wp2_with fail
    go_ret
    exact ⟨ret_bool (by rw [Bool.eq_iff_iff]; simp; omega), rfl⟩
set_option maxRecDepth 100000 in
set_option maxHeartbeats 4000000 in
theorem refFilter_c (l : List UInt8) (w : World) (hs : l.length ≤ 9223372036854775000) : Calls Tryd.prog 31 #[.string (sOf l)] w fun e w' => e = .returned (.bool (lFilter l)) ∧ Below w.heap.size w w' := by
  obtain ⟨r, hr⟩ : ∃ r, lFilter l = r := ⟨_, rfl⟩
  rw [hr]
  unfold lFilter at hr
  go_enter Tryd.func31, Tryd.ntmps31
  go_wp2_with fail
  refine (refSized_c l _ hs).mono ?_
  rintro e w1 ⟨rfl, hb1⟩
  cases hu : lSized l
  · go_wp2_with fail
    go_ret
    exact ⟨ret_bool (by rw [← hr, hu]; rfl), hb1⟩
  rw [hu, Bool.true_and] at hr
  obtain ⟨hl0, hl96, hl12⟩ := lSized_len hu
  go_wp2_with fail
  refine (refSplit_c l _ (by omega)).mono ?_
  rintro e w2 ⟨v2, rfl, ho2, hb2⟩
  have hlx := fun x (hx : x ∈ lSplit l) => (lSplit_parts l x hx).2
  have HLX := hd hlx
  have hbw := Below.up hb1 hb2
  clear hu
  generalize lSplit l = p at *
  have HL2 := hd ho2.ls
  obtain ⟨a2, c2, rfl⟩ := ho2.ls.slice
  clear ho2 hb1 hb2 hlx
  go_wp2_with fail
  go_loopw [4] (fun n w' => ∃ k : Nat, n = .int .i64 k ∧ k ≤ p.length ∧ Below w2.heap.size w2 w' ∧ okLevels (p.drop k) = r) (fun n _ => leftL p.length n)
  case atStart => exact ⟨0, rfl, by omega, Below.refl _ _, hr⟩
  case round =>
    obtain ⟨k, rfl, hk, hB, hok⟩ := hrel
    by_cases hkl : k < p.length
    · obtain ⟨x, hx⟩ : ∃ x, p[k]? = some x := ⟨_, List.getElem?_eq_getElem hkl⟩
      obtain ⟨b, o, rfl, hbl, hc⟩ := HL2.out.at hx
      replace hc := (bcell hB _ _ hbl).trans hc
      have hxl := HLX.out x (List.mem_of_getElem? hx)
      rw [okLevels_at hx] at hok
      have HOK := hd hok
      have htl := toList_sOf x
      clear hok hx hr
      have HL := hd hxl; clear hxl
      have HB := hd hB; have HHB := hd hbw
      go_wp2_with fail
      refine (refWild_c x _ (by have := HL.out; omega)).mono ?_
      rintro e w3 ⟨rfl, rfl⟩
      cases ew : wildL x
      · go_wp2_with fail
        go_roundw
        case rel => exact ⟨k + 1, by congr 1, by omega, HB.out, by have := HOK.out; rw [ew] at this; simpa using this⟩
        case measure => simp [leftL]; omega
      · cases e43 : (x == [43])
        · have e43n : (x != [43]) = true := by simp [bne, e43]
          cases e35 : (x == [35])
          · have e35n : (x != [35]) = true := by simp [bne, e35]
            have hrf : r = false := by have := HOK.out; rw [e43, ew, e35] at this; simpa using this.symm
            go_wp2_with fail
            go_ret
            exact ⟨ret_bool hrf.symm, hbw.trans (hB.mono hbw.size)⟩
          · have e35n : (x != [35]) = false := by simp [bne, e35]
            by_cases hlast : k + 1 = p.length
            · have hkb : ¬ (k : Int) < (p.length : Int) - 1 := by omega
              go_wp2_with fail
              go_roundw
              case rel => exact ⟨k + 1, by congr 1, by omega, HB.out, by have := HOK.out; rw [e35, decide_eq_true hlast] at this; simpa using this⟩
              case measure => simp [leftL]; omega
            · have hkb : (k : Int) < (p.length : Int) - 1 := by omega
              have hrf : r = false := by have := HOK.out; rw [e43, ew, e35, decide_eq_false hlast] at this; simpa using this.symm
              go_wp2_with fail
              go_ret
              exact ⟨ret_bool hrf.symm, hbw.trans (hB.mono hbw.size)⟩
        · have e43n : (x != [43]) = false := by simp [bne, e43]
          go_wp2_with fail
          go_roundw
          case rel => exact ⟨k + 1, by congr 1, by omega, HB.out, by have := HOK.out; rw [e43] at this; simpa using this⟩
          case measure => simp [leftL]; omega
    · have hke : k = p.length := by omega
      subst hke
      rw [List.drop_of_length_le (Nat.le_refl _)] at hok
      have hok2 : true = r := hok
      subst hok2
      go_wp2_with fail
      go_ret
      exact ⟨rfl, hbw.trans (hB.mono hbw.size)⟩
end Go.Proofs.YtopopdghmfbciaaDoor
