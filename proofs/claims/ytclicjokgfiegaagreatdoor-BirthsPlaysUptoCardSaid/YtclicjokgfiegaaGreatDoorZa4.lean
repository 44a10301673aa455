/- A bundle of texts (merged for the limit on files): LevRef, LevLimits, ShelfJ, LevJoin, SpPlain, RegionT, Sp, MatRef. -/
import Derived.Test.YtclicjokgfiegaaGreatDoorZa3
import Derived.Shelf.Strings.OnBuilder
import Derived.Test.YtclicjokgfiegaaGreatDoorProg
import Derived.Lib.Join
import Derived.Lib.IndexLaws
import Derived.Laws.EntriesVeiled
import Derived.Test.YtclicjokgfiegaaGreatDoorZa7
import Derived.BigQuiet
/- Levels of texts: the reference: the walks. -/
namespace Go.Proofs.YtclicjokgfiegaaGreatDoor
open Go.RowKit
set_option linter.unusedVariables false
set_option linter.unusedSimpArgs false

theorem at_sOf (l : List UInt8) (k : Nat) (hk : k < l.length) (W : World) : (Instr.index 9 (.string (sOf l)) (.int .i64 (k : Int))).run Tryz.prog W = .ok (.int .u8 (bN l k)) W := run_at (sOf l) k k rfl (by rw [sOf_sizeL]; exact hk) W
theorem sl_mid (l : List UInt8) (i j : Nat) (hij : i ≤ j) (hj : j ≤ l.length) (hl : l.length ≤ 9223372036854775000) (W : World) : (Instr.slice 9 (.string (sOf l)) (some (.int .i64 i)) (some (.int .i64 j)) none).run Tryz.prog W = .ok (.string (sOf ((l.drop i).take (j - i)))) W := by
  have hs := sOf_size l
  rw [run_slice_string W 9 (sOf l) .i64 .i64 i j Tryz.underlying9 (by omega) (by omega) (by omega)]
  have : (sOf l).extract (i : Int).toNat (j : Int).toNat = sOf ((l.drop i).take (j - i)) := by
    have h : sB ((sOf l).extract i j) = (l.drop i).take (j - i) := by simp [sB, sOf]
    have e : ∀ t : ByteArray, sOf (sB t) = t := fun t => by cases t; simp [sOf, sB]
    rw [Int.toNat_natCast, Int.toNat_natCast, ← e ((sOf l).extract i j), h]
  rw [this]

set_option maxRecDepth 100000 in
set_option maxHeartbeats 1000000 in
theorem refWild_c (l : List UInt8) (w : World) (hs : l.length ≤ 9223372036854775000) : Calls Tryz.prog 87 #[.string (sOf l)] w fun e w' => e = .returned (.bool (wildL l)) ∧ w = w' := by
  obtain ⟨r, hr⟩ : ∃ r, wildL l = r := ⟨_, rfl⟩
  rw [hr]
  have hsz := sOf_sizeL l
  go_enter Tryz.func87, Tryz.ntmps87
  go_wp2_with fail
  go_loopw [3] (fun n w' => ∃ k : Nat, n = .int .i64 k ∧ k ≤ l.length ∧ w = w' ∧ wildL (l.drop k) = r) (fun n _ => leftL l.length n)
  case atStart => exact ⟨0, rfl, by omega, rfl, by simpa using hr⟩
  case round =>
    obtain ⟨k, rfl, hk, rfl, hc⟩ := hrel
    by_cases hks : k < l.length
    · have hx : ∀ W : World, (Instr.index 9 (.string (sOf l)) (.int .i64 (k : Int))).run Tryz.prog W = .ok (.int .u8 (bN l k)) W := at_sOf l k hks
      have hb0 := bN_lt l k
      have hit : (bN l k = 43 ∨ bN l k = 35) → wildL (l.drop k) = true := wildL_hit hks
      have miss : (bN l k ≠ 43 ∧ bN l k ≠ 35) → wildL (l.drop k) = wildL (l.drop (k + 1)) := fun h => wildL_miss (by omega) (fun j hj => by
        match j, hj with
        | 0, _ => rw [Nat.add_zero]; exact h)
      generalize bN l k = x at *
      by_cases hr0 : x = 43 ∨ x = 35
      · rw [hit hr0] at hc
        subst hc
        clear hit miss
        rcases hr0 with rfl | rfl
        all_goals
          go_wp2_with fail
          go_ret
          exact ⟨rfl, rfl⟩
      · rw [miss (by omega)] at hc
        have hr0b : ((x : Int) == 43) = false := by simp; omega
        have hr1b : ((x : Int) == 35) = false := by simp; omega
        clear hit miss
        go_wp2_with fail
        go_roundw
        case rel => exact ⟨k + 1, by congr 1, by omega, trivial, hc⟩
        case measure => simp [leftL]; omega
    · have : k = l.length := by omega
      subst this
      rw [List.drop_of_length_le (Nat.le_refl _)] at hc
      have hc2 : false = r := hc
      subst hc2
      go_wp2_with fail
      go_ret
      exact ⟨rfl, rfl⟩

structure RefS (l : List UInt8) (w : World) (p : List (List UInt8)) (i k : Nat) (v : Value) (w' : World) : Prop where
  own : OwnL w.heap.size w' v p
  below : Below w.heap.size w w'
  eq : lSplit l = p ++ lSplit (l.drop i)
  ik : i ≤ k
  len : p.length ≤ k
  no : ∀ j, i ≤ j → j < k → bN l j ≠ 47

set_option maxRecDepth 100000 in
set_option maxHeartbeats 4000000 in
theorem refSplit_c (l : List UInt8) (w : World) (hs : l.length ≤ 100000000) : Calls Tryz.prog 65 #[.string (sOf l)] w (GivesLv w (lSplit l)) := by
  have hsz := sOf_sizeL l
  go_enter Tryz.func65, Tryz.ntmps65
  go_wp2_with fail
  go_loopw [3, 4, 5] (fun o f n w' => ∃ (p : List (List UInt8)) (i k : Nat), f = .int .i64 i ∧ n = .int .i64 k ∧ k ≤ l.length ∧ RefS l w p i k o w') (fun _ _ n _ => leftL l.length n)
  case atStart => exact ⟨[], 0, 0, rfl, rfl, by omega, ⟨OwnL.nil _ _, Below.refl _ _, by simp, by omega, by simp, fun j h1 h2 => by omega⟩⟩
  case round =>
    obtain ⟨p, i, k, rfl, rfl, hk, R⟩ := hrel
    obtain ⟨va, vc, rfl⟩ := R.own.ls.slice
    have hik := R.ik; have hpl := R.len
    have hO := R.own
    have hBs := R.below.size
    have HR := hd R; clear R
    by_cases hks : k < l.length
    · have hx : ∀ W : World, (Instr.index 9 (.string (sOf l)) (.int .i64 (k : Int))).run Tryz.prog W = .ok (.int .u8 (bN l k)) W := at_sOf l k hks
      have hb0 := bN_lt l k
      obtain ⟨x, hxe⟩ : ∃ x, bN l k = x := ⟨_, rfl⟩
      rw [hxe] at hx hb0
      have HX := hd hxe; clear hxe
      by_cases h47 : x = 47
      · subst h47
        have hsl := fun W => sl_mid l i k hik (by omega) (by omega) W
        have hhit := lSplit_hit (k - i) (l.drop i) (by simp; omega) (fun j hj => by rw [bN_drop]; exact HR.out.no _ (by omega) (by omega)) (by rw [bN_drop, show i + (k - i) = k by omega]; exact HX.out)
        rw [List.drop_drop, show i + (k - i + 1) = k + 1 by omega] at hhit
        have HH := hd hhit; clear hhit
        go_wp2_with (at_builtin; refine wp_appL rfl _ _ rfl w.heap.size _ p rfl hO ((l.drop i).take (k - i)) rfl (by omega) hBs ?_; intro v4 w4 ho4 hb4)
        go_roundw
        case rel => exact ⟨p ++ [(l.drop i).take (k - i)], k + 1, k + 1, by congr 1, by congr 1, by omega, ⟨ho4, HR.out.below.trans hb4, by rw [HR.out.eq, HH.out]; simp, by omega, by simp; omega, fun j h1 h2 => by omega⟩⟩
        case measure => simp [leftL]; omega
      · have hr0b : ((x : Int) == 47) = false := by simp; omega
        have HO := hd hO; clear hO
        go_wp2_with fail
        go_roundw
        case rel =>
          refine ⟨p, i, k + 1, rfl, by congr 1, by omega, ⟨HO.out, HR.out.below, HR.out.eq, by omega, by omega, fun j h1 h2 => ?_⟩⟩
          by_cases hj : j = k
          · subst hj; rw [HX.out]; exact h47
          · exact HR.out.no j h1 (by omega)
        case measure => simp [leftL]; omega
    · have : k = l.length := by omega
      subst this
      have hsl := fun W => sl_from l i (by omega) (by omega) W
      have hnone := lSplit_none (l.drop i) (fun j hj => by rw [bN_drop]; exact HR.out.no _ (by omega) (by simp at hj; omega))
      have HN := hd hnone; clear hnone
      go_wp2_with (at_builtin; refine wp_appL rfl _ _ rfl w.heap.size _ p rfl hO (l.drop i) rfl (by omega) hBs ?_; intro v4 w4 ho4 hb4)
      go_ret
      exact ⟨_, rfl, by rw [HR.out.eq, HN.out]; exact ho4, HR.out.below.trans hb4⟩

set_option maxRecDepth 100000 in
set_option maxHeartbeats 1000000 in
theorem refSized_c (l : List UInt8) (w : World) (hs : l.length ≤ 9223372036854775000) : Calls Tryz.prog 86 #[.string (sOf l)] w fun e w' => e = .returned (.bool (lSized l)) ∧ Below w.heap.size w w' := by
  have hsz := sOf_sizeL l
  by_cases h0 : l = []
  · subst h0
    have hn : lSized [] = false := rfl
    rw [hn]
    have hz : (sOf []).size = 0 := hsz
    clear hsz hn
    go_enter Tryz.func86, Tryz.ntmps86
    go_wp2_with fail
    go_ret
    exact ⟨rfl, Below.refl _ _⟩
  have h1 : 1 ≤ l.length := List.length_pos_iff.2 h0
  by_cases h96 : 96 < l.length
  · have hn : lSized l = false := by unfold lSized; rw [decide_eq_false (by omega)]; simp
    rw [hn]
    go_enter Tryz.func86, Tryz.ntmps86
    go_wp2_with fail
    go_ret
    exact ⟨rfl, Below.refl _ _⟩
  obtain ⟨r, hr⟩ : ∃ r, lSized l = r := ⟨_, rfl⟩
  rw [hr]
  have hr2 : (uRight l && decide ((lSplit l).length ≤ 12)) = r := by
    rw [← hr]; unfold lSized
    have e0 : l.isEmpty = false := by simpa using h0
    rw [e0, decide_eq_true (by omega : l.length ≤ 96)]
    simp
  have HR := hd hr2
  clear hr hr2
  go_enter Tryz.func86, Tryz.ntmps86
  go_wp2_with fail
  refine (refRight_c (sOf l) _ (by omega)).mono ?_
  rw [sB_sOfL]
  rintro e w1 ⟨rfl, hb1⟩
  cases hu : uRight l
  · have hr := HR.out; rw [hu] at hr
    have hr3 : false = r := hr
    subst hr3
    clear HR hr hu
    go_wp2_with fail
    go_ret
    exact ⟨rfl, hb1⟩
  · have hr := HR.out; rw [hu, Bool.true_and] at hr
    have HR2 := hd hr
    clear HR hr hu
    go_wp2_with fail
    refine (refSplit_c l _ (by omega)).mono ?_
    rintro e w2 ⟨v2, rfl, ho2, hb2⟩
    obtain ⟨a2, c2, rfl⟩ := ho2.ls.slice
    have hb := Below.up hb1 hb2
    clear ho2
    go_wp2_with fail
    go_ret
    exact ⟨ret_bool (by rw [← HR2.out, Bool.eq_iff_iff]; simp; omega), hb⟩

set_option maxRecDepth 100000 in
set_option maxHeartbeats 1000000 in
theorem refName_c (l : List UInt8) (w : World) (hs : l.length ≤ 9223372036854775000) : Calls Tryz.prog 62 #[.string (sOf l)] w fun e w' => e = .returned (.bool (lName l)) ∧ Below w.heap.size w w' := by
  obtain ⟨r, hr⟩ : ∃ r, lName l = r := ⟨_, rfl⟩
  rw [hr]
  unfold lName at hr
  have HR := hd hr; clear hr
  go_enter Tryz.func62, Tryz.ntmps62
  go_wp2_with fail
  refine (refSized_c l _ hs).mono ?_
  rintro e w1 ⟨rfl, hb1⟩
  cases hu : lSized l
  · have hr := HR.out; rw [hu, Bool.false_and] at hr; subst hr
    go_wp2_with fail
    go_ret
    exact ⟨rfl, hb1⟩
  · have hr := HR.out; rw [hu, Bool.true_and] at hr
    have HR2 := hd hr; clear HR hr hu
    go_wp2_with fail
    refine (refWild_c l _ hs).mono ?_
    rintro e w2 ⟨rfl, rfl⟩
    go_wp2_with fail
    go_ret
    exact ⟨ret_bool HR2.out, hb1⟩

set_option maxRecDepth 100000 in
set_option maxHeartbeats 4000000 in
theorem refFilter_c (l : List UInt8) (w : World) (hs : l.length ≤ 9223372036854775000) : Calls Tryz.prog 61 #[.string (sOf l)] w fun e w' => e = .returned (.bool (lFilter l)) ∧ Below w.heap.size w w' := by
  obtain ⟨r, hr⟩ : ∃ r, lFilter l = r := ⟨_, rfl⟩
  rw [hr]
  unfold lFilter at hr
  go_enter Tryz.func61, Tryz.ntmps61
  go_wp2_with fail
  refine (refSized_c l _ hs).mono ?_
  rintro e w1 ⟨rfl, hb1⟩
  cases hu : lSized l
  · go_wp2_with fail
    go_ret
    exact ⟨ret_bool (by rw [← hr, hu]; rfl), hb1⟩
  rw [hu, Bool.true_and] at hr
  obtain ⟨hl0, hl96, hl12⟩ := lSized_len hu
  go_wp2_with fail
  refine (refSplit_c l _ (by omega)).mono ?_
  rintro e w2 ⟨v2, rfl, ho2, hb2⟩
  have hlx := fun x (hx : x ∈ lSplit l) => (lSplit_parts l x hx).2
  have HLX := hd hlx
  have hbw := Below.up hb1 hb2
  clear hu
  generalize lSplit l = p at *
  have HL2 := hd ho2.ls
  obtain ⟨a2, c2, rfl⟩ := ho2.ls.slice
  clear ho2 hb1 hb2 hlx
  go_wp2_with fail
  go_loopw [4] (fun n w' => ∃ k : Nat, n = .int .i64 k ∧ k ≤ p.length ∧ Below w2.heap.size w2 w' ∧ okLevels (p.drop k) = r) (fun n _ => leftL p.length n)
  case atStart => exact ⟨0, rfl, by omega, Below.refl _ _, hr⟩
  case round =>
    obtain ⟨k, rfl, hk, hB, hok⟩ := hrel
    by_cases hkl : k < p.length
    · obtain ⟨x, hx⟩ : ∃ x, p[k]? = some x := ⟨_, List.getElem?_eq_getElem hkl⟩
      obtain ⟨b, o, rfl, hbl, hc⟩ := HL2.out.at hx
      replace hc := (bcell hB _ _ hbl).trans hc
      have hxl := HLX.out x (List.mem_of_getElem? hx)
      rw [okLevels_at hx] at hok
      have HOK := hd hok
      have htl := toList_sOf x
      clear hok hx hr
      have HL := hd hxl; clear hxl
      have HB := hd hB; have HHB := hd hbw
      go_wp2_with fail
      refine (refWild_c x _ (by have := HL.out; omega)).mono ?_
      rintro e w3 ⟨rfl, rfl⟩
      cases ew : wildL x
      · go_wp2_with fail
        go_roundw
        case rel => exact ⟨k + 1, by congr 1, by omega, HB.out, by have := HOK.out; rw [ew] at this; simpa using this⟩
        case measure => simp [leftL]; omega
      · cases e43 : (x == [43])
        · have e43n : (x != [43]) = true := by simp [bne, e43]
          cases e35 : (x == [35])
          · have e35n : (x != [35]) = true := by simp [bne, e35]
            have hrf : r = false := by have := HOK.out; rw [e43, ew, e35] at this; simpa using this.symm
            go_wp2_with fail
            go_ret
            exact ⟨ret_bool hrf.symm, hbw.trans (hB.mono hbw.size)⟩
          · have e35n : (x != [35]) = false := by simp [bne, e35]
            by_cases hlast : k + 1 = p.length
            · have hkb : ¬ (k : Int) < (p.length : Int) - 1 := by omega
              go_wp2_with fail
              go_roundw
              case rel => exact ⟨k + 1, by congr 1, by omega, HB.out, by have := HOK.out; rw [e35, decide_eq_true hlast] at this; simpa using this⟩
              case measure => simp [leftL]; omega
            · have hkb : (k : Int) < (p.length : Int) - 1 := by omega
              have hrf : r = false := by have := HOK.out; rw [e43, ew, e35, decide_eq_false hlast] at this; simpa using this.symm
              go_wp2_with fail
              go_ret
              exact ⟨ret_bool hrf.symm, hbw.trans (hB.mono hbw.size)⟩
        · have e43n : (x != [43]) = false := by simp [bne, e43]
          go_wp2_with fail
          go_roundw
          case rel => exact ⟨k + 1, by congr 1, by omega, HB.out, by have := HOK.out; rw [e43] at this; simpa using this⟩
          case measure => simp [leftL]; omega
    · have hke : k = p.length := by omega
      subst hke
      rw [List.drop_of_length_le (Nat.le_refl _)] at hok
      have hok2 : true = r := hok
      subst hok2
      go_wp2_with fail
      go_ret
      exact ⟨rfl, hbw.trans (hB.mono hbw.size)⟩
end Go.Proofs.YtclicjokgfiegaaGreatDoor

/- Levels of texts: awake; so long, so deep: plain facts and the walks. -/
namespace Go.Proofs.YtclicjokgfiegaaGreatDoor
open Go.RowKit
set_option linter.unusedVariables false
set_option linter.unusedSimpArgs false

theorem awk1 : (lSplit [97, 47, 47, 98]).length = 3 := by decide
theorem awk2 : lFilter [97, 47, 43, 47, 35] = true := by decide +kernel
theorem awk3 : lFilter [97, 43] = false := by decide +kernel
theorem awk4 : lName [97] = true := by decide +kernel
/-- a, and so many levels more -/
def dL (k : Nat) : List UInt8 := 97 :: (List.replicate k [47, 97]).flatten
theorem limA : ((List.range 256).all fun n => lName (List.replicate n 97) == decide (1 ≤ n ∧ n ≤ 96) && lFilter (List.replicate n 97) == decide (1 ≤ n ∧ n ≤ 96)) = true := by decide +kernel
theorem limD : ((List.range 20).all fun k => lName (dL k) == decide (1 + k ≤ 12) && lFilter (dL k) == decide (1 + k ≤ 12)) = true := by decide +kernel
theorem limA' {n : Nat} (h : n < 256) : lName (List.replicate n 97) = decide (1 ≤ n ∧ n ≤ 96) ∧ lFilter (List.replicate n 97) = decide (1 ≤ n ∧ n ≤ 96) := by
  have h := (List.all_eq_true.1 limA) n (List.mem_range.2 h)
  rw [Bool.and_eq_true] at h
  exact ⟨eq_of_beq h.1, eq_of_beq h.2⟩
theorem limD' {k : Nat} (h : k < 20) : lName (dL k) = decide (1 + k ≤ 12) ∧ lFilter (dL k) = decide (1 + k ≤ 12) := by
  have h := (List.all_eq_true.1 limD) k (List.mem_range.2 h)
  rw [Bool.and_eq_true] at h
  exact ⟨eq_of_beq h.1, eq_of_beq h.2⟩

theorem sOf_add (A B : List UInt8) : sOf A ++ sOf B = sOf (A ++ B) := by
  have e : ∀ t : ByteArray, sOf (sB t) = t := fun t => by cases t; simp [sOf, sB]
  rw [← e (sOf A ++ sOf B)]
  simp [sB, sOf]
theorem dL_succ (k : Nat) : dL k ++ [47, 97] = dL (k + 1) := by
  unfold dL
  rw [List.replicate_succ', List.flatten_append]
  simp
theorem dL_len (k : Nat) : (dL k).length = 1 + 2 * k := by
  induction k with
  | zero => rfl
  | succ k ih => rw [← dL_succ, List.length_append, ih]; simp; omega
theorem rep_succ (k : Nat) : List.replicate k (97 : UInt8) ++ [97] = List.replicate (k + 1) 97 := by rw [List.replicate_succ']

end Go.Proofs.YtclicjokgfiegaaGreatDoor

/-
  DERIVED: THE SHELF's CONTRACTS AT THIS DUMP, IN PLAIN WORDS (tools/lay-plain.mjs out of 'YtclicjokgfiegaaGreatDoorShelfJT.lean', which tools/lay-shelf.mjs wrote): THE SAME DECLARATIONS UNDER THE SAME NAMES: 'import', 'namespace', 'open', 'def', 'theorem' AND NOTHING ELSE: no command of the shelf's: FOR A HAND-IN. Each laying: the table of numbers ('.._ren') and one theorem, a field a fact of the dump's own or the kernel's comparison; each contract: ONE APPLICATION.
-/
namespace Go.Proofs
open Go.Shelf
def Tryz.lays156_ren : Go.Shelf.Ren := ⟨fun | 156 => 150 | 165 => 178 | 166 => 179 | 169 => 180 | 240 => 197 | 241 => 198 | 276 => 206 | 277 => 207 | n => n, fun | 31 => 111 | 9 => 9 | 3 => 3 | 4 => 4 | 0 => 0 | 20 => 20 | 72 => 203 | 76 => 207 | 70 => 201 | 37 => 79 | 75 => 206 | 127 => 229 | 164 => 237 | 5 => 5 | 80 => 209 | n => n, fun | n => n⟩
theorem Tryz.lays156 : Go.Proofs.Lays.n156 Tryz.prog Tryz.lays156_ren := {
  mixed := by kernel_rfl
  f156 := Tryz.func150.trans (congrArg some (by kernel_rfl))
  f165 := Tryz.func178.trans (congrArg some (by kernel_rfl))
  f166 := Tryz.func179.trans (congrArg some (by kernel_rfl))
  f169 := Tryz.func180.trans (congrArg some (by kernel_rfl))
  f240 := Tryz.func197.trans (congrArg some (by kernel_rfl))
  f241 := Tryz.func198.trans (congrArg some (by kernel_rfl))
  f276 := Tryz.func206.trans (congrArg some (by kernel_rfl))
  f277 := Tryz.func207.trans (congrArg some (by kernel_rfl))
  t0 := Tryz.underlying0
  a0 := Tryz.isAgg0
  z0 := Tryz.sizeOf0
  v0 := Tryz.zeroValue0
  t3 := Tryz.underlying3
  a3 := Tryz.isAgg3
  z3 := Tryz.sizeOf3
  v3 := Tryz.zeroValue3
  t4 := Tryz.underlying4
  a4 := Tryz.isAgg4
  z4 := Tryz.sizeOf4
  v4 := Tryz.zeroValue4
  t9 := Tryz.underlying9
  a9 := Tryz.isAgg9
  z9 := Tryz.sizeOf9
  v9 := Tryz.zeroValue9
  t20 := Tryz.underlying20
  a20 := Tryz.isAgg20
  z20 := Tryz.sizeOf20
  v20 := Tryz.zeroValue20
  t31 := Tryz.underlying111
  a31 := Tryz.isAgg111
  z31 := Tryz.sizeOf111
  v31 := Tryz.zeroValue111
  t37 := Tryz.underlying79
  a37 := Tryz.isAgg79
  z37 := Tryz.sizeOf79
  v37 := Tryz.zeroValue79
  t70 := Tryz.underlying201
  a70 := Tryz.isAgg201
  z70 := Tryz.sizeOf201
  v70 := Tryz.zeroValue201
  t72 := Tryz.underlying203
  a72 := Tryz.isAgg203
  z72 := Tryz.sizeOf203
  v72 := Tryz.zeroValue203
  t75 := Tryz.underlying206
  a75 := Tryz.isAgg206
  z75 := Tryz.sizeOf206
  v75 := Tryz.zeroValue206
  t76 := Tryz.underlying207
  a76 := Tryz.isAgg207
  z76 := Tryz.sizeOf207
  v76 := Tryz.zeroValue207
  t127 := Tryz.underlying229
  a127 := Tryz.isAgg229
  z127 := Tryz.sizeOf229
  v127 := Tryz.zeroValue229
  t164 := Tryz.underlying237
  a164 := Tryz.isAgg237
  z164 := Tryz.sizeOf237
  v164 := Tryz.zeroValue237 }
theorem Tryz.Builder_Extra_156 : Builder.Extra Tryz.prog Tryz.lays156_ren := {
  sizeBuilder := by kernel_rfl
  liesBuilder := by kernel_rfl
  t5 := Tryz.underlying5
  a5 := Tryz.isAgg5
  z5 := Tryz.sizeOf5
  v5 := Tryz.zeroValue5
  infoByte := by kernel_rfl
  cellsByte := by kernel_rfl
  sizeByte := by kernel_rfl
  neB5 := by decide }
open Go.RowKit in
/-- No element: the empty string; the world is as it was. (Whatever the slice's address and capacity: a nil slice too.) (LAID: no walk: one application.) -/
theorem Tryz.strings_Join_none (a : Option Addr) (c : Nat) (sep : ByteArray) (w : World) :
    Calls Tryz.prog 150 #[.slice a 0 c, .string sep] w fun e w' => e = .returned (.string ⟨#[]⟩) ∧ w' = w := Any.strings_Join_none Tryz.lays156 Tryz.Builder_Extra_156 a c sep w
open Go.RowKit in
/-- strings.Join: "Join concatenates the elements of its first argument to create a single string. The separator string sep is placed between elements in the resulting string.": HOWEVER MANY ELEMENTS. Below the heap's end the world is as it was. (LAID: no walk: one application.) -/
theorem Tryz.strings_Join (bk o c : Nat) (xs : List ByteArray) (sep : ByteArray) (w : World) (hcells : ∀ (j : Nat) x, xs[j]? = some x → w.cell? ⟨bk, o + j, none⟩ = some (.string x)) (hbk : bk < w.heap.size) (hN : xs.length ≤ 140737488355328) (hcap : xs.length ≤ c) (hlen : (Lib.join (xs.map (·.data.toList)) sep.data.toList).length ≤ 140737488355328) :
    Calls Tryz.prog 150 #[.slice (some ⟨bk, o, none⟩) xs.length c, .string sep] w fun e w' => e = .returned (.string ⟨(Lib.join (xs.map (·.data.toList)) sep.data.toList).toArray⟩) ∧ Below w.heap.size w w' := Any.strings_Join Tryz.lays156 Tryz.Builder_Extra_156 bk o c xs sep w hcells hbk hN hcap hlen
end Go.Proofs

/- Levels of texts: joined: plain facts and the walks. -/
namespace Go.Proofs.YtclicjokgfiegaaGreatDoor
open Go.RowKit
set_option linter.unusedVariables false
set_option linter.unusedSimpArgs false

theorem lJoin_cons (x : List UInt8) (r : List (List UInt8)) : lJoin (x :: r) = x ++ Lib.joinTail [47] r := Lib.join_cons x r [47]
theorem lJoin_snoc {p : List (List UInt8)} {k : Nat} {y : List UInt8} (h : p[k]? = some y) : lJoin (p.take (k + 1)) = if k = 0 then y else lJoin (p.take k) ++ [47] ++ y := by
  cases p with
  | nil => simp at h
  | cons x r =>
    cases k with
    | zero =>
      have : x = y := by simpa using h
      subst this
      rw [if_pos rfl]
      simp [lJoin_one]
    | succ k =>
      have h' : r[k]? = some y := by simpa using h
      rw [if_neg (by omega), List.take_succ_cons, List.take_succ_cons, lJoin_cons, lJoin_cons, Lib.joinTail_take_succ _ _ _ _ h']
      simp
theorem lJoin_take_len (p : List (List UInt8)) (k : Nat) : (lJoin (p.take k)).length ≤ (lJoin p).length := by
  cases p with
  | nil => simp
  | cons x r =>
    cases k with
    | zero => simp [lJoin, Lib.join_nil]
    | succ k =>
      rw [List.take_succ_cons, lJoin_cons, lJoin_cons, List.length_append, List.length_append]
      have : (Lib.joinTail [47] r) = Lib.joinTail [47] (r.take k) ++ Lib.joinTail [47] (r.drop k) := by
        unfold Lib.joinTail
        rw [← List.flatten_append, ← List.map_append, List.take_append_drop]
      rw [this, List.length_append]
      omega

set_option maxRecDepth 100000 in
set_option maxHeartbeats 1000000 in
theorem Join_c (p : List (List UInt8)) (v : Value) (w : World) (hp : Ls w v p) (hn : p.length ≤ 140737488355328) (hl : (lJoin p).length ≤ 140737488355328) :
    Calls Tryz.prog 114 #[v] w fun e w' => e = .returned (.string (sOf (lJoin p))) ∧ Below w.heap.size w w' := by
  have hJ : Calls Tryz.prog 150 #[v, .string ⟨#[47]⟩] w fun e w' => e = .returned (.string (sOf (lJoin p))) ∧ Below w.heap.size w w' := by
    rcases @Rd.split w v p.length (p.map txV) hp with ⟨hx, a, c, rfl, h1, h2, h3⟩ | ⟨hx, b, o, c, rfl, h1, h2, h3, h4⟩
    · have : p = [] := by simpa using hx
      subst this
      exact (Tryz.strings_Join_none a c ⟨#[47]⟩ w).mono fun e w' h => ⟨h.1, h.2 ▸ Below.refl _ _⟩
    · have hm : (p.map sOf).map (·.data.toList) = p := by
        rw [List.map_map]
        exact (List.map_congr_left (fun x _ => rfl)).trans (List.map_id p)
      have h := Tryz.strings_Join b o c (p.map sOf) ⟨#[47]⟩ w (fun j x hj => by
        rw [List.getElem?_map] at hj
        cases hj2 : p[j]? with
        | none => rw [hj2] at hj; simp at hj
        | some y =>
          rw [hj2] at hj
          have : sOf y = x := by simpa using hj
          subst this
          exact h4 j _ (by simp [hj2, txV])) h3 (by simpa using hn) (by simpa using h1) (by rw [hm]; exact hl)
      rw [hm, List.length_map] at h
      exact h
  obtain ⟨a, c, rfl⟩ := hp.slice
  have HJ := hd hJ
  clear hJ hp
  go_enter Tryz.func114, Tryz.ntmps114
  go_wp2_with fail
  refine HJ.out.mono ?_
  rintro e w1 ⟨rfl, hb⟩
  go_wp2_with fail
  go_ret
  exact ⟨rfl, hb⟩

end Go.Proofs.YtclicjokgfiegaaGreatDoor

/- Spots and topics: plain facts. -/
namespace Go.Proofs.YtclicjokgfiegaaGreatDoor
open Go.RowKit
set_option linter.unusedVariables false
set_option linter.unusedSimpArgs false

structure SpS where
  k : Int
  g : List UInt8
  n : List UInt8
  d : List UInt8
deriving DecidableEq
def SpS.zero : SpS := ⟨0, [], [], []⟩
def spV (s : SpS) : Value := .agg #[.int .i64 s.k, .string (sOf s.g), .string (sOf s.n), .string (sOf s.d)]

def wordT : List (List UInt8) := [[], [78, 66, 73, 82, 84, 72], [78, 68, 69, 65, 84, 72], [78, 68, 65, 84, 65], [78, 67, 77, 68], [68, 66, 73, 82, 84, 72], [68, 68, 69, 65, 84, 72], [68, 68, 65, 84, 65], [68, 67, 77, 68], [83, 84, 65, 84, 69]]
def sWord (k : Int) : List UInt8 := if 0 ≤ k ∧ k ≤ 9 then wordT.getD k.toNat [] else []
def kFrom (s : List UInt8) : Nat → Nat → Nat
  | 0, _ => 0
  | f + 1, i => if wordT.getD i [] = s then i else kFrom s f (i + 1)
def sKind (s : List UInt8) : Int := (kFrom s 9 1 : Nat)
def sPart (s : List UInt8) : Bool := lName s && decide ((lSplit s).length = 1)
def sWidth (k : Int) : Int := if k = 9 then 3 else if 5 ≤ k then 5 else 4
def rootT : List UInt8 := [115, 112, 66, 118, 49, 46, 48]
def sTop (s : SpS) : List (List UInt8) :=
  if s.k = 9 then [rootT, [83, 84, 65, 84, 69], s.n] else if 5 ≤ s.k then [rootT, s.g, sWord s.k, s.n, s.d] else [rootT, s.g, sWord s.k, s.n]
def sFree (s : SpS) : List (List UInt8) :=
  if s.k = 9 then [s.n] else if 5 ≤ s.k then [s.g, s.n, s.d] else [s.g, s.n]
def sBadForm (s : SpS) : Bool := (decide (sWidth s.k < 5) && !s.d.isEmpty) || (decide (s.k = 9) && !s.g.isEmpty)
def sPut (s : SpS) : List UInt8 × Int :=
  if s.k < 1 ∨ 9 < s.k then ([], 11) else if sBadForm s then ([], 4) else if (sFree s).all sPart then (if lName (lJoin (sTop s)) then (lJoin (sTop s), 0) else ([], 13)) else ([], 13)
def sGuess : List (List UInt8) → SpS
  | [_, _, c] => ⟨9, [], c, []⟩
  | [_, b, c, d] => ⟨sKind c, b, d, []⟩
  | [_, b, c, d, e] => ⟨sKind c, b, d, e⟩
  | _ => .zero
def sTell (t : List UInt8) : SpS := if (sPut (sGuess (lSplit t))).2 ≠ 0 ∨ (sPut (sGuess (lSplit t))).1 ≠ t then .zero else sGuess (lSplit t)
def sBirths (s : SpS) : List UInt8 × List UInt8 :=
  if (sPut s).2 ≠ 0 ∨ s.k = 9 then ([], []) else
  if (sPut ⟨1, s.g, s.n, []⟩).2 ≠ 0 then ([], []) else
  if s.d = [] then ((sPut ⟨1, s.g, s.n, []⟩).1, []) else
  if (sPut ⟨5, s.g, s.n, s.d⟩).2 ≠ 0 then ([], []) else ((sPut ⟨1, s.g, s.n, []⟩).1, (sPut ⟨5, s.g, s.n, s.d⟩).1)

theorem has47 (l : List UInt8) : decide (0 ≤ Lib.indexByte l 47) = decide ((47 : UInt8) ∈ l) := by
  rw [Bool.eq_iff_iff, decide_eq_true_iff, decide_eq_true_iff]
  constructor
  · intro h
    obtain ⟨o, ho⟩ := Int.eq_ofNat_of_zero_le h
    exact List.mem_of_getElem? (Lib.indexByte_some ho).1
  · intro h
    by_cases h0 : 0 ≤ Lib.indexByte l 47
    · exact h0
    · have h1 := Lib.indexByte_ge l 47
      obtain ⟨k, hk⟩ := List.getElem?_of_mem h
      exact absurd hk (Lib.indexByte_none (by omega) k)
theorem sPart_eq (s : List UInt8) : sPart s = (lName s && !decide ((47 : UInt8) ∈ s)) := by
  unfold sPart
  rw [lSplit_len]
  congr 1
  rw [Bool.eq_iff_iff, decide_eq_true_iff, Bool.not_eq_true', decide_eq_false_iff_not]
  constructor
  · intro h hm
    have := List.count_pos_iff.2 hm
    omega
  · intro h
    rw [List.count_eq_zero_of_not_mem h]
theorem split_one {x : List UInt8} (h : (47 : UInt8) ∉ x) : lSplit x = [x] := lSplit_none x fun j hj e => h (by
  have := (b8_of_bN hj (c := 47)).1 e
  rw [← this]; exact List.getElem_mem hj)
theorem split_app47 : ∀ a b : List UInt8, (47 : UInt8) ∉ a → lSplit (a ++ 47 :: b) = a :: lSplit b := fun a b h => by
  have := lSplit_hit a.length (a ++ 47 :: b) (by simp) (fun j hj e => h (by
    have hj2 : j < (a ++ 47 :: b).length := by simp; omega
    have h2 := (b8_of_bN hj2 (c := 47)).1 e
    rw [List.getElem_append_left hj] at h2
    rw [← h2]; exact List.getElem_mem hj)) (by
      have hj2 : a.length < (a ++ 47 :: b).length := by simp
      exact (b8_of_bN hj2 (c := 47)).2 (by simp))
  rw [this]
  simp
theorem split_join : ∀ (p : List (List UInt8)), p ≠ [] → (∀ x ∈ p, (47 : UInt8) ∉ x) → lSplit (lJoin p) = p
  | [], h, _ => absurd rfl h
  | [x], _, h => by rw [lJoin_one]; exact split_one (h x (by simp))
  | x :: y :: r, _, h => by
    rw [lJoin_cons2, split_app47 _ _ (h x (by simp)), split_join (y :: r) (by simp) (fun z hz => h z (by simp [hz]))]
theorem sPart_47 {s : List UInt8} (h : sPart s = true) : (47 : UInt8) ∉ s := by
  rw [sPart_eq, Bool.and_eq_true] at h
  have h2 := h.2
  rwa [Bool.not_eq_true', decide_eq_false_iff_not] at h2
theorem word_47 (k : Int) : (47 : UInt8) ∉ sWord k := by
  unfold sWord
  split
  · rename_i h
    obtain ⟨n, rfl⟩ := Int.eq_ofNat_of_zero_le h.1
    have hn : n ≤ 9 := by omega
    rw [Int.toNat_natCast]
    match n, hn with
    | 0, _ => decide
    | 1, _ => decide
    | 2, _ => decide
    | 3, _ => decide
    | 4, _ => decide
    | 5, _ => decide
    | 6, _ => decide
    | 7, _ => decide
    | 8, _ => decide
    | 9, _ => decide
  · simp
theorem kind_word {k : Int} (h1 : 1 ≤ k) (h9 : k ≤ 9) : sKind (sWord k) = k := by
  obtain ⟨n, rfl⟩ := Int.eq_ofNat_of_zero_le (show 0 ≤ k by omega)
  have hn : n ≤ 9 := by omega
  match n, hn with
  | 0, _ => omega
  | 1, _ => decide
  | 2, _ => decide
  | 3, _ => decide
  | 4, _ => decide
  | 5, _ => decide
  | 6, _ => decide
  | 7, _ => decide
  | 8, _ => decide
  | 9, _ => decide
theorem kFrom_le (s : List UInt8) : ∀ f i, kFrom s f i = 0 ∨ (kFrom s f i < i + f ∧ i ≤ kFrom s f i ∧ wordT.getD (kFrom s f i) [] = s)
  | 0, _ => .inl rfl
  | f + 1, i => by
    rw [kFrom]
    by_cases h : wordT.getD i [] = s
    · rw [if_pos h]; exact .inr ⟨by omega, by omega, h⟩
    · rw [if_neg h]
      rcases kFrom_le s f (i + 1) with h2 | ⟨h2, h3, h4⟩
      · exact .inl h2
      · exact .inr ⟨by omega, by omega, h4⟩
theorem kind_range (s : List UInt8) : sKind s = 0 ∨ (1 ≤ sKind s ∧ sKind s ≤ 9 ∧ sWord (sKind s) = s) := by
  unfold sKind
  rcases kFrom_le s 9 1 with h | ⟨h2, h3, h4⟩
  · exact .inl (by omega)
  · refine .inr ⟨by omega, by omega, ?_⟩
    unfold sWord
    rw [if_pos (by omega), Int.toNat_natCast]
    exact h4

theorem put_ok {s : SpS} (h : (sPut s).2 = 0) : (1 ≤ s.k ∧ s.k ≤ 9) ∧ sBadForm s = false ∧ (sFree s).all sPart = true ∧ lName (lJoin (sTop s)) = true ∧ (sPut s).1 = lJoin (sTop s) := by
  unfold sPut at h ⊢
  split at h
  · simp at h
  rename_i h1
  split at h
  · simp at h
  rename_i h2
  split at h
  · rename_i h3
    split at h
    · rename_i h4
      rw [if_neg h1, if_neg h2, if_pos h3, if_pos h4]
      exact ⟨by omega, by simpa using h2, h3, h4, rfl⟩
    · simp at h
  · simp at h
theorem put_bad {s : SpS} (h : (sPut s).2 ≠ 0) : (sPut s).1 = [] := by
  unfold sPut at h ⊢
  split
  · rfl
  rename_i h1
  rw [if_neg h1] at h
  split
  · rfl
  rename_i h2
  rw [if_neg h2] at h
  split
  · rename_i h3
    rw [if_pos h3] at h
    split
    · rename_i h4
      rw [if_pos h4] at h
      exact absurd rfl h
    · rfl
  · rfl
theorem top_47 {s : SpS} (h : (sFree s).all sPart = true) : ∀ x ∈ sTop s, (47 : UInt8) ∉ x := by
  have hw := word_47 s.k
  unfold sFree at h
  unfold sTop
  have hr : (47 : UInt8) ∉ rootT := by decide
  have hst : (47 : UInt8) ∉ ([83, 84, 65, 84, 69] : List UInt8) := by decide
  split at h
  · rename_i h9
    rw [if_pos h9]
    have hn : sPart s.n = true := by simpa using h
    intro x hx
    simp only [List.mem_cons, List.not_mem_nil, or_false] at hx
    rcases hx with rfl | rfl | rfl
    · exact hr
    · exact hst
    · exact sPart_47 hn
  · rename_i h9
    rw [if_neg h9]
    split at h
    · rename_i h5
      rw [if_pos h5]
      simp only [List.all_cons, List.all_nil, Bool.and_true, Bool.and_eq_true] at h
      intro x hx
      simp only [List.mem_cons, List.not_mem_nil, or_false] at hx
      rcases hx with rfl | rfl | rfl | rfl | rfl
      · exact hr
      · exact sPart_47 h.1
      · exact hw
      · exact sPart_47 h.2.1
      · exact sPart_47 h.2.2
    · rename_i h5
      rw [if_neg h5]
      simp only [List.all_cons, List.all_nil, Bool.and_true, Bool.and_eq_true] at h
      intro x hx
      simp only [List.mem_cons, List.not_mem_nil, or_false] at hx
      rcases hx with rfl | rfl | rfl | rfl
      · exact hr
      · exact sPart_47 h.1
      · exact hw
      · exact sPart_47 h.2
theorem guess_top {s : SpS} (hk : 1 ≤ s.k ∧ s.k ≤ 9) (hb : sBadForm s = false) : sGuess (sTop s) = s := by
  obtain ⟨k, g, n, d⟩ := s
  unfold sBadForm sWidth at hb
  unfold sTop
  simp only at hk hb ⊢
  by_cases h9 : k = 9
  · subst h9
    simp at hb
    obtain ⟨rfl, rfl⟩ := hb
    rfl
  · rw [if_neg h9] at hb ⊢
    by_cases h5 : 5 ≤ k
    · rw [if_pos h5]
      simp only [sGuess, kind_word hk.1 hk.2]
    · rw [if_neg h5] at hb ⊢
      simp [h9] at hb
      subst hb
      simp only [sGuess, kind_word hk.1 hk.2]
/-- A spot's topic tells the spot. -/
theorem tell_put {s : SpS} (h : (sPut s).2 = 0) : sTell (sPut s).1 = s ∧ lName (sPut s).1 = true := by
  obtain ⟨hk, hb, hp, hn, ht⟩ := put_ok h
  refine ⟨?_, by rw [ht]; exact hn⟩
  have hg : sGuess (lSplit (sPut s).1) = s := by
    rw [ht, split_join _ (by unfold sTop; split; simp; split <;> simp) (top_47 hp), guess_top hk hb]
  unfold sTell
  rw [hg, if_neg (by simp [h])]
theorem name_ne {t : List UInt8} (h : lName t = true) : t ≠ [] := by
  intro e; subst e; exact absurd h (by decide)
theorem tell_cases (t : List UInt8) : sTell t = .zero ∨ ((sPut (sTell t)).2 = 0 ∧ (sPut (sTell t)).1 = t ∧ 1 ≤ (sTell t).k) := by
  unfold sTell
  split
  · exact .inl rfl
  · rename_i h
    have h2 : (sPut (sGuess (lSplit t))).2 = 0 ∧ (sPut (sGuess (lSplit t))).1 = t := by
      refine ⟨?_, ?_⟩
      · exact Classical.byContradiction fun e => h (.inl e)
      · exact Classical.byContradiction fun e => h (.inr e)
    exact .inr ⟨h2.1, h2.2, (put_ok h2.1).1.1⟩
theorem zero_put : (sPut .zero).2 ≠ 0 := by decide +kernel
end Go.Proofs.YtclicjokgfiegaaGreatDoor

/- A region that draws its order, with movers whose order is free among two of them: the walk forks there. Of no program. -/
namespace Go.Proofs.YtclicjokgfiegaaGreatDoor

inductive Tr where
  | done
  | still (k : Nat) (r : Tr)
  | move (k : Nat) (r : Tr)
  | fork (k1 : Nat) (r1 : Tr) (k2 : Nat) (r2 : Tr)
def Tr.len : Tr → Nat
  | .done => 0
  | .still _ r => r.len + 1
  | .move _ r => r.len + 1
  | .fork _ r1 _ _ => r1.len + 1
def Tr.isDone : Tr → Bool
  | .done => true
  | _ => false

section
variable {P : Program} {ops : Array Oper} {md : Region.Mode} {Q : Exit → Act → World → Prop} {C : World → Prop} {n : Nat}

def okT (md : Region.Mode) (ops : Array Oper) (n : Nat) : Tr → Array Bool → Bool
  | .done, listed => (Region.ready md ops listed).isEmpty
  | .still k r, listed => (Region.ready md ops listed).contains k && (Region.free md ops listed k && (decide (k < n) && okT md ops n r (listed.setIfInBounds k true)))
  | .move k r, listed => (Region.ready md ops listed == [k]) && ((decide (k < n) || r.isDone) && okT md ops n r (listed.setIfInBounds k true))
  | .fork k1 r1 k2 r2, listed => (Region.ready md ops listed == [k1, k2]) && (decide (k1 < n) && (decide (k2 < n) && (r1.len == r2.len && (okT md ops n r1 (listed.setIfInBounds k1 true) && okT md ops n r2 (listed.setIfInBounds k2 true)))))

def wpT (P : Program) (ops : Array Oper) (n : Nat) (C : World → Prop) (Q : Exit → Act → World → Prop) : Tr → Act → World → Prop
  | .done, a, w => Q .normal a w
  | .still k r, a, w => ∃ o, ops[k]? = some o ∧ ∃ v, YieldsC P ops C o v a ∧ wpT P ops n C Q r (a.put o.dst v) w
  | .move k r, a, w => wpOp P ops Q k (fun a' w' => (k < n → C w') ∧ wpT P ops n C Q r a' w') a w
  | .fork k1 r1 k2 r2, a, w => wpOp P ops Q k1 (fun a' w' => (k1 < n → C w') ∧ wpT P ops n C Q r1 a' w') a w ∧ wpOp P ops Q k2 (fun a' w' => (k2 < n → C w') ∧ wpT P ops n C Q r2 a' w') a w

theorem walk_T (hsel : ∀ (j : Nat) (o : Oper) cs b, ops[j]? = some o → o.op ≠ .select cs b) (hQ : ∀ c (a : Act) (T : Array Value) w, Q (.panic c) { a with tmps := T } w → Q (.panic c) a w)
    (hs : Region.sinkB md ops n = true) (hc : Region.chainB md ops n = true) (hn : n < ops.size) :
    ∀ (σ : Tr) (listed : Array Bool) (a : Act) (w : World), HeadInv md ops n listed → C w → okT md ops n σ listed = true → wpT P ops n C Q σ a w → wpAnyC P md ops n C Q σ.len listed a w
  | .done, listed, a, w, _, _, hok, h => ⟨by simpa [okT] using hok, h⟩
  | .still k r, listed, a, w, inv, hC, hok, h => by
    simp only [okT, Bool.and_eq_true, decide_eq_true_eq] at hok
    obtain ⟨hr, hf, hk, hok'⟩ := hok
    obtain ⟨o, ho, v, hy, hK⟩ := h
    have hr' : k ∈ Region.ready md ops listed := by simpa using hr
    exact first_C ho hsel (fun c a w h => hQ_put hQ h) hs hc hn hk r.len listed a w inv (Region.free_spec ho hf) hr' hy hC
      (walk_T hsel hQ hs hc hn r _ _ w (inv.set hr' hk) hC hok' hK)
  | .move k r, listed, a, w, inv, hC, hok, h => by
    simp only [okT, Bool.and_eq_true, beq_iff_eq] at hok
    obtain ⟨hr, hd, hok'⟩ := hok
    refine ⟨fun h0 => (by rw [hr] at h0; cases h0), fun i hi => ?_⟩
    have hi' := hi
    rw [hr] at hi
    obtain rfl : i = k := by simpa using hi
    by_cases hk : i < n
    · exact wpOp_mono (fun a' w' h' => ⟨h'.1, walk_T hsel hQ hs hc hn r _ a' w' (inv.set hi' hk) (h'.1 hk) hok' h'.2⟩) h
    · have hdone : r.isDone = true := by simpa [hk] using hd
      cases r with
      | done => exact wpOp_mono (fun a' w' h' => ⟨h'.1, by simpa [okT] using hok', h'.2⟩) h
      | still _ _ => cases hdone
      | move _ _ => cases hdone
      | fork _ _ _ _ => cases hdone
  | .fork k1 r1 k2 r2, listed, a, w, inv, hC, hok, h => by
    simp only [okT, Bool.and_eq_true, beq_iff_eq, decide_eq_true_eq] at hok
    obtain ⟨hr, hk1, hk2, hl, hok1, hok2⟩ := hok
    refine ⟨fun h0 => (by rw [hr] at h0; cases h0), fun i hi => ?_⟩
    have hi' := hi
    rw [hr] at hi
    have : i = k1 ∨ i = k2 := by simpa using hi
    rcases this with rfl | rfl
    · exact wpOp_mono (fun a' w' h' => ⟨h'.1, walk_T hsel hQ hs hc hn r1 _ a' w' (inv.set hi' hk1) (h'.1 hk1) hok1 h'.2⟩) h.1
    · have hl' : (Tr.fork k1 r1 i r2).len = r2.len + 1 := by simp [Tr.len, hl]
      exact wpOp_mono (fun a' w' h' => ⟨h'.1, by rw [hl]; exact walk_T hsel hQ hs hc hn r2 _ a' w' (inv.set hi' hk2) (h'.1 hk2) hok2 h'.2⟩) h.2

theorem wp_region_T {id : Nat} {a : Act} {w : World} (C : World → Prop) (n : Nat) (σ : Tr) (hm : P.follows .mixedOrders = true)
    (hB : (Region.noSelect ops && (Region.sinkB .any ops n && (Region.chainB .any ops n && (decide (n < ops.size) && (okT .any ops n σ (Array.replicate ops.size false) && (σ.len == ops.size)))))) = true)
    (hQ : ∀ c (a : Act) (T : Array Value) w, Q (.panic c) { a with tmps := T } w → Q (.panic c) a w) (hC : C w.drew)
    (h : wpT P ops n C Q σ a w.drew) : (Code.region id ops true).wp P Q a w := by
  simp only [Bool.and_eq_true, decide_eq_true_eq, beq_iff_eq] at hB
  obtain ⟨h1, h2, h3, h4, h5, h6⟩ := hB
  refine wp_region_any hm (wpAny_of_C _ _ _ _ (n := n) (C := C) ?_)
  have := walk_T (P := P) (Q := Q) (C := C) (Region.noSelect_spec h1) hQ h2 h3 h4 σ _ a w.drew headInv_start hC h5 h
  rw [h6] at this
  exact this

theorem wpT_still {k : Nat} {r : Tr} {o : Oper} {v : Value} {a : Act} {w : World} (ho : ops[k]? = some o) (hw : Region.wanted o (yielded ops a.tmps) = true)
    (h : ∀ w', C w' → (execOp a.eval o).run P w' = .ok (.value v) w') (hr : wpT P ops n C Q r (a.put o.dst v) w) : wpT P ops n C Q (.still k r) a w :=
  ⟨o, ho, v, .inl ⟨hw, h⟩, hr⟩
theorem wpT_skip {k : Nat} {r : Tr} {o : Oper} {a : Act} {w : World} (ho : ops[k]? = some o) (hw : Region.wanted o (yielded ops a.tmps) = false)
    (hr : wpT P ops n C Q r (a.put o.dst undef) w) : wpT P ops n C Q (.still k r) a w :=
  ⟨o, ho, undef, .inr ⟨hw, rfl⟩, hr⟩
theorem wpOp_moved {k : Nat} {r : Tr} {o : Oper} {a : Act} {w : World} (ho : ops[k]? = some o) (hw : Region.wanted o (yielded ops a.tmps) = true)
    (h : ∀ K : Act → World → Prop, (∀ a' w', (k < n → C w') → wpT P ops n C Q r a' w' → K a' w') → o.wp P a w K Q) : wpOp P ops Q k (fun a' w' => (k < n → C w') ∧ wpT P ops n C Q r a' w') a w := by
  unfold Go.wpOp
  simp only [ho, hw, if_true]
  exact .inl (h _ fun a' w' h1 h2 => ⟨h1, h2⟩)
theorem wpT_move {k : Nat} {r : Tr} {o : Oper} {a : Act} {w : World} (ho : ops[k]? = some o) (hw : Region.wanted o (yielded ops a.tmps) = true)
    (h : ∀ K : Act → World → Prop, (∀ a' w', (k < n → C w') → wpT P ops n C Q r a' w' → K a' w') → o.wp P a w K Q) : wpT P ops n C Q (.move k r) a w :=
  wpOp_moved ho hw h
theorem wpT_fork {k1 k2 : Nat} {r1 r2 : Tr} {o1 o2 : Oper} {a : Act} {w : World} (ho1 : ops[k1]? = some o1) (hw1 : Region.wanted o1 (yielded ops a.tmps) = true) (ho2 : ops[k2]? = some o2) (hw2 : Region.wanted o2 (yielded ops a.tmps) = true)
    (h1 : ∀ K : Act → World → Prop, (∀ a' w', (k1 < n → C w') → wpT P ops n C Q r1 a' w' → K a' w') → o1.wp P a w K Q)
    (h2 : ∀ K : Act → World → Prop, (∀ a' w', (k2 < n → C w') → wpT P ops n C Q r2 a' w' → K a' w') → o2.wp P a w K Q) : wpT P ops n C Q (.fork k1 r1 k2 r2) a w :=
  ⟨wpOp_moved ho1 hw1 h1, wpOp_moved ho2 hw2 h2⟩
theorem wpT_done {a : Act} {w : World} (h : Q .normal a w) : wpT P ops n C Q .done a w := h
end
end Go.Proofs.YtclicjokgfiegaaGreatDoor

/- Spots and topics: words, kinds, parts: the walks of the program. -/
namespace Go.Proofs.YtclicjokgfiegaaGreatDoor
open Go.RowKit
set_option linter.unusedVariables false
set_option linter.unusedSimpArgs false

def EnvW (w : World) : Prop := 0 < w.heap.size ∧ ∀ i : Nat, i < 10 → w.cell? ⟨0, i, none⟩ = some (.string (sOf (wordT.getD i [])))
theorem EnvW.below {B : Nat} {w w' : World} (h : EnvW w) (hb : Below B w w') (hB : w.heap.size ≤ B) : EnvW w' :=
  ⟨Nat.lt_of_lt_of_le h.1 hb.size, fun i hi => (bcell hb _ _ (by have := h.1; omega)).trans (h.2 i hi)⟩
theorem EnvW.at {w : World} (h : EnvW w) {i : Nat} (hi : i < 10) : w.cell? ⟨0, i, none⟩ = some (.string (sOf (wordT.getD i []))) := h.2 i hi

set_option maxRecDepth 100000 in
set_option maxHeartbeats 1000000 in
theorem Word_c (k : Int) (w : World) (hW : EnvW w) : Calls Tryz.prog 148 #[.int .i64 k] w fun e w' => e = .returned (.string (sOf (sWord k))) ∧ w = w' := by
  by_cases h0 : k < 0
  · have : sWord k = [] := by unfold sWord; rw [if_neg (by omega)]
    rw [this]
    go_enter Tryz.func148, Tryz.ntmps148
    go_wp2_with fail
    go_ret
    exact ⟨rfl, rfl⟩
  by_cases h9 : 9 < k
  · have : sWord k = [] := by unfold sWord; rw [if_neg (by omega)]
    rw [this]
    go_enter Tryz.func148, Tryz.ntmps148
    go_wp2_with fail
    go_ret
    exact ⟨rfl, rfl⟩
  obtain ⟨n, rfl⟩ := Int.eq_ofNat_of_zero_le (show 0 ≤ k by omega)
  have : sWord (n : Int) = wordT.getD n [] := by unfold sWord; rw [if_pos (by omega), Int.toNat_natCast]
  rw [this]
  have hn : n < 10 := by omega
  have hc := hW.at hn
  generalize wordT.getD n [] = x at *
  clear hW this h0 h9
  have h0 : ¬ (n : Int) < 0 := by omega
  have h9 : ¬ 9 < (n : Int) := by omega
  have h10 : (n : Int) < 10 := by omega
  go_enter Tryz.func148, Tryz.ntmps148
  go_wp2_with fail
  go_ret
  exact ⟨rfl, rfl⟩

set_option maxRecDepth 100000 in
set_option maxHeartbeats 1000000 in
theorem Kind_c (l : List UInt8) (w : World) (hW : EnvW w) : Calls Tryz.prog 110 #[.string (sOf l)] w fun e w' => e = .returned (.int .i64 (sKind l)) ∧ w = w' := by
  obtain ⟨r, hr⟩ : ∃ r, kFrom l 9 1 = r := ⟨_, rfl⟩
  have : sKind l = (r : Nat) := by unfold sKind; rw [hr]
  rw [this]
  clear this
  have HW := hd hW
  clear hW
  have htl := toList_sOf l
  go_enter Tryz.func110, Tryz.ntmps110
  go_wp2_with fail
  go_loopw [3] (fun i w' => ∃ k : Nat, i = .int .i64 k ∧ 1 ≤ k ∧ k ≤ 10 ∧ kFrom l (10 - k) k = r ∧ w = w') (fun i _ => leftL 10 i)
  case atStart => exact ⟨1, rfl, by omega, by omega, hr, rfl⟩
  case round =>
    obtain ⟨k, rfl, hk1, hk, hf, rfl⟩ := hrel
    by_cases hk9 : k ≤ 9
    · have hc := HW.out.at (show k < 10 by omega)
      have htx := toList_sOf (wordT.getD k [])
      rw [show 10 - k = (10 - (k + 1)) + 1 by omega, kFrom] at hf
      have h9 : (k : Int) ≤ 9 := by omega
      have h10 : (k : Int) < 10 := by omega
      have h00 : (0 : Int) ≤ (k : Int) := by omega
      have HF := hd hf
      clear hf
      generalize hgx : wordT.getD k [] = x at *
      clear hgx
      cases e : (x == l)
      · have hne : ¬ x = l := by simpa using e
        have hf := HF.out
        rw [if_neg hne] at hf
        have HF2 := hd hf
        clear HF hf hne
        go_wp2_with fail
        go_roundw
        case rel => exact ⟨k + 1, by congr 1, by omega, by omega, HF2.out, trivial⟩
        case measure => simp [leftL]; omega
      · have hne : x = l := by simpa using e
        have hf := HF.out
        rw [if_pos hne] at hf
        have HF2 := hd hf
        clear HF hf hne
        go_wp2_with fail
        go_ret
        exact ⟨by rw [HF2.out]; rfl, rfl⟩
    · have : k = 10 := by omega
      subst this
      have hf2 : 0 = r := hf
      subst hf2
      clear hf
      go_wp2_with fail
      go_ret
      exact ⟨rfl, rfl⟩

set_option maxRecDepth 100000 in
set_option maxHeartbeats 1000000 in
theorem width_c (k : Int) (w : World) : Calls Tryz.prog 111 #[.int .i64 k] w fun e w' => e = .returned (.int .i64 (sWidth k)) ∧ w = w' := by
  unfold sWidth
  by_cases h9 : k = 9
  · rw [if_pos h9]
    have h9b : (k == 9) = true := by simpa using h9
    clear h9
    go_enter Tryz.func111, Tryz.ntmps111
    go_wp2_with fail
    go_ret
    exact ⟨rfl, rfl⟩
  rw [if_neg h9]
  have h9b : (k == 9) = false := by simpa using h9
  clear h9
  by_cases h5 : 5 ≤ k
  · rw [if_pos h5]
    go_enter Tryz.func111, Tryz.ntmps111
    go_wp2_with fail
    go_ret
    exact ⟨rfl, rfl⟩
  · rw [if_neg h5]
    go_enter Tryz.func111, Tryz.ntmps111
    go_wp2_with fail
    go_ret
    exact ⟨rfl, rfl⟩

set_option maxRecDepth 100000 in
set_option maxHeartbeats 1000000 in
theorem part_c (l : List UInt8) (w : World) (hE : EnvU w) (hs : l.length ≤ 9223372036854775000) : Calls Tryz.prog 113 #[.string (sOf l)] w fun e w' => e = .returned (.bool (sPart l)) ∧ Below w.heap.size w w' := by
  obtain ⟨r, hr⟩ : ∃ r, sPart l = r := ⟨_, rfl⟩
  rw [hr]
  rw [sPart_eq] at hr
  have Hr := hd hr; clear hr
  have HE := hd hE; clear hE
  go_enter Tryz.func113, Tryz.ntmps113
  go_wp2_with fail
  refine (Name_c l _ HE.out hs).mono ?_
  rintro e w1 ⟨rfl, hb1⟩
  cases hu : lName l
  · have hr := Hr.out; rw [hu, Bool.false_and] at hr; subst hr; clear Hr
    go_wp2_with fail
    go_ret
    exact ⟨rfl, hb1⟩
  have H1 := hd (show (!decide ((47 : UInt8) ∈ l)) = r by have hr := Hr.out; rw [hu, Bool.true_and] at hr; exact hr)
  clear Hr hu
  go_wp2_with fail
  refine (Tryz.strings_Contains_one (sOf l) 47 _).mono ?_
  rintro e w2 ⟨rfl, rfl⟩
  rw [show decide (0 ≤ Lib.indexByte (sOf l).data.toList 47) = decide ((47 : UInt8) ∈ l) from has47 l]
  obtain ⟨b, hb⟩ : ∃ b, decide ((47 : UInt8) ∈ l) = b := ⟨_, rfl⟩
  rw [hb] at H1 ⊢
  clear hb
  go_wp2_with fail
  go_ret
  exact ⟨ret_bool H1.out, hb1⟩
end Go.Proofs.YtclicjokgfiegaaGreatDoor

/- What a filter wants: the reference: the walks. -/
namespace Go.Proofs.YtclicjokgfiegaaGreatDoor
open Go.RowKit
set_option linter.unusedVariables false
set_option linter.unusedSimpArgs false

theorem alongL_cons (hold : List UInt8 → List UInt8 → Bool) (x : List UInt8) (r q : List (List UInt8)) :
    alongL hold (x :: r) q = if x = [35] then true else match q with | [] => false | y :: t => hold x y && alongL hold r t := by
  cases q <;> rw [alongL]
/-- The rest of a row behind its first text. -/
theorem run_tailL {w : World} {a : Option Addr} {n c : Nat} {x : List UInt8} {r : List (List UInt8)} (h : Ls w (.slice a n c) (x :: r)) :
    ∃ a' c', (∀ W : World, (Instr.slice 111 (.slice a n c) (some (.int .i64 1)) none none).run Tryz.prog W = .ok (.slice a' r.length c') W) ∧ Ls w (.slice a' r.length c') r := by
  obtain ⟨a0, c0, hv, h1, h2, h3, h4⟩ := h
  cases hv
  rw [List.length_cons] at h1 h3 ⊢
  cases a with
  | none => obtain ⟨e1, e2, e3⟩ := h3 rfl; omega
  | some ad =>
    refine ⟨if c = 1 then some ad else some (ad.add (1 * 1)), c - 1, fun W => ?_, ⟨_, _, rfl, by omega, by omega, fun e => ?_, fun ad' had k u hu => ?_⟩⟩
    · rw [run_slice_l W 111 (some ad) (r.length + 1) c (by kernel_rfl) .i64 1 (by omega) (by omega)]
      obtain ⟨i0, hi, hz0, hz1, hz2⟩ := info_parts info_string
      have he : Tryz.prog.elem 111 = 9 := by kernel_rfl
      simp [sizeOf, typeInfo, he, hi, hz1, sliced, Result.andThen]
    · split at e <;> simp at e
    · have hk : k < r.length := by
        have := (List.getElem?_eq_some_iff.1 hu).1
        rwa [List.length_map] at this
      rw [if_neg (by omega)] at had
      simp only [Option.some.injEq] at had
      subst had
      rw [Nat.mul_one, Go.Deep.add_add, Nat.add_comm]
      exact h4 ad rfl (k + 1) u (by simpa using hu)

set_option maxRecDepth 100000 in
set_option maxHeartbeats 4000000 in
theorem wants_c : ∀ (p q : List (List UInt8)) (va vb : Value) (w : World), Ls w va p → Ls w vb q →
    Calls Tryz.prog 64 #[va, vb] w fun e w' => e = .returned (.bool (alongL holdM p q)) ∧ ∃ m, w' = w.drewN m := by
  intro p
  induction p with
  | nil =>
    intro q va vb w ha hb
    obtain ⟨aa, ac, rfl⟩ := ha.slice
    obtain ⟨ba, bc, rfl⟩ := hb.slice
    clear ha hb
    have hs : alongL holdM [] q = ((q.length : Int) == 0) := by cases q <;> simp [alongL] <;> omega
    rw [hs]
    clear hs
    go_enter Tryz.func64, Tryz.ntmps64
    go_wp2_with fail
    go_ret
    exact ⟨rfl, 0, rfl⟩
  | cons x r ih =>
    intro q va vb w ha hb
    have HIH := hd ih; clear ih
    obtain ⟨v, hv⟩ : ∃ v, alongL holdM (x :: r) q = v := ⟨_, rfl⟩
    rw [hv]
    rw [alongL_cons] at hv
    have htx := toList_sOf x
    obtain ⟨aa, ac, rfl⟩ := ha.slice
    obtain ⟨a2, c2, hsa, hra⟩ := run_tailL ha
    obtain ⟨bx, ox, rfl, hbx, hcx⟩ := ha.at (k := 0) (x := x) rfl
    rw [Nat.add_zero] at hcx
    rw [List.length_cons] at *
    have hn0 : (0 : Int) < ((r.length + 1 : Nat) : Int) := by omega
    have hnz : (((r.length + 1 : Nat) : Int) == 0) = false := by simp; omega
    have hn1 : 0 < r.length + 1 := by omega
    have HRA := hd hra
    clear hra ha
    obtain ⟨n, hn⟩ : ∃ n, r.length + 1 = n := ⟨_, rfl⟩
    simp only [hn] at *
    clear hn
    obtain ⟨k, hk⟩ : ∃ k, r.length = k := ⟨_, rfl⟩
    rw [hk] at hsa HRA
    have HK := hd hk
    clear hk
    cases e35 : (x == [35])
    rotate_left
    · have hx35 : x = [35] := by simpa using e35
      rw [if_pos hx35] at hv
      have hr2 := hd hv
      obtain ⟨ba, bc, rfl⟩ := hb.slice
      clear hb hv hx35 hsa
      go_enter Tryz.func64, Tryz.ntmps64
      go_wp2_with fail
      go_ret
      exact ⟨ret_bool hr2.out, 0, rfl⟩
    have hx35 : ¬ x = [35] := by simpa using e35
    rw [if_neg hx35] at hv
    clear hx35
    cases q with
    | nil =>
      obtain ⟨ba, bc, rfl⟩ := hb.slice
      rw [List.length_nil]
      have hv2 : false = v := hv
      subst hv2
      clear hb hv hsa
      go_enter Tryz.func64, Tryz.ntmps64
      go_wp2_with fail
      go_quiet (fail)
      go_wp2_with fail
      go_ret
      exact ⟨rfl, _, rfl⟩
    | cons y t =>
      have hv3 : (holdM x y && alongL holdM r t) = v := hv
      clear hv
      have hty := toList_sOf y
      obtain ⟨ba, bc, rfl⟩ := hb.slice
      obtain ⟨a3, c3, hsb, hrb⟩ := run_tailL hb
      obtain ⟨by', oy, rfl, hby, hcy⟩ := hb.at (k := 0) (x := y) rfl
      rw [Nat.add_zero] at hcy
      rw [List.length_cons] at *
      have hm0 : (0 : Int) < ((t.length + 1 : Nat) : Int) := by omega
      have hm1 : 0 < t.length + 1 := by omega
      have HI : ∀ W m, W = w.drewN m → Calls Tryz.prog 64 #[.slice a2 k c2, .slice a3 t.length c3] W fun e w' => e = .returned (.bool (alongL holdM r t)) ∧ ∃ m, w' = W.drewN m := fun W m h => by
        refine HIH.out t _ _ W ?_ ?_
        · rw [h]; exact HRA.out.below' (below_dn (Below.refl _ _) m) (Nat.le_refl _)
        · rw [h]; exact hrb.below' (below_dn (Below.refl _ _) m) (Nat.le_refl _)
      have HI2 := hd HI
      clear HI hrb hb HIH HRA HK
      obtain ⟨n2, hn2⟩ : ∃ n2, t.length + 1 = n2 := ⟨_, rfl⟩
      simp only [hn2] at *
      clear hn2
      obtain ⟨k2, hk2⟩ : ∃ k2, t.length = k2 := ⟨_, rfl⟩
      rw [hk2] at hsb HI2
      clear hk2
      cases e43 : (x == [43])
      rotate_left
      · have he : holdM x y = true := by unfold holdM; rw [e43]; rfl
        rw [he, Bool.true_and] at hv3
        rw [hv3] at HI2
        clear hv3 he
        go_enter Tryz.func64, Tryz.ntmps64
        go_wp2_with fail
        go_quiet (first | exact quiet_moreM (HI2.out _ _ rfl))
        go_wp2_with fail
        go_ret
        exact ⟨rfl, _, rfl⟩
      cases exy : (x == y)
      rotate_left
      · have he : holdM x y = true := by unfold holdM; rw [exy, Bool.or_true]
        rw [he, Bool.true_and] at hv3
        rw [hv3] at HI2
        clear hv3 he
        go_enter Tryz.func64, Tryz.ntmps64
        go_wp2_with fail
        go_quiet (first | exact quiet_moreM (HI2.out _ _ rfl))
        go_wp2_with fail
        go_ret
        exact ⟨rfl, _, rfl⟩
      · have he : holdM x y = false := by unfold holdM; rw [e43, exy]; rfl
        rw [he, Bool.false_and] at hv3
        subst hv3
        clear he
        go_enter Tryz.func64, Tryz.ntmps64
        go_wp2_with fail
        go_quiet (fail)
        go_wp2_with fail
        go_ret
        exact ⟨rfl, _, rfl⟩

theorem begW_cons {f : List UInt8} (h : f ≠ []) : begW f = (decide (bN f 0 = 43) || decide (bN f 0 = 35)) := by
  cases f with
  | nil => exact absurd rfl h
  | cons b t =>
    have e : ∀ c : UInt8, ([b] == [c]) = decide (bN (b :: t) 0 = c.toNat) := fun c => by
      rw [Bool.eq_iff_iff, decide_eq_true_iff, b8_of_bN (by simp : 0 < (b :: t).length)]
      simp
    unfold begW
    rw [show (b :: t).take 1 = [b] from rfl, e, e]
    rfl
theorem lHidden_cons {f : List UInt8} (h : f ≠ []) : lHidden f = decide (bN f 0 = 36) := by
  cases f with
  | nil => exact absurd rfl h
  | cons b t => unfold lHidden; simp
set_option maxRecDepth 100000 in
set_option maxHeartbeats 1000000 in
theorem shy_c (f o : List UInt8) (w : World) (hf : f ≠ []) (ho : o ≠ []) : Calls Tryz.prog 63 #[.string (sOf f), .string (sOf o)] w fun e w' => e = .returned (.bool (begW f && lHidden o)) ∧ w = w' := by
  have hx : ∀ W : World, (Instr.index 9 (.string (sOf f)) (.int .i64 0)).run Tryz.prog W = .ok (.int .u8 (bN f 0)) W := at_sOf f 0 (List.length_pos_iff.2 hf)
  have hy : ∀ W : World, (Instr.index 9 (.string (sOf o)) (.int .i64 0)).run Tryz.prog W = .ok (.int .u8 (bN o 0)) W := at_sOf o 0 (List.length_pos_iff.2 ho)
  have h1 := bN_lt f 0
  have h2 := bN_lt o 0
  rw [begW_cons hf, lHidden_cons ho]
  generalize bN f 0 = x at *
  generalize bN o 0 = y at *
  obtain ⟨r, hr⟩ : ∃ r, ((decide (x = 43) || decide (x = 35)) && decide (y = 36)) = r := ⟨_, rfl⟩
  rw [hr]
  have Hr := hd hr; clear hr
  have ha : ∀ (x c : Nat), ((x : Int) == (c : Int)) = decide (x = c) := fun x c => by rw [Bool.eq_iff_iff]; simp; omega
  have h43 := ha x 43
  have h35 := ha x 35
  have h36 := ha y 36
  clear ha
  push_cast at h43 h35 h36
  cases e1 : decide (x = 43)
  · cases e2 : decide (x = 35)
    · have hr := Hr.out; rw [e1, e2] at hr
      have hr2 : false = r := hr
      subst hr2
      rw [e1] at h43; rw [e2] at h35
      clear Hr hr e1 e2
      go_enter Tryz.func63, Tryz.ntmps63
      go_wp2_with fail
      go_ret
      exact ⟨rfl, rfl⟩
    · have hr := Hr.out; rw [e1, e2] at hr
      have hr2 : decide (y = 36) = r := hr
      rw [hr2] at h36
      rw [e1] at h43; rw [e2] at h35
      clear Hr hr e1 e2 hr2
      go_enter Tryz.func63, Tryz.ntmps63
      go_wp2_with fail
      go_ret
      exact ⟨rfl, rfl⟩
  · have hr := Hr.out; rw [e1] at hr
    have hr2 : decide (y = 36) = r := by simpa using hr
    rw [hr2] at h36
    rw [e1] at h43
    clear Hr hr e1 hr2 h35
    go_enter Tryz.func63, Tryz.ntmps63
    go_wp2_with fail
    go_ret
    exact ⟨rfl, rfl⟩

set_option maxRecDepth 100000 in
set_option maxHeartbeats 4000000 in
theorem refMatch_c (f n : List UInt8) (w : World) (hf : f.length ≤ 9223372036854775000) (hn : n.length ≤ 9223372036854775000) :
    Calls Tryz.prog 35 #[.string (sOf f), .string (sOf n)] w fun e w' => e = .returned (.bool (mMatch f n)) ∧ Below w.heap.size w w' := by
  obtain ⟨r, hr⟩ : ∃ r, mMatch f n = r := ⟨_, rfl⟩
  rw [hr]
  unfold mMatch at hr
  have Hr := hd hr; clear hr
  go_enter Tryz.func35, Tryz.ntmps35
  go_wp2_with fail
  refine (refFilter_c f _ hf).mono ?_
  rintro e w1 ⟨rfl, hb1⟩
  cases hu : lFilter f
  · have hr := Hr.out; rw [hu, Bool.false_and] at hr; subst hr; clear Hr
    go_wp2_with fail
    go_ret
    exact ⟨rfl, hb1⟩
  have hfs : lSized f = true := by unfold lFilter at hu; exact (Bool.and_eq_true _ _ ▸ hu).1
  obtain ⟨f0, f96, f12⟩ := lSized_len hfs
  have H1 := hd (show (lName n && (!(begW f && lHidden n) && alongL holdM (lSplit f) (lSplit n))) = r by have hr := Hr.out; rw [hu, Bool.true_and] at hr; exact hr)
  clear Hr hu hfs
  go_wp2_with fail
  refine (refName_c n _ hn).mono ?_
  rintro e w2 ⟨rfl, hb2⟩
  replace hb1 := Below.up hb1 hb2
  clear hb2
  cases hu : lName n
  · have hr := H1.out; rw [hu, Bool.false_and] at hr; subst hr; clear H1
    go_wp2_with fail
    go_ret
    exact ⟨rfl, hb1⟩
  have hns : lSized n = true := by unfold lName at hu; exact (Bool.and_eq_true _ _ ▸ hu).1
  obtain ⟨n0, n96, n12⟩ := lSized_len hns
  have H2 := hd (show (!(begW f && lHidden n) && alongL holdM (lSplit f) (lSplit n)) = r by have hr := H1.out; rw [hu, Bool.true_and] at hr; exact hr)
  clear H1 hu hns
  go_wp2_with fail
  refine (shy_c f n _ f0 n0).mono ?_
  rintro e w3 ⟨rfl, rfl⟩
  cases hbw : (begW f && lHidden n)
  rotate_left
  · have hr := H2.out; rw [hbw] at hr
    have hr2 : false = r := hr
    subst hr2; clear H2 hr
    clear hbw
    go_wp2_with fail
    go_ret
    exact ⟨rfl, hb1⟩
  have H3 := hd (show alongL holdM (lSplit f) (lSplit n) = r by have hr := H2.out; rw [hbw] at hr; simpa using hr)
  clear H2 hbw
  go_wp2_with fail
  refine (refSplit_c f _ (by omega)).mono ?_
  rintro e w4 ⟨v4, rfl, ho4, hb2⟩
  replace hb1 := Below.up hb1 hb2
  have L4 := ho4.ls
  have HL4 := hd L4
  clear hb2 ho4 L4
  go_wp2_with fail
  refine (refSplit_c n _ (by omega)).mono ?_
  rintro e w5 ⟨v5, rfl, ho5, hb2⟩
  have L4 := HL4.out.below' hb2 (Nat.le_refl _)
  replace hb1 := Below.up hb1 hb2
  have L5 := ho5.ls
  have HL4 := hd L4; have HL5 := hd L5
  clear hb2 ho5 L4 L5
  go_wp2_with fail
  refine (wants_c _ _ _ _ _ HL4.out HL5.out).mono ?_
  rintro e w6 ⟨rfl, m, rfl⟩
  rw [H3.out]
  go_wp2_with fail
  go_ret
  exact ⟨rfl, below_dn hb1 m⟩

end Go.Proofs.YtclicjokgfiegaaGreatDoor
