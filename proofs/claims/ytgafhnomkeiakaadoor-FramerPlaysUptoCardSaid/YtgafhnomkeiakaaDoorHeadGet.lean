/- Heads: what is read of bytes: length, Get, and the reference's Get. -/
import Derived.Test.YtgafhnomkeiakaaDoorHead
namespace Go.Proofs.YtgafhnomkeiakaaDoor
open Go.RowKit
set_option linter.unusedVariables false

def hLen (l : List UInt8) : Int × Int × Int :=
  if l.length = 0 then (0, 0, 2)
  else if (bN l 0 : Int) < 128 then ((bN l 0 : Int) % 128, 1, 0)
  else if l.length = 1 then (0, 0, 2)
  else if (bN l 1 : Int) < 128 then ((bN l 0 : Int) % 128 + (bN l 1 : Int) % 128 * 128, 2, 0)
  else if l.length = 2 then (0, 0, 2)
  else if (bN l 2 : Int) < 128 then ((bN l 0 : Int) % 128 + (bN l 1 : Int) % 128 * 128 + (bN l 2 : Int) % 128 * 16384, 3, 0)
  else if l.length = 3 then (0, 0, 2)
  else if (bN l 3 : Int) < 128 then ((bN l 0 : Int) % 128 + (bN l 1 : Int) % 128 * 128 + (bN l 2 : Int) % 128 * 16384 + (bN l 3 : Int) % 128 * 2097152, 4, 0)
  else (0, 0, 3)

theorem hLen_bounds (l : List UInt8) : 0 ≤ (hLen l).1 ∧ (hLen l).1 ≤ 268435455 ∧ 0 ≤ (hLen l).2.1 ∧ (hLen l).2.1 ≤ 4 ∧ (hLen l).2.1 ≤ l.length := by
  unfold hLen
  have h0 := bN_lt l 0
  have h1 := bN_lt l 1
  have h2 := bN_lt l 2
  have h3 := bN_lt l 3
  repeat' split
  all_goals (simp only; omega)

set_option maxRecDepth 100000 in
set_option maxHeartbeats 1000000 in
theorem length_c (v : Value) (l : List UInt8) (w : World) (hv : Bs w v l) :
    Calls Tryd.prog 73 #[v] w fun e w' => e = .returned (.tuple #[.int .i64 (hLen l).1, .int .i64 (hLen l).2.1, .int .i64 (hLen l).2.2]) ∧ w = w' := by
  rcases hv.split with ⟨rfl, a, c, rfl, hc⟩ | ⟨hpos, b, o, c, rfl, hc1, hc2, hlt, hcell⟩
  · go_enter Tryd.func73, Tryd.ntmps73
    go_wp2
    go_rounds 1
    go_ret3
    exact ⟨rfl, rfl⟩
  · obtain ⟨r, hr⟩ : ∃ r, hLen l = r := ⟨_, rfl⟩
    rw [hr]
    unfold hLen at hr
    have h0 := bN_lt l 0
    have h1 := bN_lt l 1
    have h2 := bN_lt l 2
    have h3 := bN_lt l 3
    have c0 : 0 < l.length → w.cell? ⟨b, o, none⟩ = some (.int .u8 (bN l 0)) := fun h => hcell 0 h
    have c1 : 1 < (l.length : Int) → w.cell? ⟨b, o + 1, none⟩ = some (.int .u8 (bN l 1)) := fun h => hcell 1 (by omega)
    have c2 : 2 < (l.length : Int) → w.cell? ⟨b, o + 2, none⟩ = some (.int .u8 (bN l 2)) := fun h => hcell 2 (by omega)
    have c3 : 3 < (l.length : Int) → w.cell? ⟨b, o + 3, none⟩ = some (.int .u8 (bN l 3)) := fun h => hcell 3 (by omega)
    have c4 : 4 < (l.length : Int) → w.cell? ⟨b, o + 4, none⟩ = some (.int .u8 (bN l 4)) := fun h => hcell 4 (by omega)
    have h4 := bN_lt l 4
    clear hcell hv hlt
    generalize hn : l.length = n at hr hc1 c0 c1 c2 c3 c4 hpos ⊢
    clear hn
    generalize bN l 0 = b0 at *
    generalize bN l 1 = b1 at *
    generalize bN l 2 = b2 at *
    generalize bN l 3 = b3 at *
    generalize bN l 4 = b4 at *
    have Hr := hd hr
    clear hr
    unfold maxLen at hc2
    go_enter Tryd.func73, Tryd.ntmps73
    go_wp2
    go_rounds 5
    all_goals (go_ret3; refine ⟨?_, rfl⟩; rw [← Hr.out]; clear Hr c0 c1 c2 c3 c4)
    all_goals (repeat (first | rw [if_pos (by omega)] | rw [if_neg (by omega)]))
    all_goals rfl

/-- kind, flags, length, the place behind, the error -/
def hGet (l : List UInt8) (at' : Int) : (Int × Int × Int) × Int × Int :=
  if at' < 0 ∨ (l.length : Int) < at' then ((0, 0, 0), 0, 1)
  else if at' = l.length then ((0, 0, 0), 0, 2)
  else if hRight ((bN l at'.toNat : Int) / 16) ((bN l at'.toNat : Int) % 16) ≠ 0 then ((0, 0, 0), 0, hRight ((bN l at'.toNat : Int) / 16) ((bN l at'.toNat : Int) % 16))
  else if (hLen (l.drop (at'.toNat + 1))).2.2 ≠ 0 then ((0, 0, 0), 0, (hLen (l.drop (at'.toNat + 1))).2.2)
  else if 4096 < (hLen (l.drop (at'.toNat + 1))).1 then ((0, 0, 0), 0, 3)
  else (((bN l at'.toNat : Int) / 16, (bN l at'.toNat : Int) % 16, (hLen (l.drop (at'.toNat + 1))).1), at' + 1 + (hLen (l.drop (at'.toNat + 1))).2.1, 0)

def GivesHead (w : World) (r : (Int × Int × Int) × Int × Int) (e : Ending) (w' : World) : Prop :=
  e = .returned (.tuple #[.agg #[.int .i64 r.1.1, .int .i64 r.1.2.1, .int .i64 r.1.2.2], .int .i64 r.2.1, .int .i64 r.2.2]) ∧ Below w.heap.size w w'

set_option maxRecDepth 100000 in
set_option maxHeartbeats 1000000 in
theorem hGet_c (v : Value) (l : List UInt8) (at' : Int) (w : World) (hE : EnvH w) (hv : Bs w v l) :
    Calls Tryd.prog 63 #[v, .int .i64 at'] w (GivesHead w (hGet l at')) := by
  obtain ⟨r, hr⟩ : ∃ r, hGet l at' = r := ⟨_, rfl⟩
  rw [hr]
  unfold hGet at hr
  have HE := hd hE; clear hE
  by_cases h1 : at' < 0 ∨ (l.length : Int) < at'
  · rw [if_pos h1] at hr
    subst hr
    rcases hv.split with ⟨rfl, a, c, rfl, hc⟩ | ⟨hpos, b, o, c, rfl, hc1, hc2, hlt, hcell⟩
    all_goals
      rcases h1 with h1 | h1
      all_goals
        go_enter Tryd.func63, Tryd.ntmps63
        go_wp2
        go_returns
        exact ⟨rfl, by go_grown⟩
  · rw [if_neg h1] at hr
    by_cases h2 : at' = l.length
    · rw [if_pos h2] at hr
      subst hr h2
      rcases hv.split with ⟨rfl, a, c, rfl, hc⟩ | ⟨hpos, b, o, c, rfl, hc1, hc2, hlt, hcell⟩
      · go_enter Tryd.func63, Tryd.ntmps63
        go_wp2
        go_returns
        exact ⟨rfl, by go_grown⟩
      · go_enter Tryd.func63, Tryd.ntmps63
        go_wp2
        go_returns
        exact ⟨rfl, by go_grown⟩
    · rw [if_neg h2] at hr
      obtain ⟨k, rfl⟩ := Int.eq_ofNat_of_zero_le (show 0 ≤ at' by omega)
      rw [Int.toNat_natCast] at hr
      have hk : k < l.length := by omega
      clear h1 h2
      rcases hv.split with ⟨rfl, a, c, rfl, hc⟩ | ⟨hpos, b, o, c, rfl, hc1, hc2, hlt, hcell⟩
      · exact absurd hk (by simp)
      · have hc := hcell k hk
        have hbl := bN_lt l k
        clear hcell
        unfold maxLen at hc2
        obtain ⟨a', c', hsl, hbs⟩ := run_from hv ((k : Int) + 1) (k + 1) (by omega) (by omega)
        go_enter Tryd.func63, Tryd.ntmps63
        go_wp2_with fail
        go_region
        go_wp2_with fail
        have hbb : Below w.heap.size w ((w.alloc (Obj.cells #[Value.int IntKind.i64 0, Value.int IntKind.i64 0, Value.int IntKind.i64 0] 52)).alloc (Obj.cells #[Value.int IntKind.i64 (↑(bN l k) / 16), Value.int IntKind.i64 (↑(bN l k) % 16), Value.int IntKind.i64 0] 52)).drew := by go_grown
        refine (hRight_c _ _ _ (HE.out.below hbb (Nat.le_refl _))).mono ?_
        rintro e w' ⟨rfl, rfl⟩
        obtain ⟨r1, hr1⟩ : ∃ r1, hRight ((bN l k : Int) / 16) ((bN l k : Int) % 16) = r1 := ⟨_, rfl⟩
        rw [hr1] at hr ⊢
        clear hr1
        by_cases h3 : r1 = 0
        · subst h3
          rw [if_neg (by decide)] at hr
          have Hr := hd hr; clear hr
          go_wp2_with fail
          refine (length_c _ _ _ (hbs.below' hbb (Nat.le_refl _))).mono ?_
          rintro e w' ⟨rfl, rfl⟩
          have hr := Hr.out; clear Hr
          have hRb := hLen_bounds (l.drop (k + 1))
          generalize hLen (l.drop (k + 1)) = R at hr hRb ⊢
          obtain ⟨rn, rk, re⟩ := R
          simp only at hr hRb ⊢
          obtain ⟨hR1, hR2, hR3, hR4, hR5⟩ := hRb
          rw [List.length_drop] at hR5
          clear hbs hbb hsl hv
          by_cases h4 : re = 0
          · subst h4
            rw [if_neg (by decide)] at hr
            by_cases h5 : 4096 < rn
            · rw [if_pos h5] at hr
              subst hr
              go_wp2
              go_returns
              exact ⟨rfl, by go_grown⟩
            · rw [if_neg h5] at hr
              subst hr
              go_wp2
              go_returns
              exact ⟨rfl, by go_grown⟩
          · rw [if_pos h4] at hr
            subst hr
            have h4b : (re != 0) = true := by simpa using h4
            clear h4
            go_wp2
            go_returns
            exact ⟨rfl, by go_grown⟩
        · rw [if_pos h3] at hr
          subst hr
          have h3b : (r1 != 0) = true := by simpa using h3
          clear h3
          go_wp2
          go_returns
          exact ⟨rfl, by go_grown⟩


set_option maxRecDepth 100000 in
set_option maxHeartbeats 1600000 in
theorem refHGet_c (v : Value) (l : List UInt8) (at' : Int) (w : World) (hv : Bs w v l) :
    Calls Tryd.prog 35 #[v, .int .i64 at'] w (GivesHead w (hGet l at')) := by
  obtain ⟨r, hr⟩ : ∃ r, hGet l at' = r := ⟨_, rfl⟩
  rw [hr]
  unfold hGet at hr
  by_cases h1 : at' < 0 ∨ (l.length : Int) < at'
  · rw [if_pos h1] at hr
    subst hr
    rcases hv.split with ⟨rfl, a, c, rfl, hc⟩ | ⟨hpos, b, o, c, rfl, hc1, hc2, hlt, hcell⟩
    all_goals
      rcases h1 with h1 | h1
      all_goals
        go_enter Tryd.func35, Tryd.ntmps35
        go_wp2
        go_returns
        exact ⟨rfl, by go_grown⟩
  · rw [if_neg h1] at hr
    by_cases h2 : at' = l.length
    · rw [if_pos h2] at hr
      subst hr h2
      rcases hv.split with ⟨rfl, a, c, rfl, hc⟩ | ⟨hpos, b, o, c, rfl, hc1, hc2, hlt, hcell⟩
      · go_enter Tryd.func35, Tryd.ntmps35
        go_wp2
        go_returns
        exact ⟨rfl, by go_grown⟩
      · go_enter Tryd.func35, Tryd.ntmps35
        go_wp2
        go_returns
        exact ⟨rfl, by go_grown⟩
    · rw [if_neg h2] at hr
      obtain ⟨k, rfl⟩ := Int.eq_ofNat_of_zero_le (show 0 ≤ at' by omega)
      rw [Int.toNat_natCast] at hr
      have hk : k < l.length := by omega
      clear h1 h2
      rcases hv.split with ⟨rfl, a, c, rfl, hc⟩ | ⟨hpos, b, o, c, rfl, hc1, hc2, hlt, hcell⟩
      · exact absurd hk (by simp)
      · have hc := hcell k hk
        have hbl := bN_lt l k
        have c1 : (k : Int) + 1 < l.length → w.cell? ⟨b, o + (k + 1), none⟩ = some (.int .u8 (bN l (k + 1 + 0))) := fun h => hcell (k + 1) (by omega)
        have c2 : (k : Int) + 2 < l.length → w.cell? ⟨b, o + (k + 2), none⟩ = some (.int .u8 (bN l (k + 1 + 1))) := fun h => hcell (k + 2) (by omega)
        have c3 : (k : Int) + 3 < l.length → w.cell? ⟨b, o + (k + 3), none⟩ = some (.int .u8 (bN l (k + 1 + 2))) := fun h => hcell (k + 3) (by omega)
        have c4 : (k : Int) + 4 < l.length → w.cell? ⟨b, o + (k + 4), none⟩ = some (.int .u8 (bN l (k + 1 + 3))) := fun h => hcell (k + 4) (by omega)
        have h1 := bN_lt l (k + 1 + 0)
        have h2 := bN_lt l (k + 1 + 1)
        have h3 := bN_lt l (k + 1 + 2)
        have h4 := bN_lt l (k + 1 + 3)
        obtain ⟨R, hR⟩ : ∃ R, hLen (l.drop (k + 1)) = R := ⟨_, rfl⟩
        rw [hR] at hr
        unfold hLen at hR
        simp only [bN_drop, List.length_drop] at hR
        generalize bN l (k + 1 + 0) = b1 at *
        generalize bN l (k + 1 + 1) = b2 at *
        generalize bN l (k + 1 + 2) = b3 at *
        generalize bN l (k + 1 + 3) = b4 at *
        clear hcell hv
        unfold maxLen at hc2
        obtain ⟨r1, hr1⟩ : ∃ r1, hRight ((bN l k : Int) / 16) ((bN l k : Int) % 16) = r1 := ⟨_, rfl⟩
        rw [hr1] at hr
        have Hr1 := hd hr1; clear hr1
        have HR := hd hR; clear hR
        have Hr := hd hr; clear hr
        go_enter Tryd.func35, Tryd.ntmps35
        go_wp2_with fail
        refine (refHRight_c _ _ _).mono ?_
        rintro e w' ⟨rfl, rfl⟩
        rw [Hr1.out]
        clear Hr1
        by_cases h3 : r1 = 0
        · subst h3
          have hr := Hr.out; clear Hr
          rw [if_neg (by decide)] at hr
          have Hr := hd hr; clear hr
          go_wp2_with fail
          go_rounds 5
          all_goals
            have hr := Hr.out
            have hR := HR.out
            clear Hr HR c1 c2 c3 c4 hc
            repeat (first | rw [if_pos (by omega)] at hR | rw [if_neg (by omega)] at hR)
            subst hR
            simp only at hr
            repeat (first | rw [if_pos (by first | decide | omega)] at hr | rw [if_neg (by first | decide | omega)] at hr)
            subst hr
            go_returns
            exact ⟨rfl, by go_grown⟩
        · have hr := Hr.out; clear Hr
          rw [if_pos h3] at hr
          subst hr
          have h3b : (r1 != 0) = true := by simpa using h3
          clear h3
          go_wp2
          go_returns
          exact ⟨rfl, by go_grown⟩
end Go.Proofs.YtgafhnomkeiakaaDoor
