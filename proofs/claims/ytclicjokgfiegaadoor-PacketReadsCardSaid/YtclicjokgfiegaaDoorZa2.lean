/- A bundle of texts (merged for the limit on files): HeadGet, HeadFlags, UtfPlain, Shelf. -/
import Derived.Test.YtclicjokgfiegaaDoorZa1
import Derived.Lib.ValidLaws
import Derived.Lib.TrimUEq
import Derived.Test.YtclicjokgfiegaaDoorProg
import Derived.Ground.NamesProg
import Derived.Shelf.Unicode.ValidAny
/- Heads: what is read of bytes: length, Get, and the reference's Get. -/
namespace Go.Proofs.YtclicjokgfiegaaDoor
open Go.RowKit
set_option linter.unusedVariables false

def hLen (l : List UInt8) : Int × Int × Int :=
  if l.length = 0 then (0, 0, 2)
  else if (bN l 0 : Int) < 128 then ((bN l 0 : Int) % 128, 1, 0)
  else if l.length = 1 then (0, 0, 2)
  else if (bN l 1 : Int) < 128 then ((bN l 0 : Int) % 128 + (bN l 1 : Int) % 128 * 128, 2, 0)
  else if l.length = 2 then (0, 0, 2)
  else if (bN l 2 : Int) < 128 then ((bN l 0 : Int) % 128 + (bN l 1 : Int) % 128 * 128 + (bN l 2 : Int) % 128 * 16384, 3, 0)
  else if l.length = 3 then (0, 0, 2)
  else if (bN l 3 : Int) < 128 then ((bN l 0 : Int) % 128 + (bN l 1 : Int) % 128 * 128 + (bN l 2 : Int) % 128 * 16384 + (bN l 3 : Int) % 128 * 2097152, 4, 0)
  else (0, 0, 3)

theorem hLen_bounds (l : List UInt8) : 0 ≤ (hLen l).1 ∧ (hLen l).1 ≤ 268435455 ∧ 0 ≤ (hLen l).2.1 ∧ (hLen l).2.1 ≤ 4 ∧ (hLen l).2.1 ≤ l.length := by
  unfold hLen
  have h0 := bN_lt l 0
  have h1 := bN_lt l 1
  have h2 := bN_lt l 2
  have h3 := bN_lt l 3
  repeat' split
  all_goals (simp only; omega)

set_option maxRecDepth 100000 in
set_option maxHeartbeats 1000000 in
theorem length_c (v : Value) (l : List UInt8) (w : World) (hv : Bs w v l) :
    Calls Tryd.prog 158 #[v] w fun e w' => e = .returned (.tuple #[.int .i64 (hLen l).1, .int .i64 (hLen l).2.1, .int .i64 (hLen l).2.2]) ∧ w = w' := by
  rcases hv.split with ⟨rfl, a, c, rfl, hc⟩ | ⟨hpos, b, o, c, rfl, hc1, hc2, hlt, hcell⟩
  · go_enter Tryd.func158, Tryd.ntmps158
    go_wp2
    go_rounds 1
    go_ret3
    exact ⟨rfl, rfl⟩
  · obtain ⟨r, hr⟩ : ∃ r, hLen l = r := ⟨_, rfl⟩
    rw [hr]
    unfold hLen at hr
    have h0 := bN_lt l 0
    have h1 := bN_lt l 1
    have h2 := bN_lt l 2
    have h3 := bN_lt l 3
    have c0 : 0 < l.length → w.cell? ⟨b, o, none⟩ = some (.int .u8 (bN l 0)) := fun h => hcell 0 h
    have c1 : 1 < (l.length : Int) → w.cell? ⟨b, o + 1, none⟩ = some (.int .u8 (bN l 1)) := fun h => hcell 1 (by omega)
    have c2 : 2 < (l.length : Int) → w.cell? ⟨b, o + 2, none⟩ = some (.int .u8 (bN l 2)) := fun h => hcell 2 (by omega)
    have c3 : 3 < (l.length : Int) → w.cell? ⟨b, o + 3, none⟩ = some (.int .u8 (bN l 3)) := fun h => hcell 3 (by omega)
    have c4 : 4 < (l.length : Int) → w.cell? ⟨b, o + 4, none⟩ = some (.int .u8 (bN l 4)) := fun h => hcell 4 (by omega)
    have h4 := bN_lt l 4
    clear hcell hv hlt
    generalize hn : l.length = n at hr hc1 c0 c1 c2 c3 c4 hpos ⊢
    clear hn
    generalize bN l 0 = b0 at *
    generalize bN l 1 = b1 at *
    generalize bN l 2 = b2 at *
    generalize bN l 3 = b3 at *
    generalize bN l 4 = b4 at *
    have Hr := hd hr
    clear hr
    unfold maxLen at hc2
    go_enter Tryd.func158, Tryd.ntmps158
    go_wp2
    go_rounds 5
    all_goals (go_ret3; refine ⟨?_, rfl⟩; rw [← Hr.out]; clear Hr c0 c1 c2 c3 c4)
    all_goals (repeat (first | rw [if_pos (by omega)] | rw [if_neg (by omega)]))
    all_goals rfl

/-- kind, flags, length, the place behind, the error -/
def hGet (l : List UInt8) (at' : Int) : (Int × Int × Int) × Int × Int :=
  if at' < 0 ∨ (l.length : Int) < at' then ((0, 0, 0), 0, 1)
  else if at' = l.length then ((0, 0, 0), 0, 2)
  else if hRight ((bN l at'.toNat : Int) / 16) ((bN l at'.toNat : Int) % 16) ≠ 0 then ((0, 0, 0), 0, hRight ((bN l at'.toNat : Int) / 16) ((bN l at'.toNat : Int) % 16))
  else if (hLen (l.drop (at'.toNat + 1))).2.2 ≠ 0 then ((0, 0, 0), 0, (hLen (l.drop (at'.toNat + 1))).2.2)
  else if 4096 < (hLen (l.drop (at'.toNat + 1))).1 then ((0, 0, 0), 0, 3)
  else (((bN l at'.toNat : Int) / 16, (bN l at'.toNat : Int) % 16, (hLen (l.drop (at'.toNat + 1))).1), at' + 1 + (hLen (l.drop (at'.toNat + 1))).2.1, 0)

def GivesHead (w : World) (r : (Int × Int × Int) × Int × Int) (e : Ending) (w' : World) : Prop :=
  e = .returned (.tuple #[.agg #[.int .i64 r.1.1, .int .i64 r.1.2.1, .int .i64 r.1.2.2], .int .i64 r.2.1, .int .i64 r.2.2]) ∧ Below w.heap.size w w'

set_option maxRecDepth 100000 in
set_option maxHeartbeats 1000000 in
theorem hGet_c (v : Value) (l : List UInt8) (at' : Int) (w : World) (hE : EnvH w) (hv : Bs w v l) :
    Calls Tryd.prog 119 #[v, .int .i64 at'] w (GivesHead w (hGet l at')) := by
  obtain ⟨r, hr⟩ : ∃ r, hGet l at' = r := ⟨_, rfl⟩
  rw [hr]
  unfold hGet at hr
  have HE := hd hE; clear hE
  by_cases h1 : at' < 0 ∨ (l.length : Int) < at'
  · rw [if_pos h1] at hr
    subst hr
    rcases hv.split with ⟨rfl, a, c, rfl, hc⟩ | ⟨hpos, b, o, c, rfl, hc1, hc2, hlt, hcell⟩
    all_goals
      rcases h1 with h1 | h1
      all_goals
        go_enter Tryd.func119, Tryd.ntmps119
        go_wp2
        go_returns
        exact ⟨rfl, by go_grown⟩
  · rw [if_neg h1] at hr
    by_cases h2 : at' = l.length
    · rw [if_pos h2] at hr
      subst hr h2
      rcases hv.split with ⟨rfl, a, c, rfl, hc⟩ | ⟨hpos, b, o, c, rfl, hc1, hc2, hlt, hcell⟩
      · go_enter Tryd.func119, Tryd.ntmps119
        go_wp2
        go_returns
        exact ⟨rfl, by go_grown⟩
      · go_enter Tryd.func119, Tryd.ntmps119
        go_wp2
        go_returns
        exact ⟨rfl, by go_grown⟩
    · rw [if_neg h2] at hr
      obtain ⟨k, rfl⟩ := Int.eq_ofNat_of_zero_le (show 0 ≤ at' by omega)
      rw [Int.toNat_natCast] at hr
      have hk : k < l.length := by omega
      clear h1 h2
      rcases hv.split with ⟨rfl, a, c, rfl, hc⟩ | ⟨hpos, b, o, c, rfl, hc1, hc2, hlt, hcell⟩
      · exact absurd hk (by simp)
      · have hc := hcell k hk
        have hbl := bN_lt l k
        clear hcell
        unfold maxLen at hc2
        obtain ⟨a', c', hsl, hbs⟩ := run_from hv ((k : Int) + 1) (k + 1) (by omega) (by omega)
        go_enter Tryd.func119, Tryd.ntmps119
        go_wp2_with fail
        go_region
        go_wp2_with fail
        have hbb : Below w.heap.size w ((w.alloc (Obj.cells #[Value.int IntKind.i64 0, Value.int IntKind.i64 0, Value.int IntKind.i64 0] 72)).alloc (Obj.cells #[Value.int IntKind.i64 (↑(bN l k) / 16), Value.int IntKind.i64 (↑(bN l k) % 16), Value.int IntKind.i64 0] 72)).drew := by go_grown
        refine (hRight_c _ _ _ (HE.out.below hbb (Nat.le_refl _))).mono ?_
        rintro e w' ⟨rfl, rfl⟩
        obtain ⟨r1, hr1⟩ : ∃ r1, hRight ((bN l k : Int) / 16) ((bN l k : Int) % 16) = r1 := ⟨_, rfl⟩
        rw [hr1] at hr ⊢
        clear hr1
        by_cases h3 : r1 = 0
        · subst h3
          rw [if_neg (by decide)] at hr
          have Hr := hd hr; clear hr
          go_wp2_with fail
          refine (length_c _ _ _ (hbs.below' hbb (Nat.le_refl _))).mono ?_
          rintro e w' ⟨rfl, rfl⟩
          have hr := Hr.out; clear Hr
          have hRb := hLen_bounds (l.drop (k + 1))
          generalize hLen (l.drop (k + 1)) = R at hr hRb ⊢
          obtain ⟨rn, rk, re⟩ := R
          simp only at hr hRb ⊢
          obtain ⟨hR1, hR2, hR3, hR4, hR5⟩ := hRb
          rw [List.length_drop] at hR5
          clear hbs hbb hsl hv
          by_cases h4 : re = 0
          · subst h4
            rw [if_neg (by decide)] at hr
            by_cases h5 : 4096 < rn
            · rw [if_pos h5] at hr
              subst hr
              go_wp2
              go_returns
              exact ⟨rfl, by go_grown⟩
            · rw [if_neg h5] at hr
              subst hr
              go_wp2
              go_returns
              exact ⟨rfl, by go_grown⟩
          · rw [if_pos h4] at hr
            subst hr
            have h4b : (re != 0) = true := by simpa using h4
            clear h4
            go_wp2
            go_returns
            exact ⟨rfl, by go_grown⟩
        · rw [if_pos h3] at hr
          subst hr
          have h3b : (r1 != 0) = true := by simpa using h3
          clear h3
          go_wp2
          go_returns
          exact ⟨rfl, by go_grown⟩


end Go.Proofs.YtclicjokgfiegaaDoor

/- Heads: a message's flags made and told. -/
namespace Go.Proofs.YtclicjokgfiegaaDoor
open Go.RowKit
set_option linter.unusedVariables false

def hPub (dup : Bool) (qos : Int) (retain : Bool) : Int :=
  if qos < 0 ∨ 2 < qos ∨ (dup = true ∧ qos = 0) then -1 else 2 * qos + (if dup then 8 else 0) + (if retain then 1 else 0)

set_option maxHeartbeats 1000000 in
theorem Publish_c (dup retain : Bool) (qos : Int) (w : World) (hE : EnvH w) :
    Calls Tryd.prog 123 #[.bool dup, .int .i64 qos, .bool retain] w fun e w' => e = .returned (.int .i64 (hPub dup qos retain)) ∧ w = w' := by
  have HE := hd hE; clear hE
  have o1 : bits .or .i64 0 8 = 8 := by decide
  have o2 : bits .or .i64 2 8 = 10 := by decide
  have o3 : bits .or .i64 4 8 = 12 := by decide
  have o4 : bits .or .i64 6 8 = 14 := by decide
  have p0 : bits .or .i64 0 1 = 1 := by decide
  have p1 : bits .or .i64 2 1 = 3 := by decide
  have p2 : bits .or .i64 4 1 = 5 := by decide
  have p3 : bits .or .i64 6 1 = 7 := by decide
  have q0 : bits .or .i64 8 1 = 9 := by decide
  have q1 : bits .or .i64 10 1 = 11 := by decide
  have q2 : bits .or .i64 12 1 = 13 := by decide
  have q3 : bits .or .i64 14 1 = 15 := by decide
  have m0 : hMsg 0 = true := by decide
  have m1 : hMsg 1 = true := by decide
  have m2 : hMsg 2 = true := by decide
  have m3 : hMsg 3 = true := by decide
  have m4 : hMsg 4 = true := by decide
  have m5 : hMsg 5 = true := by decide
  have m6 : hMsg 6 = false := by decide
  have m7 : hMsg 7 = false := by decide
  have m8 : hMsg 8 = false := by decide
  have m9 : hMsg 9 = false := by decide
  have m10 : hMsg 10 = true := by decide
  have m11 : hMsg 11 = true := by decide
  have m12 : hMsg 12 = true := by decide
  have m13 : hMsg 13 = true := by decide
  have m14 : hMsg 14 = false := by decide
  have m15 : hMsg 15 = false := by decide
  by_cases h : qos < 0 ∨ 3 < qos
  · have hr : hPub dup qos retain = -1 := by unfold hPub; rw [if_pos (by omega)]
    rw [hr]
    rcases h with h | h
    all_goals
      go_enter Tryd.func123, Tryd.ntmps123
      go_wp2
      go_ret
      exact ⟨rfl, rfl⟩
  · have h4 : qos = 0 ∨ qos = 1 ∨ qos = 2 ∨ qos = 3 := by omega
    clear h
    rcases h4 with rfl | rfl | rfl | rfl
    all_goals
      cases dup <;> cases retain
      all_goals
        go_enter Tryd.func123, Tryd.ntmps123
        go_wp2_with fail
        refine (message_c _ _ HE.out).mono ?_
        rintro e w' ⟨rfl, rfl⟩
        go_wp2
        go_ret
        exact ⟨ret_int (by decide), rfl⟩

set_option maxHeartbeats 1000000 in
theorem refPublish_c (dup retain : Bool) (qos : Int) (w : World) :
    Calls Tryd.prog 78 #[.bool dup, .int .i64 qos, .bool retain] w fun e w' => e = .returned (.int .i64 (hPub dup qos retain)) ∧ w = w' := by
  by_cases h : qos < 0 ∨ 2 < qos
  · have hr : hPub dup qos retain = -1 := by unfold hPub; rw [if_pos (by omega)]
    rw [hr]
    rcases h with h | h
    all_goals
      go_enter Tryd.func78, Tryd.ntmps78
      go_wp2
      go_ret
      exact ⟨rfl, rfl⟩
  · have h4 : qos = 0 ∨ qos = 1 ∨ qos = 2 := by omega
    clear h
    rcases h4 with rfl | rfl | rfl
    all_goals
      cases dup <;> cases retain
      all_goals
        go_enter Tryd.func78, Tryd.ntmps78
        go_wp2
        go_ret
        exact ⟨ret_int (by decide), rfl⟩

def hDup (f : Int) : Bool := hMsg f && decide (8 ≤ f)
def hQos (f : Int) : Int := if hMsg f then f / 2 % 4 else 0
def hRet (f : Int) : Bool := hMsg f && decide (f % 2 = 1)
theorem hMsg_iff (f : Int) : hMsg f = true ↔ 0 ≤ f ∧ f ≤ 15 ∧ (f < 6 ∨ (10 ≤ f ∧ f < 14)) := by
  unfold hMsg mayB
  simp
  omega

theorem and8 : ∀ n : Fin 16, bits .and .i64 ((n.val : Nat) : Int) 8 = (n.val : Int) / 8 * 8 := by decide +kernel
theorem and1 : ∀ n : Fin 16, bits .and .i64 ((n.val : Nat) : Int) 1 = (n.val : Int) % 2 := by decide +kernel
theorem and3 : ∀ n : Fin 16, bits .and .i64 ((n.val : Nat) : Int) 3 = (n.val : Int) % 4 := by decide +kernel

set_option maxHeartbeats 1000000 in
theorem Told_c (f : Int) (w : World) (hE : EnvH w) :
    Calls Tryd.prog 149 #[.int .i64 f] w fun e w' => e = .returned (.tuple #[.bool (hDup f), .int .i64 (hQos f), .bool (hRet f)]) ∧ w = w' := by
  have HE := hd hE; clear hE
  obtain ⟨d, hdd⟩ : ∃ d, hDup f = d := ⟨_, rfl⟩
  obtain ⟨q, hq⟩ : ∃ d, hQos f = d := ⟨_, rfl⟩
  obtain ⟨r, hr⟩ : ∃ d, hRet f = d := ⟨_, rfl⟩
  rw [hdd, hq, hr]
  unfold hDup at hdd; unfold hQos at hq; unfold hRet at hr
  cases hm : hMsg f
  · rw [hm] at hdd hq hr
    simp at hdd hq hr
    subst hdd hq hr
    go_enter Tryd.func149, Tryd.ntmps149
    go_wp2_with fail
    refine (message_c _ _ HE.out).mono ?_
    rintro e w' ⟨rfl, rfl⟩
    go_wp2
    go_ret3
    exact ⟨rfl, rfl⟩
  · rw [hm] at hdd hq hr
    have hb := (hMsg_iff f).1 hm
    obtain ⟨n, rfl⟩ := Int.eq_ofNat_of_zero_le hb.1
    have a8 : bits .and .i64 (n : Int) 8 = (n : Int) / 8 * 8 := and8 ⟨n, by omega⟩
    have a1 : bits .and .i64 (n : Int) 1 = (n : Int) % 2 := and1 ⟨n, by omega⟩
    have a3 : bits .and .i64 ((n : Int) / 2) 3 = (n : Int) / 2 % 4 := and3 ⟨n / 2, by omega⟩
    have Hd1 := hd hdd; have Hq := hd hq; have Hr := hd hr
    clear hdd hq hr
    have hb2 := hb.2.1
    clear hb
    go_enter Tryd.func149, Tryd.ntmps149
    go_wp2_with fail
    refine (message_c _ _ HE.out).mono ?_
    rintro e w' ⟨rfl, rfl⟩
    go_wp2
    go_ret3
    clear HE
    refine ⟨ret3 (vb ?_) (vi ?_) (vb ?_), rfl⟩
    · rw [← Hd1.out]; clear Hd1 Hq Hr a8 a1 a3 hm
      simp only [Bool.true_and]
      rw [Bool.eq_iff_iff]; simp; omega
    · rw [← Hq.out]; simp
    · rw [← Hr.out]; clear Hd1 Hq Hr a8 a1 a3 hm
      simp only [Bool.true_and]
      rw [Bool.eq_iff_iff]; simp; omega

set_option maxHeartbeats 1000000 in
theorem refTold_c (f : Int) (w : World) :
    Calls Tryd.prog 114 #[.int .i64 f] w fun e w' => e = .returned (.tuple #[.bool (hDup f), .int .i64 (hQos f), .bool (hRet f)]) ∧ w = w' := by
  obtain ⟨d, hdd⟩ : ∃ d, hDup f = d := ⟨_, rfl⟩
  obtain ⟨q, hq⟩ : ∃ d, hQos f = d := ⟨_, rfl⟩
  obtain ⟨r, hr⟩ : ∃ d, hRet f = d := ⟨_, rfl⟩
  rw [hdd, hq, hr]
  unfold hDup at hdd; unfold hQos at hq; unfold hRet at hr
  cases hm : hMsg f
  · rw [hm] at hdd hq hr
    simp at hdd hq hr
    subst hdd hq hr
    have hx : hRight 3 f = 10 := by unfold hRight; rw [hm]; rfl
    have Hx := hd hx; clear hx hm
    go_enter Tryd.func114, Tryd.ntmps114
    go_wp2_with fail
    refine (refHRight_c _ _ _).mono ?_
    rintro e w' ⟨rfl, rfl⟩
    rw [Hx.out]
    go_wp2
    go_ret3
    exact ⟨rfl, rfl⟩
  · rw [hm] at hdd hq hr
    have hb := (hMsg_iff f).1 hm
    obtain ⟨n, rfl⟩ := Int.eq_ofNat_of_zero_le hb.1
    have Hd1 := hd hdd; have Hq := hd hq; have Hr := hd hr
    clear hdd hq hr
    have hb2 := hb.2.1
    clear hb
    have hx : hRight 3 n = 0 := by unfold hRight; rw [hm]; rfl
    have Hx := hd hx; clear hx hm
    go_enter Tryd.func114, Tryd.ntmps114
    go_wp2_with fail
    refine (refHRight_c _ _ _).mono ?_
    rintro e w' ⟨rfl, rfl⟩
    rw [Hx.out]
    go_wp2
    go_ret3
    refine ⟨ret3 (vb ?_) (vi ?_) (vb ?_), rfl⟩
    · rw [← Hd1.out]; clear Hd1 Hq Hr Hx
      simp only [Bool.true_and]
    · rw [← Hq.out]; simp
    · rw [← Hr.out]; clear Hd1 Hq Hr Hx
      simp only [Bool.true_and]
      rw [Bool.eq_iff_iff]; simp

/-! ### The law -/
theorem hPub_neg {dup retain : Bool} {qos : Int} (h : hPub dup qos retain < 0) : hDup (hPub dup qos retain) = false ∧ hQos (hPub dup qos retain) = 0 ∧ hRet (hPub dup qos retain) = false := by
  have : hPub dup qos retain = -1 := by
    unfold hPub at h ⊢
    by_cases hc : qos < 0 ∨ 2 < qos ∨ (dup = true ∧ qos = 0)
    · rw [if_pos hc]
    · rw [if_neg hc] at h
      exfalso
      revert h
      cases dup <;> cases retain <;> simp <;> omega
  rw [this]
  decide
theorem hPub_pos {dup retain : Bool} {qos : Int} (h : ¬ hPub dup qos retain < 0) : hDup (hPub dup qos retain) = dup ∧ hQos (hPub dup qos retain) = qos ∧ hRet (hPub dup qos retain) = retain ∧ hRight 3 (hPub dup qos retain) = 0 := by
  by_cases hc : qos < 0 ∨ 2 < qos ∨ (dup = true ∧ qos = 0)
  · exfalso
    apply h
    unfold hPub
    rw [if_pos hc]
    omega
  · have h4 : qos = 0 ∨ qos = 1 ∨ qos = 2 := by omega
    clear h
    rcases h4 with rfl | rfl | rfl
    all_goals
      cases dup <;> cases retain
      all_goals first | decide | (exfalso; apply hc; simp)
theorem hPub_told {f : Int} (h : hRight 3 f = 0) : hPub (hDup f) (hQos f) (hRet f) = f := by
  have hm : hMsg f = true := by
    unfold hRight at h
    cases hm : hMsg f
    · rw [hm] at h; simp at h
    · rfl
  have hb := (hMsg_iff f).1 hm
  have h16 : f = 0 ∨ f = 1 ∨ f = 2 ∨ f = 3 ∨ f = 4 ∨ f = 5 ∨ f = 10 ∨ f = 11 ∨ f = 12 ∨ f = 13 := by omega
  rcases h16 with rfl | rfl | rfl | rfl | rfl | rfl | rfl | rfl | rfl | rfl <;> decide

end Go.Proofs.YtclicjokgfiegaaDoor

/- Texts: plain laws: which bytes are a text, by the library's words and by the reference's steps. No program. -/
namespace Go.Proofs.YtclicjokgfiegaaDoor
open Go.RowKit
set_option linter.unusedVariables false

def tailL (l : List UInt8) (i : Nat) : Bool := decide (i < l.length) && decide ((128 : Int) ≤ bN l i) && decide ((bN l i : Int) ≤ 191)
/-- How many bytes the rune at a place has, and its number. -/
def stepL (l : List UInt8) (i : Nat) : Int × Int :=
  if (bN l i : Int) < 128 then (1, bN l i)
  else if ((194 : Int) ≤ bN l i ∧ (bN l i : Int) ≤ 223) ∧ tailL l (i + 1) = true then (2, ((bN l i : Int) - 192) * 64 + bN l (i + 1) - 128)
  else if (((224 : Int) ≤ bN l i ∧ (bN l i : Int) ≤ 239) ∧ tailL l (i + 1) = true) ∧ tailL l (i + 2) = true then
    (if ((bN l i : Int) - 224) * 4096 + ((bN l (i + 1) : Int) - 128) * 64 + bN l (i + 2) - 128 < 2048 ∨ ((55296 : Int) ≤ ((bN l i : Int) - 224) * 4096 + ((bN l (i + 1) : Int) - 128) * 64 + bN l (i + 2) - 128 ∧ ((bN l i : Int) - 224) * 4096 + ((bN l (i + 1) : Int) - 128) * 64 + bN l (i + 2) - 128 ≤ 57343) then (0, 0)
     else (3, ((bN l i : Int) - 224) * 4096 + ((bN l (i + 1) : Int) - 128) * 64 + bN l (i + 2) - 128))
  else if ((((240 : Int) ≤ bN l i ∧ (bN l i : Int) ≤ 244) ∧ tailL l (i + 1) = true) ∧ tailL l (i + 2) = true) ∧ tailL l (i + 3) = true then
    (if ((bN l i : Int) - 240) * 262144 + ((bN l (i + 1) : Int) - 128) * 4096 + ((bN l (i + 2) : Int) - 128) * 64 + bN l (i + 3) - 128 < 65536 ∨ (1114111 : Int) < ((bN l i : Int) - 240) * 262144 + ((bN l (i + 1) : Int) - 128) * 4096 + ((bN l (i + 2) : Int) - 128) * 64 + bN l (i + 3) - 128 then (0, 0)
     else (4, ((bN l i : Int) - 240) * 262144 + ((bN l (i + 1) : Int) - 128) * 4096 + ((bN l (i + 2) : Int) - 128) * 64 + bN l (i + 3) - 128))
  else (0, 0)

def zeroIn (l : List UInt8) : Bool := l.any (· == 0)
def uRight (l : List UInt8) : Bool := decide (l.length ≤ 65535) && (Lib.validD l && !zeroIn l)

theorem tailL_iff (l : List UInt8) (i : Nat) : tailL l i = true ↔ i < l.length ∧ 128 ≤ bN l i ∧ bN l i ≤ 191 := by
  unfold tailL; simp; omega

/-- No byte among the first n is 0, if none of their numbers is. -/
theorem zeroIn_drop : ∀ (n : Nat) (l : List UInt8), n ≤ l.length → (∀ j, j < n → bN l j ≠ 0) → zeroIn l = zeroIn (l.drop n)
  | 0, l, _, _ => by simp
  | n + 1, [], h, _ => by simp at h
  | n + 1, b :: t, h, hb => by
    have h0 := hb 0 (by omega)
    have e : zeroIn (b :: t) = zeroIn t := by
      unfold zeroIn
      have : (b == 0) = false := by
        rw [beq_eq_false_iff_ne]
        intro hc
        apply h0
        subst hc
        rfl
      simp [this]
    rw [e, List.drop_succ_cons]
    refine zeroIn_drop n t (by simpa using h) (fun j hj => ?_)
    have := hb (j + 1) (by omega)
    unfold bN at this ⊢
    simpa using this
theorem zeroIn_hit {l : List UInt8} (hl : 0 < l.length) (h : bN l 0 = 0) : zeroIn l = true := by
  cases l with
  | nil => simp at hl
  | cons b t =>
    have : b = 0 := by
      unfold bN at h
      simp at h
      exact UInt8.toNat_inj.1 (by simpa using h)
    unfold zeroIn
    simp [this]

/-- One step of the reference's loop: on what is left. -/
theorem step_left (l : List UInt8) (i : Nat) (hi : i < l.length) :
    ((stepL l i).1 = 0 → Lib.validD (l.drop i) = false) ∧
    ((stepL l i).1 ≠ 0 → ∃ n : Nat, (stepL l i).1 = n ∧ 1 ≤ n ∧ i + n ≤ l.length ∧ Lib.validD (l.drop i) = Lib.validD (l.drop (i + n)) ∧
      ((stepL l i).2 = 0 → zeroIn (l.drop i) = true) ∧ ((stepL l i).2 ≠ 0 → zeroIn (l.drop i) = zeroIn (l.drop (i + n)))) := by
  have hne : l.drop i ≠ [] := by intro h; have := congrArg List.length h; simp at this; omega
  have hv := Lib.validD_step (l.drop i) hne
  rw [Lib.decodeL_N] at hv
  have e0 : ((l.drop i).getD 0 0).toNat = bN l i := by have := bN_drop l i 0; rw [Nat.add_zero] at this; exact this
  have e1 : ((l.drop i).getD 1 0).toNat = bN l (i + 1) := bN_drop l i 1
  have e2 : ((l.drop i).getD 2 0).toNat = bN l (i + 2) := bN_drop l i 2
  have e3 : ((l.drop i).getD 3 0).toNat = bN l (i + 3) := bN_drop l i 3
  rw [e0, e1, e2, e3, List.length_drop, List.drop_drop] at hv
  have t1 := tailL_iff l (i + 1)
  have t2 := tailL_iff l (i + 2)
  have t3 := tailL_iff l (i + 3)
  have z0 : bN l i = 0 → zeroIn (l.drop i) = true := fun h => zeroIn_hit (by rw [List.length_drop]; omega) (by rw [bN_drop, Nat.add_zero]; exact h)
  have zn : ∀ n, i + n ≤ l.length → (∀ j, j < n → bN l (i + j) ≠ 0) → zeroIn (l.drop i) = zeroIn (l.drop (i + n)) := fun n hn hb => by
    have := zeroIn_drop n (l.drop i) (by rw [List.length_drop]; omega) (fun j hj => by rw [bN_drop]; exact hb j hj)
    rw [List.drop_drop] at this
    exact this
  have b0 := bN_lt l i
  have b1 := bN_lt l (i + 1)
  have b2 := bN_lt l (i + 2)
  have b3 := bN_lt l (i + 3)
  have hz1 : bN l i ≠ 0 → zeroIn (l.drop i) = zeroIn (l.drop (i + 1)) := fun h => zn 1 (by omega) (fun j hj => by
    match j, hj with
    | 0, _ => exact h)
  have hz2 : i + 2 ≤ l.length → bN l i ≠ 0 → bN l (i + 1) ≠ 0 → zeroIn (l.drop i) = zeroIn (l.drop (i + 2)) := fun h h0 h1 => zn 2 h (fun j hj => by
    match j, hj with
    | 0, _ => exact h0
    | 1, _ => exact h1)
  have hz3 : i + 3 ≤ l.length → bN l i ≠ 0 → bN l (i + 1) ≠ 0 → bN l (i + 2) ≠ 0 → zeroIn (l.drop i) = zeroIn (l.drop (i + 3)) := fun h h0 h1 h2 => zn 3 h (fun j hj => by
    match j, hj with
    | 0, _ => exact h0
    | 1, _ => exact h1
    | 2, _ => exact h2)
  have hz4 : i + 4 ≤ l.length → bN l i ≠ 0 → bN l (i + 1) ≠ 0 → bN l (i + 2) ≠ 0 → bN l (i + 3) ≠ 0 → zeroIn (l.drop i) = zeroIn (l.drop (i + 4)) := fun h h0 h1 h2 h3 => zn 4 h (fun j hj => by
    match j, hj with
    | 0, _ => exact h0
    | 1, _ => exact h1
    | 2, _ => exact h2
    | 3, _ => exact h3)
  unfold stepL
  generalize zeroIn (l.drop i) = Z at *
  generalize Lib.validD (l.drop i) = V at *
  generalize bN l i = x0 at *
  generalize bN l (i + 1) = x1 at *
  generalize bN l (i + 2) = x2 at *
  generalize bN l (i + 3) = x3 at *
  clear e0 e1 e2 e3 zn
  have fin : ∀ r n, Lib.decodeN (l.length - i) x0 x1 x2 x3 = (r, n) → (¬ (r = 65533 ∧ n = 1)) → V = Lib.validD (l.drop (i + n)) := fun r n h hr => by
    rw [hv, h, if_neg hr]
  have bad : Lib.decodeN (l.length - i) x0 x1 x2 x3 = (65533, 1) → V = false := fun h => by
    rw [hv, h, if_pos ⟨rfl, rfl⟩]
  clear hv
  by_cases c0 : (x0 : Int) < 128
  · rw [if_pos c0]
    refine ⟨fun h => by simp at h, fun _ => ⟨1, rfl, by omega, by omega, ?_, fun h => z0 (by simpa using h), fun h => hz1 (by simpa using h)⟩⟩
    refine fin x0 1 ?_ (by omega)
    unfold Lib.decodeN
    rw [if_pos (by omega)]
  · rw [if_neg c0]
    by_cases c1 : ((194 : Int) ≤ x0 ∧ (x0 : Int) ≤ 223) ∧ tailL l (i + 1) = true
    · rw [if_pos c1]
      have ht := t1.1 c1.2
      refine ⟨fun h => by simp at h, fun _ => ⟨2, rfl, by omega, by omega, ?_, fun h => by simp only at h; omega, fun h => hz2 (by omega) (by omega) (by omega)⟩⟩
      refine fin (x0 % 32 * 64 + x1 % 64) 2 ?_ (by omega)
      unfold Lib.decodeN
      rw [if_neg (by omega), if_pos (by omega), if_pos (by omega)]
    · rw [if_neg c1]
      by_cases c2 : (((224 : Int) ≤ x0 ∧ (x0 : Int) ≤ 239) ∧ tailL l (i + 1) = true) ∧ tailL l (i + 2) = true
      · rw [if_pos c2]
        have ht := t1.1 c2.1.2
        have ht2 := t2.1 c2.2
        by_cases c3 : ((x0 : Int) - 224) * 4096 + ((x1 : Int) - 128) * 64 + x2 - 128 < 2048 ∨ ((55296 : Int) ≤ ((x0 : Int) - 224) * 4096 + ((x1 : Int) - 128) * 64 + x2 - 128 ∧ ((x0 : Int) - 224) * 4096 + ((x1 : Int) - 128) * 64 + x2 - 128 ≤ 57343)
        · rw [if_pos c3]
          refine ⟨fun _ => bad ?_, fun h => by simp at h⟩
          unfold Lib.decodeN
          rw [if_neg (by omega), if_neg (by omega), if_pos (by omega), if_neg (by omega)]
        · rw [if_neg c3]
          refine ⟨fun h => by simp at h, fun _ => ⟨3, rfl, by omega, by omega, ?_, fun h => by simp only at h; omega, fun h => hz3 (by omega) (by omega) (by omega) (by omega)⟩⟩
          refine fin (x0 % 16 * 4096 + x1 % 64 * 64 + x2 % 64) 3 ?_ (by omega)
          unfold Lib.decodeN
          rw [if_neg (by omega), if_neg (by omega), if_pos (by omega), if_pos (by omega)]
      · rw [if_neg c2]
        by_cases c3 : ((((240 : Int) ≤ x0 ∧ (x0 : Int) ≤ 244) ∧ tailL l (i + 1) = true) ∧ tailL l (i + 2) = true) ∧ tailL l (i + 3) = true
        · rw [if_pos c3]
          have ht := t1.1 c3.1.1.2
          have ht2 := t2.1 c3.1.2
          have ht3 := t3.1 c3.2
          by_cases c4 : ((x0 : Int) - 240) * 262144 + ((x1 : Int) - 128) * 4096 + ((x2 : Int) - 128) * 64 + x3 - 128 < 65536 ∨ (1114111 : Int) < ((x0 : Int) - 240) * 262144 + ((x1 : Int) - 128) * 4096 + ((x2 : Int) - 128) * 64 + x3 - 128
          · rw [if_pos c4]
            refine ⟨fun _ => bad ?_, fun h => by simp at h⟩
            unfold Lib.decodeN
            rw [if_neg (by omega), if_neg (by omega), if_neg (by omega), if_pos (by omega), if_neg (by omega)]
          · rw [if_neg c4]
            refine ⟨fun h => by simp at h, fun _ => ⟨4, rfl, by omega, by omega, ?_, fun h => by simp only at h; omega, fun h => hz4 (by omega) (by omega) (by omega) (by omega) (by omega)⟩⟩
            refine fin (x0 % 8 * 262144 + x1 % 64 * 4096 + x2 % 64 * 64 + x3 % 64) 4 ?_ (by omega)
            unfold Lib.decodeN
            rw [if_neg (by omega), if_neg (by omega), if_neg (by omega), if_pos (by omega), if_pos (by omega)]
        · rw [if_neg c3]
          refine ⟨fun _ => bad ?_, fun h => by simp at h⟩
          rw [t1] at c1 c2 c3
          rw [t2] at c2 c3
          rw [t3] at c3
          unfold Lib.decodeN
          rw [if_neg (by omega)]
          (repeat' split) <;> first | rfl | (exfalso; omega)

theorem zeroIn_nil : zeroIn [] = false := rfl
end Go.Proofs.YtclicjokgfiegaaDoor

/-
  DERIVED: THE SHELF's CONTRACTS AT THIS DUMP, IN PLAIN WORDS (tools/lay-plain.mjs out of 'YtclicjokgfiegaaDoorShelfT.lean', which tools/lay-shelf.mjs wrote): THE SAME DECLARATIONS UNDER THE SAME NAMES: 'import', 'namespace', 'open', 'def', 'theorem' AND NOTHING ELSE: no command of the shelf's: FOR A HAND-IN. Each laying: the table of numbers ('.._ren') and one theorem, a field a fact of the dump's own or the kernel's comparison; each contract: ONE APPLICATION.
-/
namespace Go.Proofs
open Go.Shelf
def Tryd.laysValid_ren : Go.Shelf.Ren := ⟨fun | 196 => 178 | 259 => 199 | n => n, fun | 9 => 9 | 4 => 4 | 3 => 3 | 5 => 5 | 12 => 12 | 119 => 235 | 0 => 0 | 46 => 183 | 139 => 238 | 138 => 237 | 53 => 246 | n => n, fun | 3 => 3 | 4 => 4 | n => n⟩
theorem Tryd.laysValid : Go.Proofs.Lays.n196 Tryd.prog Tryd.laysValid_ren := {
  mixed := by kernel_rfl
  f196 := Tryd.func178.trans (congrArg some (by kernel_rfl))
  f259 := Tryd.func199.trans (congrArg some (by kernel_rfl))
  t0 := Tryd.underlying0
  a0 := Tryd.isAgg0
  z0 := Tryd.sizeOf0
  v0 := Tryd.zeroValue0
  t3 := Tryd.underlying3
  a3 := Tryd.isAgg3
  z3 := Tryd.sizeOf3
  v3 := Tryd.zeroValue3
  t4 := Tryd.underlying4
  a4 := Tryd.isAgg4
  z4 := Tryd.sizeOf4
  v4 := Tryd.zeroValue4
  t5 := Tryd.underlying5
  a5 := Tryd.isAgg5
  z5 := Tryd.sizeOf5
  v5 := Tryd.zeroValue5
  t9 := Tryd.underlying9
  a9 := Tryd.isAgg9
  z9 := Tryd.sizeOf9
  v9 := Tryd.zeroValue9
  t12 := Tryd.underlying12
  a12 := Tryd.isAgg12
  z12 := Tryd.sizeOf12
  v12 := Tryd.zeroValue12
  t46 := Tryd.underlying183
  a46 := Tryd.isAgg183
  z46 := Tryd.sizeOf183
  v46 := Tryd.zeroValue183
  t53 := Tryd.underlying246
  a53 := Tryd.isAgg246
  z53 := Tryd.sizeOf246
  v53 := Tryd.zeroValue246
  t119 := Tryd.underlying235
  a119 := Tryd.isAgg235
  z119 := Tryd.sizeOf235
  t138 := Tryd.underlying237
  a138 := Tryd.isAgg237
  z138 := Tryd.sizeOf237
  v138 := Tryd.zeroValue237
  t139 := Tryd.underlying238
  a139 := Tryd.isAgg238
  z139 := Tryd.sizeOf238
  v139 := Tryd.zeroValue238
  g3 := by kernel_rfl
  g4 := by kernel_rfl }
end Go.Proofs
