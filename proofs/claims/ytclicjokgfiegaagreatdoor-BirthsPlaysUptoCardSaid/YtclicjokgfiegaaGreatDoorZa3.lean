/- A bundle of texts (merged for the limit on files): Utf2, Utf3, Steps, Lev, Txts, Region, LevSplit, LevFilter. -/
import Derived.Test.YtclicjokgfiegaaGreatDoorZa2
import Derived.Test.YtclicjokgfiegaaGreatDoorZa1
import Derived.Lib.MapLaws
import Derived.Lib.QuoteBits
import Derived.StillTail
import Derived.Deep.Quiet
import Derived.KernelRfl
import Derived.WalkMore
import Derived.ScopeJumps
import Derived.BigQuiet
/- Texts: which bytes are a text: the walks of both Rights. -/
namespace Go.Proofs.YtclicjokgfiegaaGreatDoor
open Go.RowKit
set_option linter.unusedVariables false

/-- The tables of utf8 lie. -/
def EnvU (w : World) : Prop := Lib.Utf8Tabs 3 4 w
theorem EnvU.below {w w' : World} (h : EnvU w) (hb : Below w.heap.size w w') : EnvU w' := Utf8Tabs_below h hb

theorem valid_c (s : ByteArray) (w : World) (hs : s.size ≤ 9223372036854775807) (hE : EnvU w) :
    Calls Tryz.prog 151 #[.string s] w fun e w' => e = .returned (.bool (Lib.validD (sB s))) ∧ Below w.heap.size w w' :=
  Any.utf8_ValidString Tryz.laysValid s w hs hE

/-- One step of a range over a string's runes. -/
theorem range_left (l : List UInt8) (i : Nat) (hi : i < l.length) :
    ((Lib.decodeL (l.drop i)).1 = 0 → zeroIn (l.drop i) = true) ∧
    ((Lib.decodeL (l.drop i)).1 ≠ 0 → zeroIn (l.drop i) = zeroIn (l.drop (i + (Lib.decodeL (l.drop i)).2))) ∧
    1 ≤ (Lib.decodeL (l.drop i)).2 ∧ i + (Lib.decodeL (l.drop i)).2 ≤ l.length ∧ (Lib.decodeL (l.drop i)).1 ≤ 1114111 := by
  rw [Lib.decodeL_N]
  have e0 : ((l.drop i).getD 0 0).toNat = bN l i := by have := bN_drop l i 0; rw [Nat.add_zero] at this; exact this
  have e1 : ((l.drop i).getD 1 0).toNat = bN l (i + 1) := bN_drop l i 1
  have e2 : ((l.drop i).getD 2 0).toNat = bN l (i + 2) := bN_drop l i 2
  have e3 : ((l.drop i).getD 3 0).toNat = bN l (i + 3) := bN_drop l i 3
  rw [e0, e1, e2, e3, List.length_drop]
  have z0 : bN l i = 0 → zeroIn (l.drop i) = true := fun h => zeroIn_hit (by rw [List.length_drop]; omega) (by rw [bN_drop, Nat.add_zero]; exact h)
  have zn : ∀ n, i + n ≤ l.length → (∀ j, j < n → bN l (i + j) ≠ 0) → zeroIn (l.drop i) = zeroIn (l.drop (i + n)) := fun n hn hb => by
    have := zeroIn_drop n (l.drop i) (by rw [List.length_drop]; omega) (fun j hj => by rw [bN_drop]; exact hb j hj)
    rw [List.drop_drop] at this
    exact this
  have b0 := bN_lt l i
  have hz1 : bN l i ≠ 0 → zeroIn (l.drop i) = zeroIn (l.drop (i + 1)) := fun h => zn 1 (by omega) (fun j hj => by
    match j, hj with
    | 0, _ => exact h)
  have hz2 : i + 2 ≤ l.length → bN l i ≠ 0 → bN l (i + 1) ≠ 0 → zeroIn (l.drop i) = zeroIn (l.drop (i + 2)) := fun h h0 h1 => zn 2 h (fun j hj => by
    match j, hj with
    | 0, _ => exact h0
    | 1, _ => exact h1)
  have hz3 : i + 3 ≤ l.length → bN l i ≠ 0 → bN l (i + 1) ≠ 0 → bN l (i + 2) ≠ 0 → zeroIn (l.drop i) = zeroIn (l.drop (i + 3)) := fun h h0 h1 h2 => zn 3 h (fun j hj => by
    match j, hj with
    | 0, _ => exact h0
    | 1, _ => exact h1
    | 2, _ => exact h2)
  have hz4 : i + 4 ≤ l.length → bN l i ≠ 0 → bN l (i + 1) ≠ 0 → bN l (i + 2) ≠ 0 → bN l (i + 3) ≠ 0 → zeroIn (l.drop i) = zeroIn (l.drop (i + 4)) := fun h h0 h1 h2 h3 => zn 4 h (fun j hj => by
    match j, hj with
    | 0, _ => exact h0
    | 1, _ => exact h1
    | 2, _ => exact h2
    | 3, _ => exact h3)
  clear zn e0 e1 e2 e3
  have hz : ∀ r n, Lib.decodeN (l.length - i) (bN l i) (bN l (i + 1)) (bN l (i + 2)) (bN l (i + 3)) = (r, n) → r ≠ 0 → bN l i ≠ 0 := fun r n h hr h0 => by
    rw [h0] at h
    unfold Lib.decodeN at h
    rw [if_pos (by omega)] at h
    exact hr (Prod.mk.inj h).1.symm
  rcases Lib.decodeN_shape (l.length - i) (bN l i) (bN l (i + 1)) (bN l (i + 2)) (bN l (i + 3)) with ⟨c, e⟩ | ⟨c1, c2, c3, cv, e⟩ | ⟨c1, c2, c3, c4, cv, cs, e⟩ | ⟨c1, c2, c3, c4, c5, cv, cw, e⟩ | e
  · rw [e]
    exact ⟨fun h => z0 h, fun h => hz1 h, by omega, by simp only; omega, by simp only; omega⟩
  · rw [e]
    exact ⟨fun h => by simp only at h; omega, fun h => hz2 (by omega) (by omega) (by omega), by omega, by simp only; omega, by simp only; omega⟩
  · rw [e]
    exact ⟨fun h => by simp only at h; omega, fun h => hz3 (by omega) (by omega) (by omega) (by omega), by omega, by simp only; omega, by simp only; omega⟩
  · rw [e]
    exact ⟨fun h => by simp only at h; omega, fun h => hz4 (by omega) (by omega) (by omega) (by omega) (by omega), by omega, by simp only; omega, by simp only; omega⟩
  · have := hz _ _ e (by decide)
    rw [e]
    exact ⟨fun h => by simp at h, fun h => hz1 this, by omega, by simp only; omega, by simp only; omega⟩

def leftOf (s : ByteArray) : Value → Nat
  | .int _ k => ((s.size : Int) - k).toNat
  | _ => 0

set_option maxRecDepth 100000 in
set_option maxHeartbeats 4000000 in
theorem refRight_c (s : ByteArray) (w : World) (hs : s.size ≤ 9223372036854775000) :
    Calls Tryz.prog 124 #[.string s] w fun e w' => e = .returned (.bool (uRight (sB s))) ∧ Below w.heap.size w w' := by
  obtain ⟨r, hr⟩ : ∃ r, uRight (sB s) = r := ⟨_, rfl⟩
  rw [hr]
  unfold uRight at hr
  rw [sB_len] at hr
  by_cases hlen : s.size ≤ 65535
  · rw [decide_eq_true hlen, Bool.true_and] at hr
    go_enter Tryz.func124, Tryz.ntmps124
    go_wp2_with fail
    go_loopw [3] (fun n w' => ∃ k : Nat, n = .int .i64 k ∧ k ≤ s.size ∧ Below w.heap.size w w' ∧ (Lib.validD ((sB s).drop k) && !zeroIn ((sB s).drop k)) = r) (fun n _ => leftOf s n)
    case atStart => exact ⟨0, rfl, by omega, by go_grown, by simpa using hr⟩
    case round =>
      obtain ⟨k, rfl, hk, hb, hc⟩ := hrel
      by_cases hks : k < s.size
      · go_wp2_with fail
        refine (step_c s k k rfl hks hs _).mono ?_
        rintro e w' ⟨rfl, hb2⟩
        have hst := step_left (sB s) k (by rw [sB_len]; exact hks)
        rw [sB_len] at hst
        generalize stepL (sB s) k = q at hst ⊢
        obtain ⟨qn, qr⟩ := q
        simp only at hst ⊢
        obtain ⟨hs0, hs1⟩ := hst
        have hbw := hb.trans (hb2.mono hb.size)
        by_cases hq : qn = 0
        · have hv := hs0 hq
          rw [hv, Bool.false_and] at hc
          subst hc hq
          clear hs1
          go_wp2_with fail
          go_ret
          exact ⟨rfl, by go_grown⟩
        · obtain ⟨n, rfl, hn1, hn2, hv, hz0, hz1⟩ := hs1 hq
          rw [hv] at hc
          by_cases hr0 : qr = 0
          · rw [hz0 hr0, Bool.not_true, Bool.and_false] at hc
            subst hc hr0
            clear hs0 hz1
            go_wp2_with fail
            go_ret
            exact ⟨rfl, by go_grown⟩
          · rw [hz1 hr0] at hc
            have hr0b : (qr == 0) = false := by simpa using hr0
            clear hs0 hz0 hz1
            go_wp2_with fail
            go_roundw
            case rel => exact ⟨k + n, by congr 1, by omega, by go_grown, hc⟩
            case measure => simp [leftOf]; omega
      · go_wp2_with fail
        go_ret
        have : k = s.size := by omega
        subst this
        rw [List.drop_of_length_le (by rw [sB_len]; omega)] at hc
        exact ⟨by rw [← hc]; rfl, by go_grown⟩
  · rw [decide_eq_false hlen, Bool.false_and] at hr
    subst hr
    go_enter Tryz.func124, Tryz.ntmps124
    go_wp2_with fail
    go_ret
    exact ⟨rfl, by go_grown⟩

set_option maxRecDepth 100000 in
set_option maxHeartbeats 4000000 in
theorem Right_c (s : ByteArray) (w : World) (hE : EnvU w) (hs : s.size ≤ 9223372036854775000) :
    Calls Tryz.prog 119 #[.string s] w fun e w' => e = .returned (.bool (uRight (sB s))) ∧ Below w.heap.size w w' := by
  obtain ⟨r, hr⟩ : ∃ r, uRight (sB s) = r := ⟨_, rfl⟩
  rw [hr]
  unfold uRight at hr
  rw [sB_len] at hr
  by_cases hlen : s.size ≤ 65535
  · rw [decide_eq_true hlen, Bool.true_and] at hr
    have HE := hd hE; clear hE
    go_enter Tryz.func119, Tryz.ntmps119
    go_wp2_with fail
    refine (valid_c s _ (by omega) (HE.out.below (by go_grown))).mono ?_
    rintro e w1 ⟨rfl, hb1⟩
    have hb1' : Below w.heap.size w w1 := by go_grown
    cases hv : Lib.validD (sB s) with
    | false =>
      rw [hv, Bool.false_and] at hr
      subst hr
      go_wp2_with fail
      go_ret
      exact ⟨rfl, by go_grown⟩
    | true =>
      rw [hv, Bool.true_and] at hr
      go_wp2_with fail
      go_loopw [4] (fun _ w' => ∃ pos : Nat, w' = w1.iter s pos ∧ pos ≤ s.size ∧ (!zeroIn ((sB s).drop pos)) = r) (fun _ w' => s.size - w'.iterPos w1.heap.size)
      case atStart => exact ⟨0, rfl, by omega, by simpa using hr⟩
      case round =>
        obtain ⟨pos, rfl, hp1, hc⟩ := hrel
        by_cases hp : pos < s.size
        · have hnx : ∀ ty, (Instr.next (.pointer (some ⟨w1.heap.size, 0, none⟩)) true ty).run Tryz.prog (w1.iter s pos) = _ := fun ty => run_next_any w1 s pos ty hp
          have hst := range_left (sB s) pos (by rw [sB_len]; exact hp)
          rw [sB_len] at hst
          have hdd : Lib.decodeL ((sB s).drop pos) = Utf8.decode s pos := Lib.decodeL_drop s pos
          rw [hdd] at hst
          generalize Utf8.decode s pos = q at hst hnx
          obtain ⟨qr, qn⟩ := q
          simp only at hst hnx
          obtain ⟨hs0, hs1, hn1, hn2, hq⟩ := hst
          by_cases hr0 : qr = 0
          · rw [hs0 hr0] at hc
            subst hc hr0
            clear hs1
            go_wp2_with fail
            go_ret
            exact ⟨rfl, hb1'.alloc hb1'.size (.stringIter s (pos + qn))⟩
          · rw [hs1 hr0] at hc
            have hr0b : ((qr : Int) == 0) = false := by simpa using hr0
            clear hs0 hs1
            go_wp2_with fail
            go_roundw
            case rel => exact ⟨pos + qn, rfl, by omega, hc⟩
            case measure => simp; omega
        · have hnx : ∀ ty, (Instr.next (.pointer (some ⟨w1.heap.size, 0, none⟩)) true ty).run Tryz.prog (w1.iter s pos) = _ := fun ty => run_next_end w1 s pos ty hp
          go_wp2_with fail
          go_ret
          have : pos = s.size := by omega
          subst this
          rw [List.drop_of_length_le (by rw [sB_len]; omega)] at hc
          exact ⟨by rw [← hc]; rfl, hb1'.alloc hb1'.size (.stringIter s s.size)⟩
  · rw [decide_eq_false hlen, Bool.false_and] at hr
    subst hr
    go_enter Tryz.func119, Tryz.ntmps119
    go_wp2_with fail
    go_ret
    exact ⟨rfl, by go_grown⟩

end Go.Proofs.YtclicjokgfiegaaGreatDoor

/- Texts: numbers in two bytes, raw bytes and texts, laid and got: the walks. -/
namespace Go.Proofs.YtclicjokgfiegaaGreatDoor
open Go.RowKit
set_option linter.unusedVariables false

def uPut2B (n : Int) : List UInt8 := if n < 0 ∨ 65535 < n then [] else [B8 (n.toNat / 256), B8 (n.toNat % 256)]
def uPut2E (n : Int) : Int := if n < 0 ∨ 65535 < n then 1 else 0
/-- number, the place behind, the error -/
def uGet2 (l : List UInt8) (at' : Int) : Int × Int × Int :=
  if at' < 0 ∨ (l.length : Int) < at' then (0, 0, 1)
  else if (l.length : Int) - at' < 2 then (0, 0, 2)
  else (256 * (bN l at'.toNat : Int) + bN l (at'.toNat + 1), at' + 2, 0)

/-- raw bytes, laid -/
def uPutRawB (l : List UInt8) : List UInt8 := if 65535 < l.length then [] else uPut2B l.length ++ l
def uPutRawE (l : List UInt8) : Int := if 65535 < l.length then 3 else 0
/-- raw bytes, got: the text, the place behind, the error -/
def uGetRaw (l : List UInt8) (at' : Int) : List UInt8 × Int × Int :=
  if (uGet2 l at').2.2 ≠ 0 then ([], 0, (uGet2 l at').2.2)
  else if (l.length : Int) - (uGet2 l at').2.1 < (uGet2 l at').1 then ([], 0, 2)
  else ((l.drop (uGet2 l at').2.1.toNat).take (uGet2 l at').1.toNat, (uGet2 l at').2.1 + (uGet2 l at').1, 0)
def uPutB (l : List UInt8) : List UInt8 := if uRight l = true then uPutRawB l else []
def uPutE (l : List UInt8) : Int := if 65535 < l.length then 3 else if uRight l = true then 0 else 9
def uGet (l : List UInt8) (at' : Int) : List UInt8 × Int × Int :=
  if (uGetRaw l at').2.2 ≠ 0 then ([], 0, (uGetRaw l at').2.2)
  else if uRight (uGetRaw l at').1 = false then ([], 0, 9)
  else uGetRaw l at'
theorem uGet2_ok {l : List UInt8} {at' : Int} (h : (uGet2 l at').2.2 = 0) : 0 ≤ at' ∧ at' + 2 ≤ l.length ∧ (uGet2 l at').2.1 = at' + 2 ∧ 0 ≤ (uGet2 l at').1 ∧ (uGet2 l at').1 ≤ 65535 := by
  unfold uGet2 at h ⊢
  have := bN_lt l at'.toNat
  have := bN_lt l (at'.toNat + 1)
  repeat' split
  all_goals (simp_all <;> omega)

/-- The bytes of a list as a string. -/
def sOf (l : List UInt8) : ByteArray := ⟨l.toArray⟩
theorem sB_sOf (l : List UInt8) : sB (sOf l) = l := rfl
theorem sOf_size (l : List UInt8) : (sOf l).size = l.length := by rw [← sB_len, sB_sOf]

theorem or_join (x y : Nat) (hx : x < 256) (hy : y < 256) : bits .or .i64 ((x : Int) * 256) (y : Int) = 256 * (x : Int) + y := by
  have h := bits_join .i64 16 (by decide) (fun n h0 h1 => by
    obtain ⟨m, rfl⟩ := Int.eq_ofNat_of_zero_le h0
    have hm : m < 65536 := by have : (m : Int) < 65536 := h1; omega
    exact Lib.wrap_i64_small m (by omega)) 8 ((x : Int) * 256) (y : Int) (by omega) (by simp) (by simp; omega) (by omega) (by simp; omega) (by simp; omega)
  rw [h]
  omega

set_option maxRecDepth 100000 in
set_option maxHeartbeats 1000000 in
theorem Put2_c (n : Int) (w : World) : Calls Tryz.prog 173 #[.int .i64 n] w (GivesB w (uPut2B n) (uPut2E n)) := by
  obtain ⟨rE, hrE⟩ : ∃ r, uPut2E n = r := ⟨_, rfl⟩
  obtain ⟨rB, hrB⟩ : ∃ r, uPut2B n = r := ⟨_, rfl⟩
  rw [hrE, hrB]
  unfold uPut2E at hrE
  unfold uPut2B at hrB
  by_cases hn : n < 0 ∨ 65535 < n
  · rw [if_pos hn] at hrE hrB
    subst hrE hrB
    rcases hn with hn | hn
    all_goals
      go_enter Tryz.func173, Tryz.ntmps173
      go_wp2_with fail
      go_ret2
      exact GivesB.nil (by go_grown)
  · rw [if_neg hn] at hrE hrB
    subst hrE
    obtain ⟨n, rfl⟩ := Int.eq_ofNat_of_zero_le (show 0 ≤ n by omega)
    simp only [Int.toNat_natCast] at hrB
    have HB := hd hrB; clear hrB
    go_enter Tryz.func173, Tryz.ntmps173
    go_wp2_with fail
    go_ret2
    rw [← HB.out]
    exact ⟨_, rfl, owned_lit w.heap.size w [B8 (n / 256), B8 (n % 256)] w.heap.size rfl (Nat.le_refl _) (by unfold maxLen; simp) [Value.int .u8 ((n : Int) / 256), Value.int .u8 ((n : Int) % 256)]
      (by simp only [List.map]; rw [byteV_B8 (x := (n : Int) / 256) (by omega) (by omega), byteV_B8 (x := (n : Int) % 256) (by omega) (by omega)]) 2 rfl, by go_grown⟩

set_option maxRecDepth 100000 in
set_option maxHeartbeats 1000000 in
theorem Get2_c (v : Value) (l : List UInt8) (at' : Int) (w : World) (hv : Bs w v l) :
    Calls Tryz.prog 193 #[v, .int .i64 at'] w fun e w' => e = .returned (.tuple #[.int .i64 (uGet2 l at').1, .int .i64 (uGet2 l at').2.1, .int .i64 (uGet2 l at').2.2]) ∧ Below w.heap.size w w' := by
  obtain ⟨r, hr⟩ : ∃ r, uGet2 l at' = r := ⟨_, rfl⟩
  rw [hr]
  unfold uGet2 at hr
  by_cases h1 : at' < 0 ∨ (l.length : Int) < at'
  · rw [if_pos h1] at hr
    subst hr
    rcases hv.split with ⟨rfl, a, c, rfl, hc⟩ | ⟨hpos, b, o, c, rfl, hc1, hc2, hlt, hcell⟩
    all_goals
      rcases h1 with h1 | h1
      all_goals
        go_enter Tryz.func193, Tryz.ntmps193
        go_wp2_with fail
        go_ret3
        exact ⟨rfl, by go_grown⟩
  · rw [if_neg h1] at hr
    obtain ⟨k, rfl⟩ := Int.eq_ofNat_of_zero_le (show 0 ≤ at' by omega)
    by_cases h2 : (l.length : Int) - k < 2
    · rw [if_pos h2] at hr
      subst hr
      rcases hv.split with ⟨rfl, a, c, rfl, hc⟩ | ⟨hpos, b, o, c, rfl, hc1, hc2, hlt, hcell⟩
      · obtain rfl : k = 0 := by simp at h1; omega
        go_enter Tryz.func193, Tryz.ntmps193
        go_wp2_with fail
        go_ret3
        exact ⟨rfl, by go_grown⟩
      · unfold maxLen at *
        go_enter Tryz.func193, Tryz.ntmps193
        go_wp2_with fail
        go_ret3
        exact ⟨rfl, by go_grown⟩
    · rw [if_neg h2] at hr
      subst hr
      rw [Int.toNat_natCast]
      rcases hv.split with ⟨rfl, a, c, rfl, hc⟩ | ⟨hpos, b, o, c, rfl, hc1, hc2, hlt, hcell⟩
      · simp at h2; omega
      have hc0 := hcell k (by omega)
      have hc1' := hcell (k + 1) (by omega)
      have b0 := bN_lt l k
      have b1 := bN_lt l (k + 1)
      have hor := or_join _ _ b0 b1
      clear hcell hv
      unfold maxLen at *
      generalize bN l k = x0 at *
      generalize bN l (k + 1) = x1 at *
      go_enter Tryz.func193, Tryz.ntmps193
      go_wp2_with fail
      go_region
      go_wp2_with fail
      go_ret3
      exact ⟨rfl, by go_grown⟩

set_option maxRecDepth 100000 in
set_option maxHeartbeats 1000000 in
theorem refGet2_c (v : Value) (l : List UInt8) (at' : Int) (w : World) (hv : Bs w v l) :
    Calls Tryz.prog 135 #[v, .int .i64 at'] w fun e w' => e = .returned (.tuple #[.int .i64 (uGet2 l at').1, .int .i64 (uGet2 l at').2.1, .int .i64 (uGet2 l at').2.2]) ∧ Below w.heap.size w w' := by
  obtain ⟨r, hr⟩ : ∃ r, uGet2 l at' = r := ⟨_, rfl⟩
  rw [hr]
  unfold uGet2 at hr
  by_cases h1 : at' < 0 ∨ (l.length : Int) < at'
  · rw [if_pos h1] at hr
    subst hr
    rcases hv.split with ⟨rfl, a, c, rfl, hc⟩ | ⟨hpos, b, o, c, rfl, hc1, hc2, hlt, hcell⟩
    all_goals
      rcases h1 with h1 | h1
      all_goals
        go_enter Tryz.func135, Tryz.ntmps135
        go_wp2_with fail
        go_ret3
        exact ⟨rfl, by go_grown⟩
  · rw [if_neg h1] at hr
    obtain ⟨k, rfl⟩ := Int.eq_ofNat_of_zero_le (show 0 ≤ at' by omega)
    by_cases h2 : (l.length : Int) - k < 2
    · rw [if_pos h2] at hr
      subst hr
      rcases hv.split with ⟨rfl, a, c, rfl, hc⟩ | ⟨hpos, b, o, c, rfl, hc1, hc2, hlt, hcell⟩
      · obtain rfl : k = 0 := by simp at h1; omega
        go_enter Tryz.func135, Tryz.ntmps135
        go_wp2_with fail
        go_ret3
        exact ⟨rfl, by go_grown⟩
      · unfold maxLen at *
        go_enter Tryz.func135, Tryz.ntmps135
        go_wp2_with fail
        go_ret3
        exact ⟨rfl, by go_grown⟩
    · rw [if_neg h2] at hr
      subst hr
      rw [Int.toNat_natCast]
      rcases hv.split with ⟨rfl, a, c, rfl, hc⟩ | ⟨hpos, b, o, c, rfl, hc1, hc2, hlt, hcell⟩
      · simp at h2; omega
      have hc0 := hcell k (by omega)
      have hc1' := hcell (k + 1) (by omega)
      have b0 := bN_lt l k
      have b1 := bN_lt l (k + 1)
      have hor := or_join _ _ b0 b1
      clear hcell hv
      unfold maxLen at *
      generalize bN l k = x0 at *
      generalize bN l (k + 1) = x1 at *
      go_enter Tryz.func135, Tryz.ntmps135
      go_wp2_with fail
      go_region
      go_wp2_with fail
      go_ret3
      exact ⟨rfl, by go_grown⟩

end Go.Proofs.YtclicjokgfiegaaGreatDoor

/- Steps from world to world. Of no function of the program. -/
namespace Go.Proofs.YtclicjokgfiegaaGreatDoor
open Go.RowKit

/-- What was there reads as it did. -/
theorem bcell {B : Nat} {W w1 : World} (hb : Below B W w1) : ∀ b o, b < B → w1.cell? ⟨b, o, none⟩ = W.cell? ⟨b, o, none⟩ :=
  fun b o h => hb.cell (p := ⟨b, o, none⟩) h
theorem bfree {B : Nat} {W w1 : World} (hb : Below B W w1) : ∀ b o, b < B → w1.frozen? ⟨b, o, none⟩ = W.frozen? ⟨b, o, none⟩ :=
  fun b o h => hb.frozen (p := ⟨b, o, none⟩) h

/-- A step more. -/
theorem _root_.Go.RowKit.Below.up {w w0 w1 : World} (h : Below w.heap.size w w0) (hb : Below w0.heap.size w0 w1) : Below w.heap.size w w1 := h.trans (hb.mono h.size)

/-- A box, then a step more. -/
theorem _root_.Go.RowKit.Below.upA {w w0 w1 : World} {o : Obj} (h : Below w.heap.size w w0) (hb : Below (w0.alloc o).heap.size (w0.alloc o) w1) : Below w.heap.size w w1 := (h.alloc h.size o).up hb
theorem below_dn {B : Nat} {a w : World} (h : Below B a w) (n : Nat) : Below B a (w.drewN n) := ⟨h.os, h.tape, h.output, h.size, h.block⟩
end Go.Proofs.YtclicjokgfiegaaGreatDoor

/- Levels of texts: the walks of the small functions. -/
namespace Go.Proofs.YtclicjokgfiegaaGreatDoor
open Go.RowKit
set_option linter.unusedVariables false
set_option linter.unusedSimpArgs false

theorem sB_sOfL (l : List UInt8) : sB (sOf l) = l := rfl
theorem sOf_sizeL (l : List UInt8) : (sOf l).size = l.length := by rw [← sB_len, sB_sOfL]
theorem sOf_sBL (s : ByteArray) : sOf (sB s) = s := by cases s; simp [sOf, sB]

set_option maxRecDepth 100000 in
set_option maxHeartbeats 1000000 in
theorem wild_c (l : List UInt8) (w : World) (hs : l.length ≤ 9223372036854775000) : Calls Tryz.prog 82 #[.string (sOf l)] w fun e w' => e = .returned (.bool (wildL l)) ∧ Below w.heap.size w w' := by
  obtain ⟨r, hr⟩ : ∃ r, wildL l = r := ⟨_, rfl⟩
  rw [hr]
  have hsz := sOf_sizeL l
  go_enter Tryz.func82, Tryz.ntmps82
  go_wp2_with fail
  go_loopw [4] (fun _ w' => ∃ pos : Nat, w' = w.iter (sOf l) pos ∧ pos ≤ l.length ∧ wildL (l.drop pos) = r) (fun _ w' => l.length - w'.iterPos w.heap.size)
  case atStart => exact ⟨0, rfl, by omega, by simpa using hr⟩
  case round =>
    obtain ⟨pos, rfl, hp1, hc⟩ := hrel
    by_cases hp : pos < l.length
    · have hnx : ∀ ty, (Instr.next (.pointer (some ⟨w.heap.size, 0, none⟩)) true ty).run Tryz.prog (w.iter (sOf l) pos) = _ := fun ty => run_next_any w (sOf l) pos ty (by omega)
      have h43 := range_asc l pos hp 43 (by omega)
      have h35 := range_asc l pos hp 35 (by omega)
      have hdd : Lib.decodeL (l.drop pos) = Utf8.decode (sOf l) pos := Lib.decodeL_drop (sOf l) pos
      rw [hdd] at h43 h35
      generalize Utf8.decode (sOf l) pos = q at h43 h35 hnx
      obtain ⟨qr, qn⟩ := q
      simp only at h43 h35 hnx
      obtain ⟨a0, a1, hn1, hn2, hq⟩ := h43
      obtain ⟨b0, b1, -, -, -⟩ := h35
      by_cases hr0 : qr = 43 ∨ qr = 35
      · have hw : wildL (l.drop pos) = true := wildL_hit hp (hr0.elim (fun h => .inl (a0 h).2) (fun h => .inr (b0 h).2))
        rw [hw] at hc
        subst hc
        clear a0 a1 b0 b1 hw
        rcases hr0 with rfl | rfl
        all_goals
          go_wp2_with fail
          go_ret
          exact ⟨rfl, (Below.refl _ _).alloc (Nat.le_refl _) (.stringIter (sOf l) (pos + qn))⟩
      · rw [wildL_miss hn2 (fun j hj => ⟨a1 (by omega) j hj, b1 (by omega) j hj⟩)] at hc
        have hr0b : ((qr : Int) == 43) = false := by simp; omega
        have hr1b : ((qr : Int) == 35) = false := by simp; omega
        clear a0 a1 b0 b1
        go_wp2_with fail
        go_roundw
        case rel => exact ⟨pos + qn, rfl, by omega, hc⟩
        case measure => simp; omega
    · have hnx : ∀ ty, (Instr.next (.pointer (some ⟨w.heap.size, 0, none⟩)) true ty).run Tryz.prog (w.iter (sOf l) pos) = _ := fun ty => run_next_end w (sOf l) pos ty (by omega)
      have : pos = l.length := by omega
      subst this
      rw [List.drop_of_length_le (Nat.le_refl _)] at hc
      have hc2 : false = r := hc
      subst hc2
      go_wp2_with fail
      go_ret
      exact ⟨rfl, (Below.refl _ _).alloc (Nat.le_refl _) (.stringIter (sOf l) l.length)⟩

theorem eq_empty (l : List UInt8) : (sOf l).toList.isEmpty = l.isEmpty := by
  rw [ByteArray.toList_eq]; rfl

theorem lSized_of {l : List UInt8} (h0 : l ≠ []) (h1 : l.length ≤ 96) : lSized l = (uRight l && decide (l.count 47 < 12)) := by
  unfold lSized
  have e0 : l.isEmpty = false := by simpa using h0
  rw [e0, decide_eq_true h1, lSplit_len]
  have e : decide (l.count 47 + 1 ≤ 12) = decide (l.count 47 < 12) := by rw [Bool.eq_iff_iff]; simp; omega
  rw [e]
  simp
set_option maxRecDepth 100000 in
set_option maxHeartbeats 1000000 in
theorem sized_c (l : List UInt8) (w : World) (hE : EnvU w) (hs : l.length ≤ 9223372036854775000) : Calls Tryz.prog 81 #[.string (sOf l)] w fun e w' => e = .returned (.bool (lSized l)) ∧ Below w.heap.size w w' := by
  have HE := hd hE; clear hE
  have hsz := sOf_sizeL l
  have hem := eq_empty l
  by_cases h0 : l = []
  · have e0 : l.isEmpty = true := by simpa using h0
    rw [e0] at hem
    have hn : lSized l = false := by unfold lSized; rw [e0]; rfl
    rw [hn]
    subst h0
    have hem2 : (sOf []).toList = [] := by rw [ByteArray.toList_eq]; rfl
    clear hn e0 hem
    go_enter Tryz.func81, Tryz.ntmps81
    go_wp2_with fail
    go_ret
    exact ⟨rfl, Below.refl _ _⟩
  have e0 : l.isEmpty = false := by simpa using h0
  rw [e0] at hem
  by_cases h96 : 96 < l.length
  · have hn : lSized l = false := by unfold lSized; rw [decide_eq_false (by omega)]; simp
    rw [hn]
    go_enter Tryz.func81, Tryz.ntmps81
    go_wp2_with fail
    go_ret
    exact ⟨rfl, Below.refl _ _⟩
  rw [lSized_of h0 (by omega)]
  go_enter Tryz.func81, Tryz.ntmps81
  go_wp2_with fail
  refine (Right_c (sOf l) _ HE.out (by omega)).mono ?_
  rw [sB_sOfL]
  rintro e w1 ⟨rfl, hb1⟩
  cases hu : uRight l
  · go_wp2_with fail
    go_ret
    exact ⟨ret_bool (by simp [hu]), hb1⟩
  · go_wp2_with fail
    refine (Tryz.strings_Count_one (sOf l) 47 _).mono ?_
    rintro e w2 ⟨rfl, rfl⟩
    have hc : Lib.countByte (sOf l).data.toList 47 = l.count 47 := rfl
    rw [hc]
    go_wp2_with fail
    go_ret
    exact ⟨ret_bool (by simp [hu]; omega), hb1⟩

set_option maxRecDepth 100000 in
set_option maxHeartbeats 1000000 in
theorem Name_c (l : List UInt8) (w : World) (hE : EnvU w) (hs : l.length ≤ 9223372036854775000) : Calls Tryz.prog 56 #[.string (sOf l)] w fun e w' => e = .returned (.bool (lName l)) ∧ Below w.heap.size w w' := by
  unfold lName
  go_enter Tryz.func56, Tryz.ntmps56
  go_wp2_with fail
  refine (sized_c l _ hE hs).mono ?_
  rintro e w1 ⟨rfl, hb1⟩
  cases hu : lSized l
  · go_wp2_with fail
    go_ret
    exact ⟨ret_bool (by simp [hu]), hb1⟩
  · go_wp2_with fail
    refine (wild_c l _ hs).mono ?_
    rintro e w2 ⟨rfl, hb2⟩
    have hb := Below.up hb1 hb2
    go_wp2_with fail
    go_ret
    exact ⟨ret_bool (by simp [hu]), hb⟩

set_option maxRecDepth 100000 in
set_option maxHeartbeats 1000000 in
theorem Hidden_c (l : List UInt8) (w : World) : Calls Tryz.prog 83 #[.string (sOf l)] w fun e w' => e = .returned (.bool (lHidden l)) ∧ w = w' := by
  have hp : Lib.hasPrefix (sOf l).data.toList [36] = lHidden l := by
    show List.isPrefixOf [36] l = lHidden l
    unfold lHidden
    cases l with
    | nil => rfl
    | cons b t =>
      have h : decide (bN (b :: t) 0 = 36) = (b == 36) := by
        rw [Bool.eq_iff_iff]
        simp only [decide_eq_true_eq, beq_iff_eq]
        exact b8_of_bN (l := b :: t) (i := 0) (by simp) (c := 36)
      rw [h]
      simp [List.isPrefixOf, Bool.beq_comm]
  go_enter Tryz.func83, Tryz.ntmps83
  go_wp2_with fail
  refine (Tryz.strings_HasPrefix (sOf l) ⟨#[36]⟩ _).mono ?_
  rintro e w2 ⟨rfl, rfl⟩
  rw [show Lib.hasPrefix (sOf l).data.toList (⟨#[36]⟩ : ByteArray).data.toList = lHidden l from hp]
  go_wp2_with fail
  go_ret
  exact ⟨rfl, rfl⟩
end Go.Proofs.YtclicjokgfiegaaGreatDoor

/- Rows of texts. Of no function of the program. -/
namespace Go.Proofs.YtclicjokgfiegaaGreatDoor
open Go.RowKit
set_option linter.unusedVariables false
set_option linter.unusedSimpArgs false

def txV (x : List UInt8) : Value := .string (sOf x)
/-- Texts that a slice reads as. -/
def Ls (w : World) (v : Value) (p : List (List UInt8)) : Prop := Rd w v p.length (p.map txV)
theorem Ls.slice {w : World} {v : Value} {p : List (List UInt8)} (h : Ls w v p) : ∃ a c, v = .slice a p.length c := by
  obtain ⟨a, c, rfl, _⟩ := h; exact ⟨a, c, rfl⟩
theorem Ls.below' {B : Nat} {w w' : World} {v : Value} {p : List (List UInt8)} (h : Ls w v p) (hb : Below B w w') (hB : w.heap.size ≤ B) : Ls w' v p := Rd.below' h hb hB
theorem Ls.len {w : World} {v : Value} {p : List (List UInt8)} (h : Ls w v p) : p.length ≤ maxLen := Rd.len h
theorem Ls.at {w : World} {a : Option Addr} {n c : Nat} {p : List (List UInt8)} (h : Ls w (.slice a n c) p) {k : Nat} {x : List UInt8} (hk : p[k]? = some x) :
    ∃ b o, a = some ⟨b, o, none⟩ ∧ b < w.heap.size ∧ w.cell? ⟨b, o + k, none⟩ = some (.string (sOf x)) := by
  rcases @Rd.split w (.slice a n c) p.length (p.map txV) h with ⟨hn, _⟩ | ⟨_, b, o, c', hv, _, _, hlt, hcell⟩
  · have : p = [] := by simpa using hn
    subst this
    simp at hk
  · simp only [Value.slice.injEq] at hv
    exact ⟨b, o, hv.1, hlt, hcell _ _ (by simp [hk, txV])⟩
def OwnL (B : Nat) (w : World) (v : Value) (p : List (List UInt8)) : Prop := w.ownsRow B 9 1 v p.length (p.map txV)
theorem OwnL.ls {B : Nat} {w : World} {v : Value} {p : List (List UInt8)} (h : OwnL B w v p) : Ls w v p := Owns.rd h
theorem OwnL.kept {B B' : Nat} {w w' : World} {v : Value} {p : List (List UInt8)} (h : OwnL B w v p) (hb : Below B' w w') (hB : w.heap.size ≤ B') : OwnL B w' v p := Owns.kept h hb hB
theorem OwnL.le {B B' : Nat} {w : World} {v : Value} {p : List (List UInt8)} (h : OwnL B w v p) (hB : B' ≤ B) : OwnL B' w v p := Owns.le h hB
theorem OwnL.nil (B : Nat) (w : World) : OwnL B w (.slice none 0 0) [] := ⟨rfl, .inl ⟨rfl, rfl⟩⟩
theorem info_string : (Tryz.prog.info? 9).map (fun i => (i.zero, i.size, i.bytes)) = some (some (.string ⟨#[]⟩), 1, 16) := by kernel_rfl
/-- append(out, x) of one text: the walk has laid a block of its cell for it. -/
theorem wpo_appL {w : World} {o : Oper} {a : Act} {K : Act → World → Prop} {Q : Exit → Act → World → Prop} (s x : Operand)
    (ho : o.op = .call { callee := .builtin .append, args := #[s, x], argTypes := #[111, 111] })
    (B : Nat) (v : Value) (p : List (List UInt8)) (hv : a.eval s = v) (hown : OwnL B w v p) (y : List UInt8) (hx : a.eval x = .slice (some ⟨w.heap.size, 0, none⟩) 1 1)
    (hlen : p.length < 1000000000) (hbase : B ≤ w.heap.size)
    (h : ∀ v' w', OwnL B w' v' (p ++ [y]) → Below B w w' → K (a.put o.dst v') w') : Oper.wp Tryz.prog o a (w.alloc (.cells #[.string (sOf y)] 9)) K Q := by
  obtain ⟨i0, hi, hz0, hz1, hz2⟩ := info_parts info_string
  have hb : Below B w (w.alloc (.cells #[.string (sOf y)] 9)) := (Below.refl B w).alloc hbase _
  have hb' : Below w.heap.size w (w.alloc (.cells #[.string (sOf y)] 9)) := (Below.refl _ w).alloc (Nat.le_refl _) _
  have hone : Rd (w.alloc (.cells #[.string (sOf y)] 9)) (.slice (some ⟨w.heap.size, 0, none⟩) 1 1) 1 [.string (sOf y)] :=
    Owns.rd (owns_lit w.heap.size 9 w 1 1 [.string (sOf y)] w.heap.size rfl (Nat.le_refl _) (by unfold maxLen; simp) rfl)
  obtain ⟨v', w', hr, h2, h3, h4⟩ := run_app (P := Tryz.prog) (w.alloc (.cells #[.string (sOf y)] 9)) B 111 o.type 9 i0 (.string ⟨#[]⟩) 1 16 Tryz.underlying111 hi hz0 hz1 hz2 rfl (by decide) v p.length (p.map txV) (hown.kept hb' (Nat.le_refl _)) _ 1 [.string (sOf y)] hone rfl (by intro u hu; simp at hu; rcases hu with rfl; rfl) (by omega) (by unfold maxLen; omega) (by simp; omega)
  unfold Oper.wp execOp
  simp only [ho, resolve, invoke, builtin, Sem.run_bind, Sem.run_pure, Result.andThen_ok, List.map_toArray, List.map_cons, List.map_nil, hv, hx, hr]
  refine h v' w' ?_ (hb.trans h3)
  unfold OwnL
  rw [List.length_append, List.map_append]
  exact h2
theorem wp_appL {w : World} {ops : Array Oper} {rest : List Oper} {o : Oper} {a : Act} {Q : Exit → Act → World → Prop} (hgd : o.guard = none) (s x : Operand)
    (ho : o.op = .call { callee := .builtin .append, args := #[s, x], argTypes := #[111, 111] })
    (B : Nat) (v : Value) (p : List (List UInt8)) (hv : a.eval s = v) (hown : OwnL B w v p) (y : List UInt8) (hx : a.eval x = .slice (some ⟨w.heap.size, 0, none⟩) 1 1)
    (hlen : p.length < 1000000000) (hbase : B ≤ w.heap.size)
    (h : ∀ v' w', OwnL B w' v' (p ++ [y]) → Below B w w' → wpList Tryz.prog ops Q rest (a.put o.dst v') w') : wpList Tryz.prog ops Q (o :: rest) a (w.alloc (.cells #[.string (sOf y)] 9)) :=
  wpList_plain hgd fun _ hK => wpo_appL s x ho B v p hv hown y hx hlen hbase fun v' w' h1 h2 => hK _ _ (h v' w' h1 h2)

theorem sl_to (l : List UInt8) (n : Nat) (hn : n ≤ l.length) (hl : l.length ≤ 9223372036854775000) (W : World) : (Instr.slice 9 (.string (sOf l)) none (some (.int .i64 n)) none).run Tryz.prog W = .ok (.string (sOf (l.take n))) W := by
  have hs := sOf_size l
  rw [run_slice_string_h W 9 (sOf l) Tryz.underlying9 .i64 n (by omega) (by omega)]
  have : (sOf l).extract 0 (n : Int).toNat = sOf (l.take n) := by
    have h : sB ((sOf l).extract 0 n) = l.take n := by simp [sB, sOf]
    have e : ∀ t : ByteArray, sOf (sB t) = t := fun t => by cases t; simp [sOf, sB]
    rw [Int.toNat_natCast, ← e ((sOf l).extract 0 n), h]
  rw [this]
theorem sl_from (l : List UInt8) (n : Nat) (hn : n ≤ l.length) (hl : l.length ≤ 9223372036854775000) (W : World) : (Instr.slice 9 (.string (sOf l)) (some (.int .i64 n)) none none).run Tryz.prog W = .ok (.string (sOf (l.drop n))) W := by
  have hs := sOf_size l
  rw [run_slice_string_l W 9 (sOf l) Tryz.underlying9 .i64 n (by omega) (by omega)]
  have : (sOf l).extract (n : Int).toNat (sOf l).size = sOf (l.drop n) := by
    have h : sB ((sOf l).extract n (sOf l).size) = l.drop n := by
      rw [hs]
      simp [sB, sOf]
      exact List.take_of_length_le (by simp)
    have e : ∀ t : ByteArray, sOf (sB t) = t := fun t => by cases t; simp [sOf, sB]
    rw [Int.toNat_natCast, ← e ((sOf l).extract n (sOf l).size), h]
  rw [this]

def GivesLv (w : World) (p : List (List UInt8)) (e : Ending) (w' : World) : Prop := ∃ v, e = .returned v ∧ OwnL w.heap.size w' v p ∧ Below w.heap.size w w'
end Go.Proofs.YtclicjokgfiegaaGreatDoor

/- A region that draws its order, whose operations part into still ones (each yields one value in every world of a class, and leaves the world) and movers, whose order among themselves is forced: one walk in a given order serves every order. Of no program. -/
namespace Go.Proofs.YtclicjokgfiegaaGreatDoor

section
variable {P : Program} {ops : Array Oper} {md : Region.Mode} {Q : Exit → Act → World → Prop} {C : World → Prop} {n : Nat}

def wpAnyC (P : Program) (md : Region.Mode) (ops : Array Oper) (n : Nat) (C : World → Prop) (Q : Exit → Act → World → Prop) : Nat → Array Bool → Act → World → Prop
  | 0, listed, a, w => Region.ready md ops listed = [] ∧ Q .normal a w
  | f + 1, listed, a, w => (Region.ready md ops listed = [] → Q .normal a w) ∧
      ∀ i ∈ Region.ready md ops listed, wpOp P ops Q i (fun a' w' => (i < n → C w') ∧ wpAnyC P md ops n C Q f (listed.setIfInBounds i true) a' w') a w

theorem wpAny_of_C : ∀ (f : Nat) (listed : Array Bool) (a : Act) (w : World), wpAnyC P md ops n C Q f listed a w → wpAny P md ops Q f listed a w
  | 0, _, _, _, h => h
  | f + 1, _, _, _, h => ⟨h.1, fun i hi => wpOp_mono (fun a' w' h' => wpAny_of_C f _ a' w' h'.2) (h.2 i hi)⟩

def YieldsC (P : Program) (ops : Array Oper) (C : World → Prop) (o : Oper) (v : Value) (a : Act) : Prop :=
  (Region.wanted o (yielded ops a.tmps) = true ∧ ∀ w, C w → (execOp a.eval o).run P w = .ok (.value v) w) ∨
  (Region.wanted o (yielded ops a.tmps) = false ∧ v = undef)

theorem YieldsC.wpOp {i : Nat} {o : Oper} {v : Value} {a : Act} (hi : ops[i]? = some o) (hy : YieldsC P ops C o v a)
    {K : Act → World → Prop} {w : World} (hC : C w) (h : K (a.put o.dst v) w) : wpOp P ops Q i K a w := by
  unfold Go.wpOp
  simp only [hi]
  rcases hy with ⟨hw, hv⟩ | ⟨hw, rfl⟩
  · simp only [hw, if_true, Oper.wp, hv w hC, Oper.upon]; exact .inl h
  · simp only [hw, Bool.false_eq_true, if_false]; exact h

theorem YieldsC.of_same {o : Oper} {v : Value} {a a' : Act} (hy : YieldsC P ops C o v a) (he : execOp a'.eval o = execOp a.eval o)
    (hw : Region.wanted o (yielded ops a'.tmps) = Region.wanted o (yielded ops a.tmps)) : YieldsC P ops C o v a' := by
  unfold YieldsC at *
  rw [he, hw]
  exact hy

theorem wpOp_putC {j : Nat} {oi oj : Oper} {v : Value} (hj : ops[j]? = some oj) (hap : oi.apart ops oj = true)
    (hsi : ∀ cs b, oi.op ≠ .select cs b) (hsj : ∀ cs b, oj.op ≠ .select cs b)
    (hQ : ∀ c a w, Q (.panic c) (a.put oi.dst v) w → Q (.panic c) a w) {K : Act → World → Prop} {a : Act} {w : World}
    (hy : YieldsC P ops C oi v a) (h : wpOp P ops Q j K (a.put oi.dst v) w) :
    wpOp P ops Q j (fun a' w' => YieldsC P ops C oi v a' ∧ K (a'.put oi.dst v) w') a w := by
  obtain ⟨h1, h2, h3⟩ := Oper.apart_spec hap
  have keep : ∀ (a : Act), YieldsC P ops C oi v a → ∀ u, YieldsC P ops C oi v (a.put oj.dst u) := fun a hy u =>
    hy.of_same (execOp_put oi hsi a oj.dst u h3) (wanted_put oi a oj.dst u h3)
  have keepD : ∀ d, YieldsC P ops C oi v { a with defers := d :: a.defers } := fun d => hy.of_same rfl rfl
  unfold Go.wpOp at *
  simp only [hj] at *
  rw [wanted_put oj a oi.dst v h1] at h
  split
  · rename_i hw
    simp only [hw, if_true] at h
    rcases h with h | ⟨hasks, hlets⟩
    case inr => exact .inr ⟨by unfold Oper.asks at *; rw [execOp_put oj hsj a oi.dst v h1] at hasks; exact hasks, hlets⟩
    refine .inl ?_
    unfold Oper.wp at *
    rw [execOp_put oj hsj a oi.dst v h1] at h
    generalize (execOp a.eval oj).run P w = r at *
    cases r with
    | ok n w' =>
      cases n <;> simp only [Oper.upon] at h ⊢
      case value u => exact ⟨keep a hy u, by rw [← Act.put_comm a v u h2]; exact h⟩
      case skip => exact ⟨keep a hy _, by rw [← Act.put_comm a v undef h2]; exact h⟩
      case defer d =>
        refine ⟨keep _ (keepD d) _, ?_⟩
        rw [← Act.put_comm _ v undef h2, ← Act.put_defers]
        exact h
      case enter f args =>
        refine Calls.mono h fun e w'' he => ?_
        cases e with
        | returned u => exact ⟨keep a hy u, by rw [← Act.put_comm a v u h2]; exact he⟩
        | panicked c => exact hQ _ _ _ he
        | outgrown => exact he
      case row row args => exact Rows.mono h fun u w'' he => ⟨keep a hy u, by rw [← Act.put_comm a v u h2]; exact he⟩
    | halt x w' =>
      cases x <;> simp only [Oper.upon] at h ⊢
      case panic u => exact hQ _ _ _ h
  · rename_i hw
    simp only [hw] at h
    exact ⟨keep a hy _, by rw [← Act.put_comm a v undef h2]; exact h⟩

theorem first_C {i : Nat} {oi : Oper} {v : Value} (hi : ops[i]? = some oi) (hsel : ∀ (j : Nat) (o : Oper) cs b, ops[j]? = some o → o.op ≠ .select cs b)
    (hQ : ∀ c a w, Q (.panic c) (a.put oi.dst v) w → Q (.panic c) a w) (hs : Region.sinkB md ops n = true) (hc : Region.chainB md ops n = true) (hn : n < ops.size) (hin : i < n) :
    ∀ (fuel : Nat) (listed : Array Bool) (a : Act) (w : World), HeadInv md ops n listed →
      (∀ j oj, ops[j]? = some oj → j ≠ i → listed.getD j true = false → (∀ e ∈ oj.after, Region.binds md e = true → e.on ≠ i) → oi.apart ops oj = true) →
      i ∈ Region.ready md ops listed → YieldsC P ops C oi v a → C w →
      wpAnyC P md ops n C Q fuel (listed.setIfInBounds i true) (a.put oi.dst v) w → wpAnyC P md ops n C Q (fuel + 1) listed a w := by
  intro fuel
  induction fuel with
  | zero =>
    intro listed a w _ _ hr hy hC H
    refine ⟨fun h => (by rw [h] at hr; cases hr), fun j hj => ?_⟩
    by_cases hji : j = i
    · subst hji; exact hy.wpOp hi hC ⟨fun _ => hC, H⟩
    · have := ready_mono hj hji
      rw [H.1] at this
      cases this
  | succ f ih =>
    intro listed a w inv hfree hr hy hC H
    have hun := (mem_ready.1 hr).1
    refine ⟨fun h => (by rw [h] at hr; cases hr), fun j hj => ?_⟩
    by_cases hji : j = i
    · subst hji; exact hy.wpOp hi hC ⟨fun _ => hC, H⟩
    · have hjn : j < n := by
        rcases Nat.lt_or_ge j n with h | h
        · exact h
        · exact absurd hj (tail_waits hs hc hn inv _ i rfl hin hun j h)
      have h1 := H.2 j (ready_mono hj hji)
      obtain ⟨hjun, oj, hoj, hall⟩ := mem_ready.1 hj
      have hnot : ∀ e ∈ oj.after, Region.binds md e = true → e.on ≠ i := fun e he hb heq => by
        have h1 := hall e he hb
        rw [heq, getD_both hun] at h1
        cases h1
      have h2 := wpOp_putC hoj (hfree j oj hoj hji hjun hnot) (fun cs b => hsel i oi cs b hi) (fun cs b => hsel j oj cs b hoj) hQ hy h1
      have hfree' : ∀ k ok, ops[k]? = some ok → k ≠ i → (listed.setIfInBounds j true).getD k true = false →
          (∀ e ∈ ok.after, Region.binds md e = true → e.on ≠ i) → oi.apart ops ok = true := fun k ok hk hki hun' hno => by
        refine hfree k ok hk hki ?_ hno
        by_cases hjk : j = k
        · subst hjk; exact hjun
        · rw [getD_set_ne true hjk] at hun'; exact hun'
      refine wpOp_mono (fun a' w' h3 => ⟨fun _ => h3.2.1 hjn, ih (listed.setIfInBounds j true) a' w' (inv.set hj hjn) hfree' (ready_mono hr (Ne.symm hji)) h3.1 (h3.2.1 hjn) ?_⟩) h2
      rw [Array.setIfInBounds_comm _ _ hji]
      exact h3.2.2

/-- The order in which the walk goes: (number, is it a mover?). -/
def okM (md : Region.Mode) (ops : Array Oper) (n : Nat) : List (Nat × Bool) → Array Bool → Bool
  | [], listed => (Region.ready md ops listed).isEmpty
  | (k, false) :: r, listed => (Region.ready md ops listed).contains k && (Region.free md ops listed k && (decide (k < n) && okM md ops n r (listed.setIfInBounds k true)))
  | (k, true) :: r, listed => (Region.ready md ops listed == [k]) && ((decide (k < n) || r.all (·.2)) && okM md ops n r (listed.setIfInBounds k true))

def wpM (P : Program) (ops : Array Oper) (n : Nat) (C : World → Prop) (Q : Exit → Act → World → Prop) : List (Nat × Bool) → Act → World → Prop
  | [], a, w => Q .normal a w
  | (k, false) :: r, a, w => ∃ o, ops[k]? = some o ∧ ∃ v, YieldsC P ops C o v a ∧ wpM P ops n C Q r (a.put o.dst v) w
  | (k, true) :: r, a, w => wpOp P ops Q k (fun a' w' => (k < n → C w') ∧ wpM P ops n C Q r a' w') a w

theorem movers_C : ∀ (σ : List (Nat × Bool)) (listed : Array Bool) (a : Act) (w : World), σ.all (·.2) = true → okM md ops n σ listed = true → wpM P ops n C Q σ a w → wpAnyC P md ops n C Q σ.length listed a w
  | [], listed, a, w, _, hok, h => ⟨by simpa [okM] using hok, h⟩
  | (k, false) :: r, listed, a, w, hall, _, _ => by simp at hall
  | (k, true) :: r, listed, a, w, hall, hok, h => by
    simp only [okM, Bool.and_eq_true, beq_iff_eq] at hok
    obtain ⟨hr, _, hok'⟩ := hok
    have hall' : r.all (·.2) = true := by simpa using hall
    refine ⟨fun h0 => (by rw [hr] at h0; cases h0), fun i hi => ?_⟩
    rw [hr] at hi
    obtain rfl : i = k := by simpa using hi
    exact wpOp_mono (fun a' w' h' => ⟨h'.1, movers_C r _ a' w' hall' hok' h'.2⟩) h

theorem hQ_put (hQ : ∀ c (a : Act) (T : Array Value) w, Q (.panic c) { a with tmps := T } w → Q (.panic c) a w) {c} {a : Act} {d : Option Tmp} {v : Value} {w : World} (h : Q (.panic c) (a.put d v) w) : Q (.panic c) a w := by
  cases d with
  | none => exact h
  | some d => exact hQ c a _ w h

theorem walk_C (hsel : ∀ (j : Nat) (o : Oper) cs b, ops[j]? = some o → o.op ≠ .select cs b) (hQ : ∀ c (a : Act) (T : Array Value) w, Q (.panic c) { a with tmps := T } w → Q (.panic c) a w)
    (hs : Region.sinkB md ops n = true) (hc : Region.chainB md ops n = true) (hn : n < ops.size) :
    ∀ (σ : List (Nat × Bool)) (listed : Array Bool) (a : Act) (w : World), HeadInv md ops n listed → C w → okM md ops n σ listed = true → wpM P ops n C Q σ a w → wpAnyC P md ops n C Q σ.length listed a w
  | [], listed, a, w, _, _, hok, h => ⟨by simpa [okM] using hok, h⟩
  | (k, false) :: r, listed, a, w, inv, hC, hok, h => by
    simp only [okM, Bool.and_eq_true, decide_eq_true_eq] at hok
    obtain ⟨hr, hf, hk, hok'⟩ := hok
    obtain ⟨o, ho, v, hy, hK⟩ := h
    have hr' : k ∈ Region.ready md ops listed := by simpa using hr
    exact first_C ho hsel (fun c a w h => hQ_put hQ h) hs hc hn hk r.length listed a w inv (Region.free_spec ho hf) hr' hy hC
      (walk_C hsel hQ hs hc hn r _ _ w (inv.set hr' hk) hC hok' hK)
  | (k, true) :: r, listed, a, w, inv, hC, hok, h => by
    by_cases hk : k < n
    · simp only [okM, Bool.and_eq_true, beq_iff_eq] at hok
      obtain ⟨hr, _, hok'⟩ := hok
      refine ⟨fun h0 => (by rw [hr] at h0; cases h0), fun i hi => ?_⟩
      have hi' := hi
      rw [hr] at hi
      obtain rfl : i = k := by simpa using hi
      exact wpOp_mono (fun a' w' h' => ⟨h'.1, walk_C hsel hQ hs hc hn r _ a' w' (inv.set hi' hk) (h'.1 hk) hok' h'.2⟩) h
    · have hall : ((k, true) :: r).all (·.2) = true := by
        simp only [okM, Bool.and_eq_true, decide_eq_false hk, Bool.false_or] at hok
        simpa using hok.2.1
      exact movers_C _ listed a w hall hok h

theorem headInv_start : HeadInv md ops n (Array.replicate ops.size false) :=
  ⟨by simp, (fun j oj _ hl => by rw [getD_replicate_false] at hl; cases hl), (fun t _ ht => by simp [ht])⟩

/-- The whole: a region that draws its order. -/
theorem wp_region_M {id : Nat} {a : Act} {w : World} (C : World → Prop) (n : Nat) (σ : List (Nat × Bool)) (hm : P.follows .mixedOrders = true)
    (hB : (Region.noSelect ops && (Region.sinkB .any ops n && (Region.chainB .any ops n && (decide (n < ops.size) && (okM .any ops n σ (Array.replicate ops.size false) && (σ.length == ops.size)))))) = true)
    (hQ : ∀ c (a : Act) (T : Array Value) w, Q (.panic c) { a with tmps := T } w → Q (.panic c) a w) (hC : C w.drew)
    (h : wpM P ops n C Q σ a w.drew) : (Code.region id ops true).wp P Q a w := by
  simp only [Bool.and_eq_true, decide_eq_true_eq, beq_iff_eq] at hB
  obtain ⟨h1, h2, h3, h4, h5, h6⟩ := hB
  refine wp_region_any hm (wpAny_of_C _ _ _ _ (n := n) (C := C) ?_)
  have := walk_C (P := P) (Q := Q) (C := C) (Region.noSelect_spec h1) hQ h2 h3 h4 σ _ a w.drew headInv_start hC h5 h
  rw [h6] at this
  exact this

theorem wpM_still {k : Nat} {r : List (Nat × Bool)} {o : Oper} {v : Value} {a : Act} {w : World} (ho : ops[k]? = some o) (hw : Region.wanted o (yielded ops a.tmps) = true)
    (h : ∀ w', C w' → (execOp a.eval o).run P w' = .ok (.value v) w') (hr : wpM P ops n C Q r (a.put o.dst v) w) : wpM P ops n C Q ((k, false) :: r) a w :=
  ⟨o, ho, v, .inl ⟨hw, h⟩, hr⟩
theorem wpM_skip {k : Nat} {r : List (Nat × Bool)} {o : Oper} {a : Act} {w : World} (ho : ops[k]? = some o) (hw : Region.wanted o (yielded ops a.tmps) = false)
    (hr : wpM P ops n C Q r (a.put o.dst undef) w) : wpM P ops n C Q ((k, false) :: r) a w :=
  ⟨o, ho, undef, .inr ⟨hw, rfl⟩, hr⟩
theorem wpM_move {k : Nat} {r : List (Nat × Bool)} {o : Oper} {a : Act} {w : World} (ho : ops[k]? = some o) (hw : Region.wanted o (yielded ops a.tmps) = true)
    (h : ∀ K : Act → World → Prop, (∀ a' w', (k < n → C w') → wpM P ops n C Q r a' w' → K a' w') → o.wp P a w K Q) : wpM P ops n C Q ((k, true) :: r) a w := by
  show wpOp P ops Q k _ a w
  unfold Go.wpOp
  simp only [ho, hw, if_true]
  exact .inl (h _ fun a' w' h1 h2 => ⟨h1, h2⟩)
theorem wpM_nil {a : Act} {w : World} (h : Q .normal a w) : wpM P ops n C Q [] a w := h
end
end Go.Proofs.YtclicjokgfiegaaGreatDoor

/- Levels of texts: Split: the walk. -/
namespace Go.Proofs.YtclicjokgfiegaaGreatDoor
open Go.RowKit
set_option linter.unusedVariables false
set_option linter.unusedSimpArgs false

/-- A scope whose one label stands behind its first part, and to which its rest jumps back. -/
theorem wp_scope_label {P : Program} {a : Act} {w : World} {Q : Exit → Act → World → Prop} {c1 rest : Code} (l : Nat) (J : Act → World → Prop) (μ : Act → World → Nat)
    (hf : findLabel (c1.seq ((Code.label l).seq rest)) l = some (Code.skip.seq rest))
    (pre : c1.wp P (fun e a w => e = .normal ∧ J a w) a w)
    (pass : ∀ a w, J a w → rest.wp P (Exit.jump l (fun a' w' => J a' w' ∧ μ a' w' < μ a w) Q) a w) : (Code.scope (c1.seq ((Code.label l).seq rest))).wp P Q a w := by
  refine wp_scope_jumps l J μ hf ?_ (fun a w h => wp_seq (wp_skip (pass a w h)))
  refine wp_seq (wp_mono pre ?_)
  rintro e a w ⟨rfl, hJ⟩
  refine wp_seq (wp_label ?_)
  refine wp_mono (pass a w hJ) (fun e a w h => ?_)
  cases e with
  | goto l' => exact ⟨h.1, h.2.1⟩
  | normal => exact h
  | exit id => exact h
  | ret => exact h
  | panic ch => exact h
  | outgrown => exact h

def strSize : Value → Nat
  | .string s => s.size
  | _ => 0
structure SplitI (l : List UInt8) (w : World) (l' : List UInt8) (p : List (List UInt8)) (v : Value) (w' : World) : Prop where
  own : OwnL w.heap.size w' v p
  below : Below w.heap.size w w'
  eq : lSplit l = p ++ lSplit l'
  len : l'.length + p.length ≤ l.length

set_option maxRecDepth 100000 in
set_option maxHeartbeats 8000000 in
theorem Split_c (l : List UInt8) (w : World) (hs : l.length ≤ 100000000) : Calls Tryz.prog 59 #[.string (sOf l)] w (GivesLv w (lSplit l)) := by
  have hsz := sOf_sizeL l
  go_enter Tryz.func59, Tryz.ntmps59
  go_wp2_with fail
  refine wp_scope_label 0 (fun a' w' => ∃ (l' : List UInt8) (p : List (List UInt8)) (v : Value) (u4 u5 u6 u7 u8 u9 u10 u11 u12 u13 u14 u15 u16 u17 u18 u19 u20 u21 u22 u23 u24 u25 u26 u27 u28 u29 u30 u31 : Value), a' = { tmps := #[.string (sOf l'), undef, .slice none 0 0, v, u4, u5, u6, u7, u8, u9, u10, u11, u12, u13, u14, u15, u16, u17, u18, u19, u20, u21, u22, u23, u24, u25, u26, u27, u28, u29, u30, u31], defers := [] } ∧ SplitI l w l' p v w') (fun a' _ => strSize (a'.tmps.getD 0 undef)) rfl ?_ ?_
  · go_wp2_with fail
    refine (Tryz.strings_Count_one (sOf l) 47 _).mono ?_
    rintro e w2 ⟨rfl, rfl⟩
    have hc : Lib.countByte (sOf l).data.toList 47 = l.count 47 := rfl
    have hcl : l.count 47 ≤ l.length := List.count_le_length
    rw [hc]
    clear hc
    obtain ⟨i0, hi, hz0, hz1, hz2⟩ := info_parts info_string
    obtain ⟨wm, hmr, hmo, hmg⟩ := run_make_own (P := Tryz.prog) w2 w2.heap.size 111 9 i0 (.string ⟨#[]⟩) 1 Tryz.underlying111 hi hz0 hz1 .i64 .i64 (l.count 47 + 1) (by rw [hz2]; omega) (by unfold maxLen; omega) (Nat.le_refl _)
    have hbm : Below w2.heap.size w2 wm := (Below.refl _ w2).grown hmg (Nat.le_refl _) (fun k e => by cases e)
    have hmr2 : (Instr.makeSlice 111 (.int .i64 0) (.int .i64 ((l.count 47 : Int) + 1))).run Tryz.prog w2 = .ok (.slice (some ⟨w2.heap.size, 0, none⟩) 0 (l.count 47 + 1)) wm := by
      have e : ((l.count 47 + 1 : Nat) : Int) = (l.count 47 : Int) + 1 := by push_cast; rfl
      rw [← e]; exact hmr
    clear hmr hmg hi hz0 hz1 hz2
    go_wp2_with fail
    exact ⟨l, [], _, ⟨rfl, rfl⟩, hmo, hbm, by simp, by simp⟩
  · rintro a' w' ⟨l', p, v, u4, u5, u6, u7, u8, u9, u10, u11, u12, u13, u14, u15, u16, u17, u18, u19, u20, u21, u22, u23, u24, u25, u26, u27, u28, u29, u30, u31, rfl, I⟩
    have hsl := sOf_sizeL l'
    have hll := I.len
    obtain ⟨va, vc, rfl⟩ := I.own.ls.slice
    have HI := hd I; clear I
    go_wp2_with fail
    go_loopw [0, 3] (fun a0 a3 W => a0 = .string (sOf l') ∧ a3 = .slice va p.length vc ∧ ∃ pos : Nat, W = w'.iter (sOf l') pos ∧ pos ≤ l'.length ∧ ∀ j, j < pos → bN l' j ≠ 47) (fun _ _ W => l'.length - W.iterPos w'.heap.size)
    case atStart => exact ⟨rfl, rfl, 0, rfl, by omega, fun j hj => by omega⟩
    case round =>
      obtain ⟨rfl, rfl, pos, rfl, hp1, hno⟩ := hrel
      have hbi : Below w'.heap.size w' (w'.iter (sOf l') pos) := (Below.refl _ _).alloc (Nat.le_refl _) (.stringIter (sOf l') pos)
      by_cases hp : pos < l'.length
      · have hnx : ∀ ty, (Instr.next (.pointer (some ⟨w'.heap.size, 0, none⟩)) true ty).run Tryz.prog (w'.iter (sOf l') pos) = _ := fun ty => run_next_any w' (sOf l') pos ty (by omega)
        have h47 := range_asc l' pos hp 47 (by omega)
        have hdd : Lib.decodeL (l'.drop pos) = Utf8.decode (sOf l') pos := Lib.decodeL_drop (sOf l') pos
        rw [hdd] at h47
        generalize Utf8.decode (sOf l') pos = q at h47 hnx
        obtain ⟨qr, qn⟩ := q
        simp only at h47 hnx
        obtain ⟨a0, a1, hn1, hn2, hq⟩ := h47
        by_cases hr0 : qr = 47
        · obtain ⟨rfl, hb47⟩ := a0 hr0
          subst hr0
          have hl1 := fun W => sl_to l' pos (by omega) (by omega) W
          have hl2 := fun W => sl_from l' (pos + 1) (by omega) (by omega) W
          push_cast at hl2
          have hwr : IntKind.i64.wrap ((pos : Int) + 1) = (pos : Int) + 1 := IntWalk.i64_in _ (by omega)
          have hsp := lSplit_hit pos l' hp hno hb47
          have HSP := hd hsp; have HNO := hd hno
          clear a1 hsp hno
          have hB : Below w.heap.size w (w'.iter (sOf l') (pos + 1)) := Below.up HI.out.below ((Below.refl _ _).alloc (Nat.le_refl _) (.stringIter (sOf l') (pos + 1)))
          have hO : OwnL w.heap.size (w'.iter (sOf l') (pos + 1)).drew (.slice va p.length vc) p := HI.out.own.kept (((Below.refl _ _).alloc (Nat.le_refl _) (.stringIter (sOf l') (pos + 1))).drew) (Nat.le_refl _)
          have hBs := hB.size
          have HB := hd hB; have HO := hd hO
          clear hB hO
          go_wp2_with fail
          refine wp_region_M (fun _ => True) 11 [(0, false), (1, false), (2, false), (3, false), (6, false), (7, false), (8, false), (9, false), (4, true), (5, true), (10, false), (11, true)] (by kernel_rfl) (by kernel_rfl) (fun _ _ _ _ h => h) trivial ?_
          iterate 8
            apply wpM_still (by rfl) (by rfl)
            · intro W hC
              go_simp
              rfl
            go_simp
          apply wpM_move (by rfl) (by rfl)
          intro K hK
          go_simp
          refine hK _ _ (fun _ => trivial) ?_
          clear hK K
          go_simp
          apply wpM_move (by rfl) (by rfl)
          intro K hK
          refine wpo_appL (w := (w'.iter (sOf l') (pos + 1)).drew) _ _ (by rfl) w.heap.size (.slice va p.length vc) p (by rfl) HO.out (l'.take pos) (by rfl) (by omega) hBs ?_
          intro v4 w4 ho4 hb4
          obtain ⟨a4, c4, rfl⟩ := ho4.ls.slice
          generalize hm4 : (p ++ [l'.take pos]).length = m4 at *
          have HM := hd hm4; clear hm4
          have hbw4 : Below w.heap.size w w4 := HB.out.trans ⟨hb4.os, hb4.tape, hb4.output, hb4.size, hb4.block⟩
          have HO4 := hd ho4; have HBW := hd hbw4
          clear ho4 hb4 hbw4
          refine hK _ _ (fun _ => trivial) ?_
          clear hK K
          go_simp
          apply wpM_still (by rfl) (by rfl)
          · intro W hC
            go_simp
            rfl
          go_simp
          apply wpM_move (by rfl) (by rfl)
          intro K hK
          go_simp
          refine hK _ _ (fun h => absurd h (by decide)) ?_
          clear hK K
          refine wpM_nil ?_
          go_wp2_with fail
          go_step3
          refine ⟨rfl, ⟨l'.drop (pos + 1), p ++ [l'.take pos], _, _, _, _, _, _, _, _, _, _, _, _, _, _, _, _, _, _, _, _, _, _, _, _, _, _, _, _, _, rfl, ⟨HO4.out, HBW.out, ?_, ?_⟩⟩, ?_⟩
          · rw [HI.out.eq, HSP.out]; simp
          · have := HI.out.len; simp; omega
          · show (sOf (l'.drop (pos + 1))).size < (sOf l').size
            rw [sOf_sizeL, sOf_sizeL]; simp; omega
        · have hno2 : ∀ j, j < pos + qn → bN l' j ≠ 47 := fun j hj => by
            by_cases hj2 : j < pos
            · exact hno j hj2
            · have := a1 hr0 (j - pos) (by omega)
              rwa [show pos + (j - pos) = j by omega] at this
          have hr0b : ((qr : Int) == 47) = false := by simp; omega
          have HNO := hd hno2
          clear a0 a1 hno hno2
          go_wp2_with fail
          go_roundw
          case rel => exact ⟨rfl, rfl, pos + qn, rfl, by omega, HNO.out⟩
          case measure => simp; omega
      · have hnx : ∀ ty, (Instr.next (.pointer (some ⟨w'.heap.size, 0, none⟩)) true ty).run Tryz.prog (w'.iter (sOf l') pos) = _ := fun ty => run_next_end w' (sOf l') pos ty (by omega)
        have : pos = l'.length := by omega
        subst this
        have hsp := lSplit_none l' hno
        have HSP := hd hsp
        have hO := HI.out.own.kept hbi (Nat.le_refl _)
        have hB : Below w.heap.size w (w'.iter (sOf l') l'.length) := Below.up HI.out.below hbi
        have hBs := hB.size
        have HB := hd hB
        clear hno hsp hB
        go_wp2_with (at_builtin; refine wp_appL rfl _ _ rfl w.heap.size _ p rfl hO l' rfl (by omega) hBs ?_; intro v4 w4 ho4 hb4)
        simp only [Exit.jump]
        go_ret
        exact ⟨_, rfl, by rw [HI.out.eq, HSP.out]; exact ho4, HB.out.trans hb4⟩
end Go.Proofs.YtclicjokgfiegaaGreatDoor

/- Levels of texts: Filter: the walk. -/
namespace Go.Proofs.YtclicjokgfiegaaGreatDoor
open Go.RowKit
set_option linter.unusedVariables false
set_option linter.unusedSimpArgs false

def leftL (n : Nat) : Value → Nat
  | .int _ k => ((n : Int) - k).toNat
  | _ => 0
theorem toList_sOf (x : List UInt8) : (sOf x).toList = x := by rw [ByteArray.toList_eq]; rfl
theorem lSized_len {l : List UInt8} (h : lSized l = true) : l ≠ [] ∧ l.length ≤ 96 ∧ (lSplit l).length ≤ 12 := by
  unfold lSized at h
  simp at h
  exact ⟨h.1, h.2.1, h.2.2.2⟩

set_option maxRecDepth 100000 in
set_option maxHeartbeats 4000000 in
theorem Filter_c (l : List UInt8) (w : World) (hE : EnvU w) (hs : l.length ≤ 9223372036854775000) : Calls Tryz.prog 55 #[.string (sOf l)] w fun e w' => e = .returned (.bool (lFilter l)) ∧ Below w.heap.size w w' := by
  obtain ⟨r, hr⟩ : ∃ r, lFilter l = r := ⟨_, rfl⟩
  rw [hr]
  unfold lFilter at hr
  go_enter Tryz.func55, Tryz.ntmps55
  go_wp2_with fail
  refine (sized_c l _ hE hs).mono ?_
  rintro e w1 ⟨rfl, hb1⟩
  cases hu : lSized l
  · go_wp2_with fail
    go_ret
    exact ⟨ret_bool (by rw [← hr, hu]; rfl), hb1⟩
  rw [hu, Bool.true_and] at hr
  obtain ⟨hl0, hl96, hl12⟩ := lSized_len hu
  go_wp2_with fail
  refine (Split_c l _ (by omega)).mono ?_
  rintro e w2 ⟨v2, rfl, ho2, hb2⟩
  have hlx := fun x (hx : x ∈ lSplit l) => (lSplit_parts l x hx).2
  have HLX := hd hlx
  have hbw := Below.up hb1 hb2
  clear hu
  generalize lSplit l = p at *
  have HL2 := hd ho2.ls
  obtain ⟨a2, c2, rfl⟩ := ho2.ls.slice
  clear ho2 hb1 hb2 hlx
  go_wp2_with fail
  go_loopw [13] (fun n w' => ∃ k : Nat, n = .int .i64 k ∧ k ≤ p.length ∧ Below w2.heap.size w2 w' ∧ okLevels (p.drop k) = r) (fun n _ => leftL p.length n)
  case atStart => exact ⟨0, rfl, by omega, Below.refl _ _, hr⟩
  case round =>
    obtain ⟨k, rfl, hk, hB, hok⟩ := hrel
    by_cases hkl : k < p.length
    · obtain ⟨x, hx⟩ : ∃ x, p[k]? = some x := ⟨_, List.getElem?_eq_getElem hkl⟩
      obtain ⟨b, o, rfl, hbl, hc⟩ := HL2.out.at hx
      replace hc := (bcell hB _ _ hbl).trans hc
      have hxl := HLX.out x (List.mem_of_getElem? hx)
      rw [okLevels_at hx] at hok
      have HOK := hd hok
      have hsx := sOf_sizeL x
      clear hok hx hr
      have htl := toList_sOf x
      have HL := hd hxl; clear hxl hsx
      have HB := hd hB; have HHB := hd hbw
      cases e43 : (x == [43])
      · go_wp2_with fail
        refine (wild_c x _ (by have := HL.out; omega)).mono ?_
        rintro e w3 ⟨rfl, hb3⟩
        have hb3' := Below.up hbw (Below.up hB hb3)
        have hB3 := Below.up hB hb3
        cases ew : wildL x
        · go_wp2_with fail
          go_roundw
          case rel => exact ⟨k + 1, by congr 1, by omega, hB3, by have := HOK.out; rw [ew] at this; simpa using this⟩
          case measure => simp [leftL]; omega
        · cases e35 : (x == [35])
          · have hrf : r = false := by have := HOK.out; rw [e43, ew, e35] at this; simpa using this.symm
            go_wp2_with fail
            go_ret
            exact ⟨ret_bool hrf.symm, hb3'⟩
          · by_cases hlast : k + 1 = p.length
            · have hkb : ((k : Int) == (p.length : Int) - 1) = true := by simp; omega
              go_wp2_with fail
              go_roundw
              case rel => exact ⟨k + 1, by congr 1, by omega, hB3, by have := HOK.out; rw [e35, decide_eq_true hlast] at this; simpa using this⟩
              case measure => simp [leftL]; omega
            · have hkb : ((k : Int) == (p.length : Int) - 1) = false := by simp; omega
              have hrf : r = false := by have := HOK.out; rw [e43, ew, e35, decide_eq_false hlast] at this; simpa using this.symm
              go_wp2_with fail
              go_ret
              exact ⟨ret_bool hrf.symm, hb3'⟩
      · go_wp2_with fail
        go_roundw
        case rel => exact ⟨k + 1, by congr 1, by omega, hB, by have := HOK.out; rw [e43] at this; simpa using this⟩
        case measure => simp [leftL]; omega
    · have hke : k = p.length := by omega
      subst hke
      rw [List.drop_of_length_le (Nat.le_refl _)] at hok
      have hok2 : true = r := hok
      subst hok2
      go_wp2_with fail
      go_ret
      exact ⟨rfl, hbw.trans (hB.mono hbw.size)⟩
end Go.Proofs.YtclicjokgfiegaaGreatDoor
