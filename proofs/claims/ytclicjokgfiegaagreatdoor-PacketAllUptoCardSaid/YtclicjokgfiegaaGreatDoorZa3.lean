/- A bundle of texts (merged for the limit on files): Utf2, Utf3, Utf4, Utf5, UtfBackPlain, ConPlain, PubPlain, Pub, Steps, PubPut, PubOfPlain. -/
import Derived.Test.YtclicjokgfiegaaGreatDoorZa2
import Derived.Test.YtclicjokgfiegaaGreatDoorZa1
import Derived.Lib.MapLaws
import Derived.Lib.QuoteBits
import Derived.Lib.ConvBytes
/- Texts: which bytes are a text: the walks of both Rights. -/
namespace Go.Proofs.YtclicjokgfiegaaGreatDoor
open Go.RowKit
set_option linter.unusedVariables false

/-- The tables of utf8 lie. -/
def EnvU (w : World) : Prop := Lib.Utf8Tabs 3 4 w
theorem EnvU.below {w w' : World} (h : EnvU w) (hb : Below w.heap.size w w') : EnvU w' := Utf8Tabs_below h hb

theorem valid_c (s : ByteArray) (w : World) (hs : s.size ≤ 9223372036854775807) (hE : EnvU w) :
    Calls Tryz.prog 151 #[.string s] w fun e w' => e = .returned (.bool (Lib.validD (sB s))) ∧ Below w.heap.size w w' :=
  Any.utf8_ValidString Tryz.laysValid s w hs hE

/-- One step of a range over a string's runes. -/
theorem range_left (l : List UInt8) (i : Nat) (hi : i < l.length) :
    ((Lib.decodeL (l.drop i)).1 = 0 → zeroIn (l.drop i) = true) ∧
    ((Lib.decodeL (l.drop i)).1 ≠ 0 → zeroIn (l.drop i) = zeroIn (l.drop (i + (Lib.decodeL (l.drop i)).2))) ∧
    1 ≤ (Lib.decodeL (l.drop i)).2 ∧ i + (Lib.decodeL (l.drop i)).2 ≤ l.length ∧ (Lib.decodeL (l.drop i)).1 ≤ 1114111 := by
  rw [Lib.decodeL_N]
  have e0 : ((l.drop i).getD 0 0).toNat = bN l i := by have := bN_drop l i 0; rw [Nat.add_zero] at this; exact this
  have e1 : ((l.drop i).getD 1 0).toNat = bN l (i + 1) := bN_drop l i 1
  have e2 : ((l.drop i).getD 2 0).toNat = bN l (i + 2) := bN_drop l i 2
  have e3 : ((l.drop i).getD 3 0).toNat = bN l (i + 3) := bN_drop l i 3
  rw [e0, e1, e2, e3, List.length_drop]
  have z0 : bN l i = 0 → zeroIn (l.drop i) = true := fun h => zeroIn_hit (by rw [List.length_drop]; omega) (by rw [bN_drop, Nat.add_zero]; exact h)
  have zn : ∀ n, i + n ≤ l.length → (∀ j, j < n → bN l (i + j) ≠ 0) → zeroIn (l.drop i) = zeroIn (l.drop (i + n)) := fun n hn hb => by
    have := zeroIn_drop n (l.drop i) (by rw [List.length_drop]; omega) (fun j hj => by rw [bN_drop]; exact hb j hj)
    rw [List.drop_drop] at this
    exact this
  have b0 := bN_lt l i
  have hz1 : bN l i ≠ 0 → zeroIn (l.drop i) = zeroIn (l.drop (i + 1)) := fun h => zn 1 (by omega) (fun j hj => by
    match j, hj with
    | 0, _ => exact h)
  have hz2 : i + 2 ≤ l.length → bN l i ≠ 0 → bN l (i + 1) ≠ 0 → zeroIn (l.drop i) = zeroIn (l.drop (i + 2)) := fun h h0 h1 => zn 2 h (fun j hj => by
    match j, hj with
    | 0, _ => exact h0
    | 1, _ => exact h1)
  have hz3 : i + 3 ≤ l.length → bN l i ≠ 0 → bN l (i + 1) ≠ 0 → bN l (i + 2) ≠ 0 → zeroIn (l.drop i) = zeroIn (l.drop (i + 3)) := fun h h0 h1 h2 => zn 3 h (fun j hj => by
    match j, hj with
    | 0, _ => exact h0
    | 1, _ => exact h1
    | 2, _ => exact h2)
  have hz4 : i + 4 ≤ l.length → bN l i ≠ 0 → bN l (i + 1) ≠ 0 → bN l (i + 2) ≠ 0 → bN l (i + 3) ≠ 0 → zeroIn (l.drop i) = zeroIn (l.drop (i + 4)) := fun h h0 h1 h2 h3 => zn 4 h (fun j hj => by
    match j, hj with
    | 0, _ => exact h0
    | 1, _ => exact h1
    | 2, _ => exact h2
    | 3, _ => exact h3)
  clear zn e0 e1 e2 e3
  have hz : ∀ r n, Lib.decodeN (l.length - i) (bN l i) (bN l (i + 1)) (bN l (i + 2)) (bN l (i + 3)) = (r, n) → r ≠ 0 → bN l i ≠ 0 := fun r n h hr h0 => by
    rw [h0] at h
    unfold Lib.decodeN at h
    rw [if_pos (by omega)] at h
    exact hr (Prod.mk.inj h).1.symm
  rcases Lib.decodeN_shape (l.length - i) (bN l i) (bN l (i + 1)) (bN l (i + 2)) (bN l (i + 3)) with ⟨c, e⟩ | ⟨c1, c2, c3, cv, e⟩ | ⟨c1, c2, c3, c4, cv, cs, e⟩ | ⟨c1, c2, c3, c4, c5, cv, cw, e⟩ | e
  · rw [e]
    exact ⟨fun h => z0 h, fun h => hz1 h, by omega, by simp only; omega, by simp only; omega⟩
  · rw [e]
    exact ⟨fun h => by simp only at h; omega, fun h => hz2 (by omega) (by omega) (by omega), by omega, by simp only; omega, by simp only; omega⟩
  · rw [e]
    exact ⟨fun h => by simp only at h; omega, fun h => hz3 (by omega) (by omega) (by omega) (by omega), by omega, by simp only; omega, by simp only; omega⟩
  · rw [e]
    exact ⟨fun h => by simp only at h; omega, fun h => hz4 (by omega) (by omega) (by omega) (by omega) (by omega), by omega, by simp only; omega, by simp only; omega⟩
  · have := hz _ _ e (by decide)
    rw [e]
    exact ⟨fun h => by simp at h, fun h => hz1 this, by omega, by simp only; omega, by simp only; omega⟩

def leftOf (s : ByteArray) : Value → Nat
  | .int _ k => ((s.size : Int) - k).toNat
  | _ => 0

set_option maxRecDepth 100000 in
set_option maxHeartbeats 4000000 in
theorem refRight_c (s : ByteArray) (w : World) (hs : s.size ≤ 9223372036854775000) :
    Calls Tryz.prog 124 #[.string s] w fun e w' => e = .returned (.bool (uRight (sB s))) ∧ Below w.heap.size w w' := by
  obtain ⟨r, hr⟩ : ∃ r, uRight (sB s) = r := ⟨_, rfl⟩
  rw [hr]
  unfold uRight at hr
  rw [sB_len] at hr
  by_cases hlen : s.size ≤ 65535
  · rw [decide_eq_true hlen, Bool.true_and] at hr
    go_enter Tryz.func124, Tryz.ntmps124
    go_wp2_with fail
    go_loopw [3] (fun n w' => ∃ k : Nat, n = .int .i64 k ∧ k ≤ s.size ∧ Below w.heap.size w w' ∧ (Lib.validD ((sB s).drop k) && !zeroIn ((sB s).drop k)) = r) (fun n _ => leftOf s n)
    case atStart => exact ⟨0, rfl, by omega, by go_grown, by simpa using hr⟩
    case round =>
      obtain ⟨k, rfl, hk, hb, hc⟩ := hrel
      by_cases hks : k < s.size
      · go_wp2_with fail
        refine (step_c s k k rfl hks hs _).mono ?_
        rintro e w' ⟨rfl, hb2⟩
        have hst := step_left (sB s) k (by rw [sB_len]; exact hks)
        rw [sB_len] at hst
        generalize stepL (sB s) k = q at hst ⊢
        obtain ⟨qn, qr⟩ := q
        simp only at hst ⊢
        obtain ⟨hs0, hs1⟩ := hst
        have hbw := hb.trans (hb2.mono hb.size)
        by_cases hq : qn = 0
        · have hv := hs0 hq
          rw [hv, Bool.false_and] at hc
          subst hc hq
          clear hs1
          go_wp2_with fail
          go_ret
          exact ⟨rfl, by go_grown⟩
        · obtain ⟨n, rfl, hn1, hn2, hv, hz0, hz1⟩ := hs1 hq
          rw [hv] at hc
          by_cases hr0 : qr = 0
          · rw [hz0 hr0, Bool.not_true, Bool.and_false] at hc
            subst hc hr0
            clear hs0 hz1
            go_wp2_with fail
            go_ret
            exact ⟨rfl, by go_grown⟩
          · rw [hz1 hr0] at hc
            have hr0b : (qr == 0) = false := by simpa using hr0
            clear hs0 hz0 hz1
            go_wp2_with fail
            go_roundw
            case rel => exact ⟨k + n, by congr 1, by omega, by go_grown, hc⟩
            case measure => simp [leftOf]; omega
      · go_wp2_with fail
        go_ret
        have : k = s.size := by omega
        subst this
        rw [List.drop_of_length_le (by rw [sB_len]; omega)] at hc
        exact ⟨by rw [← hc]; rfl, by go_grown⟩
  · rw [decide_eq_false hlen, Bool.false_and] at hr
    subst hr
    go_enter Tryz.func124, Tryz.ntmps124
    go_wp2_with fail
    go_ret
    exact ⟨rfl, by go_grown⟩

set_option maxRecDepth 100000 in
set_option maxHeartbeats 4000000 in
theorem Right_c (s : ByteArray) (w : World) (hE : EnvU w) (hs : s.size ≤ 9223372036854775000) :
    Calls Tryz.prog 119 #[.string s] w fun e w' => e = .returned (.bool (uRight (sB s))) ∧ Below w.heap.size w w' := by
  obtain ⟨r, hr⟩ : ∃ r, uRight (sB s) = r := ⟨_, rfl⟩
  rw [hr]
  unfold uRight at hr
  rw [sB_len] at hr
  by_cases hlen : s.size ≤ 65535
  · rw [decide_eq_true hlen, Bool.true_and] at hr
    have HE := hd hE; clear hE
    go_enter Tryz.func119, Tryz.ntmps119
    go_wp2_with fail
    refine (valid_c s _ (by omega) (HE.out.below (by go_grown))).mono ?_
    rintro e w1 ⟨rfl, hb1⟩
    have hb1' : Below w.heap.size w w1 := by go_grown
    cases hv : Lib.validD (sB s) with
    | false =>
      rw [hv, Bool.false_and] at hr
      subst hr
      go_wp2_with fail
      go_ret
      exact ⟨rfl, by go_grown⟩
    | true =>
      rw [hv, Bool.true_and] at hr
      go_wp2_with fail
      go_loopw [4] (fun _ w' => ∃ pos : Nat, w' = w1.iter s pos ∧ pos ≤ s.size ∧ (!zeroIn ((sB s).drop pos)) = r) (fun _ w' => s.size - w'.iterPos w1.heap.size)
      case atStart => exact ⟨0, rfl, by omega, by simpa using hr⟩
      case round =>
        obtain ⟨pos, rfl, hp1, hc⟩ := hrel
        by_cases hp : pos < s.size
        · have hnx : ∀ ty, (Instr.next (.pointer (some ⟨w1.heap.size, 0, none⟩)) true ty).run Tryz.prog (w1.iter s pos) = _ := fun ty => run_next_any w1 s pos ty hp
          have hst := range_left (sB s) pos (by rw [sB_len]; exact hp)
          rw [sB_len] at hst
          have hdd : Lib.decodeL ((sB s).drop pos) = Utf8.decode s pos := Lib.decodeL_drop s pos
          rw [hdd] at hst
          generalize Utf8.decode s pos = q at hst hnx
          obtain ⟨qr, qn⟩ := q
          simp only at hst hnx
          obtain ⟨hs0, hs1, hn1, hn2, hq⟩ := hst
          by_cases hr0 : qr = 0
          · rw [hs0 hr0] at hc
            subst hc hr0
            clear hs1
            go_wp2_with fail
            go_ret
            exact ⟨rfl, hb1'.alloc hb1'.size (.stringIter s (pos + qn))⟩
          · rw [hs1 hr0] at hc
            have hr0b : ((qr : Int) == 0) = false := by simpa using hr0
            clear hs0 hs1
            go_wp2_with fail
            go_roundw
            case rel => exact ⟨pos + qn, rfl, by omega, hc⟩
            case measure => simp; omega
        · have hnx : ∀ ty, (Instr.next (.pointer (some ⟨w1.heap.size, 0, none⟩)) true ty).run Tryz.prog (w1.iter s pos) = _ := fun ty => run_next_end w1 s pos ty hp
          go_wp2_with fail
          go_ret
          have : pos = s.size := by omega
          subst this
          rw [List.drop_of_length_le (by rw [sB_len]; omega)] at hc
          exact ⟨by rw [← hc]; rfl, hb1'.alloc hb1'.size (.stringIter s s.size)⟩
  · rw [decide_eq_false hlen, Bool.false_and] at hr
    subst hr
    go_enter Tryz.func119, Tryz.ntmps119
    go_wp2_with fail
    go_ret
    exact ⟨rfl, by go_grown⟩

end Go.Proofs.YtclicjokgfiegaaGreatDoor

/- Texts: numbers in two bytes, raw bytes and texts, laid and got: the walks. -/
namespace Go.Proofs.YtclicjokgfiegaaGreatDoor
open Go.RowKit
set_option linter.unusedVariables false

def uPut2B (n : Int) : List UInt8 := if n < 0 ∨ 65535 < n then [] else [B8 (n.toNat / 256), B8 (n.toNat % 256)]
def uPut2E (n : Int) : Int := if n < 0 ∨ 65535 < n then 1 else 0
/-- number, the place behind, the error -/
def uGet2 (l : List UInt8) (at' : Int) : Int × Int × Int :=
  if at' < 0 ∨ (l.length : Int) < at' then (0, 0, 1)
  else if (l.length : Int) - at' < 2 then (0, 0, 2)
  else (256 * (bN l at'.toNat : Int) + bN l (at'.toNat + 1), at' + 2, 0)

/-- raw bytes, laid -/
def uPutRawB (l : List UInt8) : List UInt8 := if 65535 < l.length then [] else uPut2B l.length ++ l
def uPutRawE (l : List UInt8) : Int := if 65535 < l.length then 3 else 0
/-- raw bytes, got: the text, the place behind, the error -/
def uGetRaw (l : List UInt8) (at' : Int) : List UInt8 × Int × Int :=
  if (uGet2 l at').2.2 ≠ 0 then ([], 0, (uGet2 l at').2.2)
  else if (l.length : Int) - (uGet2 l at').2.1 < (uGet2 l at').1 then ([], 0, 2)
  else ((l.drop (uGet2 l at').2.1.toNat).take (uGet2 l at').1.toNat, (uGet2 l at').2.1 + (uGet2 l at').1, 0)
def uPutB (l : List UInt8) : List UInt8 := if uRight l = true then uPutRawB l else []
def uPutE (l : List UInt8) : Int := if 65535 < l.length then 3 else if uRight l = true then 0 else 9
def uGet (l : List UInt8) (at' : Int) : List UInt8 × Int × Int :=
  if (uGetRaw l at').2.2 ≠ 0 then ([], 0, (uGetRaw l at').2.2)
  else if uRight (uGetRaw l at').1 = false then ([], 0, 9)
  else uGetRaw l at'
theorem uGet2_ok {l : List UInt8} {at' : Int} (h : (uGet2 l at').2.2 = 0) : 0 ≤ at' ∧ at' + 2 ≤ l.length ∧ (uGet2 l at').2.1 = at' + 2 ∧ 0 ≤ (uGet2 l at').1 ∧ (uGet2 l at').1 ≤ 65535 := by
  unfold uGet2 at h ⊢
  have := bN_lt l at'.toNat
  have := bN_lt l (at'.toNat + 1)
  repeat' split
  all_goals (simp_all <;> omega)

/-- The bytes of a list as a string. -/
def sOf (l : List UInt8) : ByteArray := ⟨l.toArray⟩
theorem sB_sOf (l : List UInt8) : sB (sOf l) = l := rfl
theorem sOf_size (l : List UInt8) : (sOf l).size = l.length := by rw [← sB_len, sB_sOf]

theorem or_join (x y : Nat) (hx : x < 256) (hy : y < 256) : bits .or .i64 ((x : Int) * 256) (y : Int) = 256 * (x : Int) + y := by
  have h := bits_join .i64 16 (by decide) (fun n h0 h1 => by
    obtain ⟨m, rfl⟩ := Int.eq_ofNat_of_zero_le h0
    have hm : m < 65536 := by have : (m : Int) < 65536 := h1; omega
    exact Lib.wrap_i64_small m (by omega)) 8 ((x : Int) * 256) (y : Int) (by omega) (by simp) (by simp; omega) (by omega) (by simp; omega) (by simp; omega)
  rw [h]
  omega

set_option maxRecDepth 100000 in
set_option maxHeartbeats 1000000 in
theorem Put2_c (n : Int) (w : World) : Calls Tryz.prog 173 #[.int .i64 n] w (GivesB w (uPut2B n) (uPut2E n)) := by
  obtain ⟨rE, hrE⟩ : ∃ r, uPut2E n = r := ⟨_, rfl⟩
  obtain ⟨rB, hrB⟩ : ∃ r, uPut2B n = r := ⟨_, rfl⟩
  rw [hrE, hrB]
  unfold uPut2E at hrE
  unfold uPut2B at hrB
  by_cases hn : n < 0 ∨ 65535 < n
  · rw [if_pos hn] at hrE hrB
    subst hrE hrB
    rcases hn with hn | hn
    all_goals
      go_enter Tryz.func173, Tryz.ntmps173
      go_wp2_with fail
      go_ret2
      exact GivesB.nil (by go_grown)
  · rw [if_neg hn] at hrE hrB
    subst hrE
    obtain ⟨n, rfl⟩ := Int.eq_ofNat_of_zero_le (show 0 ≤ n by omega)
    simp only [Int.toNat_natCast] at hrB
    have HB := hd hrB; clear hrB
    go_enter Tryz.func173, Tryz.ntmps173
    go_wp2_with fail
    go_ret2
    rw [← HB.out]
    exact ⟨_, rfl, owned_lit w.heap.size w [B8 (n / 256), B8 (n % 256)] w.heap.size rfl (Nat.le_refl _) (by unfold maxLen; simp) [Value.int .u8 ((n : Int) / 256), Value.int .u8 ((n : Int) % 256)]
      (by simp only [List.map]; rw [byteV_B8 (x := (n : Int) / 256) (by omega) (by omega), byteV_B8 (x := (n : Int) % 256) (by omega) (by omega)]) 2 rfl, by go_grown⟩

set_option maxRecDepth 100000 in
set_option maxHeartbeats 1000000 in
theorem Get2_c (v : Value) (l : List UInt8) (at' : Int) (w : World) (hv : Bs w v l) :
    Calls Tryz.prog 193 #[v, .int .i64 at'] w fun e w' => e = .returned (.tuple #[.int .i64 (uGet2 l at').1, .int .i64 (uGet2 l at').2.1, .int .i64 (uGet2 l at').2.2]) ∧ Below w.heap.size w w' := by
  obtain ⟨r, hr⟩ : ∃ r, uGet2 l at' = r := ⟨_, rfl⟩
  rw [hr]
  unfold uGet2 at hr
  by_cases h1 : at' < 0 ∨ (l.length : Int) < at'
  · rw [if_pos h1] at hr
    subst hr
    rcases hv.split with ⟨rfl, a, c, rfl, hc⟩ | ⟨hpos, b, o, c, rfl, hc1, hc2, hlt, hcell⟩
    all_goals
      rcases h1 with h1 | h1
      all_goals
        go_enter Tryz.func193, Tryz.ntmps193
        go_wp2_with fail
        go_ret3
        exact ⟨rfl, by go_grown⟩
  · rw [if_neg h1] at hr
    obtain ⟨k, rfl⟩ := Int.eq_ofNat_of_zero_le (show 0 ≤ at' by omega)
    by_cases h2 : (l.length : Int) - k < 2
    · rw [if_pos h2] at hr
      subst hr
      rcases hv.split with ⟨rfl, a, c, rfl, hc⟩ | ⟨hpos, b, o, c, rfl, hc1, hc2, hlt, hcell⟩
      · obtain rfl : k = 0 := by simp at h1; omega
        go_enter Tryz.func193, Tryz.ntmps193
        go_wp2_with fail
        go_ret3
        exact ⟨rfl, by go_grown⟩
      · unfold maxLen at *
        go_enter Tryz.func193, Tryz.ntmps193
        go_wp2_with fail
        go_ret3
        exact ⟨rfl, by go_grown⟩
    · rw [if_neg h2] at hr
      subst hr
      rw [Int.toNat_natCast]
      rcases hv.split with ⟨rfl, a, c, rfl, hc⟩ | ⟨hpos, b, o, c, rfl, hc1, hc2, hlt, hcell⟩
      · simp at h2; omega
      have hc0 := hcell k (by omega)
      have hc1' := hcell (k + 1) (by omega)
      have b0 := bN_lt l k
      have b1 := bN_lt l (k + 1)
      have hor := or_join _ _ b0 b1
      clear hcell hv
      unfold maxLen at *
      generalize bN l k = x0 at *
      generalize bN l (k + 1) = x1 at *
      go_enter Tryz.func193, Tryz.ntmps193
      go_wp2_with fail
      go_region
      go_wp2_with fail
      go_ret3
      exact ⟨rfl, by go_grown⟩

set_option maxRecDepth 100000 in
set_option maxHeartbeats 1000000 in
theorem refGet2_c (v : Value) (l : List UInt8) (at' : Int) (w : World) (hv : Bs w v l) :
    Calls Tryz.prog 135 #[v, .int .i64 at'] w fun e w' => e = .returned (.tuple #[.int .i64 (uGet2 l at').1, .int .i64 (uGet2 l at').2.1, .int .i64 (uGet2 l at').2.2]) ∧ Below w.heap.size w w' := by
  obtain ⟨r, hr⟩ : ∃ r, uGet2 l at' = r := ⟨_, rfl⟩
  rw [hr]
  unfold uGet2 at hr
  by_cases h1 : at' < 0 ∨ (l.length : Int) < at'
  · rw [if_pos h1] at hr
    subst hr
    rcases hv.split with ⟨rfl, a, c, rfl, hc⟩ | ⟨hpos, b, o, c, rfl, hc1, hc2, hlt, hcell⟩
    all_goals
      rcases h1 with h1 | h1
      all_goals
        go_enter Tryz.func135, Tryz.ntmps135
        go_wp2_with fail
        go_ret3
        exact ⟨rfl, by go_grown⟩
  · rw [if_neg h1] at hr
    obtain ⟨k, rfl⟩ := Int.eq_ofNat_of_zero_le (show 0 ≤ at' by omega)
    by_cases h2 : (l.length : Int) - k < 2
    · rw [if_pos h2] at hr
      subst hr
      rcases hv.split with ⟨rfl, a, c, rfl, hc⟩ | ⟨hpos, b, o, c, rfl, hc1, hc2, hlt, hcell⟩
      · obtain rfl : k = 0 := by simp at h1; omega
        go_enter Tryz.func135, Tryz.ntmps135
        go_wp2_with fail
        go_ret3
        exact ⟨rfl, by go_grown⟩
      · unfold maxLen at *
        go_enter Tryz.func135, Tryz.ntmps135
        go_wp2_with fail
        go_ret3
        exact ⟨rfl, by go_grown⟩
    · rw [if_neg h2] at hr
      subst hr
      rw [Int.toNat_natCast]
      rcases hv.split with ⟨rfl, a, c, rfl, hc⟩ | ⟨hpos, b, o, c, rfl, hc1, hc2, hlt, hcell⟩
      · simp at h2; omega
      have hc0 := hcell k (by omega)
      have hc1' := hcell (k + 1) (by omega)
      have b0 := bN_lt l k
      have b1 := bN_lt l (k + 1)
      have hor := or_join _ _ b0 b1
      clear hcell hv
      unfold maxLen at *
      generalize bN l k = x0 at *
      generalize bN l (k + 1) = x1 at *
      go_enter Tryz.func135, Tryz.ntmps135
      go_wp2_with fail
      go_region
      go_wp2_with fail
      go_ret3
      exact ⟨rfl, by go_grown⟩

end Go.Proofs.YtclicjokgfiegaaGreatDoor

/- Texts: raw bytes and texts, laid and got: the walks. -/
namespace Go.Proofs.YtclicjokgfiegaaGreatDoor
open Go.RowKit
set_option linter.unusedVariables false

theorem strCells_B (s : ByteArray) : Lib.strCells s = (sB s).map byteV := rfl

/-- append(out, s...) of a string's bytes -/
theorem wp_appS {w : World} {ops : Array Oper} {rest : List Oper} {o : Oper} {a : Act} {Q : Exit → Act → World → Prop} (hgd : o.guard = none) (s x : Operand)
    (ho : o.op = .call { callee := .builtin .append, args := #[s, x], argTypes := #[79, 9] })
    (B : Nat) (v : Value) (l : List UInt8) (hv : a.eval s = v) (hown : Owned B w v l) (str : ByteArray) (hx : a.eval x = .string str)
    (hlen : l.length + str.size ≤ 140737488355328) (hbase : B ≤ w.heap.size)
    (h : ∀ v' w', Owned B w' v' (l ++ sB str) → Below B w w' → wpList Tryz.prog ops Q rest (a.put o.dst v') w') : wpList Tryz.prog ops Q (o :: rest) a w := by
  obtain ⟨i0, hi, hz0, hz1, hz2⟩ := info_parts info_u8
  refine wpList_plain hgd fun K hK => ?_
  obtain ⟨v', w', hr, h2, h3, h4⟩ := Lib.run_append_own_string (P := Tryz.prog) w B 79 9 o.type 5 i0 Tryz.underlying79 Tryz.underlying9 hi hz0 hz1 hz2 v l.length (l.map byteV) hown str (by unfold maxLen; omega) hlen hbase
  unfold Oper.wp execOp
  simp only [ho, resolve, invoke, builtin, Sem.run_bind, Sem.run_pure, Result.andThen_ok, List.map_toArray, List.map_cons, List.map_nil, hv, hx, hr]
  refine hK _ _ (h v' w' ?_ ((Below.refl B w).grown h3 hbase (fun k hk => (hown.lt k hk).1)))
  unfold Owned
  rw [List.length_append, List.map_append, sB_len, ← strCells_B]
  exact h2

theorem GivesB.mono {w w0 w' : World} {l : List UInt8} {err : Int} {e : Ending} (h : GivesB w0 l err e w') (hb : Below w.heap.size w w0) : GivesB w l err e w' := by
  obtain ⟨v, he, ho, hb'⟩ := h
  exact ⟨v, he, ho.le hb.size, hb.trans (hb'.mono hb.size)⟩

set_option maxRecDepth 100000 in
set_option maxHeartbeats 1000000 in
theorem PutRaw_c (s : ByteArray) (w : World) (hs : s.size ≤ 140737488355327) : Calls Tryz.prog 167 #[.string s] w (GivesB w (uPutRawB (sB s)) (uPutRawE (sB s))) := by
  unfold uPutRawB uPutRawE
  rw [sB_len]
  by_cases hl : 65535 < s.size
  · rw [if_pos hl, if_pos hl]
    go_enter Tryz.func167, Tryz.ntmps167
    go_wp2_with fail
    go_ret2
    exact GivesB.nil (by go_grown)
  · rw [if_neg hl, if_neg hl]
    go_enter Tryz.func167, Tryz.ntmps167
    go_wp2_with fail
    refine (Put2_c _ _).mono ?_
    have hE : uPut2E (s.size : Int) = 0 := by unfold uPut2E; rw [if_neg (by omega)]
    have hn : (uPut2B (s.size : Int)).length ≤ 2 := by unfold uPut2B; split <;> simp
    rw [hE]
    rintro e w1 ⟨v, rfl, ho, hb⟩
    obtain ⟨a, c, rfl⟩ := Owns.slice ho
    go_wp2_with (at_builtin; refine wp_appS rfl _ _ rfl w.heap.size _ _ rfl ho s rfl (by omega) hb.size ?_; intro v' w' ho' hb')
    go_ret2
    exact ⟨_, rfl, ho', hb.trans (hb'.mono (Nat.le_refl _))⟩

def GivesS (w : World) (r : List UInt8 × Int × Int) (e : Ending) (w' : World) : Prop :=
  e = .returned (.tuple #[.string (sOf r.1), .int .i64 r.2.1, .int .i64 r.2.2]) ∧ Below w.heap.size w w'

set_option maxRecDepth 100000 in
set_option maxHeartbeats 1000000 in
theorem GetRaw_c (v : Value) (l : List UInt8) (at' : Int) (w : World) (hv : Bs w v l) : Calls Tryz.prog 201 #[v, .int .i64 at'] w (GivesS w (uGetRaw l at')) := by
  obtain ⟨r, hr⟩ : ∃ r, uGetRaw l at' = r := ⟨_, rfl⟩
  rw [hr]
  unfold uGetRaw at hr
  have hlen := hv.len
  obtain ⟨a, c, rfl⟩ := hv.slice
  go_enter Tryz.func201, Tryz.ntmps201
  go_wp2_with fail
  refine (Get2_c _ l at' _ hv).mono ?_
  rintro e w1 ⟨rfl, hb⟩
  have hok := @uGet2_ok l at'
  generalize uGet2 l at' = q at hr hok ⊢
  obtain ⟨qn, qk, qe⟩ := q
  simp only at hr hok ⊢
  by_cases he : qe = 0
  · obtain ⟨h1, h2, rfl, h4, h5⟩ := hok he
    subst he
    rw [if_neg (by decide)] at hr
    obtain ⟨k, rfl⟩ := Int.eq_ofNat_of_zero_le h1
    obtain ⟨n, rfl⟩ := Int.eq_ofNat_of_zero_le h4
    unfold maxLen at hlen
    by_cases hs : (l.length : Int) - (k + 2) < n
    · rw [if_pos hs] at hr
      subst hr
      go_wp2_with fail
      go_ret3
      exact ⟨rfl, hb⟩
    · rw [if_neg hs] at hr
      obtain ⟨a', c', hsl, hbs⟩ := run_part (hv.below' hb (Nat.le_refl _)) ((k : Int) + 2) ((k : Int) + 2 + n) (k + 2) (k + 2 + n) (by omega) (by omega) (by omega) (by omega)
      have hstr := run_str hbs
      have e1 : ((k : Int) + 2).toNat = k + 2 := by omega
      have e2 : k + 2 + n - (k + 2) = n := by omega
      rw [e2] at hsl hstr
      rw [e1, Int.toNat_natCast] at hr
      have Hr := hd hr
      clear hok hbs hv hr
      go_wp2_with fail
      go_ret3
      rw [← Hr.out]
      exact ⟨rfl, hb⟩
  · rw [if_pos he] at hr
    subst hr
    have heb : (qe != 0) = true := by simpa using he
    clear hok
    go_wp2_with fail
    go_ret3
    exact ⟨rfl, hb⟩

set_option maxRecDepth 100000 in
set_option maxHeartbeats 1000000 in
theorem refGetRaw_c (v : Value) (l : List UInt8) (at' : Int) (w : World) (hv : Bs w v l) : Calls Tryz.prog 162 #[v, .int .i64 at'] w (GivesS w (uGetRaw l at')) := by
  obtain ⟨r, hr⟩ : ∃ r, uGetRaw l at' = r := ⟨_, rfl⟩
  rw [hr]
  unfold uGetRaw at hr
  have hlen := hv.len
  obtain ⟨a, c, rfl⟩ := hv.slice
  go_enter Tryz.func162, Tryz.ntmps162
  go_wp2_with fail
  refine (refGet2_c _ l at' _ hv).mono ?_
  rintro e w1 ⟨rfl, hb⟩
  have hok := @uGet2_ok l at'
  generalize uGet2 l at' = q at hr hok ⊢
  obtain ⟨qn, qk, qe⟩ := q
  simp only at hr hok ⊢
  by_cases he : qe = 0
  · obtain ⟨h1, h2, rfl, h4, h5⟩ := hok he
    subst he
    rw [if_neg (by decide)] at hr
    obtain ⟨k, rfl⟩ := Int.eq_ofNat_of_zero_le h1
    obtain ⟨n, rfl⟩ := Int.eq_ofNat_of_zero_le h4
    unfold maxLen at hlen
    by_cases hs : (l.length : Int) - (k + 2) < n
    · rw [if_pos hs] at hr
      subst hr
      go_wp2_with fail
      go_ret3
      exact ⟨rfl, hb⟩
    · rw [if_neg hs] at hr
      obtain ⟨a', c', hsl, hbs⟩ := run_part (hv.below' hb (Nat.le_refl _)) ((k : Int) + 2) ((k : Int) + 2 + n) (k + 2) (k + 2 + n) (by omega) (by omega) (by omega) (by omega)
      have hstr := run_str hbs
      have e1 : ((k : Int) + 2).toNat = k + 2 := by omega
      have e2 : k + 2 + n - (k + 2) = n := by omega
      rw [e2] at hsl hstr
      rw [e1, Int.toNat_natCast] at hr
      have Hr := hd hr
      clear hok hbs hv hr
      go_wp2_with fail
      go_ret3
      rw [← Hr.out]
      exact ⟨rfl, hb⟩
  · rw [if_pos he] at hr
    subst hr
    have heb : (qe != 0) = true := by simpa using he
    clear hok
    go_wp2_with fail
    go_ret3
    exact ⟨rfl, hb⟩

end Go.Proofs.YtclicjokgfiegaaGreatDoor

/- Texts: a text, laid and got; that the program is awake. -/
namespace Go.Proofs.YtclicjokgfiegaaGreatDoor
open Go.RowKit
set_option linter.unusedVariables false

theorem uRight_len {l : List UInt8} (h : uRight l = true) : l.length ≤ 65535 := by
  unfold uRight at h
  simp at h
  exact h.1

set_option maxRecDepth 100000 in
set_option maxHeartbeats 1000000 in
theorem Put_c (s : ByteArray) (w : World) (hE : EnvU w) (hs : s.size ≤ 140737488355327) : Calls Tryz.prog 165 #[.string s] w (GivesB w (uPutB (sB s)) (uPutE (sB s))) := by
  obtain ⟨rE, hrE⟩ : ∃ r, uPutE (sB s) = r := ⟨_, rfl⟩
  obtain ⟨rB, hrB⟩ : ∃ r, uPutB (sB s) = r := ⟨_, rfl⟩
  rw [hrE, hrB]
  unfold uPutE at hrE
  unfold uPutB at hrB
  have HE := hd hE; clear hE
  have hL := sB_len s
  have hraw : uPutRawE (sB s) = if 65535 < s.size then 3 else 0 := by unfold uPutRawE; rw [hL]
  rw [hL] at hrE
  by_cases hl : 65535 < s.size
  · have hrt : uRight (sB s) = false := by
      cases h : uRight (sB s) with
      | false => rfl
      | true => have := uRight_len h; omega
    have hrw : uPutRawB (sB s) = [] := by unfold uPutRawB; rw [if_pos (by omega)]
    rw [if_pos hl] at hrE hraw
    rw [hrt, if_neg (by decide)] at hrB
    subst hrE hrB
    go_enter Tryz.func165, Tryz.ntmps165
    go_wp2_with fail
    refine (PutRaw_c s _ hs).mono ?_
    rw [hrw, hraw]
    rintro e w' ⟨v, rfl, ho, hb⟩
    go_wp2_with fail
    go_ret2
    exact ⟨_, rfl, ho, hb⟩
  · rw [if_neg hl] at hrE hraw
    cases hrt : uRight (sB s) with
    | false =>
      rw [hrt, if_neg (by decide)] at hrE hrB
      subst hrE hrB
      go_enter Tryz.func165, Tryz.ntmps165
      go_wp2_with fail
      refine (Right_c s _ HE.out (by omega)).mono ?_
      rw [hrt]
      rintro e w' ⟨rfl, hb⟩
      go_wp2_with fail
      go_ret2
      exact GivesB.nil hb
    | true =>
      rw [hrt, if_pos rfl] at hrE hrB
      subst hrE
      have HB := hd hrB; clear hrB
      go_enter Tryz.func165, Tryz.ntmps165
      go_wp2_with fail
      refine (Right_c s _ HE.out (by omega)).mono ?_
      rw [hrt]
      rintro e w' ⟨rfl, hb⟩
      go_wp2_with fail
      refine (PutRaw_c s _ hs).mono ?_
      rw [HB.out, hraw]
      rintro e w2 ⟨v, rfl, ho, hb2⟩
      go_wp2_with fail
      go_ret2
      exact ⟨_, rfl, ho.le hb.size, hb.trans (hb2.mono hb.size)⟩

theorem uGetRaw_len (l : List UInt8) (at' : Int) : (uGetRaw l at').1.length ≤ 65535 := by
  unfold uGetRaw
  have h := @uGet2_ok l at'
  generalize uGet2 l at' = q at h ⊢
  obtain ⟨qn, qk, qe⟩ := q
  simp only at h ⊢
  split
  · simp
  · split
    · simp
    · rename_i h1 h2
      have := h (by omega)
      simp only [List.length_take, List.length_drop]
      omega

set_option maxRecDepth 100000 in
set_option maxHeartbeats 1000000 in
theorem Get_c (v : Value) (l : List UInt8) (at' : Int) (w : World) (hE : EnvU w) (hv : Bs w v l) : Calls Tryz.prog 189 #[v, .int .i64 at'] w (GivesS w (uGet l at')) := by
  obtain ⟨r, hr⟩ : ∃ r, uGet l at' = r := ⟨_, rfl⟩
  rw [hr]
  unfold uGet at hr
  have HE := hd hE; clear hE
  obtain ⟨a, c, rfl⟩ := hv.slice
  go_enter Tryz.func189, Tryz.ntmps189
  go_wp2_with fail
  refine (GetRaw_c _ l at' _ hv).mono ?_
  rintro e w1 ⟨rfl, hb⟩
  have hlen := uGetRaw_len l at'
  generalize uGetRaw l at' = q at hr hlen ⊢
  obtain ⟨qs, qk, qe⟩ := q
  simp only at hr hlen ⊢
  have hsz := sOf_size qs
  by_cases he : qe = 0
  · subst he
    rw [if_neg (by decide)] at hr
    cases hrt : uRight qs with
    | false =>
      rw [if_pos hrt] at hr
      subst hr
      go_wp2_with fail
      refine (Right_c (sOf qs) _ (HE.out.below hb) (by omega)).mono ?_
      rw [sB_sOf, hrt]
      rintro e w2 ⟨rfl, hb2⟩
      have hb3 := hb.trans (hb2.mono hb.size)
      go_wp2_with fail
      go_ret3
      exact ⟨rfl, hb3⟩
    | true =>
      rw [hrt, if_neg (by decide)] at hr
      have Hr := hd hr; clear hr
      go_wp2_with fail
      refine (Right_c (sOf qs) _ (HE.out.below hb) (by omega)).mono ?_
      rw [sB_sOf, hrt]
      rintro e w2 ⟨rfl, hb2⟩
      have hb3 := hb.trans (hb2.mono hb.size)
      go_wp2_with fail
      go_ret3
      rw [← Hr.out]
      exact ⟨rfl, hb3⟩
  · rw [if_pos he] at hr
    subst hr
    have heb : (qe != 0) = true := by simpa using he
    go_wp2_with fail
    go_ret3
    exact ⟨rfl, hb⟩

set_option maxRecDepth 100000 in
set_option maxHeartbeats 1000000 in
theorem refGet_c (v : Value) (l : List UInt8) (at' : Int) (w : World) (hv : Bs w v l) : Calls Tryz.prog 134 #[v, .int .i64 at'] w (GivesS w (uGet l at')) := by
  obtain ⟨r, hr⟩ : ∃ r, uGet l at' = r := ⟨_, rfl⟩
  rw [hr]
  unfold uGet at hr
  obtain ⟨a, c, rfl⟩ := hv.slice
  go_enter Tryz.func134, Tryz.ntmps134
  go_wp2_with fail
  refine (refGetRaw_c _ l at' _ hv).mono ?_
  rintro e w1 ⟨rfl, hb⟩
  have hlen := uGetRaw_len l at'
  generalize uGetRaw l at' = q at hr hlen ⊢
  obtain ⟨qs, qk, qe⟩ := q
  simp only at hr hlen ⊢
  have hsz := sOf_size qs
  by_cases he : qe = 0
  · subst he
    rw [if_neg (by decide)] at hr
    cases hrt : uRight qs with
    | false =>
      rw [if_pos hrt] at hr
      subst hr
      go_wp2_with fail
      refine (refRight_c (sOf qs) _ (by omega)).mono ?_
      rw [sB_sOf, hrt]
      rintro e w2 ⟨rfl, hb2⟩
      have hb3 := hb.trans (hb2.mono hb.size)
      go_wp2_with fail
      go_ret3
      exact ⟨rfl, hb3⟩
    | true =>
      rw [hrt, if_neg (by decide)] at hr
      have Hr := hd hr; clear hr
      go_wp2_with fail
      refine (refRight_c (sOf qs) _ (by omega)).mono ?_
      rw [sB_sOf, hrt]
      rintro e w2 ⟨rfl, hb2⟩
      have hb3 := hb.trans (hb2.mono hb.size)
      go_wp2_with fail
      go_ret3
      rw [← Hr.out]
      exact ⟨rfl, hb3⟩
  · rw [if_pos he] at hr
    subst hr
    have heb : (qe != 0) = true := by simpa using he
    go_wp2_with fail
    go_ret3
    exact ⟨rfl, hb⟩

end Go.Proofs.YtclicjokgfiegaaGreatDoor

/- Texts, there and back: plain laws. No program. -/
namespace Go.Proofs.YtclicjokgfiegaaGreatDoor
open Go.RowKit
set_option linter.unusedVariables false

theorem bN_append_right (x y : List UInt8) (j : Nat) : bN (x ++ y) (x.length + j) = bN y j := by
  unfold bN
  rw [List.getD_eq_getElem?_getD, List.getD_eq_getElem?_getD, List.getElem?_append_right (by omega)]
  congr 4
  omega
theorem bN_zero (b : UInt8) (t : List UInt8) : bN (b :: t) 0 = b.toNat := rfl
theorem bN_succ (b : UInt8) (t : List UInt8) (j : Nat) : bN (b :: t) (j + 1) = bN t j := rfl

theorem uGet2_at (A R : List UInt8) (n : Nat) (hn : n ≤ 65535) : uGet2 (A ++ (B8 (n / 256) :: B8 (n % 256) :: R)) (A.length : Int) = ((n : Int), (A.length : Int) + 2, 0) := by
  unfold uGet2
  rw [List.length_append, if_neg (by simp; omega), if_neg (by simp; omega), Int.toNat_natCast]
  have e0 := bN_append_right A (B8 (n / 256) :: B8 (n % 256) :: R) 0
  have e1 := bN_append_right A (B8 (n / 256) :: B8 (n % 256) :: R) 1
  rw [Nat.add_zero] at e0
  rw [e0, e1, bN_zero, bN_succ, bN_zero, B8_toNat (by omega), B8_toNat (by omega)]
  congr 1
  omega

theorem uPut2B_ok {n : Nat} (hn : n ≤ 65535) : uPut2B (n : Int) = [B8 (n / 256), B8 (n % 256)] := by
  unfold uPut2B
  rw [if_neg (by omega), Int.toNat_natCast]

theorem uPutRawB_ok {S : List UInt8} (h : S.length ≤ 65535) : uPutRawB S = B8 (S.length / 256) :: B8 (S.length % 256) :: S := by
  unfold uPutRawB
  rw [if_neg (by omega), uPut2B_ok h]
  rfl
theorem uPutRawB_len {S : List UInt8} (h : S.length ≤ 65535) : (uPutRawB S).length = S.length + 2 := by
  rw [uPutRawB_ok h]
  rfl

theorem uGetRaw_at (A S C : List UInt8) (h : S.length ≤ 65535) : uGetRaw (A ++ uPutRawB S ++ C) (A.length : Int) = (S, (A.length : Int) + 2 + S.length, 0) := by
  rw [uPutRawB_ok h, List.append_assoc]
  unfold uGetRaw
  have e := uGet2_at A (S ++ C) S.length h
  rw [List.cons_append, List.cons_append, e]
  simp only
  rw [if_neg (by decide), if_neg (by simp; omega)]
  have e1 : ((A.length : Int) + 2).toNat = A.length + 2 := by omega
  rw [e1, Int.toNat_natCast, ← List.drop_drop, List.drop_left, List.drop_succ_cons, List.drop_succ_cons, List.drop_zero, List.take_left]

theorem uGet_at (A S C : List UInt8) (h : S.length ≤ 65535) : uGet (A ++ uPutRawB S ++ C) (A.length : Int) = if uRight S = true then (S, (A.length : Int) + 2 + S.length, 0) else ([], 0, 9) := by
  unfold uGet
  rw [uGetRaw_at A S C h, if_neg (by simp)]
  simp only
  by_cases hr : uRight S = true
  · rw [if_pos hr, if_neg (by rw [hr]; decide)]
  · rw [if_neg hr, if_pos (by simpa using hr)]
end Go.Proofs.YtclicjokgfiegaaGreatDoor

/- Who comes: plain laws: what is laid and told. No program. -/
namespace Go.Proofs.YtclicjokgfiegaaGreatDoor
open Go.RowKit
set_option linter.unusedVariables false

/-- Who comes. -/
structure Con where
  level : Int
  clean : Bool
  keep : Int
  client : ByteArray
  hasWill : Bool
  topic : ByteArray
  text : ByteArray
  qos : Int
  retain : Bool
  hasUser : Bool
  user : ByteArray
  hasPass : Bool
  pass : ByteArray

def Con.zero : Con := ⟨0, false, 0, ⟨#[]⟩, false, ⟨#[]⟩, ⟨#[]⟩, 0, false, false, ⟨#[]⟩, false, ⟨#[]⟩⟩
def Con.cells (c : Con) : List Value := [.int .i64 c.level, .bool c.clean, .int .i64 c.keep, .string c.client, .bool c.hasWill, .string c.topic, .string c.text, .int .i64 c.qos, .bool c.retain, .bool c.hasUser, .string c.user, .bool c.hasPass, .string c.pass]
def Con.sized (c : Con) (n : Nat) : Prop := c.client.size ≤ n ∧ c.topic.size ≤ n ∧ c.text.size ≤ n ∧ c.user.size ≤ n ∧ c.pass.size ≤ n

def emB (s : ByteArray) : Bool := (sB s).isEmpty
def Con.noWill (c : Con) : Bool := emB c.topic && emB c.text && (c.qos == 0) && !c.retain
/-- why one may not come so -/
def cErr (c : Con) : Int :=
  if c.level ≠ 4 then 15
  else if c.keep < 0 ∨ 65535 < c.keep then 1
  else if c.qos < 0 ∨ 2 < c.qos then 10
  else if (c.hasPass && !c.hasUser) = true then 10
  else if (!c.hasWill && !c.noWill) = true then 4
  else if (!c.hasUser && !emB c.user) = true then 4
  else if (!c.hasPass && !emB c.pass) = true then 4 else 0

def bI (b : Bool) (n : Int) : Int := if b = true then n else 0
def cFlags (c : Con) : Int := bI c.clean 2 + bI c.hasWill 4 + bI c.retain 32 + bI c.hasPass 64 + bI c.hasUser 128 + c.qos * 8
theorem bI_rng (b : Bool) (n : Int) (h : 0 ≤ n) : 0 ≤ bI b n ∧ bI b n ≤ n := by unfold bI; split <;> omega
theorem cFlags_rng {c : Con} (h : 0 ≤ c.qos ∧ c.qos ≤ 2) : 0 ≤ cFlags c ∧ cFlags c ≤ 255 := by
  unfold cFlags
  have := bI_rng c.clean 2 (by omega); have := bI_rng c.hasWill 4 (by omega); have := bI_rng c.retain 32 (by omega); have := bI_rng c.hasPass 64 (by omega); have := bI_rng c.hasUser 128 (by omega)
  omega

/-- the flags, by the bits -/
def cBits (c : Con) : Int := bits .or .i64 (bits .or .i64 (bits .or .i64 (bits .or .i64 (bits .or .i64 (bI c.clean 2) (bI c.hasWill 4)) (bI c.retain 32)) (bI c.hasPass 64)) (bI c.hasUser 128)) (c.qos * 8)
theorem cBits_eq {c : Con} (h : 0 ≤ c.qos ∧ c.qos ≤ 2) : cBits c = cFlags c := by
  have hq : c.qos = 0 ∨ c.qos = 1 ∨ c.qos = 2 := by omega
  unfold cBits cFlags
  generalize c.clean = a at *
  generalize c.hasWill = b at *
  generalize c.retain = d at *
  generalize c.hasPass = e at *
  generalize c.hasUser = f at *
  rcases hq with hq | hq | hq <;> rw [hq] <;> cases a <;> cases b <;> cases d <;> cases e <;> cases f <;> decide

/-- a text more, if it is there; the first error stays -/
def cStep (st : List UInt8 × Int) (is : Bool) (fe : Int) (fb : List UInt8) : List UInt8 × Int :=
  if is = false then st else if st.2 ≠ 0 then st else if fe = 0 then (st.1 ++ fb, 0) else (st.1, fe)
theorem cStep_bad {st : List UInt8 × Int} (h : st.2 ≠ 0) (is : Bool) (fe : Int) (fb : List UInt8) : cStep st is fe fb = st := by
  unfold cStep; split
  · rfl
  · simp
theorem cStep_no (st : List UInt8 × Int) (fe : Int) (fb : List UInt8) : cStep st false fe fb = st := by unfold cStep; rw [if_pos rfl]
theorem cStep_ok (l : List UInt8) (fb : List UInt8) : cStep (l, 0) true 0 fb = (l ++ fb, 0) := by unfold cStep; simp
theorem cStep_err (l : List UInt8) {fe : Int} (fb : List UInt8) (h : fe ≠ 0) : cStep (l, 0) true fe fb = (l, fe) := by unfold cStep; simp [h]
theorem cStep_len (st : List UInt8 × Int) (is : Bool) (fe : Int) (fb : List UInt8) : (cStep st is fe fb).1.length ≤ st.1.length + fb.length := by
  unfold cStep; repeat' split
  all_goals simp

def cHead (c : Con) : List UInt8 := [0, 4, 77, 81, 84, 84, 4, B8 (cFlags c).toNat, B8 (c.keep.toNat / 256), B8 (c.keep.toNat % 256)]
def cS1 (c : Con) : List UInt8 × Int := cStep (cHead c, 0) true (uPutE (sB c.client)) (uPutB (sB c.client))
def cS2 (c : Con) : List UInt8 × Int := cStep (cS1 c) c.hasWill (uPutE (sB c.topic)) (uPutB (sB c.topic))
def cS3 (c : Con) : List UInt8 × Int := cStep (cS2 c) c.hasWill (uPutRawE (sB c.text)) (uPutRawB (sB c.text))
def cS4 (c : Con) : List UInt8 × Int := cStep (cS3 c) c.hasUser (uPutE (sB c.user)) (uPutB (sB c.user))
def cS5 (c : Con) : List UInt8 × Int := cStep (cS4 c) c.hasPass (uPutRawE (sB c.pass)) (uPutRawB (sB c.pass))
def cPutE (c : Con) : Int := if cErr c ≠ 0 then cErr c else if (cS5 c).2 ≠ 0 then (cS5 c).2 else if 4096 < (cS5 c).1.length then 3 else 0
def cPutB (c : Con) : List UInt8 := if cPutE c = 0 then (cS5 c).1 else []
theorem cS1_bad {c : Con} (h : (cS1 c).2 ≠ 0) : cS5 c = cS1 c := by
  rw [cS5, cS4, cS3, cS2, cStep_bad h, cStep_bad h, cStep_bad h, cStep_bad h]
theorem cS2_bad {c : Con} (h : (cS2 c).2 ≠ 0) : cS5 c = cS2 c := by
  rw [cS5, cS4, cS3, cStep_bad h, cStep_bad h, cStep_bad h]
theorem cS3_bad {c : Con} (h : (cS3 c).2 ≠ 0) : cS5 c = cS3 c := by
  rw [cS5, cS4, cStep_bad h, cStep_bad h]
theorem cS4_bad {c : Con} (h : (cS4 c).2 ≠ 0) : cS5 c = cS4 c := by
  rw [cS5, cStep_bad h]

/-! ### What is answered -/
def aPutE (p : Bool) (k : Int) : Int := if k < 0 ∨ 5 < k then 1 else if p = true ∧ k ≠ 0 then 4 else 0
def aPutB (p : Bool) (k : Int) : List UInt8 := if aPutE p k = 0 then [B8 (bI p 1).toNat, B8 k.toNat] else []
def aOf (l : List UInt8) : Bool × Int × Int :=
  if l.length ≠ 2 ∨ 1 < bN l 0 then (false, 0, 4)
  else if aPutE (decide (bN l 0 = 1)) (bN l 1) ≠ 0 then (false, 0, aPutE (decide (bN l 0 = 1)) (bN l 1))
  else (decide (bN l 0 = 1), bN l 1, 0)
theorem aBack {p : Bool} {k : Int} (h : aPutE p k = 0) : aOf (aPutB p k) = (p, k, 0) := by
  have hk : 0 ≤ k ∧ k ≤ 5 := by
    unfold aPutE at h
    by_cases c : k < 0 ∨ 5 < k
    · rw [if_pos c] at h; simp at h
    · omega
  have e0 : bN (aPutB p k) 0 = (bI p 1).toNat := by
    rw [aPutB, if_pos h]
    have := bI_rng p 1 (by omega)
    exact B8_toNat (by omega)
  have e1 : bN (aPutB p k) 1 = k.toNat := by
    rw [aPutB, if_pos h]
    exact B8_toNat (by omega)
  have e2 : (aPutB p k).length = 2 := by rw [aPutB, if_pos h]; rfl
  have ep : decide ((bI p 1).toNat = 1) = p := by cases p <;> rfl
  have h1 : (bI p 1).toNat ≤ 1 := by cases p <;> decide
  have ek : ((k.toNat : Nat) : Int) = k := by omega
  unfold aOf
  rw [e0, e1, e2, if_neg (by omega), ep, ek, if_neg (by omega)]
end Go.Proofs.YtclicjokgfiegaaGreatDoor

/- Messages: plain laws: which topic may be; what is laid. No program. -/
namespace Go.Proofs.YtclicjokgfiegaaGreatDoor
open Go.RowKit
set_option linter.unusedVariables false

/-- A byte that no filter's sign may be in a topic. -/
def signB (b : UInt8) : Bool := b.toNat == 43 || b.toNat == 35
def signIn (l : List UInt8) : Bool := l.any signB
def pName (l : List UInt8) : Bool := !signIn l && !l.isEmpty

theorem signB_iff (l : List UInt8) (j : Nat) (h : j < l.length) : signB (l[j]'h) = (bN l j == 43 || bN l j == 35) := by
  unfold signB bN
  rw [List.getD_eq_getElem?_getD, List.getElem?_eq_getElem h, Option.getD_some]

theorem signIn_drop : ∀ (n : Nat) (l : List UInt8), n ≤ l.length → (∀ j, j < n → bN l j ≠ 43 ∧ bN l j ≠ 35) → signIn l = signIn (l.drop n)
  | 0, l, _, _ => by simp
  | n + 1, [], h, _ => by simp at h
  | n + 1, b :: t, h, hb => by
    have h0 := hb 0 (by omega)
    have e : signIn (b :: t) = signIn t := by
      unfold signIn
      have : signB b = false := by
        have h1 : bN (b :: t) 0 = b.toNat := rfl
        rw [h1] at h0
        unfold signB
        simp [h0.1, h0.2]
      simp [this]
    rw [e, List.drop_succ_cons]
    refine signIn_drop n t (by simpa using h) (fun j hj => ?_)
    exact hb (j + 1) (by omega)
theorem signIn_hit {l : List UInt8} (hl : 0 < l.length) (h : bN l 0 = 43 ∨ bN l 0 = 35) : signIn l = true := by
  cases l with
  | nil => simp at hl
  | cons b t =>
    have h1 : bN (b :: t) 0 = b.toNat := rfl
    rw [h1] at h
    have : signB b = true := by unfold signB; rcases h with h | h <;> simp [h]
    unfold signIn
    simp [this]

/-- One step of a range over a string's runes, for the signs. -/
theorem range_sign (l : List UInt8) (i : Nat) (hi : i < l.length) :
    (((Lib.decodeL (l.drop i)).1 = 43 ∨ (Lib.decodeL (l.drop i)).1 = 35) → signIn (l.drop i) = true) ∧
    (((Lib.decodeL (l.drop i)).1 ≠ 43 ∧ (Lib.decodeL (l.drop i)).1 ≠ 35) → signIn (l.drop i) = signIn (l.drop (i + (Lib.decodeL (l.drop i)).2))) ∧
    1 ≤ (Lib.decodeL (l.drop i)).2 ∧ i + (Lib.decodeL (l.drop i)).2 ≤ l.length ∧ (Lib.decodeL (l.drop i)).1 ≤ 1114111 := by
  rw [Lib.decodeL_N]
  have e0 : ((l.drop i).getD 0 0).toNat = bN l i := by have := bN_drop l i 0; rw [Nat.add_zero] at this; exact this
  have e1 : ((l.drop i).getD 1 0).toNat = bN l (i + 1) := bN_drop l i 1
  have e2 : ((l.drop i).getD 2 0).toNat = bN l (i + 2) := bN_drop l i 2
  have e3 : ((l.drop i).getD 3 0).toNat = bN l (i + 3) := bN_drop l i 3
  rw [e0, e1, e2, e3, List.length_drop]
  have z0 : (bN l i = 43 ∨ bN l i = 35) → signIn (l.drop i) = true := fun h => signIn_hit (by rw [List.length_drop]; omega) (by rw [bN_drop, Nat.add_zero]; exact h)
  have zn : ∀ n, i + n ≤ l.length → (∀ j, j < n → bN l (i + j) ≠ 43 ∧ bN l (i + j) ≠ 35) → signIn (l.drop i) = signIn (l.drop (i + n)) := fun n hn hb => by
    have := signIn_drop n (l.drop i) (by rw [List.length_drop]; omega) (fun j hj => by rw [bN_drop]; exact hb j hj)
    rw [List.drop_drop] at this
    exact this
  have b0 := bN_lt l i
  have hz1 : (bN l i ≠ 43 ∧ bN l i ≠ 35) → signIn (l.drop i) = signIn (l.drop (i + 1)) := fun h => zn 1 (by omega) (fun j hj => by
    match j, hj with
    | 0, _ => exact h)
  have hz2 : i + 2 ≤ l.length → 128 ≤ bN l i → 128 ≤ bN l (i + 1) → signIn (l.drop i) = signIn (l.drop (i + 2)) := fun h h0 h1 => zn 2 h (fun j hj => by
    match j, hj with
    | 0, _ => rw [Nat.add_zero]; omega
    | 1, _ => omega)
  have hz3 : i + 3 ≤ l.length → 128 ≤ bN l i → 128 ≤ bN l (i + 1) → 128 ≤ bN l (i + 2) → signIn (l.drop i) = signIn (l.drop (i + 3)) := fun h h0 h1 h2 => zn 3 h (fun j hj => by
    match j, hj with
    | 0, _ => rw [Nat.add_zero]; omega
    | 1, _ => omega
    | 2, _ => omega)
  have hz4 : i + 4 ≤ l.length → 128 ≤ bN l i → 128 ≤ bN l (i + 1) → 128 ≤ bN l (i + 2) → 128 ≤ bN l (i + 3) → signIn (l.drop i) = signIn (l.drop (i + 4)) := fun h h0 h1 h2 h3 => zn 4 h (fun j hj => by
    match j, hj with
    | 0, _ => rw [Nat.add_zero]; omega
    | 1, _ => omega
    | 2, _ => omega
    | 3, _ => omega)
  clear zn e0 e1 e2 e3
  have hz : Lib.decodeN (l.length - i) (bN l i) (bN l (i + 1)) (bN l (i + 2)) (bN l (i + 3)) = (65533, 1) → bN l i ≠ 43 ∧ bN l i ≠ 35 := fun h => by
    constructor
    all_goals
      intro h0
      rw [h0] at h
      unfold Lib.decodeN at h
      rw [if_pos (by omega)] at h
      simp at h
  rcases Lib.decodeN_shape (l.length - i) (bN l i) (bN l (i + 1)) (bN l (i + 2)) (bN l (i + 3)) with ⟨c, e⟩ | ⟨c1, c2, c3, cv, e⟩ | ⟨c1, c2, c3, c4, cv, cs, e⟩ | ⟨c1, c2, c3, c4, c5, cv, cw, e⟩ | e
  · rw [e]
    exact ⟨fun h => z0 h, fun h => hz1 h, by omega, by simp only; omega, by simp only; omega⟩
  · rw [e]
    exact ⟨fun h => by simp only at h; omega, fun h => hz2 (by omega) (by omega) (by omega), by omega, by simp only; omega, by simp only; omega⟩
  · rw [e]
    exact ⟨fun h => by simp only at h; omega, fun h => hz3 (by omega) (by omega) (by omega) (by omega), by omega, by simp only; omega, by simp only; omega⟩
  · rw [e]
    exact ⟨fun h => by simp only at h; omega, fun h => hz4 (by omega) (by omega) (by omega) (by omega) (by omega), by omega, by simp only; omega, by simp only; omega⟩
  · have := hz e
    rw [e]
    exact ⟨fun h => by simp at h, fun h => hz1 this, by omega, by simp only; omega, by simp only; omega⟩

/-- a number's bytes -/
def pIdB (id : Int) : List UInt8 := if 1 ≤ id ∧ id ≤ 65535 then uPut2B id else []
def pIdE (id : Int) : Int := if 1 ≤ id ∧ id ≤ 65535 then 0 else 1
/-- a number's bytes by a QoS -/
def pNumB (qos id : Int) : List UInt8 := if 0 < qos then pIdB id else []
def pNumE (qos id : Int) : Int := if 0 < qos then pIdE id else if id ≠ 0 then 1 else 0
/-- a message's bytes and the error -/
def pPutE (T X : List UInt8) (qos id : Int) : Int :=
  if qos < 0 ∨ 2 < qos then 10
  else if pName T = false then 13
  else if uPutE T ≠ 0 then uPutE T
  else if pNumE qos id ≠ 0 then pNumE qos id
  else if (4096 : Int) - ((uPutB T).length + (pNumB qos id).length) < X.length then 3 else 0
def pPutB (T X : List UInt8) (qos id : Int) : List UInt8 := if pPutE T X qos id = 0 then uPutB T ++ pNumB qos id ++ X else []
end Go.Proofs.YtclicjokgfiegaaGreatDoor

/- Messages: the walks of the small functions. -/
namespace Go.Proofs.YtclicjokgfiegaaGreatDoor
open Go.RowKit
set_option linter.unusedVariables false

/-- []byte(s) -/
theorem run_bytes (s : ByteArray) (hs : s.size ≤ 140737488355327) (w : World) : ∃ c W', (convert 9 79 (.string s)).run Tryz.prog w = .ok (.slice (some ⟨w.heap.size, 0, none⟩) (sB s).length c) W' ∧ Bs W' (.slice (some ⟨w.heap.size, 0, none⟩) (sB s).length c) (sB s) ∧ Below w.heap.size w W' := by
  have h63 : s.size ≤ maxLen := by unfold maxLen; omega
  refine ⟨grownCap w s.size 0 5, Lib.bytesWorld w 5 s, ?_, ?_, ⟨rfl, rfl, rfl, by rw [Lib.bytesWorld_size]; omega, fun j hj => Lib.bytesWorld_at_old w 5 s j hj⟩⟩
  · rw [sB_len]
    exact Lib.run_convert_string_bytes w 9 79 5 s Tryz.underlying9 Tryz.underlying79 Tryz.underlying5
  · refine ⟨some ⟨w.heap.size, 0, none⟩, _, rfl, by rw [sB_len]; exact grownCap_ge w s.size 0 5, grownCap_le_maxLen w s.size 0 5 h63, (fun e => by cases e), fun ad had j u hu => ?_⟩
    cases had
    have hj : j < s.size := by
      have := (List.getElem?_eq_some_iff.1 hu).1
      rw [List.length_map, sB_len] at this
      exact this
    rw [Go.WideShapes.add_plain, Nat.zero_add, Lib.bytesWorld_cell w 5 s j hj, ← hu]
    have hjl : j < (sB s).length := by rw [sB_len]; exact hj
    have e : (sB s).getD j 0 = (sB s)[j]'hjl := by rw [List.getD_eq_getElem?_getD, List.getElem?_eq_getElem hjl, Option.getD_some]
    rw [List.getElem?_map, List.getElem?_eq_getElem hjl]
    show _ = some (byteV ((sB s)[j]'hjl))
    rw [← e]
    rfl

theorem sB_nil {s : ByteArray} (h : s.size = 0) : s = ⟨#[]⟩ := by
  have : s.data = #[] := Array.eq_empty_of_size_eq_zero h
  cases s
  simp_all
theorem neq_empty (s : ByteArray) : (!s.toList.isEmpty) = !(sB s).isEmpty := by
  rw [ByteArray.toList_eq]
  rfl

set_option maxRecDepth 100000 in
set_option maxHeartbeats 1000000 in
theorem leveled_c (q : Int) (w : World) : Calls Tryz.prog 169 #[.int .i64 q] w fun e w' => e = .returned (.bool (decide (0 ≤ q) && decide (q ≤ 2))) ∧ w = w' := by
  go_enter Tryz.func169, Tryz.ntmps169
  go_wp2
  all_goals (go_ret; refine ⟨ret_bool ?_, rfl⟩)
  all_goals (simp_all <;> omega)

set_option maxRecDepth 100000 in
set_option maxHeartbeats 1000000 in
theorem numbered_c (q : Int) (w : World) : Calls Tryz.prog 172 #[.int .i64 q] w fun e w' => e = .returned (.bool (decide (1 ≤ q) && decide (q ≤ 65535))) ∧ w = w' := by
  go_enter Tryz.func172, Tryz.ntmps172
  go_wp2
  all_goals (go_ret; refine ⟨ret_bool ?_, rfl⟩)
  all_goals (simp_all <;> omega)

set_option maxRecDepth 100000 in
set_option maxHeartbeats 1000000 in
theorem named_c (s : ByteArray) (w : World) (hs : s.size ≤ 9223372036854775000) : Calls Tryz.prog 170 #[.string s] w fun e w' => e = .returned (.bool (pName (sB s))) ∧ Below w.heap.size w w' := by
  obtain ⟨r, hr⟩ : ∃ r, pName (sB s) = r := ⟨_, rfl⟩
  rw [hr]
  unfold pName at hr
  have hne := neq_empty s
  go_enter Tryz.func170, Tryz.ntmps170
  go_wp2_with fail
  go_loopw [4] (fun _ w' => ∃ pos : Nat, w' = w.iter s pos ∧ pos ≤ s.size ∧ (!signIn ((sB s).drop pos) && !(sB s).isEmpty) = r) (fun _ w' => s.size - w'.iterPos w.heap.size)
  case atStart => exact ⟨0, rfl, by omega, by simpa using hr⟩
  case round =>
    obtain ⟨pos, rfl, hp1, hc⟩ := hrel
    by_cases hp : pos < s.size
    · have hnx : ∀ ty, (Instr.next (.pointer (some ⟨w.heap.size, 0, none⟩)) true ty).run Tryz.prog (w.iter s pos) = _ := fun ty => run_next_any w s pos ty hp
      have hst := range_sign (sB s) pos (by rw [sB_len]; exact hp)
      rw [sB_len] at hst
      have hdd : Lib.decodeL ((sB s).drop pos) = Utf8.decode s pos := Lib.decodeL_drop s pos
      rw [hdd] at hst
      generalize Utf8.decode s pos = q at hst hnx
      obtain ⟨qr, qn⟩ := q
      simp only at hst hnx
      obtain ⟨hs0, hs1, hn1, hn2, hq⟩ := hst
      by_cases hr0 : qr = 43 ∨ qr = 35
      · rw [hs0 hr0, Bool.not_true, Bool.false_and] at hc
        subst hc
        clear hs1 hs0 hne
        rcases hr0 with rfl | rfl
        all_goals
          go_wp2_with fail
          go_ret
          exact ⟨rfl, (Below.refl _ _).alloc (Nat.le_refl _) (.stringIter s (pos + qn))⟩
      · rw [hs1 (by omega)] at hc
        have hr0b : ((qr : Int) == 43) = false := by simp; omega
        have hr1b : ((qr : Int) == 35) = false := by simp; omega
        clear hs0 hs1 hne
        go_wp2_with fail
        go_roundw
        case rel => exact ⟨pos + qn, rfl, by omega, hc⟩
        case measure => simp; omega
    · have hnx : ∀ ty, (Instr.next (.pointer (some ⟨w.heap.size, 0, none⟩)) true ty).run Tryz.prog (w.iter s pos) = _ := fun ty => run_next_end w s pos ty hp
      have : pos = s.size := by omega
      subst this
      rw [List.drop_of_length_le (by rw [sB_len]; omega)] at hc
      have hc2 : (!(sB s).isEmpty) = r := by rw [← hc]; rfl
      go_wp2_with fail
      go_ret
      exact ⟨ret_bool (by rw [← hc2, ← hne]), (Below.refl _ _).alloc (Nat.le_refl _) (.stringIter s s.size)⟩

def leftOf2 (s : ByteArray) : Value → Nat
  | .int _ k => ((s.size : Int) - k).toNat
  | _ => 0

set_option maxRecDepth 100000 in
set_option maxHeartbeats 1000000 in
theorem refNamed_c (s : ByteArray) (w : World) (hs : s.size ≤ 9223372036854775000) : Calls Tryz.prog 137 #[.string s] w fun e w' => e = .returned (.bool (pName (sB s))) ∧ Below w.heap.size w w' := by
  obtain ⟨r, hr⟩ : ∃ r, pName (sB s) = r := ⟨_, rfl⟩
  rw [hr]
  unfold pName at hr
  have hne := neq_empty s
  go_enter Tryz.func137, Tryz.ntmps137
  go_wp2_with fail
  go_loopw [3] (fun n w' => ∃ k : Nat, n = .int .i64 k ∧ k ≤ s.size ∧ Below w.heap.size w w' ∧ (!signIn ((sB s).drop k) && !(sB s).isEmpty) = r) (fun n _ => leftOf2 s n)
  case atStart => exact ⟨0, rfl, by omega, by go_grown, by simpa using hr⟩
  case round =>
    obtain ⟨k, rfl, hk, hb, hc⟩ := hrel
    by_cases hks : k < s.size
    · have hx : ∀ W : World, (Instr.index 9 (.string s) (.int .i64 (k : Int))).run Tryz.prog W = .ok (.int .u8 (bN (sB s) k)) W := fun W => run_at s k k rfl hks W
      have hlen : 0 < ((sB s).drop k).length := by rw [List.length_drop, sB_len]; omega
      have h0 : bN ((sB s).drop k) 0 = bN (sB s) k := by rw [bN_drop, Nat.add_zero]
      have hb0 := bN_lt (sB s) k
      have hit : (bN (sB s) k = 43 ∨ bN (sB s) k = 35) → signIn ((sB s).drop k) = true := fun h => signIn_hit hlen (by rw [h0]; exact h)
      have miss : (bN (sB s) k ≠ 43 ∧ bN (sB s) k ≠ 35) → signIn ((sB s).drop k) = signIn ((sB s).drop (k + 1)) := fun h => by
        have := signIn_drop 1 ((sB s).drop k) (by omega) (fun j hj => by
          match j, hj with
          | 0, _ => rw [h0]; exact h)
        rw [List.drop_drop] at this
        exact this
      generalize bN (sB s) k = x at *
      by_cases hr0 : x = 43 ∨ x = 35
      · rw [hit hr0, Bool.not_true, Bool.false_and] at hc
        subst hc
        clear hit miss hne h0 hlen
        rcases hr0 with rfl | rfl
        all_goals
          go_wp2_with fail
          go_ret
          exact ⟨rfl, by go_grown⟩
      · rw [miss (by omega)] at hc
        have hr0b : ((x : Int) == 43) = false := by simp; omega
        have hr1b : ((x : Int) == 35) = false := by simp; omega
        clear hit miss hne h0 hlen
        go_wp2_with fail
        go_roundw
        case rel => exact ⟨k + 1, by congr 1, by omega, by go_grown, hc⟩
        case measure => simp [leftOf2]; omega
    · have : k = s.size := by omega
      subst this
      rw [List.drop_of_length_le (by rw [sB_len]; omega)] at hc
      have hc2 : (!(sB s).isEmpty) = r := by rw [← hc]; rfl
      go_wp2_with fail
      go_ret
      exact ⟨ret_bool (by rw [← hc2, ← hne]), by go_grown⟩

set_option maxRecDepth 100000 in
set_option maxHeartbeats 1000000 in
theorem PutId_c (id : Int) (w : World) : Calls Tryz.prog 145 #[.int .i64 id] w (GivesB w (pIdB id) (pIdE id)) := by
  unfold pIdB pIdE
  by_cases h : 1 ≤ id ∧ id ≤ 65535
  · rw [if_pos h, if_pos h]
    go_enter Tryz.func145, Tryz.ntmps145
    go_wp2_with fail
    refine (numbered_c id _).mono ?_
    rw [decide_eq_true h.1, decide_eq_true h.2]
    rintro e w' ⟨rfl, rfl⟩
    go_wp2_with fail
    refine (Put2_c id _).mono ?_
    have hE : uPut2E id = 0 := by unfold uPut2E; rw [if_neg (by omega)]
    rw [hE]
    rintro e w2 ⟨v, rfl, ho, hb⟩
    go_wp2_with fail
    go_ret2
    exact ⟨_, rfl, ho, hb⟩
  · rw [if_neg h, if_neg h]
    have hf : (decide (1 ≤ id) && decide (id ≤ 65535)) = false := by simpa using h
    go_enter Tryz.func145, Tryz.ntmps145
    go_wp2_with fail
    refine (numbered_c id _).mono ?_
    rw [hf]
    rintro e w' ⟨rfl, rfl⟩
    go_wp2_with fail
    go_ret2
    exact GivesB.nil (by go_grown)

set_option maxRecDepth 100000 in
set_option maxHeartbeats 1000000 in
theorem number1_c (id : Int) (w : World) : Calls Tryz.prog 196 #[.int .i64 id] w (GivesB w [] (if id ≠ 0 then 1 else 0)) := by
  by_cases h : id = 0
  · subst h
    rw [if_neg (by decide)]
    go_enter Tryz.func196, Tryz.ntmps196
    go_wp2_with fail
    go_ret2
    exact GivesB.nil (by go_grown)
  · rw [if_pos h]
    have hb : (id != 0) = true := by simpa using h
    go_enter Tryz.func196, Tryz.ntmps196
    go_wp2_with fail
    go_ret2
    exact GivesB.nil (by go_grown)

set_option maxRecDepth 100000 in
set_option maxHeartbeats 1000000 in
theorem number_c (q : Int) (w : World) : Calls Tryz.prog 171 #[.int .i64 q] w fun e w' => e = .returned (if 0 < q then .func (.func 145) #[] #[] else .func (.func 196) #[] #[]) ∧ w = w' := by
  by_cases h : 0 < q
  · rw [if_pos h]
    go_enter Tryz.func171, Tryz.ntmps171
    go_wp2_with fail
    go_ret
    exact ⟨rfl, rfl⟩
  · rw [if_neg h]
    go_enter Tryz.func171, Tryz.ntmps171
    go_wp2_with fail
    go_ret
    exact ⟨rfl, rfl⟩

end Go.Proofs.YtclicjokgfiegaaGreatDoor

/- Steps from world to world. Of no function of the program. -/
namespace Go.Proofs.YtclicjokgfiegaaGreatDoor
open Go.RowKit

/-- What was there reads as it did. -/
theorem bcell {B : Nat} {W w1 : World} (hb : Below B W w1) : ∀ b o, b < B → w1.cell? ⟨b, o, none⟩ = W.cell? ⟨b, o, none⟩ :=
  fun b o h => hb.cell (p := ⟨b, o, none⟩) h
theorem bfree {B : Nat} {W w1 : World} (hb : Below B W w1) : ∀ b o, b < B → w1.frozen? ⟨b, o, none⟩ = W.frozen? ⟨b, o, none⟩ :=
  fun b o h => hb.frozen (p := ⟨b, o, none⟩) h

/-- A step more. -/
theorem _root_.Go.RowKit.Below.up {w w0 w1 : World} (h : Below w.heap.size w w0) (hb : Below w0.heap.size w0 w1) : Below w.heap.size w w1 := h.trans (hb.mono h.size)

/-- A box, then a step more. -/
theorem _root_.Go.RowKit.Below.upA {w w0 w1 : World} {o : Obj} (h : Below w.heap.size w w0) (hb : Below (w0.alloc o).heap.size (w0.alloc o) w1) : Below w.heap.size w w1 := (h.alloc h.size o).up hb
theorem below_dn {B : Nat} {a w : World} (h : Below B a w) (n : Nat) : Below B a (w.drewN n) := ⟨h.os, h.tape, h.output, h.size, h.block⟩
end Go.Proofs.YtclicjokgfiegaaGreatDoor

/- Messages: what lays one: the walks. -/
namespace Go.Proofs.YtclicjokgfiegaaGreatDoor
open Go.RowKit
set_option linter.unusedVariables false

theorem uPutB_len {l : List UInt8} : (uPutB l).length ≤ 65537 := by
  unfold uPutB
  split
  · rename_i h
    have := uRight_len h
    rw [uPutRawB_len this]
    omega
  · simp
theorem pNumB_len (q id : Int) : (pNumB q id).length ≤ 2 := by
  unfold pNumB pIdB uPut2B
  repeat' split
  all_goals simp

theorem _root_.Go.RowKit.Below.box {w w0 : World} {o : Obj} (h : Below w.heap.size w w0) : Below w.heap.size w (w0.alloc o) := h.alloc h.size o

theorem pPut_nil {T X : List UInt8} {q id : Int} {w w' : World} (e : Int) (he : pPutE T X q id = e) (h0 : e ≠ 0) (hb : Below w.heap.size w w') :
    GivesB w (pPutB T X q id) (pPutE T X q id) (.returned (.tuple #[.slice none 0 0, .int .i64 e])) w' := by
  unfold pPutB
  rw [he, if_neg h0]
  exact GivesB.nil hb

theorem lay1_c {q : Int} (h : 0 < q) (id : Int) (W : World) : Calls Tryz.prog 145 #[.int .i64 id] W (GivesB W (pNumB q id) (pNumE q id)) := by
  unfold pNumB pNumE
  rw [if_pos h, if_pos h]
  exact PutId_c id W
theorem lay0_c {q : Int} (h : ¬ 0 < q) (id : Int) (W : World) : Calls Tryz.prog 196 #[.int .i64 id] W (GivesB W (pNumB q id) (pNumE q id)) := by
  unfold pNumB pNumE
  rw [if_neg h, if_neg h]
  exact number1_c id W

set_option maxRecDepth 100000 in
set_option maxHeartbeats 1000000 in
theorem pubPut_c (T X : ByteArray) (q : Int) (R : Bool) (id : Int) (w : World) (hE : EnvU w) (hT : T.size ≤ 140737488351232) (hX : X.size ≤ 140737488351232) :
    Calls Tryz.prog 144 #[.agg #[.string T, .string X, .int .i64 q, .bool R], .int .i64 id] w (GivesB w (pPutB (sB T) (sB X) q id) (pPutE (sB T) (sB X) q id)) := by
  have HE := hd hE; clear hE
  go_enter Tryz.func144, Tryz.ntmps144
  go_wp2_with fail
  refine (leveled_c q _).mono ?_
  by_cases hq : q < 0 ∨ 2 < q
  · rw [show (decide (0 ≤ q) && decide (q ≤ 2)) = false from by simp; omega]
    rintro e w' ⟨rfl, rfl⟩
    go_wp2_with fail
    go_ret2
    exact pPut_nil 10 (by rw [pPutE, if_pos hq]) (by decide) (by go_grown)
  rw [show (decide (0 ≤ q) && decide (q ≤ 2)) = true from by simp; omega]
  rintro e w' ⟨rfl, rfl⟩
  go_wp2_with fail
  refine (named_c T _ (by omega)).mono ?_
  by_cases hn : pName (sB T) = false
  · rw [hn]
    rintro e w1 ⟨rfl, hb1⟩
    go_wp2_with fail
    go_ret2
    exact pPut_nil 13 (by rw [pPutE, if_neg hq, if_pos hn]) (by decide) (Below.up (by go_grown) hb1)
  rw [show pName (sB T) = true from by simpa using hn]
  rintro e w1 ⟨rfl, hb1⟩
  have hc1 := bcell hb1
  have hl1 : w.heap.size < w1.heap.size := by have := hb1.size; simp at this; omega
  have hb : Below w.heap.size w w1 := Below.up (by go_grown) hb1
  go_wp2_with fail
  refine (Put_c T _ (HE.out.below hb) (by omega)).mono ?_
  rintro e w2 ⟨v2, rfl, ho2, hb2⟩
  have hc2 := bcell hb2
  have hz2 := hb2.size
  have hl2 : w.heap.size < w2.heap.size := by omega
  replace hb := Below.up hb hb2
  obtain ⟨a2, k2, rfl⟩ := Owns.slice ho2
  by_cases he : uPutE (sB T) = 0
  rotate_left
  · have heb : (uPutE (sB T) != 0) = true := by simpa using he
    go_wp2_with fail
    go_ret2
    exact pPut_nil _ (by rw [pPutE, if_neg hq, if_neg hn, if_pos he]) he hb
  rw [he]
  go_wp2_with fail
  refine (number_c q _).mono ?_
  have hB2 := @uPutB_len (sB T)
  have hB3 := pNumB_len q id
  by_cases h : 0 < q
  all_goals first
    | (rw [if_pos h]; rintro e w' ⟨rfl, rfl⟩; go_wp2_with fail; refine (lay1_c (q := q) (by omega) id _).mono ?_)
    | (rw [if_neg h]; rintro e w' ⟨rfl, rfl⟩; go_wp2_with fail; refine (lay0_c (q := q) (by omega) id _).mono ?_)
  all_goals
    rintro e w3 ⟨v3, rfl, ho3, hb3⟩
    have hc3 := bcell hb3
    have hz3 := hb3.size
    have hl3 : w.heap.size < w3.heap.size := by omega
    obtain ⟨a3, k3, rfl⟩ := Owns.slice ho3
    by_cases hnE : pNumE q id = 0
    rotate_left
    · have heb : (pNumE q id != 0) = true := by simpa using hnE
      go_wp2_with fail
      go_ret2
      exact pPut_nil _ (by rw [pPutE, if_neg hq, if_neg hn, if_neg (by omega), if_pos hnE]) hnE (Below.up hb hb3)
    rw [hnE]
    have ho2' := Owned.kept ho2 hb3 (Nat.le_refl _)
    have hs3 := ho3.bs
    replace hb := Below.up hb hb3
    clear h ho3 hb3
    by_cases hlen : (4096 : Int) - ((uPutB (sB T)).length + (pNumB q id).length) < X.size
    · have hspec : pPutE (sB T) (sB X) q id = 3 := by rw [pPutE, if_neg hq, if_neg hn, if_neg (by omega), if_neg (by omega), sB_len, if_pos hlen]
      have Hs := hd hspec; clear hspec
      generalize uPutB (sB T) = B2 at *
      generalize pNumB q id = B3 at *
      go_wp2_with (at_builtin; refine wp_appB rfl _ _ rfl w1.heap.size _ B2 rfl ho2' _ B3 rfl hs3 (by omega) (by omega) ?_; intro v4 w4 ho4 hb4; obtain ⟨a4, k4, rfl⟩ := Owns.slice ho4; rw [List.length_append] at ho4; have hc4 := bcell hb4; have hz4 := hb4.size; have hl4 : w.heap.size < w4.heap.size := (by omega))
      go_ret2
      exact pPut_nil 3 Hs.out (by decide) (hb.trans (hb4.mono (by omega)))
    have hspec : pPutE (sB T) (sB X) q id = 0 := by rw [pPutE, if_neg hq, if_neg hn, if_neg (by omega), if_neg (by omega), sB_len, if_neg hlen]
    have hspecB : pPutB (sB T) (sB X) q id = uPutB (sB T) ++ pNumB q id ++ sB X := by rw [pPutB, if_pos hspec]
    have Hs := hd hspec; have HsB := hd hspecB; clear hspec hspecB
    generalize uPutB (sB T) = B2 at *
    generalize pNumB q id = B3 at *
    go_wp2_with (first
      | (at_builtin; refine wp_appB rfl _ _ rfl w1.heap.size _ B2 rfl ho2' _ B3 rfl hs3 (by omega) (by omega) ?_; intro v4 w4 ho4 hb4; obtain ⟨a4, k4, rfl⟩ := Owns.slice ho4; rw [List.length_append] at ho4; have hc4 := bcell hb4; have hz4 := hb4.size; have hl4 : w.heap.size < w4.heap.size := (by omega); clear ho2')
      | (at_builtin; refine wp_appS rfl _ _ rfl w1.heap.size _ (B2 ++ B3) rfl ho4 X rfl (by rw [List.length_append]; omega) (by omega) ?_; intro v5 w5 ho5 hb5))
    go_ret2
    rw [Hs.out, HsB.out]
    exact ⟨_, rfl, Owned.le ho5 (Nat.le_of_lt hl1), hb.trans ((hb4.trans hb5).mono (Nat.le_of_lt hl1))⟩
end Go.Proofs.YtclicjokgfiegaaGreatDoor

/- Messages: plain laws: what bytes tell, there and back. No program. -/
namespace Go.Proofs.YtclicjokgfiegaaGreatDoor
open Go.RowKit
set_option linter.unusedVariables false

/-- what bytes tell: topic, text, number, error -/
def pOf (l : List UInt8) (q : Int) : List UInt8 × List UInt8 × Int × Int :=
  if q < 0 ∨ 2 < q then ([], [], 0, 10)
  else if (uGet l 0).2.2 ≠ 0 then ([], [], 0, (uGet l 0).2.2)
  else if pName (uGet l 0).1 = false then ([], [], 0, 13)
  else if q = 0 then ((uGet l 0).1, l.drop (uGet l 0).2.1.toNat, 0, 0)
  else if (uGet2 l (uGet l 0).2.1).2.2 ≠ 0 then ([], [], 0, (uGet2 l (uGet l 0).2.1).2.2)
  else if (uGet2 l (uGet l 0).2.1).1 = 0 then ([], [], 0, 1)
  else ((uGet l 0).1, l.drop (uGet2 l (uGet l 0).2.1).2.1.toNat, (uGet2 l (uGet l 0).2.1).1, 0)
/-- the QoS that is told -/
def pOfQ (l : List UInt8) (q : Int) : Int := if (pOf l q).2.2.2 = 0 then q else 0

/-- a number of bytes -/
def pOfId (l : List UInt8) : Int × Int :=
  if l.length ≠ 2 then (0, 4) else if (uGet2 l 0).1 = 0 then (0, 1) else ((uGet2 l 0).1, 0)

theorem uGet2_two {l : List UInt8} (h : l.length = 2) : (uGet2 l 0).2.2 = 0 ∧ 0 ≤ (uGet2 l 0).1 ∧ (uGet2 l 0).1 ≤ 65535 := by
  have h0 : (uGet2 l 0).2.2 = 0 := by unfold uGet2; rw [if_neg (by omega), if_neg (by omega)]
  exact ⟨h0, (uGet2_ok h0).2.2.2.1, (uGet2_ok h0).2.2.2.2⟩

theorem uGet_rng {l : List UInt8} {k : Int} (h : (uGet l k).2.2 = 0) : k + 2 ≤ (uGet l k).2.1 ∧ (uGet l k).2.1 ≤ l.length ∧ 0 ≤ k := by
  unfold uGet at h ⊢
  by_cases h1 : (uGetRaw l k).2.2 = 0
  · rw [if_neg (by omega)] at h ⊢
    by_cases h2 : uRight (uGetRaw l k).1 = false
    · rw [if_pos h2] at h; simp at h
    · rw [if_neg h2]
      unfold uGetRaw at h1 ⊢
      by_cases h3 : (uGet2 l k).2.2 = 0
      · rw [if_neg (by omega)] at h1 ⊢
        have := uGet2_ok h3
        by_cases h4 : (l.length : Int) - (uGet2 l k).2.1 < (uGet2 l k).1
        · rw [if_pos h4] at h1; simp at h1
        · rw [if_neg h4]; simp only; omega
      · rw [if_pos (by omega)] at h1; simp only at h1; omega
  · rw [if_pos (by omega)] at h; simp only at h; omega

theorem uPutE_zero {T : List UInt8} (h : uPutE T = 0) : uRight T = true := by
  unfold uPutE at h
  split at h
  · simp at h
  · split at h
    · assumption
    · simp at h

theorem pPut_back {T X : List UInt8} {q id : Int} (h : pPutE T X q id = 0) : pOf (pPutB T X q id) q = (T, X, id, 0) := by
  have hB : pPutB T X q id = uPutB T ++ pNumB q id ++ X := by rw [pPutB, if_pos h]
  rw [hB]
  unfold pPutE at h
  by_cases c1 : q < 0 ∨ 2 < q
  · rw [if_pos c1] at h; simp at h
  rw [if_neg c1] at h
  by_cases c2 : pName T = false
  · rw [if_pos c2] at h; simp at h
  rw [if_neg c2] at h
  by_cases c3 : uPutE T = 0
  rotate_left
  · rw [if_pos c3] at h; exact absurd h c3
  rw [if_neg (by omega)] at h
  by_cases c4 : pNumE q id = 0
  rotate_left
  · rw [if_pos c4] at h; exact absurd h c4
  have hr := uPutE_zero c3
  have hl := uRight_len hr
  have hg : uGet (uPutB T ++ pNumB q id ++ X) 0 = (T, (2 : Int) + T.length, (0 : Int)) := by
    have := uGet_at [] T (pNumB q id ++ X) hl
    rw [if_pos hr] at this
    rw [uPutB, if_pos hr, List.append_assoc]
    simpa using this
  have hlen : (uPutB T).length = T.length + 2 := by rw [uPutB, if_pos hr, uPutRawB_len hl]
  unfold pOf
  rw [if_neg c1, hg, if_neg (by simp), if_neg c2]
  simp only
  by_cases c5 : q = 0
  · rw [if_pos c5]
    unfold pNumE at c4
    rw [if_neg (by omega)] at c4
    have hid : id = 0 := by
      by_cases c : id = 0
      · exact c
      · rw [if_pos c] at c4; simp at c4
    have hn : pNumB q id = [] := by rw [pNumB, if_neg (by omega)]
    rw [hn, List.append_nil, hid]
    have e : ((2 : Int) + T.length).toNat = (uPutB T).length := by rw [hlen]; omega
    rw [e, List.drop_left]
  · rw [if_neg c5]
    unfold pNumE at c4
    rw [if_pos (by omega)] at c4
    unfold pIdE at c4
    have hid : 1 ≤ id ∧ id ≤ 65535 := by
      by_cases c : 1 ≤ id ∧ id ≤ 65535
      · exact c
      · rw [if_neg c] at c4; simp at c4
    have hn : pNumB q id = [B8 (id.toNat / 256), B8 (id.toNat % 256)] := by
      have e0 : ((id.toNat : Nat) : Int) = id := by omega
      have := uPut2B_ok (n := id.toNat) (by omega)
      rw [e0] at this
      rw [pNumB, if_pos (by omega), pIdB, if_pos hid, this]
    have hg2 : uGet2 (uPutB T ++ pNumB q id ++ X) (2 + T.length) = (id, (2 : Int) + T.length + 2, (0 : Int)) := by
      have := uGet2_at (uPutB T) X id.toNat (by omega)
      rw [hn, List.append_assoc]
      have e : ((2 : Int) + T.length) = ((uPutB T).length : Int) := by rw [hlen]; omega
      rw [e]
      rw [List.cons_append, List.cons_append, List.nil_append, this]
      congr 1
      omega
    rw [hg2, if_neg (by simp), if_neg (by simp only; omega)]
    have e : ((2 : Int) + T.length + 2).toNat = (uPutB T ++ pNumB q id).length := by rw [List.length_append, hlen, hn]; simp; omega
    simp only
    rw [e, List.drop_left]

theorem pId_back {id : Int} (h : pIdE id = 0) : pOfId (pIdB id) = (id, 0) := by
  unfold pIdE at h
  have hid : 1 ≤ id ∧ id ≤ 65535 := by
    by_cases c : 1 ≤ id ∧ id ≤ 65535
    · exact c
    · rw [if_neg c] at h; simp at h
  have e0 : ((id.toNat : Nat) : Int) = id := by omega
  have hn : pIdB id = [B8 (id.toNat / 256), B8 (id.toNat % 256)] := by
    have := uPut2B_ok (n := id.toNat) (by omega)
    rw [e0] at this
    rw [pIdB, if_pos hid, this]
  have hg := uGet2_at [] [] id.toNat (by omega)
  rw [List.nil_append] at hg
  unfold pOfId
  rw [hn, if_neg (by simp), show uGet2 [B8 (id.toNat / 256), B8 (id.toNat % 256)] 0 = _ from hg]
  rw [if_neg (by simp only; omega)]
  simp only [e0]
theorem pId_not {id : Int} (h : pIdE id ≠ 0) : pIdE id = 1 ∧ pOfId (pIdB id) = (0, 4) := by
  unfold pIdE at h ⊢
  by_cases c : 1 ≤ id ∧ id ≤ 65535
  · rw [if_pos c] at h; simp at h
  · rw [if_neg c, pIdB, if_neg c]
    exact ⟨rfl, by rw [pOfId, if_pos (by simp)]⟩
end Go.Proofs.YtclicjokgfiegaaGreatDoor
