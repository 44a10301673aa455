/- A bundle of texts (merged for the limit on files): Utf2, Utf3, Utf4, Utf5, UtfBackPlain, PubPlain, Pub, Steps, PubPut, FrErr, FrAs. -/
import Derived.Test.YtjlnlgemngpelaaGreatDoorZa2
import Derived.Test.YtjlnlgemngpelaaGreatDoorZa1
import Derived.Lib.MapLaws
import Derived.Lib.QuoteBits
import Derived.Lib.ConvBytes
import Derived.LaidEql
import Derived.Stop.Asserts
import Derived.RowKitTokens
/- Texts: which bytes are a text: the walks of both Rights. -/
namespace Go.Proofs.YtjlnlgemngpelaaGreatDoor
open Go.RowKit
set_option linter.unusedVariables false

/-- The tables of utf8 lie. -/
def EnvU (w : World) : Prop := Lib.Utf8Tabs 2 3 w
theorem EnvU.below {w w' : World} (h : EnvU w) (hb : Below w.heap.size w w') : EnvU w' := Utf8Tabs_below h hb

theorem valid_c (s : ByteArray) (w : World) (hs : s.size ≤ 9223372036854775807) (hE : EnvU w) :
    Calls Tryz.prog 152 #[.string s] w fun e w' => e = .returned (.bool (Lib.validD (sB s))) ∧ Below w.heap.size w w' :=
  Any.utf8_ValidString Tryz.laysValid s w hs hE

/-- One step of a range over a string's runes. -/
theorem range_left (l : List UInt8) (i : Nat) (hi : i < l.length) :
    ((Lib.decodeL (l.drop i)).1 = 0 → zeroIn (l.drop i) = true) ∧
    ((Lib.decodeL (l.drop i)).1 ≠ 0 → zeroIn (l.drop i) = zeroIn (l.drop (i + (Lib.decodeL (l.drop i)).2))) ∧
    1 ≤ (Lib.decodeL (l.drop i)).2 ∧ i + (Lib.decodeL (l.drop i)).2 ≤ l.length ∧ (Lib.decodeL (l.drop i)).1 ≤ 1114111 := by
  rw [Lib.decodeL_N]
  have e0 : ((l.drop i).getD 0 0).toNat = bN l i := by have := bN_drop l i 0; rw [Nat.add_zero] at this; exact this
  have e1 : ((l.drop i).getD 1 0).toNat = bN l (i + 1) := bN_drop l i 1
  have e2 : ((l.drop i).getD 2 0).toNat = bN l (i + 2) := bN_drop l i 2
  have e3 : ((l.drop i).getD 3 0).toNat = bN l (i + 3) := bN_drop l i 3
  rw [e0, e1, e2, e3, List.length_drop]
  have z0 : bN l i = 0 → zeroIn (l.drop i) = true := fun h => zeroIn_hit (by rw [List.length_drop]; omega) (by rw [bN_drop, Nat.add_zero]; exact h)
  have zn : ∀ n, i + n ≤ l.length → (∀ j, j < n → bN l (i + j) ≠ 0) → zeroIn (l.drop i) = zeroIn (l.drop (i + n)) := fun n hn hb => by
    have := zeroIn_drop n (l.drop i) (by rw [List.length_drop]; omega) (fun j hj => by rw [bN_drop]; exact hb j hj)
    rw [List.drop_drop] at this
    exact this
  have b0 := bN_lt l i
  have hz1 : bN l i ≠ 0 → zeroIn (l.drop i) = zeroIn (l.drop (i + 1)) := fun h => zn 1 (by omega) (fun j hj => by
    match j, hj with
    | 0, _ => exact h)
  have hz2 : i + 2 ≤ l.length → bN l i ≠ 0 → bN l (i + 1) ≠ 0 → zeroIn (l.drop i) = zeroIn (l.drop (i + 2)) := fun h h0 h1 => zn 2 h (fun j hj => by
    match j, hj with
    | 0, _ => exact h0
    | 1, _ => exact h1)
  have hz3 : i + 3 ≤ l.length → bN l i ≠ 0 → bN l (i + 1) ≠ 0 → bN l (i + 2) ≠ 0 → zeroIn (l.drop i) = zeroIn (l.drop (i + 3)) := fun h h0 h1 h2 => zn 3 h (fun j hj => by
    match j, hj with
    | 0, _ => exact h0
    | 1, _ => exact h1
    | 2, _ => exact h2)
  have hz4 : i + 4 ≤ l.length → bN l i ≠ 0 → bN l (i + 1) ≠ 0 → bN l (i + 2) ≠ 0 → bN l (i + 3) ≠ 0 → zeroIn (l.drop i) = zeroIn (l.drop (i + 4)) := fun h h0 h1 h2 h3 => zn 4 h (fun j hj => by
    match j, hj with
    | 0, _ => exact h0
    | 1, _ => exact h1
    | 2, _ => exact h2
    | 3, _ => exact h3)
  clear zn e0 e1 e2 e3
  have hz : ∀ r n, Lib.decodeN (l.length - i) (bN l i) (bN l (i + 1)) (bN l (i + 2)) (bN l (i + 3)) = (r, n) → r ≠ 0 → bN l i ≠ 0 := fun r n h hr h0 => by
    rw [h0] at h
    unfold Lib.decodeN at h
    rw [if_pos (by omega)] at h
    exact hr (Prod.mk.inj h).1.symm
  rcases Lib.decodeN_shape (l.length - i) (bN l i) (bN l (i + 1)) (bN l (i + 2)) (bN l (i + 3)) with ⟨c, e⟩ | ⟨c1, c2, c3, cv, e⟩ | ⟨c1, c2, c3, c4, cv, cs, e⟩ | ⟨c1, c2, c3, c4, c5, cv, cw, e⟩ | e
  · rw [e]
    exact ⟨fun h => z0 h, fun h => hz1 h, by omega, by simp only; omega, by simp only; omega⟩
  · rw [e]
    exact ⟨fun h => by simp only at h; omega, fun h => hz2 (by omega) (by omega) (by omega), by omega, by simp only; omega, by simp only; omega⟩
  · rw [e]
    exact ⟨fun h => by simp only at h; omega, fun h => hz3 (by omega) (by omega) (by omega) (by omega), by omega, by simp only; omega, by simp only; omega⟩
  · rw [e]
    exact ⟨fun h => by simp only at h; omega, fun h => hz4 (by omega) (by omega) (by omega) (by omega) (by omega), by omega, by simp only; omega, by simp only; omega⟩
  · have := hz _ _ e (by decide)
    rw [e]
    exact ⟨fun h => by simp at h, fun h => hz1 this, by omega, by simp only; omega, by simp only; omega⟩

def leftOf (s : ByteArray) : Value → Nat
  | .int _ k => ((s.size : Int) - k).toNat
  | _ => 0

set_option maxRecDepth 100000 in
set_option maxHeartbeats 4000000 in
theorem refRight_c (s : ByteArray) (w : World) (hs : s.size ≤ 9223372036854775000) :
    Calls Tryz.prog 103 #[.string s] w fun e w' => e = .returned (.bool (uRight (sB s))) ∧ Below w.heap.size w w' := by
  obtain ⟨r, hr⟩ : ∃ r, uRight (sB s) = r := ⟨_, rfl⟩
  rw [hr]
  unfold uRight at hr
  rw [sB_len] at hr
  by_cases hlen : s.size ≤ 65535
  · rw [decide_eq_true hlen, Bool.true_and] at hr
    go_enter Tryz.func103, Tryz.ntmps103
    go_wp2_with fail
    go_loopw [3] (fun n w' => ∃ k : Nat, n = .int .i64 k ∧ k ≤ s.size ∧ Below w.heap.size w w' ∧ (Lib.validD ((sB s).drop k) && !zeroIn ((sB s).drop k)) = r) (fun n _ => leftOf s n)
    case atStart => exact ⟨0, rfl, by omega, by go_grown, by simpa using hr⟩
    case round =>
      obtain ⟨k, rfl, hk, hb, hc⟩ := hrel
      by_cases hks : k < s.size
      · go_wp2_with fail
        refine (step_c s k k rfl hks hs _).mono ?_
        rintro e w' ⟨rfl, hb2⟩
        have hst := step_left (sB s) k (by rw [sB_len]; exact hks)
        rw [sB_len] at hst
        generalize stepL (sB s) k = q at hst ⊢
        obtain ⟨qn, qr⟩ := q
        simp only at hst ⊢
        obtain ⟨hs0, hs1⟩ := hst
        have hbw := hb.trans (hb2.mono hb.size)
        by_cases hq : qn = 0
        · have hv := hs0 hq
          rw [hv, Bool.false_and] at hc
          subst hc hq
          clear hs1
          go_wp2_with fail
          go_ret
          exact ⟨rfl, by go_grown⟩
        · obtain ⟨n, rfl, hn1, hn2, hv, hz0, hz1⟩ := hs1 hq
          rw [hv] at hc
          by_cases hr0 : qr = 0
          · rw [hz0 hr0, Bool.not_true, Bool.and_false] at hc
            subst hc hr0
            clear hs0 hz1
            go_wp2_with fail
            go_ret
            exact ⟨rfl, by go_grown⟩
          · rw [hz1 hr0] at hc
            have hr0b : (qr == 0) = false := by simpa using hr0
            clear hs0 hz0 hz1
            go_wp2_with fail
            go_roundw
            case rel => exact ⟨k + n, by congr 1, by omega, by go_grown, hc⟩
            case measure => simp [leftOf]; omega
      · go_wp2_with fail
        go_ret
        have : k = s.size := by omega
        subst this
        rw [List.drop_of_length_le (by rw [sB_len]; omega)] at hc
        exact ⟨by rw [← hc]; rfl, by go_grown⟩
  · rw [decide_eq_false hlen, Bool.false_and] at hr
    subst hr
    go_enter Tryz.func103, Tryz.ntmps103
    go_wp2_with fail
    go_ret
    exact ⟨rfl, by go_grown⟩

set_option maxRecDepth 100000 in
set_option maxHeartbeats 4000000 in
theorem Right_c (s : ByteArray) (w : World) (hE : EnvU w) (hs : s.size ≤ 9223372036854775000) :
    Calls Tryz.prog 131 #[.string s] w fun e w' => e = .returned (.bool (uRight (sB s))) ∧ Below w.heap.size w w' := by
  obtain ⟨r, hr⟩ : ∃ r, uRight (sB s) = r := ⟨_, rfl⟩
  rw [hr]
  unfold uRight at hr
  rw [sB_len] at hr
  by_cases hlen : s.size ≤ 65535
  · rw [decide_eq_true hlen, Bool.true_and] at hr
    have HE := hd hE; clear hE
    go_enter Tryz.func131, Tryz.ntmps131
    go_wp2_with fail
    refine (valid_c s _ (by omega) (HE.out.below (by go_grown))).mono ?_
    rintro e w1 ⟨rfl, hb1⟩
    have hb1' : Below w.heap.size w w1 := by go_grown
    cases hv : Lib.validD (sB s) with
    | false =>
      rw [hv, Bool.false_and] at hr
      subst hr
      go_wp2_with fail
      go_ret
      exact ⟨rfl, by go_grown⟩
    | true =>
      rw [hv, Bool.true_and] at hr
      go_wp2_with fail
      go_loopw [4] (fun _ w' => ∃ pos : Nat, w' = w1.iter s pos ∧ pos ≤ s.size ∧ (!zeroIn ((sB s).drop pos)) = r) (fun _ w' => s.size - w'.iterPos w1.heap.size)
      case atStart => exact ⟨0, rfl, by omega, by simpa using hr⟩
      case round =>
        obtain ⟨pos, rfl, hp1, hc⟩ := hrel
        by_cases hp : pos < s.size
        · have hnx : ∀ ty, (Instr.next (.pointer (some ⟨w1.heap.size, 0, none⟩)) true ty).run Tryz.prog (w1.iter s pos) = _ := fun ty => run_next_any w1 s pos ty hp
          have hst := range_left (sB s) pos (by rw [sB_len]; exact hp)
          rw [sB_len] at hst
          have hdd : Lib.decodeL ((sB s).drop pos) = Utf8.decode s pos := Lib.decodeL_drop s pos
          rw [hdd] at hst
          generalize Utf8.decode s pos = q at hst hnx
          obtain ⟨qr, qn⟩ := q
          simp only at hst hnx
          obtain ⟨hs0, hs1, hn1, hn2, hq⟩ := hst
          by_cases hr0 : qr = 0
          · rw [hs0 hr0] at hc
            subst hc hr0
            clear hs1
            go_wp2_with fail
            go_ret
            exact ⟨rfl, hb1'.alloc hb1'.size (.stringIter s (pos + qn))⟩
          · rw [hs1 hr0] at hc
            have hr0b : ((qr : Int) == 0) = false := by simpa using hr0
            clear hs0 hs1
            go_wp2_with fail
            go_roundw
            case rel => exact ⟨pos + qn, rfl, by omega, hc⟩
            case measure => simp; omega
        · have hnx : ∀ ty, (Instr.next (.pointer (some ⟨w1.heap.size, 0, none⟩)) true ty).run Tryz.prog (w1.iter s pos) = _ := fun ty => run_next_end w1 s pos ty hp
          go_wp2_with fail
          go_ret
          have : pos = s.size := by omega
          subst this
          rw [List.drop_of_length_le (by rw [sB_len]; omega)] at hc
          exact ⟨by rw [← hc]; rfl, hb1'.alloc hb1'.size (.stringIter s s.size)⟩
  · rw [decide_eq_false hlen, Bool.false_and] at hr
    subst hr
    go_enter Tryz.func131, Tryz.ntmps131
    go_wp2_with fail
    go_ret
    exact ⟨rfl, by go_grown⟩

end Go.Proofs.YtjlnlgemngpelaaGreatDoor

/- Texts: numbers in two bytes, raw bytes and texts, laid and got: the walks. -/
namespace Go.Proofs.YtjlnlgemngpelaaGreatDoor
open Go.RowKit
set_option linter.unusedVariables false

def uPut2B (n : Int) : List UInt8 := if n < 0 ∨ 65535 < n then [] else [B8 (n.toNat / 256), B8 (n.toNat % 256)]
def uPut2E (n : Int) : Int := if n < 0 ∨ 65535 < n then 1 else 0
/-- number, the place behind, the error -/
def uGet2 (l : List UInt8) (at' : Int) : Int × Int × Int :=
  if at' < 0 ∨ (l.length : Int) < at' then (0, 0, 1)
  else if (l.length : Int) - at' < 2 then (0, 0, 2)
  else (256 * (bN l at'.toNat : Int) + bN l (at'.toNat + 1), at' + 2, 0)

/-- raw bytes, laid -/
def uPutRawB (l : List UInt8) : List UInt8 := if 65535 < l.length then [] else uPut2B l.length ++ l
def uPutRawE (l : List UInt8) : Int := if 65535 < l.length then 3 else 0
/-- raw bytes, got: the text, the place behind, the error -/
def uGetRaw (l : List UInt8) (at' : Int) : List UInt8 × Int × Int :=
  if (uGet2 l at').2.2 ≠ 0 then ([], 0, (uGet2 l at').2.2)
  else if (l.length : Int) - (uGet2 l at').2.1 < (uGet2 l at').1 then ([], 0, 2)
  else ((l.drop (uGet2 l at').2.1.toNat).take (uGet2 l at').1.toNat, (uGet2 l at').2.1 + (uGet2 l at').1, 0)
def uPutB (l : List UInt8) : List UInt8 := if uRight l = true then uPutRawB l else []
def uPutE (l : List UInt8) : Int := if 65535 < l.length then 3 else if uRight l = true then 0 else 9
def uGet (l : List UInt8) (at' : Int) : List UInt8 × Int × Int :=
  if (uGetRaw l at').2.2 ≠ 0 then ([], 0, (uGetRaw l at').2.2)
  else if uRight (uGetRaw l at').1 = false then ([], 0, 9)
  else uGetRaw l at'
theorem uGet2_ok {l : List UInt8} {at' : Int} (h : (uGet2 l at').2.2 = 0) : 0 ≤ at' ∧ at' + 2 ≤ l.length ∧ (uGet2 l at').2.1 = at' + 2 ∧ 0 ≤ (uGet2 l at').1 ∧ (uGet2 l at').1 ≤ 65535 := by
  unfold uGet2 at h ⊢
  have := bN_lt l at'.toNat
  have := bN_lt l (at'.toNat + 1)
  repeat' split
  all_goals (simp_all <;> omega)

/-- The bytes of a list as a string. -/
def sOf (l : List UInt8) : ByteArray := ⟨l.toArray⟩
theorem sB_sOf (l : List UInt8) : sB (sOf l) = l := rfl
theorem sOf_size (l : List UInt8) : (sOf l).size = l.length := by rw [← sB_len, sB_sOf]

theorem or_join (x y : Nat) (hx : x < 256) (hy : y < 256) : bits .or .i64 ((x : Int) * 256) (y : Int) = 256 * (x : Int) + y := by
  have h := bits_join .i64 16 (by decide) (fun n h0 h1 => by
    obtain ⟨m, rfl⟩ := Int.eq_ofNat_of_zero_le h0
    have hm : m < 65536 := by have : (m : Int) < 65536 := h1; omega
    exact Lib.wrap_i64_small m (by omega)) 8 ((x : Int) * 256) (y : Int) (by omega) (by simp) (by simp; omega) (by omega) (by simp; omega) (by simp; omega)
  rw [h]
  omega

set_option maxRecDepth 100000 in
set_option maxHeartbeats 1000000 in
theorem Put2_c (n : Int) (w : World) : Calls Tryz.prog 115 #[.int .i64 n] w (GivesB w (uPut2B n) (uPut2E n)) := by
  obtain ⟨rE, hrE⟩ : ∃ r, uPut2E n = r := ⟨_, rfl⟩
  obtain ⟨rB, hrB⟩ : ∃ r, uPut2B n = r := ⟨_, rfl⟩
  rw [hrE, hrB]
  unfold uPut2E at hrE
  unfold uPut2B at hrB
  by_cases hn : n < 0 ∨ 65535 < n
  · rw [if_pos hn] at hrE hrB
    subst hrE hrB
    rcases hn with hn | hn
    all_goals
      go_enter Tryz.func115, Tryz.ntmps115
      go_wp2_with fail
      go_ret2
      exact GivesB.nil (by go_grown)
  · rw [if_neg hn] at hrE hrB
    subst hrE
    obtain ⟨n, rfl⟩ := Int.eq_ofNat_of_zero_le (show 0 ≤ n by omega)
    simp only [Int.toNat_natCast] at hrB
    have HB := hd hrB; clear hrB
    go_enter Tryz.func115, Tryz.ntmps115
    go_wp2_with fail
    go_ret2
    rw [← HB.out]
    exact ⟨_, rfl, owned_lit w.heap.size w [B8 (n / 256), B8 (n % 256)] w.heap.size rfl (Nat.le_refl _) (by unfold maxLen; simp) [Value.int .u8 ((n : Int) / 256), Value.int .u8 ((n : Int) % 256)]
      (by simp only [List.map]; rw [byteV_B8 (x := (n : Int) / 256) (by omega) (by omega), byteV_B8 (x := (n : Int) % 256) (by omega) (by omega)]) 2 rfl, by go_grown⟩

set_option maxRecDepth 100000 in
set_option maxHeartbeats 1000000 in
theorem Get2_c (v : Value) (l : List UInt8) (at' : Int) (w : World) (hv : Bs w v l) :
    Calls Tryz.prog 149 #[v, .int .i64 at'] w fun e w' => e = .returned (.tuple #[.int .i64 (uGet2 l at').1, .int .i64 (uGet2 l at').2.1, .int .i64 (uGet2 l at').2.2]) ∧ Below w.heap.size w w' := by
  obtain ⟨r, hr⟩ : ∃ r, uGet2 l at' = r := ⟨_, rfl⟩
  rw [hr]
  unfold uGet2 at hr
  by_cases h1 : at' < 0 ∨ (l.length : Int) < at'
  · rw [if_pos h1] at hr
    subst hr
    rcases hv.split with ⟨rfl, a, c, rfl, hc⟩ | ⟨hpos, b, o, c, rfl, hc1, hc2, hlt, hcell⟩
    all_goals
      rcases h1 with h1 | h1
      all_goals
        go_enter Tryz.func149, Tryz.ntmps149
        go_wp2_with fail
        go_ret3
        exact ⟨rfl, by go_grown⟩
  · rw [if_neg h1] at hr
    obtain ⟨k, rfl⟩ := Int.eq_ofNat_of_zero_le (show 0 ≤ at' by omega)
    by_cases h2 : (l.length : Int) - k < 2
    · rw [if_pos h2] at hr
      subst hr
      rcases hv.split with ⟨rfl, a, c, rfl, hc⟩ | ⟨hpos, b, o, c, rfl, hc1, hc2, hlt, hcell⟩
      · obtain rfl : k = 0 := by simp at h1; omega
        go_enter Tryz.func149, Tryz.ntmps149
        go_wp2_with fail
        go_ret3
        exact ⟨rfl, by go_grown⟩
      · unfold maxLen at *
        go_enter Tryz.func149, Tryz.ntmps149
        go_wp2_with fail
        go_ret3
        exact ⟨rfl, by go_grown⟩
    · rw [if_neg h2] at hr
      subst hr
      rw [Int.toNat_natCast]
      rcases hv.split with ⟨rfl, a, c, rfl, hc⟩ | ⟨hpos, b, o, c, rfl, hc1, hc2, hlt, hcell⟩
      · simp at h2; omega
      have hc0 := hcell k (by omega)
      have hc1' := hcell (k + 1) (by omega)
      have b0 := bN_lt l k
      have b1 := bN_lt l (k + 1)
      have hor := or_join _ _ b0 b1
      clear hcell hv
      unfold maxLen at *
      generalize bN l k = x0 at *
      generalize bN l (k + 1) = x1 at *
      go_enter Tryz.func149, Tryz.ntmps149
      go_wp2_with fail
      go_region
      go_wp2_with fail
      go_ret3
      exact ⟨rfl, by go_grown⟩

set_option maxRecDepth 100000 in
set_option maxHeartbeats 1000000 in
theorem refGet2_c (v : Value) (l : List UInt8) (at' : Int) (w : World) (hv : Bs w v l) :
    Calls Tryz.prog 134 #[v, .int .i64 at'] w fun e w' => e = .returned (.tuple #[.int .i64 (uGet2 l at').1, .int .i64 (uGet2 l at').2.1, .int .i64 (uGet2 l at').2.2]) ∧ Below w.heap.size w w' := by
  obtain ⟨r, hr⟩ : ∃ r, uGet2 l at' = r := ⟨_, rfl⟩
  rw [hr]
  unfold uGet2 at hr
  by_cases h1 : at' < 0 ∨ (l.length : Int) < at'
  · rw [if_pos h1] at hr
    subst hr
    rcases hv.split with ⟨rfl, a, c, rfl, hc⟩ | ⟨hpos, b, o, c, rfl, hc1, hc2, hlt, hcell⟩
    all_goals
      rcases h1 with h1 | h1
      all_goals
        go_enter Tryz.func134, Tryz.ntmps134
        go_wp2_with fail
        go_ret3
        exact ⟨rfl, by go_grown⟩
  · rw [if_neg h1] at hr
    obtain ⟨k, rfl⟩ := Int.eq_ofNat_of_zero_le (show 0 ≤ at' by omega)
    by_cases h2 : (l.length : Int) - k < 2
    · rw [if_pos h2] at hr
      subst hr
      rcases hv.split with ⟨rfl, a, c, rfl, hc⟩ | ⟨hpos, b, o, c, rfl, hc1, hc2, hlt, hcell⟩
      · obtain rfl : k = 0 := by simp at h1; omega
        go_enter Tryz.func134, Tryz.ntmps134
        go_wp2_with fail
        go_ret3
        exact ⟨rfl, by go_grown⟩
      · unfold maxLen at *
        go_enter Tryz.func134, Tryz.ntmps134
        go_wp2_with fail
        go_ret3
        exact ⟨rfl, by go_grown⟩
    · rw [if_neg h2] at hr
      subst hr
      rw [Int.toNat_natCast]
      rcases hv.split with ⟨rfl, a, c, rfl, hc⟩ | ⟨hpos, b, o, c, rfl, hc1, hc2, hlt, hcell⟩
      · simp at h2; omega
      have hc0 := hcell k (by omega)
      have hc1' := hcell (k + 1) (by omega)
      have b0 := bN_lt l k
      have b1 := bN_lt l (k + 1)
      have hor := or_join _ _ b0 b1
      clear hcell hv
      unfold maxLen at *
      generalize bN l k = x0 at *
      generalize bN l (k + 1) = x1 at *
      go_enter Tryz.func134, Tryz.ntmps134
      go_wp2_with fail
      go_region
      go_wp2_with fail
      go_ret3
      exact ⟨rfl, by go_grown⟩

end Go.Proofs.YtjlnlgemngpelaaGreatDoor

/- Texts: raw bytes and texts, laid and got: the walks. -/
namespace Go.Proofs.YtjlnlgemngpelaaGreatDoor
open Go.RowKit
set_option linter.unusedVariables false

theorem strCells_B (s : ByteArray) : Lib.strCells s = (sB s).map byteV := rfl

/-- append(out, s...) of a string's bytes -/
theorem wp_appS {w : World} {ops : Array Oper} {rest : List Oper} {o : Oper} {a : Act} {Q : Exit → Act → World → Prop} (hgd : o.guard = none) (s x : Operand)
    (ho : o.op = .call { callee := .builtin .append, args := #[s, x], argTypes := #[23, 9] })
    (B : Nat) (v : Value) (l : List UInt8) (hv : a.eval s = v) (hown : Owned B w v l) (str : ByteArray) (hx : a.eval x = .string str)
    (hlen : l.length + str.size ≤ 140737488355328) (hbase : B ≤ w.heap.size)
    (h : ∀ v' w', Owned B w' v' (l ++ sB str) → Below B w w' → wpList Tryz.prog ops Q rest (a.put o.dst v') w') : wpList Tryz.prog ops Q (o :: rest) a w := by
  obtain ⟨i0, hi, hz0, hz1, hz2⟩ := info_parts info_u8
  refine wpList_plain hgd fun K hK => ?_
  obtain ⟨v', w', hr, h2, h3, h4⟩ := Lib.run_append_own_string (P := Tryz.prog) w B 23 9 o.type 5 i0 Tryz.underlying23 Tryz.underlying9 hi hz0 hz1 hz2 v l.length (l.map byteV) hown str (by unfold maxLen; omega) hlen hbase
  unfold Oper.wp execOp
  simp only [ho, resolve, invoke, builtin, Sem.run_bind, Sem.run_pure, Result.andThen_ok, List.map_toArray, List.map_cons, List.map_nil, hv, hx, hr]
  refine hK _ _ (h v' w' ?_ ((Below.refl B w).grown h3 hbase (fun k hk => (hown.lt k hk).1)))
  unfold Owned
  rw [List.length_append, List.map_append, sB_len, ← strCells_B]
  exact h2

theorem GivesB.mono {w w0 w' : World} {l : List UInt8} {err : Int} {e : Ending} (h : GivesB w0 l err e w') (hb : Below w.heap.size w w0) : GivesB w l err e w' := by
  obtain ⟨v, he, ho, hb'⟩ := h
  exact ⟨v, he, ho.le hb.size, hb.trans (hb'.mono hb.size)⟩

set_option maxRecDepth 100000 in
set_option maxHeartbeats 1000000 in
theorem PutRaw_c (s : ByteArray) (w : World) (hs : s.size ≤ 140737488355327) : Calls Tryz.prog 109 #[.string s] w (GivesB w (uPutRawB (sB s)) (uPutRawE (sB s))) := by
  unfold uPutRawB uPutRawE
  rw [sB_len]
  by_cases hl : 65535 < s.size
  · rw [if_pos hl, if_pos hl]
    go_enter Tryz.func109, Tryz.ntmps109
    go_wp2_with fail
    go_ret2
    exact GivesB.nil (by go_grown)
  · rw [if_neg hl, if_neg hl]
    go_enter Tryz.func109, Tryz.ntmps109
    go_wp2_with fail
    refine (Put2_c _ _).mono ?_
    have hE : uPut2E (s.size : Int) = 0 := by unfold uPut2E; rw [if_neg (by omega)]
    have hn : (uPut2B (s.size : Int)).length ≤ 2 := by unfold uPut2B; split <;> simp
    rw [hE]
    rintro e w1 ⟨v, rfl, ho, hb⟩
    obtain ⟨a, c, rfl⟩ := Owns.slice ho
    go_wp2_with (at_builtin; refine wp_appS rfl _ _ rfl w.heap.size _ _ rfl ho s rfl (by omega) hb.size ?_; intro v' w' ho' hb')
    go_ret2
    exact ⟨_, rfl, ho', hb.trans (hb'.mono (Nat.le_refl _))⟩

def GivesS (w : World) (r : List UInt8 × Int × Int) (e : Ending) (w' : World) : Prop :=
  e = .returned (.tuple #[.string (sOf r.1), .int .i64 r.2.1, .int .i64 r.2.2]) ∧ Below w.heap.size w w'

set_option maxRecDepth 100000 in
set_option maxHeartbeats 1000000 in
theorem GetRaw_c (v : Value) (l : List UInt8) (at' : Int) (w : World) (hv : Bs w v l) : Calls Tryz.prog 158 #[v, .int .i64 at'] w (GivesS w (uGetRaw l at')) := by
  obtain ⟨r, hr⟩ : ∃ r, uGetRaw l at' = r := ⟨_, rfl⟩
  rw [hr]
  unfold uGetRaw at hr
  have hlen := hv.len
  obtain ⟨a, c, rfl⟩ := hv.slice
  go_enter Tryz.func158, Tryz.ntmps158
  go_wp2_with fail
  refine (Get2_c _ l at' _ hv).mono ?_
  rintro e w1 ⟨rfl, hb⟩
  have hok := @uGet2_ok l at'
  generalize uGet2 l at' = q at hr hok ⊢
  obtain ⟨qn, qk, qe⟩ := q
  simp only at hr hok ⊢
  by_cases he : qe = 0
  · obtain ⟨h1, h2, rfl, h4, h5⟩ := hok he
    subst he
    rw [if_neg (by decide)] at hr
    obtain ⟨k, rfl⟩ := Int.eq_ofNat_of_zero_le h1
    obtain ⟨n, rfl⟩ := Int.eq_ofNat_of_zero_le h4
    unfold maxLen at hlen
    by_cases hs : (l.length : Int) - (k + 2) < n
    · rw [if_pos hs] at hr
      subst hr
      go_wp2_with fail
      go_ret3
      exact ⟨rfl, hb⟩
    · rw [if_neg hs] at hr
      obtain ⟨a', c', hsl, hbs⟩ := run_part (hv.below' hb (Nat.le_refl _)) ((k : Int) + 2) ((k : Int) + 2 + n) (k + 2) (k + 2 + n) (by omega) (by omega) (by omega) (by omega)
      have hstr := run_str hbs
      have e1 : ((k : Int) + 2).toNat = k + 2 := by omega
      have e2 : k + 2 + n - (k + 2) = n := by omega
      rw [e2] at hsl hstr
      rw [e1, Int.toNat_natCast] at hr
      have Hr := hd hr
      clear hok hbs hv hr
      go_wp2_with fail
      go_ret3
      rw [← Hr.out]
      exact ⟨rfl, hb⟩
  · rw [if_pos he] at hr
    subst hr
    have heb : (qe != 0) = true := by simpa using he
    clear hok
    go_wp2_with fail
    go_ret3
    exact ⟨rfl, hb⟩

set_option maxRecDepth 100000 in
set_option maxHeartbeats 1000000 in
theorem refGetRaw_c (v : Value) (l : List UInt8) (at' : Int) (w : World) (hv : Bs w v l) : Calls Tryz.prog 156 #[v, .int .i64 at'] w (GivesS w (uGetRaw l at')) := by
  obtain ⟨r, hr⟩ : ∃ r, uGetRaw l at' = r := ⟨_, rfl⟩
  rw [hr]
  unfold uGetRaw at hr
  have hlen := hv.len
  obtain ⟨a, c, rfl⟩ := hv.slice
  go_enter Tryz.func156, Tryz.ntmps156
  go_wp2_with fail
  refine (refGet2_c _ l at' _ hv).mono ?_
  rintro e w1 ⟨rfl, hb⟩
  have hok := @uGet2_ok l at'
  generalize uGet2 l at' = q at hr hok ⊢
  obtain ⟨qn, qk, qe⟩ := q
  simp only at hr hok ⊢
  by_cases he : qe = 0
  · obtain ⟨h1, h2, rfl, h4, h5⟩ := hok he
    subst he
    rw [if_neg (by decide)] at hr
    obtain ⟨k, rfl⟩ := Int.eq_ofNat_of_zero_le h1
    obtain ⟨n, rfl⟩ := Int.eq_ofNat_of_zero_le h4
    unfold maxLen at hlen
    by_cases hs : (l.length : Int) - (k + 2) < n
    · rw [if_pos hs] at hr
      subst hr
      go_wp2_with fail
      go_ret3
      exact ⟨rfl, hb⟩
    · rw [if_neg hs] at hr
      obtain ⟨a', c', hsl, hbs⟩ := run_part (hv.below' hb (Nat.le_refl _)) ((k : Int) + 2) ((k : Int) + 2 + n) (k + 2) (k + 2 + n) (by omega) (by omega) (by omega) (by omega)
      have hstr := run_str hbs
      have e1 : ((k : Int) + 2).toNat = k + 2 := by omega
      have e2 : k + 2 + n - (k + 2) = n := by omega
      rw [e2] at hsl hstr
      rw [e1, Int.toNat_natCast] at hr
      have Hr := hd hr
      clear hok hbs hv hr
      go_wp2_with fail
      go_ret3
      rw [← Hr.out]
      exact ⟨rfl, hb⟩
  · rw [if_pos he] at hr
    subst hr
    have heb : (qe != 0) = true := by simpa using he
    clear hok
    go_wp2_with fail
    go_ret3
    exact ⟨rfl, hb⟩

end Go.Proofs.YtjlnlgemngpelaaGreatDoor

/- Texts: a text, laid and got; that the program is awake. -/
namespace Go.Proofs.YtjlnlgemngpelaaGreatDoor
open Go.RowKit
set_option linter.unusedVariables false

theorem uRight_len {l : List UInt8} (h : uRight l = true) : l.length ≤ 65535 := by
  unfold uRight at h
  simp at h
  exact h.1

set_option maxRecDepth 100000 in
set_option maxHeartbeats 1000000 in
theorem Put_c (s : ByteArray) (w : World) (hE : EnvU w) (hs : s.size ≤ 140737488355327) : Calls Tryz.prog 107 #[.string s] w (GivesB w (uPutB (sB s)) (uPutE (sB s))) := by
  obtain ⟨rE, hrE⟩ : ∃ r, uPutE (sB s) = r := ⟨_, rfl⟩
  obtain ⟨rB, hrB⟩ : ∃ r, uPutB (sB s) = r := ⟨_, rfl⟩
  rw [hrE, hrB]
  unfold uPutE at hrE
  unfold uPutB at hrB
  have HE := hd hE; clear hE
  have hL := sB_len s
  have hraw : uPutRawE (sB s) = if 65535 < s.size then 3 else 0 := by unfold uPutRawE; rw [hL]
  rw [hL] at hrE
  by_cases hl : 65535 < s.size
  · have hrt : uRight (sB s) = false := by
      cases h : uRight (sB s) with
      | false => rfl
      | true => have := uRight_len h; omega
    have hrw : uPutRawB (sB s) = [] := by unfold uPutRawB; rw [if_pos (by omega)]
    rw [if_pos hl] at hrE hraw
    rw [hrt, if_neg (by decide)] at hrB
    subst hrE hrB
    go_enter Tryz.func107, Tryz.ntmps107
    go_wp2_with fail
    refine (PutRaw_c s _ hs).mono ?_
    rw [hrw, hraw]
    rintro e w' ⟨v, rfl, ho, hb⟩
    go_wp2_with fail
    go_ret2
    exact ⟨_, rfl, ho, hb⟩
  · rw [if_neg hl] at hrE hraw
    cases hrt : uRight (sB s) with
    | false =>
      rw [hrt, if_neg (by decide)] at hrE hrB
      subst hrE hrB
      go_enter Tryz.func107, Tryz.ntmps107
      go_wp2_with fail
      refine (Right_c s _ HE.out (by omega)).mono ?_
      rw [hrt]
      rintro e w' ⟨rfl, hb⟩
      go_wp2_with fail
      go_ret2
      exact GivesB.nil hb
    | true =>
      rw [hrt, if_pos rfl] at hrE hrB
      subst hrE
      have HB := hd hrB; clear hrB
      go_enter Tryz.func107, Tryz.ntmps107
      go_wp2_with fail
      refine (Right_c s _ HE.out (by omega)).mono ?_
      rw [hrt]
      rintro e w' ⟨rfl, hb⟩
      go_wp2_with fail
      refine (PutRaw_c s _ hs).mono ?_
      rw [HB.out, hraw]
      rintro e w2 ⟨v, rfl, ho, hb2⟩
      go_wp2_with fail
      go_ret2
      exact ⟨_, rfl, ho.le hb.size, hb.trans (hb2.mono hb.size)⟩

theorem uGetRaw_len (l : List UInt8) (at' : Int) : (uGetRaw l at').1.length ≤ 65535 := by
  unfold uGetRaw
  have h := @uGet2_ok l at'
  generalize uGet2 l at' = q at h ⊢
  obtain ⟨qn, qk, qe⟩ := q
  simp only at h ⊢
  split
  · simp
  · split
    · simp
    · rename_i h1 h2
      have := h (by omega)
      simp only [List.length_take, List.length_drop]
      omega

set_option maxRecDepth 100000 in
set_option maxHeartbeats 1000000 in
theorem Get_c (v : Value) (l : List UInt8) (at' : Int) (w : World) (hE : EnvU w) (hv : Bs w v l) : Calls Tryz.prog 145 #[v, .int .i64 at'] w (GivesS w (uGet l at')) := by
  obtain ⟨r, hr⟩ : ∃ r, uGet l at' = r := ⟨_, rfl⟩
  rw [hr]
  unfold uGet at hr
  have HE := hd hE; clear hE
  obtain ⟨a, c, rfl⟩ := hv.slice
  go_enter Tryz.func145, Tryz.ntmps145
  go_wp2_with fail
  refine (GetRaw_c _ l at' _ hv).mono ?_
  rintro e w1 ⟨rfl, hb⟩
  have hlen := uGetRaw_len l at'
  generalize uGetRaw l at' = q at hr hlen ⊢
  obtain ⟨qs, qk, qe⟩ := q
  simp only at hr hlen ⊢
  have hsz := sOf_size qs
  by_cases he : qe = 0
  · subst he
    rw [if_neg (by decide)] at hr
    cases hrt : uRight qs with
    | false =>
      rw [if_pos hrt] at hr
      subst hr
      go_wp2_with fail
      refine (Right_c (sOf qs) _ (HE.out.below hb) (by omega)).mono ?_
      rw [sB_sOf, hrt]
      rintro e w2 ⟨rfl, hb2⟩
      have hb3 := hb.trans (hb2.mono hb.size)
      go_wp2_with fail
      go_ret3
      exact ⟨rfl, hb3⟩
    | true =>
      rw [hrt, if_neg (by decide)] at hr
      have Hr := hd hr; clear hr
      go_wp2_with fail
      refine (Right_c (sOf qs) _ (HE.out.below hb) (by omega)).mono ?_
      rw [sB_sOf, hrt]
      rintro e w2 ⟨rfl, hb2⟩
      have hb3 := hb.trans (hb2.mono hb.size)
      go_wp2_with fail
      go_ret3
      rw [← Hr.out]
      exact ⟨rfl, hb3⟩
  · rw [if_pos he] at hr
    subst hr
    have heb : (qe != 0) = true := by simpa using he
    go_wp2_with fail
    go_ret3
    exact ⟨rfl, hb⟩

set_option maxRecDepth 100000 in
set_option maxHeartbeats 1000000 in
theorem refGet_c (v : Value) (l : List UInt8) (at' : Int) (w : World) (hv : Bs w v l) : Calls Tryz.prog 133 #[v, .int .i64 at'] w (GivesS w (uGet l at')) := by
  obtain ⟨r, hr⟩ : ∃ r, uGet l at' = r := ⟨_, rfl⟩
  rw [hr]
  unfold uGet at hr
  obtain ⟨a, c, rfl⟩ := hv.slice
  go_enter Tryz.func133, Tryz.ntmps133
  go_wp2_with fail
  refine (refGetRaw_c _ l at' _ hv).mono ?_
  rintro e w1 ⟨rfl, hb⟩
  have hlen := uGetRaw_len l at'
  generalize uGetRaw l at' = q at hr hlen ⊢
  obtain ⟨qs, qk, qe⟩ := q
  simp only at hr hlen ⊢
  have hsz := sOf_size qs
  by_cases he : qe = 0
  · subst he
    rw [if_neg (by decide)] at hr
    cases hrt : uRight qs with
    | false =>
      rw [if_pos hrt] at hr
      subst hr
      go_wp2_with fail
      refine (refRight_c (sOf qs) _ (by omega)).mono ?_
      rw [sB_sOf, hrt]
      rintro e w2 ⟨rfl, hb2⟩
      have hb3 := hb.trans (hb2.mono hb.size)
      go_wp2_with fail
      go_ret3
      exact ⟨rfl, hb3⟩
    | true =>
      rw [hrt, if_neg (by decide)] at hr
      have Hr := hd hr; clear hr
      go_wp2_with fail
      refine (refRight_c (sOf qs) _ (by omega)).mono ?_
      rw [sB_sOf, hrt]
      rintro e w2 ⟨rfl, hb2⟩
      have hb3 := hb.trans (hb2.mono hb.size)
      go_wp2_with fail
      go_ret3
      rw [← Hr.out]
      exact ⟨rfl, hb3⟩
  · rw [if_pos he] at hr
    subst hr
    have heb : (qe != 0) = true := by simpa using he
    go_wp2_with fail
    go_ret3
    exact ⟨rfl, hb⟩

end Go.Proofs.YtjlnlgemngpelaaGreatDoor

/- Texts, there and back: plain laws. No program. -/
namespace Go.Proofs.YtjlnlgemngpelaaGreatDoor
open Go.RowKit
set_option linter.unusedVariables false

theorem bN_append_right (x y : List UInt8) (j : Nat) : bN (x ++ y) (x.length + j) = bN y j := by
  unfold bN
  rw [List.getD_eq_getElem?_getD, List.getD_eq_getElem?_getD, List.getElem?_append_right (by omega)]
  congr 4
  omega
theorem bN_zero (b : UInt8) (t : List UInt8) : bN (b :: t) 0 = b.toNat := rfl
theorem bN_succ (b : UInt8) (t : List UInt8) (j : Nat) : bN (b :: t) (j + 1) = bN t j := rfl

theorem uGet2_at (A R : List UInt8) (n : Nat) (hn : n ≤ 65535) : uGet2 (A ++ (B8 (n / 256) :: B8 (n % 256) :: R)) (A.length : Int) = ((n : Int), (A.length : Int) + 2, 0) := by
  unfold uGet2
  rw [List.length_append, if_neg (by simp; omega), if_neg (by simp; omega), Int.toNat_natCast]
  have e0 := bN_append_right A (B8 (n / 256) :: B8 (n % 256) :: R) 0
  have e1 := bN_append_right A (B8 (n / 256) :: B8 (n % 256) :: R) 1
  rw [Nat.add_zero] at e0
  rw [e0, e1, bN_zero, bN_succ, bN_zero, B8_toNat (by omega), B8_toNat (by omega)]
  congr 1
  omega

theorem uPut2B_ok {n : Nat} (hn : n ≤ 65535) : uPut2B (n : Int) = [B8 (n / 256), B8 (n % 256)] := by
  unfold uPut2B
  rw [if_neg (by omega), Int.toNat_natCast]

theorem uPutRawB_ok {S : List UInt8} (h : S.length ≤ 65535) : uPutRawB S = B8 (S.length / 256) :: B8 (S.length % 256) :: S := by
  unfold uPutRawB
  rw [if_neg (by omega), uPut2B_ok h]
  rfl
theorem uPutRawB_len {S : List UInt8} (h : S.length ≤ 65535) : (uPutRawB S).length = S.length + 2 := by
  rw [uPutRawB_ok h]
  rfl

theorem uGetRaw_at (A S C : List UInt8) (h : S.length ≤ 65535) : uGetRaw (A ++ uPutRawB S ++ C) (A.length : Int) = (S, (A.length : Int) + 2 + S.length, 0) := by
  rw [uPutRawB_ok h, List.append_assoc]
  unfold uGetRaw
  have e := uGet2_at A (S ++ C) S.length h
  rw [List.cons_append, List.cons_append, e]
  simp only
  rw [if_neg (by decide), if_neg (by simp; omega)]
  have e1 : ((A.length : Int) + 2).toNat = A.length + 2 := by omega
  rw [e1, Int.toNat_natCast, ← List.drop_drop, List.drop_left, List.drop_succ_cons, List.drop_succ_cons, List.drop_zero, List.take_left]

theorem uGet_at (A S C : List UInt8) (h : S.length ≤ 65535) : uGet (A ++ uPutRawB S ++ C) (A.length : Int) = if uRight S = true then (S, (A.length : Int) + 2 + S.length, 0) else ([], 0, 9) := by
  unfold uGet
  rw [uGetRaw_at A S C h, if_neg (by simp)]
  simp only
  by_cases hr : uRight S = true
  · rw [if_pos hr, if_neg (by rw [hr]; decide)]
  · rw [if_neg hr, if_pos (by simpa using hr)]
end Go.Proofs.YtjlnlgemngpelaaGreatDoor

/- Messages: plain laws: which topic may be; what is laid. No program. -/
namespace Go.Proofs.YtjlnlgemngpelaaGreatDoor
open Go.RowKit
set_option linter.unusedVariables false

/-- A byte that no filter's sign may be in a topic. -/
def signB (b : UInt8) : Bool := b.toNat == 43 || b.toNat == 35
def signIn (l : List UInt8) : Bool := l.any signB
def pName (l : List UInt8) : Bool := !signIn l && !l.isEmpty

theorem signB_iff (l : List UInt8) (j : Nat) (h : j < l.length) : signB (l[j]'h) = (bN l j == 43 || bN l j == 35) := by
  unfold signB bN
  rw [List.getD_eq_getElem?_getD, List.getElem?_eq_getElem h, Option.getD_some]

theorem signIn_drop : ∀ (n : Nat) (l : List UInt8), n ≤ l.length → (∀ j, j < n → bN l j ≠ 43 ∧ bN l j ≠ 35) → signIn l = signIn (l.drop n)
  | 0, l, _, _ => by simp
  | n + 1, [], h, _ => by simp at h
  | n + 1, b :: t, h, hb => by
    have h0 := hb 0 (by omega)
    have e : signIn (b :: t) = signIn t := by
      unfold signIn
      have : signB b = false := by
        have h1 : bN (b :: t) 0 = b.toNat := rfl
        rw [h1] at h0
        unfold signB
        simp [h0.1, h0.2]
      simp [this]
    rw [e, List.drop_succ_cons]
    refine signIn_drop n t (by simpa using h) (fun j hj => ?_)
    exact hb (j + 1) (by omega)
theorem signIn_hit {l : List UInt8} (hl : 0 < l.length) (h : bN l 0 = 43 ∨ bN l 0 = 35) : signIn l = true := by
  cases l with
  | nil => simp at hl
  | cons b t =>
    have h1 : bN (b :: t) 0 = b.toNat := rfl
    rw [h1] at h
    have : signB b = true := by unfold signB; rcases h with h | h <;> simp [h]
    unfold signIn
    simp [this]

/-- One step of a range over a string's runes, for the signs. -/
theorem range_sign (l : List UInt8) (i : Nat) (hi : i < l.length) :
    (((Lib.decodeL (l.drop i)).1 = 43 ∨ (Lib.decodeL (l.drop i)).1 = 35) → signIn (l.drop i) = true) ∧
    (((Lib.decodeL (l.drop i)).1 ≠ 43 ∧ (Lib.decodeL (l.drop i)).1 ≠ 35) → signIn (l.drop i) = signIn (l.drop (i + (Lib.decodeL (l.drop i)).2))) ∧
    1 ≤ (Lib.decodeL (l.drop i)).2 ∧ i + (Lib.decodeL (l.drop i)).2 ≤ l.length ∧ (Lib.decodeL (l.drop i)).1 ≤ 1114111 := by
  rw [Lib.decodeL_N]
  have e0 : ((l.drop i).getD 0 0).toNat = bN l i := by have := bN_drop l i 0; rw [Nat.add_zero] at this; exact this
  have e1 : ((l.drop i).getD 1 0).toNat = bN l (i + 1) := bN_drop l i 1
  have e2 : ((l.drop i).getD 2 0).toNat = bN l (i + 2) := bN_drop l i 2
  have e3 : ((l.drop i).getD 3 0).toNat = bN l (i + 3) := bN_drop l i 3
  rw [e0, e1, e2, e3, List.length_drop]
  have z0 : (bN l i = 43 ∨ bN l i = 35) → signIn (l.drop i) = true := fun h => signIn_hit (by rw [List.length_drop]; omega) (by rw [bN_drop, Nat.add_zero]; exact h)
  have zn : ∀ n, i + n ≤ l.length → (∀ j, j < n → bN l (i + j) ≠ 43 ∧ bN l (i + j) ≠ 35) → signIn (l.drop i) = signIn (l.drop (i + n)) := fun n hn hb => by
    have := signIn_drop n (l.drop i) (by rw [List.length_drop]; omega) (fun j hj => by rw [bN_drop]; exact hb j hj)
    rw [List.drop_drop] at this
    exact this
  have b0 := bN_lt l i
  have hz1 : (bN l i ≠ 43 ∧ bN l i ≠ 35) → signIn (l.drop i) = signIn (l.drop (i + 1)) := fun h => zn 1 (by omega) (fun j hj => by
    match j, hj with
    | 0, _ => exact h)
  have hz2 : i + 2 ≤ l.length → 128 ≤ bN l i → 128 ≤ bN l (i + 1) → signIn (l.drop i) = signIn (l.drop (i + 2)) := fun h h0 h1 => zn 2 h (fun j hj => by
    match j, hj with
    | 0, _ => rw [Nat.add_zero]; omega
    | 1, _ => omega)
  have hz3 : i + 3 ≤ l.length → 128 ≤ bN l i → 128 ≤ bN l (i + 1) → 128 ≤ bN l (i + 2) → signIn (l.drop i) = signIn (l.drop (i + 3)) := fun h h0 h1 h2 => zn 3 h (fun j hj => by
    match j, hj with
    | 0, _ => rw [Nat.add_zero]; omega
    | 1, _ => omega
    | 2, _ => omega)
  have hz4 : i + 4 ≤ l.length → 128 ≤ bN l i → 128 ≤ bN l (i + 1) → 128 ≤ bN l (i + 2) → 128 ≤ bN l (i + 3) → signIn (l.drop i) = signIn (l.drop (i + 4)) := fun h h0 h1 h2 h3 => zn 4 h (fun j hj => by
    match j, hj with
    | 0, _ => rw [Nat.add_zero]; omega
    | 1, _ => omega
    | 2, _ => omega
    | 3, _ => omega)
  clear zn e0 e1 e2 e3
  have hz : Lib.decodeN (l.length - i) (bN l i) (bN l (i + 1)) (bN l (i + 2)) (bN l (i + 3)) = (65533, 1) → bN l i ≠ 43 ∧ bN l i ≠ 35 := fun h => by
    constructor
    all_goals
      intro h0
      rw [h0] at h
      unfold Lib.decodeN at h
      rw [if_pos (by omega)] at h
      simp at h
  rcases Lib.decodeN_shape (l.length - i) (bN l i) (bN l (i + 1)) (bN l (i + 2)) (bN l (i + 3)) with ⟨c, e⟩ | ⟨c1, c2, c3, cv, e⟩ | ⟨c1, c2, c3, c4, cv, cs, e⟩ | ⟨c1, c2, c3, c4, c5, cv, cw, e⟩ | e
  · rw [e]
    exact ⟨fun h => z0 h, fun h => hz1 h, by omega, by simp only; omega, by simp only; omega⟩
  · rw [e]
    exact ⟨fun h => by simp only at h; omega, fun h => hz2 (by omega) (by omega) (by omega), by omega, by simp only; omega, by simp only; omega⟩
  · rw [e]
    exact ⟨fun h => by simp only at h; omega, fun h => hz3 (by omega) (by omega) (by omega) (by omega), by omega, by simp only; omega, by simp only; omega⟩
  · rw [e]
    exact ⟨fun h => by simp only at h; omega, fun h => hz4 (by omega) (by omega) (by omega) (by omega) (by omega), by omega, by simp only; omega, by simp only; omega⟩
  · have := hz e
    rw [e]
    exact ⟨fun h => by simp at h, fun h => hz1 this, by omega, by simp only; omega, by simp only; omega⟩

/-- a number's bytes -/
def pIdB (id : Int) : List UInt8 := if 1 ≤ id ∧ id ≤ 65535 then uPut2B id else []
def pIdE (id : Int) : Int := if 1 ≤ id ∧ id ≤ 65535 then 0 else 1
/-- a number's bytes by a QoS -/
def pNumB (qos id : Int) : List UInt8 := if 0 < qos then pIdB id else []
def pNumE (qos id : Int) : Int := if 0 < qos then pIdE id else if id ≠ 0 then 1 else 0
/-- a message's bytes and the error -/
def pPutE (T X : List UInt8) (qos id : Int) : Int :=
  if qos < 0 ∨ 2 < qos then 10
  else if pName T = false then 13
  else if uPutE T ≠ 0 then uPutE T
  else if pNumE qos id ≠ 0 then pNumE qos id
  else if (4096 : Int) - ((uPutB T).length + (pNumB qos id).length) < X.length then 3 else 0
def pPutB (T X : List UInt8) (qos id : Int) : List UInt8 := if pPutE T X qos id = 0 then uPutB T ++ pNumB qos id ++ X else []
end Go.Proofs.YtjlnlgemngpelaaGreatDoor

/- Messages: the walks of the small functions. -/
namespace Go.Proofs.YtjlnlgemngpelaaGreatDoor
open Go.RowKit
set_option linter.unusedVariables false

/-- []byte(s) -/
theorem run_bytes (s : ByteArray) (hs : s.size ≤ 140737488355327) (w : World) : ∃ c W', (convert 9 23 (.string s)).run Tryz.prog w = .ok (.slice (some ⟨w.heap.size, 0, none⟩) (sB s).length c) W' ∧ Bs W' (.slice (some ⟨w.heap.size, 0, none⟩) (sB s).length c) (sB s) ∧ Below w.heap.size w W' := by
  have h63 : s.size ≤ maxLen := by unfold maxLen; omega
  refine ⟨grownCap w s.size 0 5, Lib.bytesWorld w 5 s, ?_, ?_, ⟨rfl, rfl, rfl, by rw [Lib.bytesWorld_size]; omega, fun j hj => Lib.bytesWorld_at_old w 5 s j hj⟩⟩
  · rw [sB_len]
    exact Lib.run_convert_string_bytes w 9 23 5 s Tryz.underlying9 Tryz.underlying23 Tryz.underlying5
  · refine ⟨some ⟨w.heap.size, 0, none⟩, _, rfl, by rw [sB_len]; exact grownCap_ge w s.size 0 5, grownCap_le_maxLen w s.size 0 5 h63, (fun e => by cases e), fun ad had j u hu => ?_⟩
    cases had
    have hj : j < s.size := by
      have := (List.getElem?_eq_some_iff.1 hu).1
      rw [List.length_map, sB_len] at this
      exact this
    rw [Go.WideShapes.add_plain, Nat.zero_add, Lib.bytesWorld_cell w 5 s j hj, ← hu]
    have hjl : j < (sB s).length := by rw [sB_len]; exact hj
    have e : (sB s).getD j 0 = (sB s)[j]'hjl := by rw [List.getD_eq_getElem?_getD, List.getElem?_eq_getElem hjl, Option.getD_some]
    rw [List.getElem?_map, List.getElem?_eq_getElem hjl]
    show _ = some (byteV ((sB s)[j]'hjl))
    rw [← e]
    rfl

theorem sB_nil {s : ByteArray} (h : s.size = 0) : s = ⟨#[]⟩ := by
  have : s.data = #[] := Array.eq_empty_of_size_eq_zero h
  cases s
  simp_all
theorem neq_empty (s : ByteArray) : (!s.toList.isEmpty) = !(sB s).isEmpty := by
  rw [ByteArray.toList_eq]
  rfl

set_option maxRecDepth 100000 in
set_option maxHeartbeats 1000000 in
theorem leveled_c (q : Int) (w : World) : Calls Tryz.prog 111 #[.int .i64 q] w fun e w' => e = .returned (.bool (decide (0 ≤ q) && decide (q ≤ 2))) ∧ w = w' := by
  go_enter Tryz.func111, Tryz.ntmps111
  go_wp2
  all_goals (go_ret; refine ⟨ret_bool ?_, rfl⟩)
  all_goals (simp_all <;> omega)

set_option maxRecDepth 100000 in
set_option maxHeartbeats 1000000 in
theorem numbered_c (q : Int) (w : World) : Calls Tryz.prog 114 #[.int .i64 q] w fun e w' => e = .returned (.bool (decide (1 ≤ q) && decide (q ≤ 65535))) ∧ w = w' := by
  go_enter Tryz.func114, Tryz.ntmps114
  go_wp2
  all_goals (go_ret; refine ⟨ret_bool ?_, rfl⟩)
  all_goals (simp_all <;> omega)

set_option maxRecDepth 100000 in
set_option maxHeartbeats 1000000 in
theorem named_c (s : ByteArray) (w : World) (hs : s.size ≤ 9223372036854775000) : Calls Tryz.prog 112 #[.string s] w fun e w' => e = .returned (.bool (pName (sB s))) ∧ Below w.heap.size w w' := by
  obtain ⟨r, hr⟩ : ∃ r, pName (sB s) = r := ⟨_, rfl⟩
  rw [hr]
  unfold pName at hr
  have hne := neq_empty s
  go_enter Tryz.func112, Tryz.ntmps112
  go_wp2_with fail
  go_loopw [4] (fun _ w' => ∃ pos : Nat, w' = w.iter s pos ∧ pos ≤ s.size ∧ (!signIn ((sB s).drop pos) && !(sB s).isEmpty) = r) (fun _ w' => s.size - w'.iterPos w.heap.size)
  case atStart => exact ⟨0, rfl, by omega, by simpa using hr⟩
  case round =>
    obtain ⟨pos, rfl, hp1, hc⟩ := hrel
    by_cases hp : pos < s.size
    · have hnx : ∀ ty, (Instr.next (.pointer (some ⟨w.heap.size, 0, none⟩)) true ty).run Tryz.prog (w.iter s pos) = _ := fun ty => run_next_any w s pos ty hp
      have hst := range_sign (sB s) pos (by rw [sB_len]; exact hp)
      rw [sB_len] at hst
      have hdd : Lib.decodeL ((sB s).drop pos) = Utf8.decode s pos := Lib.decodeL_drop s pos
      rw [hdd] at hst
      generalize Utf8.decode s pos = q at hst hnx
      obtain ⟨qr, qn⟩ := q
      simp only at hst hnx
      obtain ⟨hs0, hs1, hn1, hn2, hq⟩ := hst
      by_cases hr0 : qr = 43 ∨ qr = 35
      · rw [hs0 hr0, Bool.not_true, Bool.false_and] at hc
        subst hc
        clear hs1 hs0 hne
        rcases hr0 with rfl | rfl
        all_goals
          go_wp2_with fail
          go_ret
          exact ⟨rfl, (Below.refl _ _).alloc (Nat.le_refl _) (.stringIter s (pos + qn))⟩
      · rw [hs1 (by omega)] at hc
        have hr0b : ((qr : Int) == 43) = false := by simp; omega
        have hr1b : ((qr : Int) == 35) = false := by simp; omega
        clear hs0 hs1 hne
        go_wp2_with fail
        go_roundw
        case rel => exact ⟨pos + qn, rfl, by omega, hc⟩
        case measure => simp; omega
    · have hnx : ∀ ty, (Instr.next (.pointer (some ⟨w.heap.size, 0, none⟩)) true ty).run Tryz.prog (w.iter s pos) = _ := fun ty => run_next_end w s pos ty hp
      have : pos = s.size := by omega
      subst this
      rw [List.drop_of_length_le (by rw [sB_len]; omega)] at hc
      have hc2 : (!(sB s).isEmpty) = r := by rw [← hc]; rfl
      go_wp2_with fail
      go_ret
      exact ⟨ret_bool (by rw [← hc2, ← hne]), (Below.refl _ _).alloc (Nat.le_refl _) (.stringIter s s.size)⟩

def leftOf2 (s : ByteArray) : Value → Nat
  | .int _ k => ((s.size : Int) - k).toNat
  | _ => 0

set_option maxRecDepth 100000 in
set_option maxHeartbeats 1000000 in
theorem refNamed_c (s : ByteArray) (w : World) (hs : s.size ≤ 9223372036854775000) : Calls Tryz.prog 136 #[.string s] w fun e w' => e = .returned (.bool (pName (sB s))) ∧ Below w.heap.size w w' := by
  obtain ⟨r, hr⟩ : ∃ r, pName (sB s) = r := ⟨_, rfl⟩
  rw [hr]
  unfold pName at hr
  have hne := neq_empty s
  go_enter Tryz.func136, Tryz.ntmps136
  go_wp2_with fail
  go_loopw [3] (fun n w' => ∃ k : Nat, n = .int .i64 k ∧ k ≤ s.size ∧ Below w.heap.size w w' ∧ (!signIn ((sB s).drop k) && !(sB s).isEmpty) = r) (fun n _ => leftOf2 s n)
  case atStart => exact ⟨0, rfl, by omega, by go_grown, by simpa using hr⟩
  case round =>
    obtain ⟨k, rfl, hk, hb, hc⟩ := hrel
    by_cases hks : k < s.size
    · have hx : ∀ W : World, (Instr.index 9 (.string s) (.int .i64 (k : Int))).run Tryz.prog W = .ok (.int .u8 (bN (sB s) k)) W := fun W => run_at s k k rfl hks W
      have hlen : 0 < ((sB s).drop k).length := by rw [List.length_drop, sB_len]; omega
      have h0 : bN ((sB s).drop k) 0 = bN (sB s) k := by rw [bN_drop, Nat.add_zero]
      have hb0 := bN_lt (sB s) k
      have hit : (bN (sB s) k = 43 ∨ bN (sB s) k = 35) → signIn ((sB s).drop k) = true := fun h => signIn_hit hlen (by rw [h0]; exact h)
      have miss : (bN (sB s) k ≠ 43 ∧ bN (sB s) k ≠ 35) → signIn ((sB s).drop k) = signIn ((sB s).drop (k + 1)) := fun h => by
        have := signIn_drop 1 ((sB s).drop k) (by omega) (fun j hj => by
          match j, hj with
          | 0, _ => rw [h0]; exact h)
        rw [List.drop_drop] at this
        exact this
      generalize bN (sB s) k = x at *
      by_cases hr0 : x = 43 ∨ x = 35
      · rw [hit hr0, Bool.not_true, Bool.false_and] at hc
        subst hc
        clear hit miss hne h0 hlen
        rcases hr0 with rfl | rfl
        all_goals
          go_wp2_with fail
          go_ret
          exact ⟨rfl, by go_grown⟩
      · rw [miss (by omega)] at hc
        have hr0b : ((x : Int) == 43) = false := by simp; omega
        have hr1b : ((x : Int) == 35) = false := by simp; omega
        clear hit miss hne h0 hlen
        go_wp2_with fail
        go_roundw
        case rel => exact ⟨k + 1, by congr 1, by omega, by go_grown, hc⟩
        case measure => simp [leftOf2]; omega
    · have : k = s.size := by omega
      subst this
      rw [List.drop_of_length_le (by rw [sB_len]; omega)] at hc
      have hc2 : (!(sB s).isEmpty) = r := by rw [← hc]; rfl
      go_wp2_with fail
      go_ret
      exact ⟨ret_bool (by rw [← hc2, ← hne]), by go_grown⟩

set_option maxRecDepth 100000 in
set_option maxHeartbeats 1000000 in
theorem PutId_c (id : Int) (w : World) : Calls Tryz.prog 77 #[.int .i64 id] w (GivesB w (pIdB id) (pIdE id)) := by
  unfold pIdB pIdE
  by_cases h : 1 ≤ id ∧ id ≤ 65535
  · rw [if_pos h, if_pos h]
    go_enter Tryz.func77, Tryz.ntmps77
    go_wp2_with fail
    refine (numbered_c id _).mono ?_
    rw [decide_eq_true h.1, decide_eq_true h.2]
    rintro e w' ⟨rfl, rfl⟩
    go_wp2_with fail
    refine (Put2_c id _).mono ?_
    have hE : uPut2E id = 0 := by unfold uPut2E; rw [if_neg (by omega)]
    rw [hE]
    rintro e w2 ⟨v, rfl, ho, hb⟩
    go_wp2_with fail
    go_ret2
    exact ⟨_, rfl, ho, hb⟩
  · rw [if_neg h, if_neg h]
    have hf : (decide (1 ≤ id) && decide (id ≤ 65535)) = false := by simpa using h
    go_enter Tryz.func77, Tryz.ntmps77
    go_wp2_with fail
    refine (numbered_c id _).mono ?_
    rw [hf]
    rintro e w' ⟨rfl, rfl⟩
    go_wp2_with fail
    go_ret2
    exact GivesB.nil (by go_grown)

set_option maxRecDepth 100000 in
set_option maxHeartbeats 1000000 in
theorem number1_c (id : Int) (w : World) : Calls Tryz.prog 140 #[.int .i64 id] w (GivesB w [] (if id ≠ 0 then 1 else 0)) := by
  by_cases h : id = 0
  · subst h
    rw [if_neg (by decide)]
    go_enter Tryz.func140, Tryz.ntmps140
    go_wp2_with fail
    go_ret2
    exact GivesB.nil (by go_grown)
  · rw [if_pos h]
    have hb : (id != 0) = true := by simpa using h
    go_enter Tryz.func140, Tryz.ntmps140
    go_wp2_with fail
    go_ret2
    exact GivesB.nil (by go_grown)

set_option maxRecDepth 100000 in
set_option maxHeartbeats 1000000 in
theorem number_c (q : Int) (w : World) : Calls Tryz.prog 113 #[.int .i64 q] w fun e w' => e = .returned (if 0 < q then .func (.func 77) #[] #[] else .func (.func 140) #[] #[]) ∧ w = w' := by
  by_cases h : 0 < q
  · rw [if_pos h]
    go_enter Tryz.func113, Tryz.ntmps113
    go_wp2_with fail
    go_ret
    exact ⟨rfl, rfl⟩
  · rw [if_neg h]
    go_enter Tryz.func113, Tryz.ntmps113
    go_wp2_with fail
    go_ret
    exact ⟨rfl, rfl⟩

end Go.Proofs.YtjlnlgemngpelaaGreatDoor

/- Steps from world to world. Of no function of the program. -/
namespace Go.Proofs.YtjlnlgemngpelaaGreatDoor
open Go.RowKit

/-- What was there reads as it did. -/
theorem bcell {B : Nat} {W w1 : World} (hb : Below B W w1) : ∀ b o, b < B → w1.cell? ⟨b, o, none⟩ = W.cell? ⟨b, o, none⟩ :=
  fun b o h => hb.cell (p := ⟨b, o, none⟩) h
theorem bfree {B : Nat} {W w1 : World} (hb : Below B W w1) : ∀ b o, b < B → w1.frozen? ⟨b, o, none⟩ = W.frozen? ⟨b, o, none⟩ :=
  fun b o h => hb.frozen (p := ⟨b, o, none⟩) h

/-- A step more. -/
theorem _root_.Go.RowKit.Below.up {w w0 w1 : World} (h : Below w.heap.size w w0) (hb : Below w0.heap.size w0 w1) : Below w.heap.size w w1 := h.trans (hb.mono h.size)

/-- A box, then a step more. -/
theorem _root_.Go.RowKit.Below.upA {w w0 w1 : World} {o : Obj} (h : Below w.heap.size w w0) (hb : Below (w0.alloc o).heap.size (w0.alloc o) w1) : Below w.heap.size w w1 := (h.alloc h.size o).up hb
theorem below_dn {B : Nat} {a w : World} (h : Below B a w) (n : Nat) : Below B a (w.drewN n) := ⟨h.os, h.tape, h.output, h.size, h.block⟩
end Go.Proofs.YtjlnlgemngpelaaGreatDoor

/- Messages: what lays one: the walks. -/
namespace Go.Proofs.YtjlnlgemngpelaaGreatDoor
open Go.RowKit
set_option linter.unusedVariables false

theorem uPutB_len {l : List UInt8} : (uPutB l).length ≤ 65537 := by
  unfold uPutB
  split
  · rename_i h
    have := uRight_len h
    rw [uPutRawB_len this]
    omega
  · simp
theorem pNumB_len (q id : Int) : (pNumB q id).length ≤ 2 := by
  unfold pNumB pIdB uPut2B
  repeat' split
  all_goals simp

theorem _root_.Go.RowKit.Below.box {w w0 : World} {o : Obj} (h : Below w.heap.size w w0) : Below w.heap.size w (w0.alloc o) := h.alloc h.size o

theorem pPut_nil {T X : List UInt8} {q id : Int} {w w' : World} (e : Int) (he : pPutE T X q id = e) (h0 : e ≠ 0) (hb : Below w.heap.size w w') :
    GivesB w (pPutB T X q id) (pPutE T X q id) (.returned (.tuple #[.slice none 0 0, .int .i64 e])) w' := by
  unfold pPutB
  rw [he, if_neg h0]
  exact GivesB.nil hb

theorem lay1_c {q : Int} (h : 0 < q) (id : Int) (W : World) : Calls Tryz.prog 77 #[.int .i64 id] W (GivesB W (pNumB q id) (pNumE q id)) := by
  unfold pNumB pNumE
  rw [if_pos h, if_pos h]
  exact PutId_c id W
theorem lay0_c {q : Int} (h : ¬ 0 < q) (id : Int) (W : World) : Calls Tryz.prog 140 #[.int .i64 id] W (GivesB W (pNumB q id) (pNumE q id)) := by
  unfold pNumB pNumE
  rw [if_neg h, if_neg h]
  exact number1_c id W

set_option maxRecDepth 100000 in
set_option maxHeartbeats 1000000 in
theorem pubPut_c (T X : ByteArray) (q : Int) (R : Bool) (id : Int) (w : World) (hE : EnvU w) (hT : T.size ≤ 140737488351232) (hX : X.size ≤ 140737488351232) :
    Calls Tryz.prog 76 #[.agg #[.string T, .string X, .int .i64 q, .bool R], .int .i64 id] w (GivesB w (pPutB (sB T) (sB X) q id) (pPutE (sB T) (sB X) q id)) := by
  have HE := hd hE; clear hE
  go_enter Tryz.func76, Tryz.ntmps76
  go_wp2_with fail
  refine (leveled_c q _).mono ?_
  by_cases hq : q < 0 ∨ 2 < q
  · rw [show (decide (0 ≤ q) && decide (q ≤ 2)) = false from by simp; omega]
    rintro e w' ⟨rfl, rfl⟩
    go_wp2_with fail
    go_ret2
    exact pPut_nil 10 (by rw [pPutE, if_pos hq]) (by decide) (by go_grown)
  rw [show (decide (0 ≤ q) && decide (q ≤ 2)) = true from by simp; omega]
  rintro e w' ⟨rfl, rfl⟩
  go_wp2_with fail
  refine (named_c T _ (by omega)).mono ?_
  by_cases hn : pName (sB T) = false
  · rw [hn]
    rintro e w1 ⟨rfl, hb1⟩
    go_wp2_with fail
    go_ret2
    exact pPut_nil 13 (by rw [pPutE, if_neg hq, if_pos hn]) (by decide) (Below.up (by go_grown) hb1)
  rw [show pName (sB T) = true from by simpa using hn]
  rintro e w1 ⟨rfl, hb1⟩
  have hc1 := bcell hb1
  have hl1 : w.heap.size < w1.heap.size := by have := hb1.size; simp at this; omega
  have hb : Below w.heap.size w w1 := Below.up (by go_grown) hb1
  go_wp2_with fail
  refine (Put_c T _ (HE.out.below hb) (by omega)).mono ?_
  rintro e w2 ⟨v2, rfl, ho2, hb2⟩
  have hc2 := bcell hb2
  have hz2 := hb2.size
  have hl2 : w.heap.size < w2.heap.size := by omega
  replace hb := Below.up hb hb2
  obtain ⟨a2, k2, rfl⟩ := Owns.slice ho2
  by_cases he : uPutE (sB T) = 0
  rotate_left
  · have heb : (uPutE (sB T) != 0) = true := by simpa using he
    go_wp2_with fail
    go_ret2
    exact pPut_nil _ (by rw [pPutE, if_neg hq, if_neg hn, if_pos he]) he hb
  rw [he]
  go_wp2_with fail
  refine (number_c q _).mono ?_
  have hB2 := @uPutB_len (sB T)
  have hB3 := pNumB_len q id
  by_cases h : 0 < q
  all_goals first
    | (rw [if_pos h]; rintro e w' ⟨rfl, rfl⟩; go_wp2_with fail; refine (lay1_c (q := q) (by omega) id _).mono ?_)
    | (rw [if_neg h]; rintro e w' ⟨rfl, rfl⟩; go_wp2_with fail; refine (lay0_c (q := q) (by omega) id _).mono ?_)
  all_goals
    rintro e w3 ⟨v3, rfl, ho3, hb3⟩
    have hc3 := bcell hb3
    have hz3 := hb3.size
    have hl3 : w.heap.size < w3.heap.size := by omega
    obtain ⟨a3, k3, rfl⟩ := Owns.slice ho3
    by_cases hnE : pNumE q id = 0
    rotate_left
    · have heb : (pNumE q id != 0) = true := by simpa using hnE
      go_wp2_with fail
      go_ret2
      exact pPut_nil _ (by rw [pPutE, if_neg hq, if_neg hn, if_neg (by omega), if_pos hnE]) hnE (Below.up hb hb3)
    rw [hnE]
    have ho2' := Owned.kept ho2 hb3 (Nat.le_refl _)
    have hs3 := ho3.bs
    replace hb := Below.up hb hb3
    clear h ho3 hb3
    by_cases hlen : (4096 : Int) - ((uPutB (sB T)).length + (pNumB q id).length) < X.size
    · have hspec : pPutE (sB T) (sB X) q id = 3 := by rw [pPutE, if_neg hq, if_neg hn, if_neg (by omega), if_neg (by omega), sB_len, if_pos hlen]
      have Hs := hd hspec; clear hspec
      generalize uPutB (sB T) = B2 at *
      generalize pNumB q id = B3 at *
      go_wp2_with (at_builtin; refine wp_appB rfl _ _ rfl w1.heap.size _ B2 rfl ho2' _ B3 rfl hs3 (by omega) (by omega) ?_; intro v4 w4 ho4 hb4; obtain ⟨a4, k4, rfl⟩ := Owns.slice ho4; rw [List.length_append] at ho4; have hc4 := bcell hb4; have hz4 := hb4.size; have hl4 : w.heap.size < w4.heap.size := (by omega))
      go_ret2
      exact pPut_nil 3 Hs.out (by decide) (hb.trans (hb4.mono (by omega)))
    have hspec : pPutE (sB T) (sB X) q id = 0 := by rw [pPutE, if_neg hq, if_neg hn, if_neg (by omega), if_neg (by omega), sB_len, if_neg hlen]
    have hspecB : pPutB (sB T) (sB X) q id = uPutB (sB T) ++ pNumB q id ++ sB X := by rw [pPutB, if_pos hspec]
    have Hs := hd hspec; have HsB := hd hspecB; clear hspec hspecB
    generalize uPutB (sB T) = B2 at *
    generalize pNumB q id = B3 at *
    go_wp2_with (first
      | (at_builtin; refine wp_appB rfl _ _ rfl w1.heap.size _ B2 rfl ho2' _ B3 rfl hs3 (by omega) (by omega) ?_; intro v4 w4 ho4 hb4; obtain ⟨a4, k4, rfl⟩ := Owns.slice ho4; rw [List.length_append] at ho4; have hc4 := bcell hb4; have hz4 := hb4.size; have hl4 : w.heap.size < w4.heap.size := (by omega); clear ho2')
      | (at_builtin; refine wp_appS rfl _ _ rfl w1.heap.size _ (B2 ++ B3) rfl ho4 X rfl (by rw [List.length_append]; omega) (by omega) ?_; intro v5 w5 ho5 hb5))
    go_ret2
    rw [Hs.out, HsB.out]
    exact ⟨_, rfl, Owned.le ho5 (Nat.le_of_lt hl1), hb.trans ((hb4.trans hb5).mono (Nat.le_of_lt hl1))⟩
end Go.Proofs.YtjlnlgemngpelaaGreatDoor

/- Faults of a head: errors.Is over them (after the kit's worked text on sentinels). -/
namespace Go.Proofs.YtjlnlgemngpelaaGreatDoor
open Go.RowKit Go.Extern.Stop Go.Stop Go.Extern
set_option linter.unusedVariables false
set_option linter.unusedSimpArgs false

/-- a fault, as an error -/
def fV (e : Int) : Value := .iface 140 (.agg #[.int .i64 e])

theorem fComp : (Tryz.prog.info? 140).map (·.comparable) = some true := by kernel_rfl
theorem fHeld : Tryz.prog.stoodInHeld 140 = false := by kernel_rfl
theorem fPart (x : Int) (w : World) : (part 27 #[.int .i64 x] 0).run Tryz.prog w = .ok (.int .i64 x) w := by kernel_rfl
theorem run_eqFault (a b : Int) (w : World) : (binOp .eql 87 (fV a) (fV b)).run Tryz.prog w = .ok (.bool (a == b)) w := by
  obtain ⟨i, hi, hcmp⟩ := Option.map_eq_some_iff.1 fComp
  have hs := fun d => run_equalIn_struct (P := Tryz.prog) w d 140 #[.int .i64 a] #[.int .i64 b] (by kernel_rfl) fHeld
  have h : ∀ d, (Op.equalIn (d + 3) 87 (fV a) (fV b)).run Tryz.prog w = .ok (a == b) w := by
    intro d
    unfold fV
    simp [Op.equalIn, run_underlying Tryz.underlying87, typeInfo, hi, hcmp]
    simp [fPart, Result.andThen]
    by_cases hab : a = b <;> simp [hab]
  unfold fV at h ⊢
  simp only [binOp]
  simp [Op.equal, Op.maxDepth, h 9997]

/-! ### what errors.Is asks of the target; of the method sets -/
theorem fTypeOf (e : Int) (w : World) : (Extern.ReflectliteType.typeOf #[fV e]).run Tryz.prog w = .ok (.iface 175 (.agg #[.pointer (some ⟨5, 140, none⟩)])) w := by kernel_rfl
def fCmp : Array Value → Sem Value := Extern.ReflectliteType.method fun t => do Extern.Rtype.noPackHeld "Comparable" t; pure (.bool (← typeInfo t).comparable)
theorem fComparable (w : World) : (fCmp #[.agg #[.pointer (some ⟨5, 140, none⟩)]]).run Tryz.prog w = .ok (.bool true) w := by kernel_rfl
theorem fMethodComparable (v : Value) (w : World) : (Go.method 271 175 v "Comparable").run Tryz.prog w = .ok (193, v) w := by kernel_rfl
theorem fNoIs (v : Value) (xT : TypeId) (w : World) : (Instr.typeAssert (.iface 140 v) xT 177 true).run Tryz.prog w = .ok (.tuple #[.nilIface, .bool false]) w := run_typeAssert_lacksB Tryz.underlying177 (by kernel_rfl) (by kernel_rfl) v xT w
theorem fNoUnwrap (v : Value) (xT : TypeId) (w : World) : (Instr.typeAssert (.iface 140 v) xT 180 true).run Tryz.prog w = .ok (.tuple #[.nilIface, .bool false]) w := run_typeAssert_lacksB Tryz.underlying180 (by kernel_rfl) (by kernel_rfl) v xT w
theorem fNoUnwraps (v : Value) (xT : TypeId) (w : World) : (Instr.typeAssert (.iface 140 v) xT 181 true).run Tryz.prog w = .ok (.tuple #[.nilIface, .bool false]) w := run_typeAssert_lacksB Tryz.underlying181 (by kernel_rfl) (by kernel_rfl) v xT w

set_option maxRecDepth 100000 in
set_option maxHeartbeats 4000000 in
theorem errIsNil_c (b : Int) (w : World) : Calls Tryz.prog 63 #[.nilIface, fV b] w fun e w' => e = .returned (.bool false) ∧ w' = w := by
  have hn := run_eql_iface_nil_left (P := Tryz.prog) w 140 (.agg #[.int .i64 b]) Tryz.underlying87
  unfold fV
  go_enter Tryz.func63, Tryz.ntmps63
  go_wp2_with fail
  go_ret
  exact ⟨rfl, rfl⟩

set_option maxRecDepth 100000 in
set_option maxHeartbeats 4000000 in
theorem errIs_c (a b : Int) (w : World) : Calls Tryz.prog 63 #[fV a, fV b] w fun e w' => e = .returned (.bool (a == b)) ∧ w' = w := by
  have h8 := @run_callFunc_extern Tryz.prog 84 _ Extern.ReflectliteType.typeOf Tryz.func84 (by kernel_rfl) (by kernel_rfl) (by kernel_rfl) (by kernel_rfl)
  have h32 := @run_callFunc_extern Tryz.prog 193 _ fCmp Tryz.func193 (by kernel_rfl) (by kernel_rfl) (by kernel_rfl) (by kernel_rfl)
  have tT := fTypeOf b
  have cT := fComparable
  have mR := fMethodComparable
  have nE := fNoIs
  have uE := fNoUnwrap
  have vE := fNoUnwraps
  have heq := run_eqFault a b w
  by_cases hab : a = b
  · subst hab
    rw [beq_self_eq_true] at heq ⊢
    unfold fV at tT heq ⊢
    go_enter Tryz.func63, Tryz.ntmps63
    go_wp2
    refine wp_loop_rounds 1 ?_
    rw [rounds_succ]
    go_wp2
    go_ret
    exact ⟨rfl, rfl⟩
  · have hb : (a == b) = false := by simpa using hab
    rw [hb] at heq ⊢
    unfold fV at tT heq ⊢
    go_enter Tryz.func63, Tryz.ntmps63
    go_wp2
    refine wp_loop_rounds 1 ?_
    rw [rounds_succ]
    go_wp2
    go_ret
    exact ⟨rfl, rfl⟩
end Go.Proofs.YtjlnlgemngpelaaGreatDoor

/- Faults of a head: errors.As at a fault's variable (after the kit's worked text on errors.As). -/
namespace Go.Proofs.YtjlnlgemngpelaaGreatDoor
open Go.RowKit Go.Extern.Stop Go.Stop Go.Extern
set_option linter.unusedVariables false
set_option linter.unusedSimpArgs false

def hP : Value := .pointer (some ⟨5, 146, none⟩)
def hF : Value := .pointer (some ⟨5, 140, none⟩)
/-- the variable of the package errors that every errors.As reads -/
def EnvR (w : World) : Prop := w.cell? ⟨1, 0, none⟩ = some (.iface 175 (.agg #[.pointer (some ⟨5, 87, none⟩)]))

theorem aValueOfP (t : Addr) (w : World) : (ReflectliteValue.unpack (.iface 146 (.pointer (some t)))).run Tryz.prog w
    = .ok (.agg #[.pointer (some ⟨5, 146, none⟩), .pointer (some ⟨w.heap.size, 0, none⟩), .int .u64 150]) (w.alloc (.cells #[.pointer (some t)] 146)) := by kernel_rfl
theorem aTypeP (a : Addr) (w : World) : (ReflectliteValue.methodAny (ReflectliteValue.valueError "reflectlite.Value.Type" 0) (fun t _ _ _ => ReflectliteType.toType t) #[.agg #[.pointer (some ⟨5, 146, none⟩), .pointer (some a), .int .u64 150]]).run Tryz.prog w
    = .ok (.iface 175 (.agg #[.pointer (some ⟨5, 146, none⟩)])) w := by kernel_rfl
theorem aMethodKind (h : Value) (w : World) : (Go.method 271 175 (.agg #[h]) "Kind").run Tryz.prog w = .ok (185, h) w := by kernel_rfl
def aKind : Array Value → Sem Value := ReflectliteType.abiMethod fun t => do pure (.int .u8 (← Rtype.kind t))
theorem aKindP (w : World) : (aKind #[.pointer (some ⟨5, 146, none⟩)]).run Tryz.prog w = .ok (.int .u8 22) w := by kernel_rfl
theorem aKindF (w : World) : (aKind #[.pointer (some ⟨5, 140, none⟩)]).run Tryz.prog w = .ok (.int .u8 25) w := by kernel_rfl
theorem rlm (z : Sem Value) (f : TypeId → Addr → Nat → Nat → Sem Value) (v : Value) :
    ReflectliteValue.method z f #[v] = (do match ← ReflectliteValue.parts v with | none => z | some (t, a, fl) => f t a fl (fl % 32)) := rfl
theorem aPartsP (a : Addr) (w : World) : (ReflectliteValue.parts (.agg #[.pointer (some ⟨5, 146, none⟩), .pointer (some a), .int .u64 150])).run Tryz.prog w = .ok (some (146, a, 150)) w := by kernel_rfl
theorem aIsNilP (a p : Addr) (W : World) (ha : W.cell? a = some (.pointer (some p))) :
    (ReflectliteValue.method (ReflectliteValue.valueError "reflectlite.Value.IsNil" 0) ReflectliteValue.isNil #[.agg #[.pointer (some ⟨5, 146, none⟩), .pointer (some a), .int .u64 150]]).run Tryz.prog W = .ok (.bool false) W := by
  rw [rlm]
  simp only [Sem.run_bind, aPartsP, Result.andThen]
  simp [ReflectliteValue.isNil, loadVar, isAgg, underlying, Tryz.underlying146, ha, Result.andThen]
theorem aMethodElem (h : Value) (w : World) : (Go.method 271 175 (.agg #[h]) "Elem").run Tryz.prog w = .ok (194, .agg #[h]) w := by kernel_rfl
theorem aMethodImplements (h : Value) (w : World) : (Go.method 271 175 (.agg #[h]) "Implements").run Tryz.prog w = .ok (195, .agg #[h]) w := by kernel_rfl
theorem aMethodAssignableTo (h : Value) (w : World) : (Go.method 271 175 (.agg #[h]) "AssignableTo").run Tryz.prog w = .ok (192, .agg #[h]) w := by kernel_rfl
theorem aElemP (w : World) : (ReflectliteType.method ReflectliteType.elem #[.agg #[.pointer (some ⟨5, 146, none⟩)]]).run Tryz.prog w = .ok (.iface 175 (.agg #[.pointer (some ⟨5, 140, none⟩)])) w := by kernel_rfl
theorem aImplements (w : World) : (ReflectliteType.relation "Implements" ReflectliteType.implements_ #[.agg #[.pointer (some ⟨5, 140, none⟩)], .iface 175 (.agg #[.pointer (some ⟨5, 87, none⟩)])]).run Tryz.prog w = .ok (.bool true) w := by kernel_rfl
theorem aTypeOfF (v : Value) (w : World) : (ReflectliteType.typeOf #[.iface 140 v]).run Tryz.prog w = .ok (.iface 175 (.agg #[.pointer (some ⟨5, 140, none⟩)])) w := by kernel_rfl
theorem aAssignable (w : World) : (ReflectliteType.relation "AssignableTo" ReflectliteType.assignableTo #[.agg #[.pointer (some ⟨5, 140, none⟩)], .iface 175 (.agg #[.pointer (some ⟨5, 140, none⟩)])]).run Tryz.prog w = .ok (.bool true) w := by kernel_rfl
theorem aValueOfF (e : Int) (w : World) : (ReflectliteValue.unpack (.iface 140 (.agg #[.int .i64 e]))).run Tryz.prog w
    = .ok (.agg #[.pointer (some ⟨5, 140, none⟩), .pointer (some ⟨w.heap.size, 0, none⟩), .int .u64 153]) (w.alloc (.cells #[.int .i64 e] 140)) := by kernel_rfl
theorem aElemOf (w : World) : (Rtype.elem? 146).run Tryz.prog w = .ok (some 140) w := by kernel_rfl
theorem aMk (p : Addr) (w : World) : (ReflectliteValue.mk 140 p ReflectliteValue.flagAddr).run Tryz.prog w = .ok (.agg #[.pointer (some ⟨5, 140, none⟩), .pointer (some p), .int .u64 409]) w := by kernel_rfl
theorem aElemV (a p : Addr) (W : World) (ha : W.cell? a = some (.pointer (some p))) :
    (ReflectliteValue.method (ReflectliteValue.valueError "reflectlite.Value.Elem" 0) ReflectliteValue.elem #[.agg #[.pointer (some ⟨5, 146, none⟩), .pointer (some a), .int .u64 150]]).run Tryz.prog W
      = .ok (.agg #[.pointer (some ⟨5, 140, none⟩), .pointer (some p), .int .u64 409]) W := by
  rw [rlm]
  simp only [Sem.run_bind, aPartsP, Result.andThen]
  simp [ReflectliteValue.elem, loadVar, isAgg, underlying, Tryz.underlying146, ha, Result.andThen, aElemOf, aMk]
theorem rls (v x : Value) : ReflectliteValue.set #[v, x] = (do
    let (some (dst, a, fl), some (src, b, _)) := (← ReflectliteValue.parts v, ← ReflectliteValue.parts x)
      | unsupported (.noEntry "extern/(internal/reflectlite.Value).Set.zeroValue")
    if fl / ReflectliteValue.flagAddr % 2 == 0 then unsupported (.noEntry "extern/(internal/reflectlite.Value).Set.unaddressable")
    let val ← loadVar src b
    if ← Rtype.directlyAssignable dst src then storeVar dst a val
    else if ← Rtype.implements dst src then
      if (← Rtype.kind src) == 20 then
        match val with
        | .nilIface => unsupported (.noEntry "extern/reflectlite: a nil value of one interface type handed on as a value of another")
        | _ => storeVar dst a val
      else storeVar dst a (.iface src val)
    else panicString ("reflectlite.Set: value of type " ++ (← Rtype.spelt src) ++ " is not assignable to type " ++ (← Rtype.spelt dst))
    pure (.tuple #[])) := rfl
theorem aPartsFa (a : Addr) (w : World) : (ReflectliteValue.parts (.agg #[.pointer (some ⟨5, 140, none⟩), .pointer (some a), .int .u64 409])).run Tryz.prog w = .ok (some (140, a, 409)) w := by kernel_rfl
theorem aPartsF (a : Addr) (w : World) : (ReflectliteValue.parts (.agg #[.pointer (some ⟨5, 140, none⟩), .pointer (some a), .int .u64 153])).run Tryz.prog w = .ok (some (140, a, 153)) w := by kernel_rfl
theorem aDirect (w : World) : (Rtype.directlyAssignable 140 140).run Tryz.prog w = .ok true w := by kernel_rfl
theorem aSize (w : World) : (sizeOf 140).run Tryz.prog w = .ok 1 w := by kernel_rfl
theorem aSet (tb b : Nat) (e : Int) (old : Value) (W : World) (hb : W.cell? ⟨b, 0, none⟩ = some (.int .i64 e)) (ht : W.cell? ⟨tb, 0, none⟩ = some old) (hf : W.frozen? ⟨tb, 0, none⟩ = false) :
    (ReflectliteValue.set #[.agg #[.pointer (some ⟨5, 140, none⟩), .pointer (some ⟨tb, 0, none⟩), .int .u64 409], .agg #[.pointer (some ⟨5, 140, none⟩), .pointer (some ⟨b, 0, none⟩), .int .u64 153]]).run Tryz.prog W
      = .ok (.tuple #[]) (W.setCell ⟨tb, 0, none⟩ (.int .i64 e)) := by
  rw [rls]
  simp only [Sem.run_bind, aPartsFa, aPartsF, Result.andThen]
  simp [ReflectliteValue.flagAddr, loadVar, isAgg, underlying, Tryz.underlying140, hb, Result.andThen, aDirect, aSize, storeVar, Value.cells, storeCells, Addr.add, go_sem]
  simp [ht, hf]

set_option maxRecDepth 100000 in
set_option maxHeartbeats 4000000 in
theorem errAs_c (e : Int) (tb : Nat) (old : Value) (w : World) (hg : EnvR w) (ht0 : w.cell? ⟨tb, 0, none⟩ = some old) (hf0 : w.frozen? ⟨tb, 0, none⟩ = false) :
    Calls Tryz.prog 86 #[fV e, .iface 146 (.pointer (some ⟨tb, 0, none⟩))] w fun ev w' => ev = .returned (.bool true) ∧ w' = ((((w.alloc (.cells #[.pointer (some ⟨tb, 0, none⟩)] 146)).alloc (.cells #[.pointer (some ⟨5, 146, none⟩), .pointer (some ⟨w.heap.size, 0, none⟩), .int .u64 150] 186)).alloc (.cells #[.pointer (some ⟨5, 146, none⟩), .pointer (some ⟨w.heap.size, 0, none⟩), .int .u64 150] 186)).alloc (.cells #[.int .i64 e] 140)).setCell ⟨tb, 0, none⟩ (.int .i64 e) := by
  have h6 := @run_callFunc_extern Tryz.prog 120 _ (fun args => ReflectliteValue.unpack (args.getD 0 (.tuple #[]))) Tryz.func120 (by kernel_rfl) (by kernel_rfl) (by kernel_rfl) (by kernel_rfl)
  have h7 := @run_callFunc_extern Tryz.prog 121 _ (ReflectliteValue.methodAny (ReflectliteValue.valueError "reflectlite.Value.Type" 0) (fun t _ _ _ => ReflectliteType.toType t)) Tryz.func121 (by kernel_rfl) (by kernel_rfl) (by kernel_rfl) (by kernel_rfl)
  have h8 := @run_callFunc_extern Tryz.prog 122 _ (ReflectliteValue.method (ReflectliteValue.valueError "reflectlite.Value.IsNil" 0) ReflectliteValue.isNil) Tryz.func122 (by kernel_rfl) (by kernel_rfl) (by kernel_rfl) (by kernel_rfl)
  have h27 := @run_callFunc_extern Tryz.prog 185 _ aKind Tryz.func185 (by kernel_rfl) (by kernel_rfl) (by kernel_rfl) (by kernel_rfl)
  have h37 := @run_callFunc_extern Tryz.prog 194 _ (ReflectliteType.method ReflectliteType.elem) Tryz.func194 (by kernel_rfl) (by kernel_rfl) (by kernel_rfl) (by kernel_rfl)
  have h38 := @run_callFunc_extern Tryz.prog 195 _ (ReflectliteType.relation "Implements" ReflectliteType.implements_) Tryz.func195 (by kernel_rfl) (by kernel_rfl) (by kernel_rfl) (by kernel_rfl)
  have h10 := @run_callFunc_extern Tryz.prog 84 _ ReflectliteType.typeOf Tryz.func84 (by kernel_rfl) (by kernel_rfl) (by kernel_rfl) (by kernel_rfl)
  have h35 := @run_callFunc_extern Tryz.prog 192 _ (ReflectliteType.relation "AssignableTo" ReflectliteType.assignableTo) Tryz.func192 (by kernel_rfl) (by kernel_rfl) (by kernel_rfl) (by kernel_rfl)
  have h11 := @run_callFunc_extern Tryz.prog 141 _ (ReflectliteValue.method (ReflectliteValue.valueError "reflectlite.Value.Elem" 0) ReflectliteValue.elem) Tryz.func141 (by kernel_rfl) (by kernel_rfl) (by kernel_rfl) (by kernel_rfl)
  have h12 := @run_callFunc_extern Tryz.prog 142 _ ReflectliteValue.set Tryz.func142 (by kernel_rfl) (by kernel_rfl) (by kernel_rfl) (by kernel_rfl)
  have tO := aTypeOfF
  have mA := aMethodAssignableTo
  have a25 := aAssignable
  have v25 := aValueOfF e
  have f6 := aValueOfP
  have f7 := aTypeP
  have mK := aMethodKind
  have mE := aMethodElem
  have mI := aMethodImplements
  have k27 := aKindP
  have k25 := aKindF
  have e27 := aElemP
  have i25 := aImplements
  unfold EnvR at hg
  have n8 := aIsNilP ⟨w.heap.size, 0, none⟩ ⟨tb, 0, none⟩ ((w.alloc (.cells #[.pointer (some ⟨tb, 0, none⟩)] 146)).alloc (.cells #[.pointer (some ⟨5, 146, none⟩), .pointer (some ⟨w.heap.size, 0, none⟩), .int .u64 150] 186)) (by simp)
  have hlt : 1 < w.heap.size := by
    rcases Nat.lt_or_ge 1 w.heap.size with h | h
    · exact h
    · simp [World.cell?, Array.getElem?_eq_none h] at hg
  have hg2 : ((w.alloc (.cells #[.pointer (some ⟨tb, 0, none⟩)] 146)).alloc (.cells #[.pointer (some ⟨5, 146, none⟩), .pointer (some ⟨w.heap.size, 0, none⟩), .int .u64 150] 186)).cell? ⟨1, 0, none⟩ = some (.iface 175 (.agg #[.pointer (some ⟨5, 87, none⟩)])) := by
    rw [World.cell?_alloc_lt _ _ ⟨1, 0, none⟩ (by simp <;> omega), World.cell?_alloc_lt _ _ ⟨1, 0, none⟩ hlt]; exact hg
  have htl : tb < w.heap.size := by
    rcases Nat.lt_or_ge tb w.heap.size with h | h
    · exact h
    · simp [World.cell?, Array.getElem?_eq_none h] at ht0
  have el := aElemV ⟨w.heap.size, 0, none⟩ ⟨tb, 0, none⟩ (((w.alloc (.cells #[.pointer (some ⟨tb, 0, none⟩)] 146)).alloc (.cells #[.pointer (some ⟨5, 146, none⟩), .pointer (some ⟨w.heap.size, 0, none⟩), .int .u64 150] 186)).alloc (.cells #[.pointer (some ⟨5, 146, none⟩), .pointer (some ⟨w.heap.size, 0, none⟩), .int .u64 150] 186)) (by rw [World.cell?_alloc_lt _ _ ⟨w.heap.size, 0, none⟩ (by simp; omega)]; simp)
  have st := aSet tb (w.heap.size + 1 + 1 + 1) e old ((((w.alloc (.cells #[.pointer (some ⟨tb, 0, none⟩)] 146)).alloc (.cells #[.pointer (some ⟨5, 146, none⟩), .pointer (some ⟨w.heap.size, 0, none⟩), .int .u64 150] 186)).alloc (.cells #[.pointer (some ⟨5, 146, none⟩), .pointer (some ⟨w.heap.size, 0, none⟩), .int .u64 150] 186)).alloc (.cells #[.int .i64 e] 140))
    (by rw [World.cell?_alloc_at _ _ _ _ (by simp)]; rfl)
    (by rw [World.cell?_alloc_lt _ _ ⟨tb, 0, none⟩ (by simp; omega), World.cell?_alloc_lt _ _ ⟨tb, 0, none⟩ (by simp; omega), World.cell?_alloc_lt _ _ ⟨tb, 0, none⟩ (by simp; omega), World.cell?_alloc_lt _ _ ⟨tb, 0, none⟩ htl]; exact ht0)
    (by rw [World.frozen?_alloc_old _ _ ⟨tb, 0, none⟩ (by simp; omega), World.frozen?_alloc_old _ _ ⟨tb, 0, none⟩ (by simp; omega), World.frozen?_alloc_old _ _ ⟨tb, 0, none⟩ (by simp; omega), World.frozen?_alloc_old _ _ ⟨tb, 0, none⟩ (Nat.ne_of_lt htl)]; exact hf0)
  unfold fV
  go_enter Tryz.func86, Tryz.ntmps86
  go_wp2
  refine wp_loop_rounds 1 ?_
  rw [rounds_succ]
  go_wp2
  go_ret
  exact ⟨rfl, rfl⟩
end Go.Proofs.YtjlnlgemngpelaaGreatDoor
