/- Texts: which bytes are a text: the walks of both Rights. -/
import Derived.Test.YtopopdghmfbciaaDoorUtf
import Derived.Test.YtopopdghmfbciaaDoorShelf
import Derived.Lib.MapLaws
namespace Go.Proofs.YtopopdghmfbciaaDoor
open Go.RowKit
set_option linter.unusedVariables false

/-- The tables of utf8 lie. -/
def EnvU (w : World) : Prop := Lib.Utf8Tabs 2 3 w
theorem EnvU.below {w w' : World} (h : EnvU w) (hb : Below w.heap.size w w') : EnvU w' := Utf8Tabs_below h hb

theorem valid_c (s : ByteArray) (w : World) (hs : s.size ≤ 9223372036854775807) (hE : EnvU w) :
    Calls Tryd.prog 76 #[.string s] w fun e w' => e = .returned (.bool (Lib.validD (sB s))) ∧ Below w.heap.size w w' :=
  Any.utf8_ValidString Tryd.laysValid s w hs hE

/-- One step of a range over a string's runes. -/
theorem range_left (l : List UInt8) (i : Nat) (hi : i < l.length) :
    ((Lib.decodeL (l.drop i)).1 = 0 → zeroIn (l.drop i) = true) ∧
    ((Lib.decodeL (l.drop i)).1 ≠ 0 → zeroIn (l.drop i) = zeroIn (l.drop (i + (Lib.decodeL (l.drop i)).2))) ∧
    1 ≤ (Lib.decodeL (l.drop i)).2 ∧ i + (Lib.decodeL (l.drop i)).2 ≤ l.length ∧ (Lib.decodeL (l.drop i)).1 ≤ 1114111 := by
  rw [Lib.decodeL_N]
  have e0 : ((l.drop i).getD 0 0).toNat = bN l i := by have := bN_drop l i 0; rw [Nat.add_zero] at this; exact this
  have e1 : ((l.drop i).getD 1 0).toNat = bN l (i + 1) := bN_drop l i 1
  have e2 : ((l.drop i).getD 2 0).toNat = bN l (i + 2) := bN_drop l i 2
  have e3 : ((l.drop i).getD 3 0).toNat = bN l (i + 3) := bN_drop l i 3
  rw [e0, e1, e2, e3, List.length_drop]
  have z0 : bN l i = 0 → zeroIn (l.drop i) = true := fun h => zeroIn_hit (by rw [List.length_drop]; omega) (by rw [bN_drop, Nat.add_zero]; exact h)
  have zn : ∀ n, i + n ≤ l.length → (∀ j, j < n → bN l (i + j) ≠ 0) → zeroIn (l.drop i) = zeroIn (l.drop (i + n)) := fun n hn hb => by
    have := zeroIn_drop n (l.drop i) (by rw [List.length_drop]; omega) (fun j hj => by rw [bN_drop]; exact hb j hj)
    rw [List.drop_drop] at this
    exact this
  have b0 := bN_lt l i
  have hz1 : bN l i ≠ 0 → zeroIn (l.drop i) = zeroIn (l.drop (i + 1)) := fun h => zn 1 (by omega) (fun j hj => by
    match j, hj with
    | 0, _ => exact h)
  have hz2 : i + 2 ≤ l.length → bN l i ≠ 0 → bN l (i + 1) ≠ 0 → zeroIn (l.drop i) = zeroIn (l.drop (i + 2)) := fun h h0 h1 => zn 2 h (fun j hj => by
    match j, hj with
    | 0, _ => exact h0
    | 1, _ => exact h1)
  have hz3 : i + 3 ≤ l.length → bN l i ≠ 0 → bN l (i + 1) ≠ 0 → bN l (i + 2) ≠ 0 → zeroIn (l.drop i) = zeroIn (l.drop (i + 3)) := fun h h0 h1 h2 => zn 3 h (fun j hj => by
    match j, hj with
    | 0, _ => exact h0
    | 1, _ => exact h1
    | 2, _ => exact h2)
  have hz4 : i + 4 ≤ l.length → bN l i ≠ 0 → bN l (i + 1) ≠ 0 → bN l (i + 2) ≠ 0 → bN l (i + 3) ≠ 0 → zeroIn (l.drop i) = zeroIn (l.drop (i + 4)) := fun h h0 h1 h2 h3 => zn 4 h (fun j hj => by
    match j, hj with
    | 0, _ => exact h0
    | 1, _ => exact h1
    | 2, _ => exact h2
    | 3, _ => exact h3)
  clear zn e0 e1 e2 e3
  have hz : ∀ r n, Lib.decodeN (l.length - i) (bN l i) (bN l (i + 1)) (bN l (i + 2)) (bN l (i + 3)) = (r, n) → r ≠ 0 → bN l i ≠ 0 := fun r n h hr h0 => by
    rw [h0] at h
    unfold Lib.decodeN at h
    rw [if_pos (by omega)] at h
    exact hr (Prod.mk.inj h).1.symm
  rcases Lib.decodeN_shape (l.length - i) (bN l i) (bN l (i + 1)) (bN l (i + 2)) (bN l (i + 3)) with ⟨c, e⟩ | ⟨c1, c2, c3, cv, e⟩ | ⟨c1, c2, c3, c4, cv, cs, e⟩ | ⟨c1, c2, c3, c4, c5, cv, cw, e⟩ | e
  · rw [e]
    exact ⟨fun h => z0 h, fun h => hz1 h, by omega, by simp only; omega, by simp only; omega⟩
  · rw [e]
    exact ⟨fun h => by simp only at h; omega, fun h => hz2 (by omega) (by omega) (by omega), by omega, by simp only; omega, by simp only; omega⟩
  · rw [e]
    exact ⟨fun h => by simp only at h; omega, fun h => hz3 (by omega) (by omega) (by omega) (by omega), by omega, by simp only; omega, by simp only; omega⟩
  · rw [e]
    exact ⟨fun h => by simp only at h; omega, fun h => hz4 (by omega) (by omega) (by omega) (by omega) (by omega), by omega, by simp only; omega, by simp only; omega⟩
  · have := hz _ _ e (by decide)
    rw [e]
    exact ⟨fun h => by simp at h, fun h => hz1 this, by omega, by simp only; omega, by simp only; omega⟩

def leftOf (s : ByteArray) : Value → Nat
  | .int _ k => ((s.size : Int) - k).toNat
  | _ => 0

set_option maxRecDepth 100000 in
set_option maxHeartbeats 4000000 in
theorem refRight_c (s : ByteArray) (w : World) (hs : s.size ≤ 9223372036854775000) :
    Calls Tryd.prog 74 #[.string s] w fun e w' => e = .returned (.bool (uRight (sB s))) ∧ Below w.heap.size w w' := by
  obtain ⟨r, hr⟩ : ∃ r, uRight (sB s) = r := ⟨_, rfl⟩
  rw [hr]
  unfold uRight at hr
  rw [sB_len] at hr
  by_cases hlen : s.size ≤ 65535
  · rw [decide_eq_true hlen, Bool.true_and] at hr
    go_enter Tryd.func74, Tryd.ntmps74
    go_wp2_with fail
    go_loopw [3] (fun n w' => ∃ k : Nat, n = .int .i64 k ∧ k ≤ s.size ∧ Below w.heap.size w w' ∧ (Lib.validD ((sB s).drop k) && !zeroIn ((sB s).drop k)) = r) (fun n _ => leftOf s n)
    case atStart => exact ⟨0, rfl, by omega, by go_grown, by simpa using hr⟩
    case round =>
      obtain ⟨k, rfl, hk, hb, hc⟩ := hrel
      by_cases hks : k < s.size
      · go_wp2_with fail
        refine (step_c s k k rfl hks hs _).mono ?_
        rintro e w' ⟨rfl, hb2⟩
        have hst := step_left (sB s) k (by rw [sB_len]; exact hks)
        rw [sB_len] at hst
        generalize stepL (sB s) k = q at hst ⊢
        obtain ⟨qn, qr⟩ := q
        simp only at hst ⊢
        obtain ⟨hs0, hs1⟩ := hst
        have hbw := hb.trans (hb2.mono hb.size)
        by_cases hq : qn = 0
        · have hv := hs0 hq
          rw [hv, Bool.false_and] at hc
          subst hc hq
          clear hs1
          go_wp2_with fail
          go_ret
          exact ⟨rfl, by go_grown⟩
        · obtain ⟨n, rfl, hn1, hn2, hv, hz0, hz1⟩ := hs1 hq
          rw [hv] at hc
          by_cases hr0 : qr = 0
          · rw [hz0 hr0, Bool.not_true, Bool.and_false] at hc
            subst hc hr0
            clear hs0 hz1
            go_wp2_with fail
            go_ret
            exact ⟨rfl, by go_grown⟩
          · rw [hz1 hr0] at hc
            have hr0b : (qr == 0) = false := by simpa using hr0
            clear hs0 hz0 hz1
            go_wp2_with fail
            go_roundw
            case rel => exact ⟨k + n, by congr 1, by omega, by go_grown, hc⟩
            case measure => simp [leftOf]; omega
      · go_wp2_with fail
        go_ret
        have : k = s.size := by omega
        subst this
        rw [List.drop_of_length_le (by rw [sB_len]; omega)] at hc
        exact ⟨by rw [← hc]; rfl, by go_grown⟩
  · rw [decide_eq_false hlen, Bool.false_and] at hr
    subst hr
    go_enter Tryd.func74, Tryd.ntmps74
    go_wp2_with fail
    go_ret
    exact ⟨rfl, by go_grown⟩

set_option maxRecDepth 100000 in
set_option maxHeartbeats 4000000 in
theorem Right_c (s : ByteArray) (w : World) (hE : EnvU w) (hs : s.size ≤ 9223372036854775000) :
    Calls Tryd.prog 65 #[.string s] w fun e w' => e = .returned (.bool (uRight (sB s))) ∧ Below w.heap.size w w' := by
  obtain ⟨r, hr⟩ : ∃ r, uRight (sB s) = r := ⟨_, rfl⟩
  rw [hr]
  unfold uRight at hr
  rw [sB_len] at hr
  by_cases hlen : s.size ≤ 65535
  · rw [decide_eq_true hlen, Bool.true_and] at hr
    have HE := hd hE; clear hE
    go_enter Tryd.func65, Tryd.ntmps65
    go_wp2_with fail
    refine (valid_c s _ (by omega) (HE.out.below (by go_grown))).mono ?_
    rintro e w1 ⟨rfl, hb1⟩
    have hb1' : Below w.heap.size w w1 := by go_grown
    cases hv : Lib.validD (sB s) with
    | false =>
      rw [hv, Bool.false_and] at hr
      subst hr
      go_wp2_with fail
      go_ret
      exact ⟨rfl, by go_grown⟩
    | true =>
      rw [hv, Bool.true_and] at hr
      go_wp2_with fail
      go_loopw [4] (fun _ w' => ∃ pos : Nat, w' = w1.iter s pos ∧ pos ≤ s.size ∧ (!zeroIn ((sB s).drop pos)) = r) (fun _ w' => s.size - w'.iterPos w1.heap.size)
      case atStart => exact ⟨0, rfl, by omega, by simpa using hr⟩
      case round =>
        obtain ⟨pos, rfl, hp1, hc⟩ := hrel
        by_cases hp : pos < s.size
        · have hnx : ∀ ty, (Instr.next (.pointer (some ⟨w1.heap.size, 0, none⟩)) true ty).run Tryd.prog (w1.iter s pos) = _ := fun ty => run_next_any w1 s pos ty hp
          have hst := range_left (sB s) pos (by rw [sB_len]; exact hp)
          rw [sB_len] at hst
          have hdd : Lib.decodeL ((sB s).drop pos) = Utf8.decode s pos := Lib.decodeL_drop s pos
          rw [hdd] at hst
          generalize Utf8.decode s pos = q at hst hnx
          obtain ⟨qr, qn⟩ := q
          simp only at hst hnx
          obtain ⟨hs0, hs1, hn1, hn2, hq⟩ := hst
          by_cases hr0 : qr = 0
          · rw [hs0 hr0] at hc
            subst hc hr0
            clear hs1
            go_wp2_with fail
            go_ret
            exact ⟨rfl, hb1'.alloc hb1'.size (.stringIter s (pos + qn))⟩
          · rw [hs1 hr0] at hc
            have hr0b : ((qr : Int) == 0) = false := by simpa using hr0
            clear hs0 hs1
            go_wp2_with fail
            go_roundw
            case rel => exact ⟨pos + qn, rfl, by omega, hc⟩
            case measure => simp; omega
        · have hnx : ∀ ty, (Instr.next (.pointer (some ⟨w1.heap.size, 0, none⟩)) true ty).run Tryd.prog (w1.iter s pos) = _ := fun ty => run_next_end w1 s pos ty hp
          go_wp2_with fail
          go_ret
          have : pos = s.size := by omega
          subst this
          rw [List.drop_of_length_le (by rw [sB_len]; omega)] at hc
          exact ⟨by rw [← hc]; rfl, hb1'.alloc hb1'.size (.stringIter s s.size)⟩
  · rw [decide_eq_false hlen, Bool.false_and] at hr
    subst hr
    go_enter Tryd.func65, Tryd.ntmps65
    go_wp2_with fail
    go_ret
    exact ⟨rfl, by go_grown⟩

end Go.Proofs.YtopopdghmfbciaaDoor
