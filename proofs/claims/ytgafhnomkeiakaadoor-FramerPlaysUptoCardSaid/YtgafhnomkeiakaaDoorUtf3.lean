/- Texts: numbers in two bytes, raw bytes and texts, laid and got: the walks. -/
import Derived.Test.YtgafhnomkeiakaaDoorUtf2
import Derived.Lib.QuoteBits
namespace Go.Proofs.YtgafhnomkeiakaaDoor
open Go.RowKit
set_option linter.unusedVariables false

def uPut2B (n : Int) : List UInt8 := if n < 0 ∨ 65535 < n then [] else [B8 (n.toNat / 256), B8 (n.toNat % 256)]
def uPut2E (n : Int) : Int := if n < 0 ∨ 65535 < n then 1 else 0
/-- number, the place behind, the error -/
def uGet2 (l : List UInt8) (at' : Int) : Int × Int × Int :=
  if at' < 0 ∨ (l.length : Int) < at' then (0, 0, 1)
  else if (l.length : Int) - at' < 2 then (0, 0, 2)
  else (256 * (bN l at'.toNat : Int) + bN l (at'.toNat + 1), at' + 2, 0)

/-- raw bytes, laid -/
def uPutRawB (l : List UInt8) : List UInt8 := if 65535 < l.length then [] else uPut2B l.length ++ l
def uPutRawE (l : List UInt8) : Int := if 65535 < l.length then 3 else 0
/-- raw bytes, got: the text, the place behind, the error -/
def uGetRaw (l : List UInt8) (at' : Int) : List UInt8 × Int × Int :=
  if (uGet2 l at').2.2 ≠ 0 then ([], 0, (uGet2 l at').2.2)
  else if (l.length : Int) - (uGet2 l at').2.1 < (uGet2 l at').1 then ([], 0, 2)
  else ((l.drop (uGet2 l at').2.1.toNat).take (uGet2 l at').1.toNat, (uGet2 l at').2.1 + (uGet2 l at').1, 0)
def uPutB (l : List UInt8) : List UInt8 := if uRight l = true then uPutRawB l else []
def uPutE (l : List UInt8) : Int := if 65535 < l.length then 3 else if uRight l = true then 0 else 9
def uGet (l : List UInt8) (at' : Int) : List UInt8 × Int × Int :=
  if (uGetRaw l at').2.2 ≠ 0 then ([], 0, (uGetRaw l at').2.2)
  else if uRight (uGetRaw l at').1 = false then ([], 0, 9)
  else uGetRaw l at'
theorem uGet2_ok {l : List UInt8} {at' : Int} (h : (uGet2 l at').2.2 = 0) : 0 ≤ at' ∧ at' + 2 ≤ l.length ∧ (uGet2 l at').2.1 = at' + 2 ∧ 0 ≤ (uGet2 l at').1 ∧ (uGet2 l at').1 ≤ 65535 := by
  unfold uGet2 at h ⊢
  have := bN_lt l at'.toNat
  have := bN_lt l (at'.toNat + 1)
  repeat' split
  all_goals (simp_all <;> omega)

/-- The bytes of a list as a string. -/
def sOf (l : List UInt8) : ByteArray := ⟨l.toArray⟩
theorem sB_sOf (l : List UInt8) : sB (sOf l) = l := rfl
theorem sOf_size (l : List UInt8) : (sOf l).size = l.length := by rw [← sB_len, sB_sOf]

theorem or_join (x y : Nat) (hx : x < 256) (hy : y < 256) : bits .or .i64 ((x : Int) * 256) (y : Int) = 256 * (x : Int) + y := by
  have h := bits_join .i64 16 (by decide) (fun n h0 h1 => by
    obtain ⟨m, rfl⟩ := Int.eq_ofNat_of_zero_le h0
    have hm : m < 65536 := by have : (m : Int) < 65536 := h1; omega
    exact Lib.wrap_i64_small m (by omega)) 8 ((x : Int) * 256) (y : Int) (by omega) (by simp) (by simp; omega) (by omega) (by simp; omega) (by simp; omega)
  rw [h]
  omega

set_option maxRecDepth 100000 in
set_option maxHeartbeats 1000000 in
theorem Put2_c (n : Int) (w : World) : Calls Tryd.prog 53 #[.int .i64 n] w (GivesB w (uPut2B n) (uPut2E n)) := by
  obtain ⟨rE, hrE⟩ : ∃ r, uPut2E n = r := ⟨_, rfl⟩
  obtain ⟨rB, hrB⟩ : ∃ r, uPut2B n = r := ⟨_, rfl⟩
  rw [hrE, hrB]
  unfold uPut2E at hrE
  unfold uPut2B at hrB
  by_cases hn : n < 0 ∨ 65535 < n
  · rw [if_pos hn] at hrE hrB
    subst hrE hrB
    rcases hn with hn | hn
    all_goals
      go_enter Tryd.func53, Tryd.ntmps53
      go_wp2_with fail
      go_ret2
      exact GivesB.nil (by go_grown)
  · rw [if_neg hn] at hrE hrB
    subst hrE
    obtain ⟨n, rfl⟩ := Int.eq_ofNat_of_zero_le (show 0 ≤ n by omega)
    simp only [Int.toNat_natCast] at hrB
    have HB := hd hrB; clear hrB
    go_enter Tryd.func53, Tryd.ntmps53
    go_wp2_with fail
    go_ret2
    rw [← HB.out]
    exact ⟨_, rfl, owned_lit w.heap.size w [B8 (n / 256), B8 (n % 256)] w.heap.size rfl (Nat.le_refl _) (by unfold maxLen; simp) [Value.int .u8 ((n : Int) / 256), Value.int .u8 ((n : Int) % 256)]
      (by simp only [List.map]; rw [byteV_B8 (x := (n : Int) / 256) (by omega) (by omega), byteV_B8 (x := (n : Int) % 256) (by omega) (by omega)]) 2 rfl, by go_grown⟩

set_option maxRecDepth 100000 in
set_option maxHeartbeats 1000000 in
theorem Get2_c (v : Value) (l : List UInt8) (at' : Int) (w : World) (hv : Bs w v l) :
    Calls Tryd.prog 58 #[v, .int .i64 at'] w fun e w' => e = .returned (.tuple #[.int .i64 (uGet2 l at').1, .int .i64 (uGet2 l at').2.1, .int .i64 (uGet2 l at').2.2]) ∧ Below w.heap.size w w' := by
  obtain ⟨r, hr⟩ : ∃ r, uGet2 l at' = r := ⟨_, rfl⟩
  rw [hr]
  unfold uGet2 at hr
  by_cases h1 : at' < 0 ∨ (l.length : Int) < at'
  · rw [if_pos h1] at hr
    subst hr
    rcases hv.split with ⟨rfl, a, c, rfl, hc⟩ | ⟨hpos, b, o, c, rfl, hc1, hc2, hlt, hcell⟩
    all_goals
      rcases h1 with h1 | h1
      all_goals
        go_enter Tryd.func58, Tryd.ntmps58
        go_wp2_with fail
        go_ret3
        exact ⟨rfl, by go_grown⟩
  · rw [if_neg h1] at hr
    obtain ⟨k, rfl⟩ := Int.eq_ofNat_of_zero_le (show 0 ≤ at' by omega)
    by_cases h2 : (l.length : Int) - k < 2
    · rw [if_pos h2] at hr
      subst hr
      rcases hv.split with ⟨rfl, a, c, rfl, hc⟩ | ⟨hpos, b, o, c, rfl, hc1, hc2, hlt, hcell⟩
      · obtain rfl : k = 0 := by simp at h1; omega
        go_enter Tryd.func58, Tryd.ntmps58
        go_wp2_with fail
        go_ret3
        exact ⟨rfl, by go_grown⟩
      · unfold maxLen at *
        go_enter Tryd.func58, Tryd.ntmps58
        go_wp2_with fail
        go_ret3
        exact ⟨rfl, by go_grown⟩
    · rw [if_neg h2] at hr
      subst hr
      rw [Int.toNat_natCast]
      rcases hv.split with ⟨rfl, a, c, rfl, hc⟩ | ⟨hpos, b, o, c, rfl, hc1, hc2, hlt, hcell⟩
      · simp at h2; omega
      have hc0 := hcell k (by omega)
      have hc1' := hcell (k + 1) (by omega)
      have b0 := bN_lt l k
      have b1 := bN_lt l (k + 1)
      have hor := or_join _ _ b0 b1
      clear hcell hv
      unfold maxLen at *
      generalize bN l k = x0 at *
      generalize bN l (k + 1) = x1 at *
      go_enter Tryd.func58, Tryd.ntmps58
      go_wp2_with fail
      go_region
      go_wp2_with fail
      go_ret3
      exact ⟨rfl, by go_grown⟩

set_option maxRecDepth 100000 in
set_option maxHeartbeats 1000000 in
theorem refPut2_c (n : Int) (w : World) : Calls Tryd.prog 55 #[.int .i64 n] w (GivesB w (uPut2B n) (uPut2E n)) := by
  obtain ⟨rE, hrE⟩ : ∃ r, uPut2E n = r := ⟨_, rfl⟩
  obtain ⟨rB, hrB⟩ : ∃ r, uPut2B n = r := ⟨_, rfl⟩
  rw [hrE, hrB]
  unfold uPut2E at hrE
  unfold uPut2B at hrB
  by_cases hn : n < 0 ∨ 65535 < n
  · rw [if_pos hn] at hrE hrB
    subst hrE hrB
    rcases hn with hn | hn
    all_goals
      go_enter Tryd.func55, Tryd.ntmps55
      go_wp2_with fail
      go_ret2
      exact GivesB.nil (by go_grown)
  · rw [if_neg hn] at hrE hrB
    subst hrE
    obtain ⟨n, rfl⟩ := Int.eq_ofNat_of_zero_le (show 0 ≤ n by omega)
    simp only [Int.toNat_natCast] at hrB
    have HB := hd hrB; clear hrB
    go_enter Tryd.func55, Tryd.ntmps55
    go_wp2_with fail
    go_ret2
    rw [← HB.out]
    exact ⟨_, rfl, owned_lit w.heap.size w [B8 (n / 256), B8 (n % 256)] w.heap.size rfl (Nat.le_refl _) (by unfold maxLen; simp) [Value.int .u8 ((n : Int) / 256), Value.int .u8 ((n : Int) % 256)]
      (by simp only [List.map]; rw [byteV_B8 (x := (n : Int) / 256) (by omega) (by omega), byteV_B8 (x := (n : Int) % 256) (by omega) (by omega)]) 2 rfl, by go_grown⟩

set_option maxRecDepth 100000 in
set_option maxHeartbeats 1000000 in
theorem refGet2_c (v : Value) (l : List UInt8) (at' : Int) (w : World) (hv : Bs w v l) :
    Calls Tryd.prog 70 #[v, .int .i64 at'] w fun e w' => e = .returned (.tuple #[.int .i64 (uGet2 l at').1, .int .i64 (uGet2 l at').2.1, .int .i64 (uGet2 l at').2.2]) ∧ Below w.heap.size w w' := by
  obtain ⟨r, hr⟩ : ∃ r, uGet2 l at' = r := ⟨_, rfl⟩
  rw [hr]
  unfold uGet2 at hr
  by_cases h1 : at' < 0 ∨ (l.length : Int) < at'
  · rw [if_pos h1] at hr
    subst hr
    rcases hv.split with ⟨rfl, a, c, rfl, hc⟩ | ⟨hpos, b, o, c, rfl, hc1, hc2, hlt, hcell⟩
    all_goals
      rcases h1 with h1 | h1
      all_goals
        go_enter Tryd.func70, Tryd.ntmps70
        go_wp2_with fail
        go_ret3
        exact ⟨rfl, by go_grown⟩
  · rw [if_neg h1] at hr
    obtain ⟨k, rfl⟩ := Int.eq_ofNat_of_zero_le (show 0 ≤ at' by omega)
    by_cases h2 : (l.length : Int) - k < 2
    · rw [if_pos h2] at hr
      subst hr
      rcases hv.split with ⟨rfl, a, c, rfl, hc⟩ | ⟨hpos, b, o, c, rfl, hc1, hc2, hlt, hcell⟩
      · obtain rfl : k = 0 := by simp at h1; omega
        go_enter Tryd.func70, Tryd.ntmps70
        go_wp2_with fail
        go_ret3
        exact ⟨rfl, by go_grown⟩
      · unfold maxLen at *
        go_enter Tryd.func70, Tryd.ntmps70
        go_wp2_with fail
        go_ret3
        exact ⟨rfl, by go_grown⟩
    · rw [if_neg h2] at hr
      subst hr
      rw [Int.toNat_natCast]
      rcases hv.split with ⟨rfl, a, c, rfl, hc⟩ | ⟨hpos, b, o, c, rfl, hc1, hc2, hlt, hcell⟩
      · simp at h2; omega
      have hc0 := hcell k (by omega)
      have hc1' := hcell (k + 1) (by omega)
      have b0 := bN_lt l k
      have b1 := bN_lt l (k + 1)
      have hor := or_join _ _ b0 b1
      clear hcell hv
      unfold maxLen at *
      generalize bN l k = x0 at *
      generalize bN l (k + 1) = x1 at *
      go_enter Tryd.func70, Tryd.ntmps70
      go_wp2_with fail
      go_region
      go_wp2_with fail
      go_ret3
      exact ⟨rfl, by go_grown⟩

end Go.Proofs.YtgafhnomkeiakaaDoor
