/- Spots and topics: words, kinds, parts: the walks of the program. -/
import Derived.Test.YtopopdghmfbciaaDoorSpPlain
import Derived.Test.YtopopdghmfbciaaDoorRegionT
import Derived.Laws.EntriesVeiled
namespace Go.Proofs.YtopopdghmfbciaaDoor
open Go.RowKit
set_option linter.unusedVariables false
set_option linter.unusedSimpArgs false

def EnvW (w : World) : Prop := 0 < w.heap.size ∧ ∀ i : Nat, i < 10 → w.cell? ⟨0, i, none⟩ = some (.string (sOf (wordT.getD i [])))
theorem EnvW.below {B : Nat} {w w' : World} (h : EnvW w) (hb : Below B w w') (hB : w.heap.size ≤ B) : EnvW w' :=
  ⟨Nat.lt_of_lt_of_le h.1 hb.size, fun i hi => (bcell hb _ _ (by have := h.1; omega)).trans (h.2 i hi)⟩
theorem EnvW.at {w : World} (h : EnvW w) {i : Nat} (hi : i < 10) : w.cell? ⟨0, i, none⟩ = some (.string (sOf (wordT.getD i []))) := h.2 i hi

set_option maxRecDepth 100000 in
set_option maxHeartbeats 1000000 in
theorem Word_c (k : Int) (w : World) (hW : EnvW w) : Calls Tryd.prog 37 #[.int .i64 k] w fun e w' => e = .returned (.string (sOf (sWord k))) ∧ w = w' := by
  by_cases h0 : k < 0
  · have : sWord k = [] := by unfold sWord; rw [if_neg (by omega)]
    rw [this]
    go_enter Tryd.func37, Tryd.ntmps37
    go_wp2_with fail
    go_ret
    exact ⟨rfl, rfl⟩
  by_cases h9 : 9 < k
  · have : sWord k = [] := by unfold sWord; rw [if_neg (by omega)]
    rw [this]
    go_enter Tryd.func37, Tryd.ntmps37
    go_wp2_with fail
    go_ret
    exact ⟨rfl, rfl⟩
  obtain ⟨n, rfl⟩ := Int.eq_ofNat_of_zero_le (show 0 ≤ k by omega)
  have : sWord (n : Int) = wordT.getD n [] := by unfold sWord; rw [if_pos (by omega), Int.toNat_natCast]
  rw [this]
  have hn : n < 10 := by omega
  have hc := hW.at hn
  generalize wordT.getD n [] = x at *
  clear hW this h0 h9
  have h0 : ¬ (n : Int) < 0 := by omega
  have h9 : ¬ 9 < (n : Int) := by omega
  have h10 : (n : Int) < 10 := by omega
  go_enter Tryd.func37, Tryd.ntmps37
  go_wp2_with fail
  go_ret
  exact ⟨rfl, rfl⟩

set_option maxRecDepth 100000 in
set_option maxHeartbeats 1000000 in
theorem Kind_c (l : List UInt8) (w : World) (hW : EnvW w) : Calls Tryd.prog 39 #[.string (sOf l)] w fun e w' => e = .returned (.int .i64 (sKind l)) ∧ w = w' := by
  obtain ⟨r, hr⟩ : ∃ r, kFrom l 9 1 = r := ⟨_, rfl⟩
  have : sKind l = (r : Nat) := by unfold sKind; rw [hr]
  rw [this]
  clear this
  have HW := hd hW
  clear hW
  have htl := toList_sOf l
  go_enter Tryd.func39, Tryd.ntmps39
  go_wp2_with fail
  go_loopw [3] (fun i w' => ∃ k : Nat, i = .int .i64 k ∧ 1 ≤ k ∧ k ≤ 10 ∧ kFrom l (10 - k) k = r ∧ w = w') (fun i _ => leftL 10 i)
  case atStart => exact ⟨1, rfl, by omega, by omega, hr, rfl⟩
  case round =>
    obtain ⟨k, rfl, hk1, hk, hf, rfl⟩ := hrel
    by_cases hk9 : k ≤ 9
    · have hc := HW.out.at (show k < 10 by omega)
      have htx := toList_sOf (wordT.getD k [])
      rw [show 10 - k = (10 - (k + 1)) + 1 by omega, kFrom] at hf
      have h9 : (k : Int) ≤ 9 := by omega
      have h10 : (k : Int) < 10 := by omega
      have h00 : (0 : Int) ≤ (k : Int) := by omega
      have HF := hd hf
      clear hf
      generalize hgx : wordT.getD k [] = x at *
      clear hgx
      cases e : (x == l)
      · have hne : ¬ x = l := by simpa using e
        have hf := HF.out
        rw [if_neg hne] at hf
        have HF2 := hd hf
        clear HF hf hne
        go_wp2_with fail
        go_roundw
        case rel => exact ⟨k + 1, by congr 1, by omega, by omega, HF2.out, trivial⟩
        case measure => simp [leftL]; omega
      · have hne : x = l := by simpa using e
        have hf := HF.out
        rw [if_pos hne] at hf
        have HF2 := hd hf
        clear HF hf hne
        go_wp2_with fail
        go_ret
        exact ⟨by rw [HF2.out]; rfl, rfl⟩
    · have : k = 10 := by omega
      subst this
      have hf2 : 0 = r := hf
      subst hf2
      clear hf
      go_wp2_with fail
      go_ret
      exact ⟨rfl, rfl⟩

set_option maxRecDepth 100000 in
set_option maxHeartbeats 1000000 in
theorem width_c (k : Int) (w : World) : Calls Tryd.prog 59 #[.int .i64 k] w fun e w' => e = .returned (.int .i64 (sWidth k)) ∧ w = w' := by
  unfold sWidth
  by_cases h9 : k = 9
  · rw [if_pos h9]
    have h9b : (k == 9) = true := by simpa using h9
    clear h9
    go_enter Tryd.func59, Tryd.ntmps59
    go_wp2_with fail
    go_ret
    exact ⟨rfl, rfl⟩
  rw [if_neg h9]
  have h9b : (k == 9) = false := by simpa using h9
  clear h9
  by_cases h5 : 5 ≤ k
  · rw [if_pos h5]
    go_enter Tryd.func59, Tryd.ntmps59
    go_wp2_with fail
    go_ret
    exact ⟨rfl, rfl⟩
  · rw [if_neg h5]
    go_enter Tryd.func59, Tryd.ntmps59
    go_wp2_with fail
    go_ret
    exact ⟨rfl, rfl⟩

set_option maxRecDepth 100000 in
set_option maxHeartbeats 1000000 in
theorem part_c (l : List UInt8) (w : World) (hE : EnvU w) (hs : l.length ≤ 9223372036854775000) : Calls Tryd.prog 61 #[.string (sOf l)] w fun e w' => e = .returned (.bool (sPart l)) ∧ Below w.heap.size w w' := by
  obtain ⟨r, hr⟩ : ∃ r, sPart l = r := ⟨_, rfl⟩
  rw [hr]
  rw [sPart_eq] at hr
  have Hr := hd hr; clear hr
  have HE := hd hE; clear hE
  go_enter Tryd.func61, Tryd.ntmps61
  go_wp2_with fail
  refine (Name_c l _ HE.out hs).mono ?_
  rintro e w1 ⟨rfl, hb1⟩
  cases hu : lName l
  · have hr := Hr.out; rw [hu, Bool.false_and] at hr; subst hr; clear Hr
    go_wp2_with fail
    go_ret
    exact ⟨rfl, hb1⟩
  have H1 := hd (show (!decide ((47 : UInt8) ∈ l)) = r by have hr := Hr.out; rw [hu, Bool.true_and] at hr; exact hr)
  clear Hr hu
  go_wp2_with fail
  refine (Tryd.strings_Contains_one (sOf l) 47 _).mono ?_
  rintro e w2 ⟨rfl, rfl⟩
  rw [show decide (0 ≤ Lib.indexByte (sOf l).data.toList 47) = decide ((47 : UInt8) ∈ l) from has47 l]
  obtain ⟨b, hb⟩ : ∃ b, decide ((47 : UInt8) ∈ l) = b := ⟨_, rfl⟩
  rw [hb] at H1 ⊢
  clear hb
  go_wp2_with fail
  go_ret
  exact ⟨ret_bool H1.out, hb1⟩
end Go.Proofs.YtopopdghmfbciaaDoor
