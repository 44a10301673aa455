/- Levels of texts: the walks of the small functions. -/
import Derived.Test.YtopopdghmfbciaaDoorLevPlain
import Derived.Test.YtopopdghmfbciaaDoorUtf3
import Derived.Test.YtopopdghmfbciaaDoorShelf
import Derived.Test.YtopopdghmfbciaaDoorSteps
namespace Go.Proofs.YtopopdghmfbciaaDoor
open Go.RowKit
set_option linter.unusedVariables false
set_option linter.unusedSimpArgs false

theorem sB_sOfL (l : List UInt8) : sB (sOf l) = l := rfl
theorem sOf_sizeL (l : List UInt8) : (sOf l).size = l.length := by rw [← sB_len, sB_sOfL]
theorem sOf_sBL (s : ByteArray) : sOf (sB s) = s := by cases s; simp [sOf, sB]

set_option maxRecDepth 100000 in
set_option maxHeartbeats 1000000 in
theorem wild_c (l : List UInt8) (w : World) (hs : l.length ≤ 9223372036854775000) : Calls Tryd.prog 46 #[.string (sOf l)] w fun e w' => e = .returned (.bool (wildL l)) ∧ Below w.heap.size w w' := by
  obtain ⟨r, hr⟩ : ∃ r, wildL l = r := ⟨_, rfl⟩
  rw [hr]
  have hsz := sOf_sizeL l
  go_enter Tryd.func46, Tryd.ntmps46
  go_wp2_with fail
  go_loopw [4] (fun _ w' => ∃ pos : Nat, w' = w.iter (sOf l) pos ∧ pos ≤ l.length ∧ wildL (l.drop pos) = r) (fun _ w' => l.length - w'.iterPos w.heap.size)
  case atStart => exact ⟨0, rfl, by omega, by simpa using hr⟩
  case round =>
    obtain ⟨pos, rfl, hp1, hc⟩ := hrel
    by_cases hp : pos < l.length
    · have hnx : ∀ ty, (Instr.next (.pointer (some ⟨w.heap.size, 0, none⟩)) true ty).run Tryd.prog (w.iter (sOf l) pos) = _ := fun ty => run_next_any w (sOf l) pos ty (by omega)
      have h43 := range_asc l pos hp 43 (by omega)
      have h35 := range_asc l pos hp 35 (by omega)
      have hdd : Lib.decodeL (l.drop pos) = Utf8.decode (sOf l) pos := Lib.decodeL_drop (sOf l) pos
      rw [hdd] at h43 h35
      generalize Utf8.decode (sOf l) pos = q at h43 h35 hnx
      obtain ⟨qr, qn⟩ := q
      simp only at h43 h35 hnx
      obtain ⟨a0, a1, hn1, hn2, hq⟩ := h43
      obtain ⟨b0, b1, -, -, -⟩ := h35
      by_cases hr0 : qr = 43 ∨ qr = 35
      · have hw : wildL (l.drop pos) = true := wildL_hit hp (hr0.elim (fun h => .inl (a0 h).2) (fun h => .inr (b0 h).2))
        rw [hw] at hc
        subst hc
        clear a0 a1 b0 b1 hw
        rcases hr0 with rfl | rfl
        all_goals
          go_wp2_with fail
          go_ret
          exact ⟨rfl, (Below.refl _ _).alloc (Nat.le_refl _) (.stringIter (sOf l) (pos + qn))⟩
      · rw [wildL_miss hn2 (fun j hj => ⟨a1 (by omega) j hj, b1 (by omega) j hj⟩)] at hc
        have hr0b : ((qr : Int) == 43) = false := by simp; omega
        have hr1b : ((qr : Int) == 35) = false := by simp; omega
        clear a0 a1 b0 b1
        go_wp2_with fail
        go_roundw
        case rel => exact ⟨pos + qn, rfl, by omega, hc⟩
        case measure => simp; omega
    · have hnx : ∀ ty, (Instr.next (.pointer (some ⟨w.heap.size, 0, none⟩)) true ty).run Tryd.prog (w.iter (sOf l) pos) = _ := fun ty => run_next_end w (sOf l) pos ty (by omega)
      have : pos = l.length := by omega
      subst this
      rw [List.drop_of_length_le (Nat.le_refl _)] at hc
      have hc2 : false = r := hc
      subst hc2
      go_wp2_with fail
      go_ret
      exact ⟨rfl, (Below.refl _ _).alloc (Nat.le_refl _) (.stringIter (sOf l) l.length)⟩

theorem eq_empty (l : List UInt8) : (sOf l).toList.isEmpty = l.isEmpty := by
  rw [ByteArray.toList_eq]; rfl

theorem lSized_of {l : List UInt8} (h0 : l ≠ []) (h1 : l.length ≤ 96) : lSized l = (uRight l && decide (l.count 47 < 12)) := by
  unfold lSized
  have e0 : l.isEmpty = false := by simpa using h0
  rw [e0, decide_eq_true h1, lSplit_len]
  have e : decide (l.count 47 + 1 ≤ 12) = decide (l.count 47 < 12) := by rw [Bool.eq_iff_iff]; simp; omega
  rw [e]
  simp
set_option maxRecDepth 100000 in
set_option maxHeartbeats 1000000 in
theorem sized_c (l : List UInt8) (w : World) (hE : EnvU w) (hs : l.length ≤ 9223372036854775000) : Calls Tryd.prog 45 #[.string (sOf l)] w fun e w' => e = .returned (.bool (lSized l)) ∧ Below w.heap.size w w' := by
  have HE := hd hE; clear hE
  have hsz := sOf_sizeL l
  have hem := eq_empty l
  by_cases h0 : l = []
  · have e0 : l.isEmpty = true := by simpa using h0
    rw [e0] at hem
    have hn : lSized l = false := by unfold lSized; rw [e0]; rfl
    rw [hn]
    subst h0
    have hem2 : (sOf []).toList = [] := by rw [ByteArray.toList_eq]; rfl
    clear hn e0 hem
    go_enter Tryd.func45, Tryd.ntmps45
    go_wp2_with fail
    go_ret
    exact ⟨rfl, Below.refl _ _⟩
  have e0 : l.isEmpty = false := by simpa using h0
  rw [e0] at hem
  by_cases h96 : 96 < l.length
  · have hn : lSized l = false := by unfold lSized; rw [decide_eq_false (by omega)]; simp
    rw [hn]
    go_enter Tryd.func45, Tryd.ntmps45
    go_wp2_with fail
    go_ret
    exact ⟨rfl, Below.refl _ _⟩
  rw [lSized_of h0 (by omega)]
  go_enter Tryd.func45, Tryd.ntmps45
  go_wp2_with fail
  refine (Right_c (sOf l) _ HE.out (by omega)).mono ?_
  rw [sB_sOfL]
  rintro e w1 ⟨rfl, hb1⟩
  cases hu : uRight l
  · go_wp2_with fail
    go_ret
    exact ⟨ret_bool (by simp [hu]), hb1⟩
  · go_wp2_with fail
    refine (Tryd.strings_Count_one (sOf l) 47 _).mono ?_
    rintro e w2 ⟨rfl, rfl⟩
    have hc : Lib.countByte (sOf l).data.toList 47 = l.count 47 := rfl
    rw [hc]
    go_wp2_with fail
    go_ret
    exact ⟨ret_bool (by simp [hu]; omega), hb1⟩

set_option maxRecDepth 100000 in
set_option maxHeartbeats 1000000 in
theorem Name_c (l : List UInt8) (w : World) (hE : EnvU w) (hs : l.length ≤ 9223372036854775000) : Calls Tryd.prog 15 #[.string (sOf l)] w fun e w' => e = .returned (.bool (lName l)) ∧ Below w.heap.size w w' := by
  unfold lName
  go_enter Tryd.func15, Tryd.ntmps15
  go_wp2_with fail
  refine (sized_c l _ hE hs).mono ?_
  rintro e w1 ⟨rfl, hb1⟩
  cases hu : lSized l
  · go_wp2_with fail
    go_ret
    exact ⟨ret_bool (by simp [hu]), hb1⟩
  · go_wp2_with fail
    refine (wild_c l _ hs).mono ?_
    rintro e w2 ⟨rfl, hb2⟩
    have hb := Below.up hb1 hb2
    go_wp2_with fail
    go_ret
    exact ⟨ret_bool (by simp [hu]), hb⟩

set_option maxRecDepth 100000 in
set_option maxHeartbeats 1000000 in
theorem Hidden_c (l : List UInt8) (w : World) : Calls Tryd.prog 22 #[.string (sOf l)] w fun e w' => e = .returned (.bool (lHidden l)) ∧ w = w' := by
  have hp : Lib.hasPrefix (sOf l).data.toList [36] = lHidden l := by
    show List.isPrefixOf [36] l = lHidden l
    unfold lHidden
    cases l with
    | nil => rfl
    | cons b t =>
      have h : decide (bN (b :: t) 0 = 36) = (b == 36) := by
        rw [Bool.eq_iff_iff]
        simp only [decide_eq_true_eq, beq_iff_eq]
        exact b8_of_bN (l := b :: t) (i := 0) (by simp) (c := 36)
      rw [h]
      simp [List.isPrefixOf, Bool.beq_comm]
  go_enter Tryd.func22, Tryd.ntmps22
  go_wp2_with fail
  refine (Tryd.strings_HasPrefix (sOf l) ⟨#[36]⟩ _).mono ?_
  rintro e w2 ⟨rfl, rfl⟩
  rw [show Lib.hasPrefix (sOf l).data.toList (⟨#[36]⟩ : ByteArray).data.toList = lHidden l from hp]
  go_wp2_with fail
  go_ret
  exact ⟨rfl, rfl⟩
end Go.Proofs.YtopopdghmfbciaaDoor
