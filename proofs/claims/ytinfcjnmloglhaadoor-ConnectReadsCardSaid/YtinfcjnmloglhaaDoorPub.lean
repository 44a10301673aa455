/- Messages: the walks of the small functions. -/
import Derived.Test.YtinfcjnmloglhaaDoorPubPlain
import Derived.Test.YtinfcjnmloglhaaDoorUtf5
import Derived.Lib.ConvBytes
namespace Go.Proofs.YtinfcjnmloglhaaDoor
open Go.RowKit
set_option linter.unusedVariables false

/-- []byte(s) -/
theorem run_bytes (s : ByteArray) (hs : s.size ≤ 140737488355327) (w : World) : ∃ c W', (convert 9 22 (.string s)).run Tryd.prog w = .ok (.slice (some ⟨w.heap.size, 0, none⟩) (sB s).length c) W' ∧ Bs W' (.slice (some ⟨w.heap.size, 0, none⟩) (sB s).length c) (sB s) ∧ Below w.heap.size w W' := by
  have h63 : s.size ≤ maxLen := by unfold maxLen; omega
  refine ⟨grownCap w s.size 0 5, Lib.bytesWorld w 5 s, ?_, ?_, ⟨rfl, rfl, rfl, by rw [Lib.bytesWorld_size]; omega, fun j hj => Lib.bytesWorld_at_old w 5 s j hj⟩⟩
  · rw [sB_len]
    exact Lib.run_convert_string_bytes w 9 22 5 s Tryd.underlying9 Tryd.underlying22 Tryd.underlying5
  · refine ⟨some ⟨w.heap.size, 0, none⟩, _, rfl, by rw [sB_len]; exact grownCap_ge w s.size 0 5, grownCap_le_maxLen w s.size 0 5 h63, (fun e => by cases e), fun ad had j u hu => ?_⟩
    cases had
    have hj : j < s.size := by
      have := (List.getElem?_eq_some_iff.1 hu).1
      rw [List.length_map, sB_len] at this
      exact this
    rw [Go.WideShapes.add_plain, Nat.zero_add, Lib.bytesWorld_cell w 5 s j hj, ← hu]
    have hjl : j < (sB s).length := by rw [sB_len]; exact hj
    have e : (sB s).getD j 0 = (sB s)[j]'hjl := by rw [List.getD_eq_getElem?_getD, List.getElem?_eq_getElem hjl, Option.getD_some]
    rw [List.getElem?_map, List.getElem?_eq_getElem hjl]
    show _ = some (byteV ((sB s)[j]'hjl))
    rw [← e]
    rfl

theorem sB_nil {s : ByteArray} (h : s.size = 0) : s = ⟨#[]⟩ := by
  have : s.data = #[] := Array.eq_empty_of_size_eq_zero h
  cases s
  simp_all
theorem neq_empty (s : ByteArray) : (!s.toList.isEmpty) = !(sB s).isEmpty := by
  rw [ByteArray.toList_eq]
  rfl

set_option maxRecDepth 100000 in
set_option maxHeartbeats 1000000 in
theorem leveled_c (q : Int) (w : World) : Calls Tryd.prog 50 #[.int .i64 q] w fun e w' => e = .returned (.bool (decide (0 ≤ q) && decide (q ≤ 2))) ∧ w = w' := by
  go_enter Tryd.func50, Tryd.ntmps50
  go_wp2
  all_goals (go_ret; refine ⟨ret_bool ?_, rfl⟩)
  all_goals (simp_all <;> omega)

set_option maxRecDepth 100000 in
set_option maxHeartbeats 1000000 in
theorem numbered_c (q : Int) (w : World) : Calls Tryd.prog 59 #[.int .i64 q] w fun e w' => e = .returned (.bool (decide (1 ≤ q) && decide (q ≤ 65535))) ∧ w = w' := by
  go_enter Tryd.func59, Tryd.ntmps59
  go_wp2
  all_goals (go_ret; refine ⟨ret_bool ?_, rfl⟩)
  all_goals (simp_all <;> omega)

set_option maxRecDepth 100000 in
set_option maxHeartbeats 1000000 in
theorem named_c (s : ByteArray) (w : World) (hs : s.size ≤ 9223372036854775000) : Calls Tryd.prog 51 #[.string s] w fun e w' => e = .returned (.bool (pName (sB s))) ∧ Below w.heap.size w w' := by
  obtain ⟨r, hr⟩ : ∃ r, pName (sB s) = r := ⟨_, rfl⟩
  rw [hr]
  unfold pName at hr
  have hne := neq_empty s
  go_enter Tryd.func51, Tryd.ntmps51
  go_wp2_with fail
  go_loopw [4] (fun _ w' => ∃ pos : Nat, w' = w.iter s pos ∧ pos ≤ s.size ∧ (!signIn ((sB s).drop pos) && !(sB s).isEmpty) = r) (fun _ w' => s.size - w'.iterPos w.heap.size)
  case atStart => exact ⟨0, rfl, by omega, by simpa using hr⟩
  case round =>
    obtain ⟨pos, rfl, hp1, hc⟩ := hrel
    by_cases hp : pos < s.size
    · have hnx : ∀ ty, (Instr.next (.pointer (some ⟨w.heap.size, 0, none⟩)) true ty).run Tryd.prog (w.iter s pos) = _ := fun ty => run_next_any w s pos ty hp
      have hst := range_sign (sB s) pos (by rw [sB_len]; exact hp)
      rw [sB_len] at hst
      have hdd : Lib.decodeL ((sB s).drop pos) = Utf8.decode s pos := Lib.decodeL_drop s pos
      rw [hdd] at hst
      generalize Utf8.decode s pos = q at hst hnx
      obtain ⟨qr, qn⟩ := q
      simp only at hst hnx
      obtain ⟨hs0, hs1, hn1, hn2, hq⟩ := hst
      by_cases hr0 : qr = 43 ∨ qr = 35
      · rw [hs0 hr0, Bool.not_true, Bool.false_and] at hc
        subst hc
        clear hs1 hs0 hne
        rcases hr0 with rfl | rfl
        all_goals
          go_wp2_with fail
          go_ret
          exact ⟨rfl, (Below.refl _ _).alloc (Nat.le_refl _) (.stringIter s (pos + qn))⟩
      · rw [hs1 (by omega)] at hc
        have hr0b : ((qr : Int) == 43) = false := by simp; omega
        have hr1b : ((qr : Int) == 35) = false := by simp; omega
        clear hs0 hs1 hne
        go_wp2_with fail
        go_roundw
        case rel => exact ⟨pos + qn, rfl, by omega, hc⟩
        case measure => simp; omega
    · have hnx : ∀ ty, (Instr.next (.pointer (some ⟨w.heap.size, 0, none⟩)) true ty).run Tryd.prog (w.iter s pos) = _ := fun ty => run_next_end w s pos ty hp
      have : pos = s.size := by omega
      subst this
      rw [List.drop_of_length_le (by rw [sB_len]; omega)] at hc
      have hc2 : (!(sB s).isEmpty) = r := by rw [← hc]; rfl
      go_wp2_with fail
      go_ret
      exact ⟨ret_bool (by rw [← hc2, ← hne]), (Below.refl _ _).alloc (Nat.le_refl _) (.stringIter s s.size)⟩

def leftOf2 (s : ByteArray) : Value → Nat
  | .int _ k => ((s.size : Int) - k).toNat
  | _ => 0

set_option maxRecDepth 100000 in
set_option maxHeartbeats 1000000 in
theorem refNamed_c (s : ByteArray) (w : World) (hs : s.size ≤ 9223372036854775000) : Calls Tryd.prog 53 #[.string s] w fun e w' => e = .returned (.bool (pName (sB s))) ∧ Below w.heap.size w w' := by
  obtain ⟨r, hr⟩ : ∃ r, pName (sB s) = r := ⟨_, rfl⟩
  rw [hr]
  unfold pName at hr
  have hne := neq_empty s
  go_enter Tryd.func53, Tryd.ntmps53
  go_wp2_with fail
  go_loopw [3] (fun n w' => ∃ k : Nat, n = .int .i64 k ∧ k ≤ s.size ∧ Below w.heap.size w w' ∧ (!signIn ((sB s).drop k) && !(sB s).isEmpty) = r) (fun n _ => leftOf2 s n)
  case atStart => exact ⟨0, rfl, by omega, by go_grown, by simpa using hr⟩
  case round =>
    obtain ⟨k, rfl, hk, hb, hc⟩ := hrel
    by_cases hks : k < s.size
    · have hx : ∀ W : World, (Instr.index 9 (.string s) (.int .i64 (k : Int))).run Tryd.prog W = .ok (.int .u8 (bN (sB s) k)) W := fun W => run_at s k k rfl hks W
      have hlen : 0 < ((sB s).drop k).length := by rw [List.length_drop, sB_len]; omega
      have h0 : bN ((sB s).drop k) 0 = bN (sB s) k := by rw [bN_drop, Nat.add_zero]
      have hb0 := bN_lt (sB s) k
      have hit : (bN (sB s) k = 43 ∨ bN (sB s) k = 35) → signIn ((sB s).drop k) = true := fun h => signIn_hit hlen (by rw [h0]; exact h)
      have miss : (bN (sB s) k ≠ 43 ∧ bN (sB s) k ≠ 35) → signIn ((sB s).drop k) = signIn ((sB s).drop (k + 1)) := fun h => by
        have := signIn_drop 1 ((sB s).drop k) (by omega) (fun j hj => by
          match j, hj with
          | 0, _ => rw [h0]; exact h)
        rw [List.drop_drop] at this
        exact this
      generalize bN (sB s) k = x at *
      by_cases hr0 : x = 43 ∨ x = 35
      · rw [hit hr0, Bool.not_true, Bool.false_and] at hc
        subst hc
        clear hit miss hne h0 hlen
        rcases hr0 with rfl | rfl
        all_goals
          go_wp2_with fail
          go_ret
          exact ⟨rfl, by go_grown⟩
      · rw [miss (by omega)] at hc
        have hr0b : ((x : Int) == 43) = false := by simp; omega
        have hr1b : ((x : Int) == 35) = false := by simp; omega
        clear hit miss hne h0 hlen
        go_wp2_with fail
        go_roundw
        case rel => exact ⟨k + 1, by congr 1, by omega, by go_grown, hc⟩
        case measure => simp [leftOf2]; omega
    · have : k = s.size := by omega
      subst this
      rw [List.drop_of_length_le (by rw [sB_len]; omega)] at hc
      have hc2 : (!(sB s).isEmpty) = r := by rw [← hc]; rfl
      go_wp2_with fail
      go_ret
      exact ⟨ret_bool (by rw [← hc2, ← hne]), by go_grown⟩

set_option maxRecDepth 100000 in
set_option maxHeartbeats 1000000 in
theorem PutId_c (id : Int) (w : World) : Calls Tryd.prog 36 #[.int .i64 id] w (GivesB w (pIdB id) (pIdE id)) := by
  unfold pIdB pIdE
  by_cases h : 1 ≤ id ∧ id ≤ 65535
  · rw [if_pos h, if_pos h]
    go_enter Tryd.func36, Tryd.ntmps36
    go_wp2_with fail
    refine (numbered_c id _).mono ?_
    rw [decide_eq_true h.1, decide_eq_true h.2]
    rintro e w' ⟨rfl, rfl⟩
    go_wp2_with fail
    refine (Put2_c id _).mono ?_
    have hE : uPut2E id = 0 := by unfold uPut2E; rw [if_neg (by omega)]
    rw [hE]
    rintro e w2 ⟨v, rfl, ho, hb⟩
    go_wp2_with fail
    go_ret2
    exact ⟨_, rfl, ho, hb⟩
  · rw [if_neg h, if_neg h]
    have hf : (decide (1 ≤ id) && decide (id ≤ 65535)) = false := by simpa using h
    go_enter Tryd.func36, Tryd.ntmps36
    go_wp2_with fail
    refine (numbered_c id _).mono ?_
    rw [hf]
    rintro e w' ⟨rfl, rfl⟩
    go_wp2_with fail
    go_ret2
    exact GivesB.nil (by go_grown)

set_option maxRecDepth 100000 in
set_option maxHeartbeats 1000000 in
theorem refPutId_c (id : Int) (w : World) : Calls Tryd.prog 37 #[.int .i64 id] w (GivesB w (pIdB id) (pIdE id)) := by
  unfold pIdB pIdE
  by_cases h : 1 ≤ id ∧ id ≤ 65535
  · rw [if_pos h, if_pos h]
    obtain ⟨h1, h2⟩ := h
    go_enter Tryd.func37, Tryd.ntmps37
    go_wp2_with fail
    refine (refPut2_c id _).mono ?_
    have hE : uPut2E id = 0 := by unfold uPut2E; rw [if_neg (by omega)]
    rw [hE]
    rintro e w2 ⟨v, rfl, ho, hb⟩
    go_wp2_with fail
    go_ret2
    exact ⟨_, rfl, ho, hb⟩
  · rw [if_neg h, if_neg h]
    have h' : id < 1 ∨ 65535 < id := by omega
    clear h
    rcases h' with h | h
    all_goals
      go_enter Tryd.func37, Tryd.ntmps37
      go_wp2_with fail
      go_ret2
      exact GivesB.nil (by go_grown)

set_option maxRecDepth 100000 in
set_option maxHeartbeats 1000000 in
theorem number1_c (id : Int) (w : World) : Calls Tryd.prog 69 #[.int .i64 id] w (GivesB w [] (if id ≠ 0 then 1 else 0)) := by
  by_cases h : id = 0
  · subst h
    rw [if_neg (by decide)]
    go_enter Tryd.func69, Tryd.ntmps69
    go_wp2_with fail
    go_ret2
    exact GivesB.nil (by go_grown)
  · rw [if_pos h]
    have hb : (id != 0) = true := by simpa using h
    go_enter Tryd.func69, Tryd.ntmps69
    go_wp2_with fail
    go_ret2
    exact GivesB.nil (by go_grown)

set_option maxRecDepth 100000 in
set_option maxHeartbeats 1000000 in
theorem number_c (q : Int) (w : World) : Calls Tryd.prog 52 #[.int .i64 q] w fun e w' => e = .returned (if 0 < q then .func (.func 36) #[] #[] else .func (.func 69) #[] #[]) ∧ w = w' := by
  by_cases h : 0 < q
  · rw [if_pos h]
    go_enter Tryd.func52, Tryd.ntmps52
    go_wp2_with fail
    go_ret
    exact ⟨rfl, rfl⟩
  · rw [if_neg h]
    go_enter Tryd.func52, Tryd.ntmps52
    go_wp2_with fail
    go_ret
    exact ⟨rfl, rfl⟩

end Go.Proofs.YtinfcjnmloglhaaDoor
