/- A bundle of texts (merged for the limit on files): Utf. -/
import Derived.Test.YtclicjokgfiegaaGreatDoorZa1
import Derived.Lib.AppendStr
/- Texts: the walks of crierlaw04's functions: the reference's. -/
namespace Go.Proofs.YtclicjokgfiegaaGreatDoor
open Go.RowKit
set_option linter.unusedVariables false

/-- The bytes of a string. -/
def sB (s : ByteArray) : List UInt8 := s.data.toList
theorem sB_len (s : ByteArray) : (sB s).length = s.size := by unfold sB; exact Array.length_toList

theorem run_at (s : ByteArray) (i : Int) (k : Nat) (hi : i = k) (hk : k < s.size) (W : World) :
    (Instr.index 9 (.string s) (.int .i64 i)).run Tryz.prog W = .ok (.int .u8 (bN (sB s) k)) W := by
  subst hi
  rw [run_index_string W 9 s .i64 k Tryz.underlying9, dif_pos ⟨by omega, by omega⟩]
  have hd : k < s.data.size := hk
  have e : (sB s).getD k 0 = s.data[k]'hd := by
    unfold sB
    rw [List.getD_eq_getElem?_getD, Array.getElem?_toList, Array.getElem?_eq_getElem hd, Option.getD_some]
  unfold bN
  rw [e]
  rfl

set_option maxRecDepth 100000 in
set_option maxHeartbeats 1000000 in
theorem tail_c (s : ByteArray) (i : Int) (k : Nat) (hi : i = k) (w : World) :
    Calls Tryz.prog 186 #[.string s, .int .i64 i] w fun e w' => e = .returned (.bool (tailL (sB s) k)) ∧ w = w' := by
  subst hi
  have ht := tailL_iff (sB s) k
  rw [sB_len] at ht
  generalize tailL (sB s) k = r at ht ⊢
  by_cases hk : k < s.size
  · have hx : ∀ W : World, (Instr.index 9 (.string s) (.int .i64 (k : Int))).run Tryz.prog W = .ok (.int .u8 (bN (sB s) k)) W := fun W => run_at s k k rfl hk W
    generalize bN (sB s) k = x at ht hx
    by_cases h1 : 128 ≤ x
    · by_cases h2 : x ≤ 191
      · have hr : r = true := ht.2 ⟨hk, h1, h2⟩
        subst hr
        clear ht
        go_enter Tryz.func186, Tryz.ntmps186
        go_wp2
        go_ret
        exact ⟨ret_bool (decide_eq_true (by omega)), rfl⟩
      · have hr : r = false := by rw [← Bool.not_eq_true]; intro h; have := ht.1 h; omega
        subst hr
        clear ht
        go_enter Tryz.func186, Tryz.ntmps186
        go_wp2
        go_ret
        exact ⟨ret_bool (decide_eq_false (by omega)), rfl⟩
    · have hr : r = false := by rw [← Bool.not_eq_true]; intro h; have := ht.1 h; omega
      subst hr
      clear ht
      go_enter Tryz.func186, Tryz.ntmps186
      go_wp2
      go_ret
      exact ⟨rfl, rfl⟩
  · have hr : r = false := by rw [← Bool.not_eq_true]; intro h; have := ht.1 h; omega
    subst hr
    clear ht
    go_enter Tryz.func186, Tryz.ntmps186
    go_wp2
    go_ret
    exact ⟨rfl, rfl⟩


set_option maxRecDepth 100000 in
set_option maxHeartbeats 4000000 in
theorem step_c (s : ByteArray) (i : Int) (k : Nat) (hi : i = k) (hk : k < s.size) (hs : s.size ≤ 9223372036854775000) (w : World) :
    Calls Tryz.prog 154 #[.string s, .int .i64 i] w fun e w' => e = .returned (.tuple #[.int .i64 (stepL (sB s) k).1, .int .i64 (stepL (sB s) k).2]) ∧ Below w.heap.size w w' := by
  subst hi
  obtain ⟨r, hr⟩ : ∃ r, stepL (sB s) k = r := ⟨_, rfl⟩
  rw [hr]
  unfold stepL at hr
  have t1 := tailL_iff (sB s) (k + 1)
  have t2 := tailL_iff (sB s) (k + 2)
  have t3 := tailL_iff (sB s) (k + 3)
  rw [sB_len] at t1 t2 t3
  have b0 := bN_lt (sB s) k
  have hx0 : ∀ W : World, (Instr.index 9 (.string s) (.int .i64 (k : Int))).run Tryz.prog W = .ok (.int .u8 (bN (sB s) k)) W := fun W => run_at s k k rfl hk W
  have hx1 : k + 1 < s.size → ∀ W : World, (Instr.index 9 (.string s) (.int .i64 ((k : Int) + 1))).run Tryz.prog W = .ok (.int .u8 (bN (sB s) (k + 1))) W := fun h W => run_at s _ (k + 1) (by omega) h W
  have hx2 : k + 2 < s.size → ∀ W : World, (Instr.index 9 (.string s) (.int .i64 ((k : Int) + 2))).run Tryz.prog W = .ok (.int .u8 (bN (sB s) (k + 2))) W := fun h W => run_at s _ (k + 2) (by omega) h W
  have hx3 : k + 3 < s.size → ∀ W : World, (Instr.index 9 (.string s) (.int .i64 ((k : Int) + 3))).run Tryz.prog W = .ok (.int .u8 (bN (sB s) (k + 3))) W := fun h W => run_at s _ (k + 3) (by omega) h W
  have c1 : ∀ w, Calls Tryz.prog 186 #[.string s, .int .i64 ((k : Int) + 1)] w fun e w' => e = .returned (.bool (tailL (sB s) (k + 1))) ∧ w = w' := fun w => tail_c s _ (k + 1) (by omega) w
  have c2 : ∀ w, Calls Tryz.prog 186 #[.string s, .int .i64 ((k : Int) + 2)] w fun e w' => e = .returned (.bool (tailL (sB s) (k + 2))) ∧ w = w' := fun w => tail_c s _ (k + 2) (by omega) w
  have c3 : ∀ w, Calls Tryz.prog 186 #[.string s, .int .i64 ((k : Int) + 3)] w fun e w' => e = .returned (.bool (tailL (sB s) (k + 3))) ∧ w = w' := fun w => tail_c s _ (k + 3) (by omega) w
  have b1 := bN_lt (sB s) (k + 1)
  have b2 := bN_lt (sB s) (k + 2)
  have b3 := bN_lt (sB s) (k + 3)
  generalize bN (sB s) k = x0 at *
  generalize bN (sB s) (k + 1) = x1 at *
  generalize bN (sB s) (k + 2) = x2 at *
  generalize bN (sB s) (k + 3) = x3 at *
  generalize tailL (sB s) (k + 1) = y1 at *
  generalize tailL (sB s) (k + 2) = y2 at *
  generalize tailL (sB s) (k + 3) = y3 at *
  by_cases h0 : (x0 : Int) < 128
  · rw [if_pos h0] at hr
    subst hr
    clear t1 t2 t3 hx1 hx2 hx3
    go_enter Tryz.func154, Tryz.ntmps154
    go_wp2
    go_ret2
    exact ⟨rfl, by go_grown⟩
  rw [if_neg h0] at hr
  by_cases hA : (194 : Int) ≤ x0 ∧ (x0 : Int) ≤ 223
  · cases y1 with
    | true =>
      have hh := t1.1 rfl
      rw [if_pos ⟨hA, rfl⟩] at hr
      subst hr
      replace hx1 := hx1 hh.1
      clear t1 t2 t3 hx2 hx3
      go_enter Tryz.func154, Tryz.ntmps154
      go_wp2_with fail
      refine (c1 _).mono ?_
      rintro e w' ⟨rfl, rfl⟩
      go_wp2_with fail
      go_region
      go_wp2_with fail
      all_goals (go_ret2; exact ⟨rfl, by go_grown⟩)
    | false =>
      rw [if_neg (by simp), if_neg (by simp), if_neg (by simp)] at hr
      subst hr
      clear t1 t2 t3 hx1 hx2 hx3
      go_enter Tryz.func154, Tryz.ntmps154
      go_wp2_with fail
      refine (c1 _).mono ?_
      rintro e w' ⟨rfl, rfl⟩
      go_wp2_with fail
      all_goals (go_ret2; exact ⟨rfl, by go_grown⟩)
  by_cases hB : (224 : Int) ≤ x0 ∧ (x0 : Int) ≤ 239
  · rw [if_neg (fun h => hA h.1)] at hr
    cases y1 with
    | false =>
      rw [if_neg (by simp), if_neg (by simp)] at hr
      subst hr
      clear t1 t2 t3 hx1 hx2 hx3 hA
      go_enter Tryz.func154, Tryz.ntmps154
      go_wp2_with fail
      refine (c1 _).mono ?_
      rintro e w' ⟨rfl, rfl⟩
      go_wp2_with fail
      all_goals (go_ret2; exact ⟨rfl, by go_grown⟩)
    | true =>
      cases y2 with
      | false =>
        rw [if_neg (by simp), if_neg (by simp)] at hr
        subst hr
        clear t1 t2 t3 hx1 hx2 hx3 hA
        go_enter Tryz.func154, Tryz.ntmps154
        go_wp2_with fail
        refine (c1 _).mono ?_
        rintro e w' ⟨rfl, rfl⟩
        go_wp2_with fail
        refine (c2 _).mono ?_
        rintro e w' ⟨rfl, rfl⟩
        go_wp2_with fail
        all_goals (go_ret2; exact ⟨rfl, by go_grown⟩)
      | true =>
        have hh := t1.1 rfl
        have hh2 := t2.1 rfl
        rw [if_pos ⟨⟨hB, rfl⟩, rfl⟩] at hr
        replace hx1 := hx1 hh.1
        replace hx2 := hx2 hh2.1
        clear t1 t2 t3 hx3 hA
        by_cases hv : ((x0 : Int) - 224) * 4096 + ((x1 : Int) - 128) * 64 + x2 - 128 < 2048 ∨ ((55296 : Int) ≤ ((x0 : Int) - 224) * 4096 + ((x1 : Int) - 128) * 64 + x2 - 128 ∧ ((x0 : Int) - 224) * 4096 + ((x1 : Int) - 128) * 64 + x2 - 128 ≤ 57343)
        · rw [if_pos hv] at hr
          subst hr
          rcases hv with hv | hv
          · go_enter Tryz.func154, Tryz.ntmps154
            go_wp2_with fail
            refine (c1 _).mono ?_
            rintro e w' ⟨rfl, rfl⟩
            go_wp2_with fail
            refine (c2 _).mono ?_
            rintro e w' ⟨rfl, rfl⟩
            go_wp2_with fail
            go_region
            go_wp2_with fail
            all_goals (go_ret2; exact ⟨rfl, by go_grown⟩)
          · go_enter Tryz.func154, Tryz.ntmps154
            go_wp2_with fail
            refine (c1 _).mono ?_
            rintro e w' ⟨rfl, rfl⟩
            go_wp2_with fail
            refine (c2 _).mono ?_
            rintro e w' ⟨rfl, rfl⟩
            go_wp2_with fail
            go_region
            go_wp2_with fail
            all_goals (go_ret2; exact ⟨rfl, by go_grown⟩)
        · rw [if_neg hv] at hr
          subst hr
          go_enter Tryz.func154, Tryz.ntmps154
          go_wp2_with fail
          refine (c1 _).mono ?_
          rintro e w' ⟨rfl, rfl⟩
          go_wp2_with fail
          refine (c2 _).mono ?_
          rintro e w' ⟨rfl, rfl⟩
          go_wp2_with fail
          go_region
          go_wp2_with fail
          all_goals (go_ret2; exact ⟨rfl, by go_grown⟩)
  rw [if_neg (fun h => hA h.1), if_neg (fun h => hB h.1.1)] at hr
  by_cases hC : (240 : Int) ≤ x0 ∧ (x0 : Int) ≤ 244
  · cases y1 with
    | false =>
      rw [if_neg (by simp)] at hr
      subst hr
      clear t1 t2 t3 hx1 hx2 hx3 hA hB
      go_enter Tryz.func154, Tryz.ntmps154
      go_wp2_with fail
      refine (c1 _).mono ?_
      rintro e w' ⟨rfl, rfl⟩
      go_wp2_with fail
      all_goals (go_ret2; exact ⟨rfl, by go_grown⟩)
    | true =>
      cases y2 with
      | false =>
        rw [if_neg (by simp)] at hr
        subst hr
        clear t1 t2 t3 hx1 hx2 hx3 hA hB
        go_enter Tryz.func154, Tryz.ntmps154
        go_wp2_with fail
        refine (c1 _).mono ?_
        rintro e w' ⟨rfl, rfl⟩
        go_wp2_with fail
        refine (c2 _).mono ?_
        rintro e w' ⟨rfl, rfl⟩
        go_wp2_with fail
        all_goals (go_ret2; exact ⟨rfl, by go_grown⟩)
      | true =>
        cases y3 with
        | false =>
          rw [if_neg (by simp)] at hr
          subst hr
          clear t1 t2 t3 hx1 hx2 hx3 hA hB
          go_enter Tryz.func154, Tryz.ntmps154
          go_wp2_with fail
          refine (c1 _).mono ?_
          rintro e w' ⟨rfl, rfl⟩
          go_wp2_with fail
          refine (c2 _).mono ?_
          rintro e w' ⟨rfl, rfl⟩
          go_wp2_with fail
          refine (c3 _).mono ?_
          rintro e w' ⟨rfl, rfl⟩
          go_wp2_with fail
          all_goals (go_ret2; exact ⟨rfl, by go_grown⟩)
        | true =>
          have hh := t1.1 rfl
          have hh2 := t2.1 rfl
          have hh3 := t3.1 rfl
          rw [if_pos ⟨⟨⟨hC, rfl⟩, rfl⟩, rfl⟩] at hr
          replace hx1 := hx1 hh.1
          replace hx2 := hx2 hh2.1
          replace hx3 := hx3 hh3.1
          clear t1 t2 t3 hA hB
          by_cases hv : ((x0 : Int) - 240) * 262144 + ((x1 : Int) - 128) * 4096 + ((x2 : Int) - 128) * 64 + x3 - 128 < 65536 ∨ (1114111 : Int) < ((x0 : Int) - 240) * 262144 + ((x1 : Int) - 128) * 4096 + ((x2 : Int) - 128) * 64 + x3 - 128
          · rw [if_pos hv] at hr
            subst hr
            rcases hv with hv | hv
            · go_enter Tryz.func154, Tryz.ntmps154
              go_wp2_with fail
              refine (c1 _).mono ?_
              rintro e w' ⟨rfl, rfl⟩
              go_wp2_with fail
              refine (c2 _).mono ?_
              rintro e w' ⟨rfl, rfl⟩
              go_wp2_with fail
              refine (c3 _).mono ?_
              rintro e w' ⟨rfl, rfl⟩
              go_wp2_with fail
              go_region
              go_wp2_with fail
              all_goals (go_ret2; exact ⟨rfl, by go_grown⟩)
            · go_enter Tryz.func154, Tryz.ntmps154
              go_wp2_with fail
              refine (c1 _).mono ?_
              rintro e w' ⟨rfl, rfl⟩
              go_wp2_with fail
              refine (c2 _).mono ?_
              rintro e w' ⟨rfl, rfl⟩
              go_wp2_with fail
              refine (c3 _).mono ?_
              rintro e w' ⟨rfl, rfl⟩
              go_wp2_with fail
              go_region
              go_wp2_with fail
              all_goals (go_ret2; exact ⟨rfl, by go_grown⟩)
          · rw [if_neg hv] at hr
            subst hr
            go_enter Tryz.func154, Tryz.ntmps154
            go_wp2_with fail
            refine (c1 _).mono ?_
            rintro e w' ⟨rfl, rfl⟩
            go_wp2_with fail
            refine (c2 _).mono ?_
            rintro e w' ⟨rfl, rfl⟩
            go_wp2_with fail
            refine (c3 _).mono ?_
            rintro e w' ⟨rfl, rfl⟩
            go_wp2_with fail
            go_region
            go_wp2_with fail
            all_goals (go_ret2; exact ⟨rfl, by go_grown⟩)
  rw [if_neg (fun h => hC h.1.1.1)] at hr
  subst hr
  clear t1 t2 t3 hx1 hx2 hx3
  go_enter Tryz.func154, Tryz.ntmps154
  go_wp2_with fail
  all_goals (go_ret2; exact ⟨rfl, by go_grown⟩)

end Go.Proofs.YtclicjokgfiegaaGreatDoor
