/- The law of texts one behind another: the walk. -/
import Derived.Test.YtinfcjnmloglhaaDoorUtfJoinPlain
import Derived.Test.YtinfcjnmloglhaaDoorUtfLaws
namespace Go.Proofs.YtinfcjnmloglhaaDoor
open Go.RowKit
set_option linter.unusedVariables false

theorem sB_append (a b : ByteArray) : sB (a ++ b) = sB a ++ sB b := by
  unfold sB
  simp
theorem size_append (a b : ByteArray) : (a ++ b).size = a.size + b.size := by
  rw [← sB_len, sB_append, List.length_append, sB_len, sB_len]

set_option maxRecDepth 100000 in
set_option maxHeartbeats 1000000 in
theorem UtfJoins_w (a b : ByteArray) (c : Nat) (hc : c ≤ 255) (w : World) (hE : EnvU w) (ha : a.size ≤ 140737488351232) (hb : b.size ≤ 140737488351232) :
    Calls Tryd.prog 4 #[.string a, .string b, .int .u8 c] w fun e w' => e = .returned (.bool true) ∧ Below w.heap.size w w' := by
  have HE := hd hE; clear hE
  by_cases hl : (a.size : Int) + b.size ≤ 65534
  · have hab : ∀ W : World, (Op.stringOp .add a b).run Tryd.prog W = .ok (.string (a ++ b)) W := fun W => run_string_add_sum W a b (by omega)
    have haz : ∀ W : World, (Op.stringOp .add a ⟨#[0]⟩).run Tryd.prog W = .ok (.string (a ++ ⟨#[0]⟩)) W := fun W => run_string_add_sum W a ⟨#[0]⟩ (by have : (⟨#[0]⟩ : ByteArray).size = 1 := rfl; omega)
    have hazb : ∀ W : World, (Op.stringOp .add (a ++ ⟨#[0]⟩) b).run Tryd.prog W = .ok (.string (a ++ ⟨#[0]⟩ ++ b)) W := fun W => run_string_add_sum W (a ++ ⟨#[0]⟩) b (by rw [size_append]; have : (⟨#[0]⟩ : ByteArray).size = 1 := rfl; omega)
    have hz : uRight (sB (a ++ ⟨#[0]⟩ ++ b)) = false := by rw [sB_append, sB_append]; exact uRight_zero (sB a) (sB b)
    have hzs : (a ++ ⟨#[0]⟩ ++ b : ByteArray).size ≤ 9223372036854775000 := by rw [size_append, size_append]; have : (⟨#[0]⟩ : ByteArray).size = 1 := rfl; omega
    have hjs : (a ++ b : ByteArray).size ≤ 9223372036854775000 := by rw [size_append]; omega
    have hj : uRight (sB a) = true → uRight (sB b) = true → uRight (sB (a ++ b)) = true := fun h1 h2 => by rw [sB_append]; exact uRight_join h1 h2 (by rw [sB_len, sB_len]; omega)
    generalize (a ++ b : ByteArray) = ab at *
    generalize (a ++ ⟨#[0]⟩ ++ b : ByteArray) = azb at *
    generalize (a ++ ⟨#[0]⟩ : ByteArray) = az at *
    cases hra : uRight (sB a) with
    | false =>
      go_enter Tryd.func4, Tryd.ntmps4
      go_wp2_with fail
      refine (Right_c a _ HE.out (by omega)).mono ?_
      rw [hra]
      rintro e w1 ⟨rfl, hb1⟩
      go_wp2_with fail
      refine (Right_c a _ (HE.out.below hb1) (by omega)).mono ?_
      rw [hra]
      rintro e w2 ⟨rfl, hb2⟩
      have hb12 := hb1.trans (hb2.mono hb1.size)
      go_wp2_with fail
      refine (Right_c azb _ (HE.out.below hb12) hzs).mono ?_
      rw [hz]
      rintro e w3 ⟨rfl, hb3⟩
      have hb13 := hb12.trans (hb3.mono hb12.size)
      go_wp2_with fail
      refine (awake_c _ (HE.out.below hb13)).mono ?_
      rintro e w4 ⟨rfl, hb4⟩
      have hb14 := hb13.trans (hb4.mono hb13.size)
      go_wp2_with fail
      go_ret
      exact ⟨rfl, hb14⟩
    | true =>
      go_enter Tryd.func4, Tryd.ntmps4
      go_wp2_with fail
      refine (Right_c a _ HE.out (by omega)).mono ?_
      rw [hra]
      rintro e w1 ⟨rfl, hb1⟩
      go_wp2_with fail
      refine (Right_c b _ (HE.out.below hb1) (by omega)).mono ?_
      rintro e w2 ⟨rfl, hb2⟩
      have hb12 := hb1.trans (hb2.mono hb1.size)
      clear hb1 hb2
      by_cases hcc : 128 ≤ c ∧ c ≤ 191
      · have hq := byteV_B8 (n := c) (by omega) (x := (c : Int)) rfl
        have hone : (⟨#[B8 c]⟩ : ByteArray).size = 1 := rfl
        have hac : ∀ W : World, (Op.stringOp .add a ⟨#[B8 c]⟩).run Tryd.prog W = .ok (.string (a ++ ⟨#[B8 c]⟩)) W := fun W => run_string_add_sum W a ⟨#[B8 c]⟩ (by omega)
        have hacb : ∀ W : World, (Op.stringOp .add (a ++ ⟨#[B8 c]⟩) b).run Tryd.prog W = .ok (.string (a ++ ⟨#[B8 c]⟩ ++ b)) W := fun W => run_string_add_sum W (a ++ ⟨#[B8 c]⟩) b (by rw [size_append]; omega)
        have hcr : uRight (sB (a ++ ⟨#[B8 c]⟩ ++ b)) = false := by rw [sB_append, sB_append]; exact uRight_tail (sB b) (B8 c) hra (by rw [B8_toNat (by omega)]; omega) (by rw [B8_toNat (by omega)]; omega)
        have hcs : (a ++ ⟨#[B8 c]⟩ ++ b : ByteArray).size ≤ 9223372036854775000 := by rw [size_append, size_append]; omega
        have hlit : ∀ W : World, (convert 22 9 (.slice (some ⟨W.heap.size, 0, none⟩) 1 1)).run Tryd.prog (W.alloc (.cells #[.int .u8 c] 5)) = .ok (.string ⟨#[B8 c]⟩) (W.alloc (.cells #[.int .u8 c] 5)) := fun W => by
          refine run_str (l := [B8 c]) ?_
          exact (owned_lit 0 W [B8 c] W.heap.size rfl (Nat.zero_le _) (by unfold maxLen; simp) [.int .u8 c] (by simp only [List.map]; rw [hq]) 1 rfl).bs
        generalize (a ++ ⟨#[B8 c]⟩ ++ b : ByteArray) = acb at *
        generalize (a ++ ⟨#[B8 c]⟩ : ByteArray) = ac at *
        cases hrb : uRight (sB b) with
        | false =>
          go_wp2_with fail
          refine (Right_c a _ (HE.out.below hb12) (by omega)).mono ?_
          rw [hra]
          rintro e w3 ⟨rfl, hb3⟩
          have hb13 := hb12.trans (hb3.mono hb12.size)
          clear hb3
          go_wp2_with fail
          have hbl := hb13.alloc hb13.size (Obj.cells #[Value.int .u8 (c : Int)] 5)
          refine (Right_c acb _ (HE.out.below hbl) hcs).mono ?_
          rw [hcr]
          rintro e w5 ⟨rfl, hb5⟩
          have hb15 : Below w.heap.size w w5 := hbl.trans (hb5.mono hbl.size)
          clear hb5 hbl hb13 hb12
          go_wp2_with fail
          refine (Right_c azb _ (HE.out.below hb15) hzs).mono ?_
          rw [hz]
          rintro e w8 ⟨rfl, hb8⟩
          have hb18 : Below w.heap.size w w8 := hb15.trans (hb8.mono hb15.size)
          clear hb8
          go_wp2_with fail
          refine (awake_c _ (HE.out.below hb18)).mono ?_
          rintro e w9 ⟨rfl, hb9⟩
          have hb19 := hb18.trans (hb9.mono hb18.size)
          go_wp2_with fail
          go_ret
          exact ⟨rfl, hb19⟩
        | true =>
          go_wp2_with fail
          refine (Right_c ab _ (HE.out.below hb12) hjs).mono ?_
          rw [hj hra hrb]
          rintro e w3 ⟨rfl, hb3⟩
          have hb13 := hb12.trans (hb3.mono hb12.size)
          clear hb3 hb12
          go_wp2_with fail
          refine (Right_c a _ (HE.out.below hb13) (by omega)).mono ?_
          rw [hra]
          rintro e w4 ⟨rfl, hb3⟩
          have hb14 := hb13.trans (hb3.mono hb13.size)
          clear hb3
          go_wp2_with fail
          have hbl := hb14.alloc hb14.size (Obj.cells #[Value.int .u8 (c : Int)] 5)
          refine (Right_c acb _ (HE.out.below hbl) hcs).mono ?_
          rw [hcr]
          rintro e w5 ⟨rfl, hb5⟩
          have hb15 : Below w.heap.size w w5 := hbl.trans (hb5.mono hbl.size)
          clear hb5 hbl hb13 hb14
          go_wp2_with fail
          refine (Right_c azb _ (HE.out.below hb15) hzs).mono ?_
          rw [hz]
          rintro e w8 ⟨rfl, hb8⟩
          have hb18 : Below w.heap.size w w8 := hb15.trans (hb8.mono hb15.size)
          clear hb8
          go_wp2_with fail
          refine (awake_c _ (HE.out.below hb18)).mono ?_
          rintro e w9 ⟨rfl, hb9⟩
          have hb19 := hb18.trans (hb9.mono hb18.size)
          go_wp2_with fail
          go_ret
          exact ⟨rfl, hb19⟩
      · cases hrb : uRight (sB b) with
        | false =>
          rcases Nat.lt_or_ge c 128 with hc1 | hc1
          · have hcx : (c : Int) < 128 := by omega
            go_wp2_with fail
            refine (Right_c a _ (HE.out.below hb12) (by omega)).mono ?_
            rw [hra]
            rintro e w3 ⟨rfl, hb3⟩
            have hb13 := hb12.trans (hb3.mono hb12.size)
            clear hb3
            go_wp2_with fail
            refine (Right_c azb _ (HE.out.below hb13) hzs).mono ?_
            rw [hz]
            rintro e w8 ⟨rfl, hb8⟩
            have hb18 : Below w.heap.size w w8 := hb13.trans (hb8.mono hb13.size)
            clear hb8
            go_wp2_with fail
            refine (awake_c _ (HE.out.below hb18)).mono ?_
            rintro e w9 ⟨rfl, hb9⟩
            have hb19 := hb18.trans (hb9.mono hb18.size)
            go_wp2_with fail
            go_ret
            exact ⟨rfl, hb19⟩
          · have hcx : 128 ≤ (c : Int) := by omega
            have hcy : 191 < (c : Int) := by omega
            go_wp2_with fail
            refine (Right_c a _ (HE.out.below hb12) (by omega)).mono ?_
            rw [hra]
            rintro e w3 ⟨rfl, hb3⟩
            have hb13 := hb12.trans (hb3.mono hb12.size)
            clear hb3
            go_wp2_with fail
            refine (Right_c azb _ (HE.out.below hb13) hzs).mono ?_
            rw [hz]
            rintro e w8 ⟨rfl, hb8⟩
            have hb18 : Below w.heap.size w w8 := hb13.trans (hb8.mono hb13.size)
            clear hb8
            go_wp2_with fail
            refine (awake_c _ (HE.out.below hb18)).mono ?_
            rintro e w9 ⟨rfl, hb9⟩
            have hb19 := hb18.trans (hb9.mono hb18.size)
            go_wp2_with fail
            go_ret
            exact ⟨rfl, hb19⟩
        | true =>
          rcases Nat.lt_or_ge c 128 with hc1 | hc1
          · have hcx : (c : Int) < 128 := by omega
            go_wp2_with fail
            refine (Right_c ab _ (HE.out.below hb12) hjs).mono ?_
            rw [hj hra hrb]
            rintro e w3 ⟨rfl, hb3⟩
            have hb13 := hb12.trans (hb3.mono hb12.size)
            clear hb3 hb12
            go_wp2_with fail
            refine (Right_c a _ (HE.out.below hb13) (by omega)).mono ?_
            rw [hra]
            rintro e w4 ⟨rfl, hb3⟩
            have hb14 := hb13.trans (hb3.mono hb13.size)
            clear hb3
            go_wp2_with fail
            refine (Right_c azb _ (HE.out.below hb14) hzs).mono ?_
            rw [hz]
            rintro e w8 ⟨rfl, hb8⟩
            have hb18 : Below w.heap.size w w8 := hb14.trans (hb8.mono hb14.size)
            clear hb8
            go_wp2_with fail
            refine (awake_c _ (HE.out.below hb18)).mono ?_
            rintro e w9 ⟨rfl, hb9⟩
            have hb19 := hb18.trans (hb9.mono hb18.size)
            go_wp2_with fail
            go_ret
            exact ⟨rfl, hb19⟩
          · have hcx : 128 ≤ (c : Int) := by omega
            have hcy : 191 < (c : Int) := by omega
            go_wp2_with fail
            refine (Right_c ab _ (HE.out.below hb12) hjs).mono ?_
            rw [hj hra hrb]
            rintro e w3 ⟨rfl, hb3⟩
            have hb13 := hb12.trans (hb3.mono hb12.size)
            clear hb3 hb12
            go_wp2_with fail
            refine (Right_c a _ (HE.out.below hb13) (by omega)).mono ?_
            rw [hra]
            rintro e w4 ⟨rfl, hb3⟩
            have hb14 := hb13.trans (hb3.mono hb13.size)
            clear hb3
            go_wp2_with fail
            refine (Right_c azb _ (HE.out.below hb14) hzs).mono ?_
            rw [hz]
            rintro e w8 ⟨rfl, hb8⟩
            have hb18 : Below w.heap.size w w8 := hb14.trans (hb8.mono hb14.size)
            clear hb8
            go_wp2_with fail
            refine (awake_c _ (HE.out.below hb18)).mono ?_
            rintro e w9 ⟨rfl, hb9⟩
            have hb19 := hb18.trans (hb9.mono hb18.size)
            go_wp2_with fail
            go_ret
            exact ⟨rfl, hb19⟩
  · have hl2 : 65534 < (a.size : Int) + b.size := by omega
    go_enter Tryd.func4, Tryd.ntmps4
    go_wp2_with fail
    refine (awake_c _ HE.out).mono ?_
    rintro e w4 ⟨rfl, hb4⟩
    go_wp2_with fail
    go_ret
    exact ⟨rfl, hb4⟩

end Go.Proofs.YtinfcjnmloglhaaDoor
