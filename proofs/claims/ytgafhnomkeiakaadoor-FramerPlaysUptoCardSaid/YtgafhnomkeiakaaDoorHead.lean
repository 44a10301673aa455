/- Heads: what the functions of package head, and of its reference, compute. -/
import Derived.Test.YtgafhnomkeiakaaDoorBase
namespace Go.Proofs.YtgafhnomkeiakaaDoor
open Go.RowKit
set_option linter.unusedVariables false

def mayB (n : Nat) : Bool := n < 6 || (10 ≤ n && n < 14)
def hMsg (f : Int) : Bool := decide (0 ≤ f) && decide (f < 16) && mayB f.toNat
/-- The table of flags reads as the program's text lays it. -/
def EnvH (w : World) : Prop := 3 < w.heap.size ∧ ∀ i, i < 16 → w.cell? ⟨3, i, none⟩ = some (.bool (mayB i))
theorem EnvH.below {B : Nat} {w w' : World} (h : EnvH w) (hb : Below B w w') (hB : w.heap.size ≤ B) : EnvH w' :=
  ⟨Nat.lt_of_lt_of_le h.1 hb.size, fun i hi => (hb.cell (p := ⟨3, i, none⟩) (by have := h.1; show 3 < B; omega)).trans (h.2 i hi)⟩

set_option maxHeartbeats 400000 in
theorem message_c (f : Int) (w : World) (hE : EnvH w) :
    Calls Tryd.prog 81 #[.int .i64 f] w fun e w' => e = .returned (.bool (hMsg f)) ∧ w = w' := by
  unfold hMsg
  by_cases h0 : 0 ≤ f
  · obtain ⟨n, rfl⟩ := Int.eq_ofNat_of_zero_le h0
    by_cases h1 : n < 16
    · have hc := hE.2 n h1
      clear hE
      rw [Int.toNat_natCast]
      go_enter Tryd.func81, Tryd.ntmps81
      go_wp2
      go_ret
      exact ⟨by simp; omega, rfl⟩
    · clear hE
      go_enter Tryd.func81, Tryd.ntmps81
      go_wp2
      go_ret
      exact ⟨by simp; omega, rfl⟩
  · clear hE
    go_enter Tryd.func81, Tryd.ntmps81
    go_wp2
    go_ret
    exact ⟨by simp; omega, rfl⟩

def hPlain (k f : Int) : Bool := f == (if k = 6 ∨ k = 8 ∨ k = 10 then 2 else 0)
set_option maxHeartbeats 400000 in
theorem plain_c (k f : Int) (w : World) :
    Calls Tryd.prog 82 #[.int .i64 k, .int .i64 f] w fun e w' => e = .returned (.bool (hPlain k f)) ∧ w = w' := by
  go_enter Tryd.func82, Tryd.ntmps82
  go_wp2
  all_goals (go_ret; refine ⟨ret_bool ?_, rfl⟩; unfold hPlain; simp_all)

def hRight (k f : Int) : Int := if k < 1 ∨ 14 < k then 11 else if k = 3 then (if hMsg f then 0 else 10) else if hPlain k f then 0 else 10
theorem hRight_alt (k f : Int) : hRight k f = if k < 1 ∨ 14 < k then 11 else if k = 3 then (if 0 ≤ f ∧ f ≤ 15 ∧ (f < 6 ∨ (10 ≤ f ∧ f < 14)) then 0 else 10) else if f = (if k = 6 ∨ k = 8 ∨ k = 10 then 2 else 0) then 0 else 10 := by
  unfold hRight hMsg hPlain mayB
  by_cases h1 : k < 1 ∨ 14 < k
  · rw [if_pos h1, if_pos h1]
  · rw [if_neg h1, if_neg h1]
    by_cases h2 : k = 3
    · rw [if_pos h2, if_pos h2]
      congr 1
      simp
      omega
    · rw [if_neg h2, if_neg h2]
      simp
theorem hRight_vals (k f : Int) : hRight k f = 0 ∨ hRight k f = 10 ∨ hRight k f = 11 := by
  unfold hRight; repeat' split
  all_goals simp
theorem hRight_ok {k f : Int} (h : hRight k f = 0) : 1 ≤ k ∧ k ≤ 14 ∧ 0 ≤ f ∧ f < 16 := by
  rw [hRight_alt] at h
  by_cases h1 : k < 1 ∨ 14 < k
  · rw [if_pos h1] at h; omega
  · rw [if_neg h1] at h
    by_cases h2 : k = 3
    · rw [if_pos h2] at h
      by_cases h3 : 0 ≤ f ∧ f ≤ 15 ∧ (f < 6 ∨ (10 ≤ f ∧ f < 14))
      · omega
      · rw [if_neg h3] at h; omega
    · rw [if_neg h2] at h
      by_cases h4 : k = 6 ∨ k = 8 ∨ k = 10
      · rw [if_pos h4] at h
        by_cases h5 : f = 2
        · omega
        · rw [if_neg h5] at h; omega
      · rw [if_neg h4] at h
        by_cases h5 : f = 0
        · omega
        · rw [if_neg h5] at h; omega

set_option maxHeartbeats 400000 in
theorem hRight_c (k f : Int) (w : World) (hE : EnvH w) :
    Calls Tryd.prog 72 #[.int .i64 k, .int .i64 f] w fun e w' => e = .returned (.int .i64 (hRight k f)) ∧ w = w' := by
  have HE := hd hE; clear hE
  go_enter Tryd.func72, Tryd.ntmps72
  go_wp2_with (first
    | (go_at_call 81; refine (message_c _ _ HE.out).mono ?_; rintro e w' ⟨rfl, rfl⟩)
    | (go_at_call 82; refine (plain_c _ _ _).mono ?_; rintro e w' ⟨rfl, rfl⟩))
  all_goals (go_ret; refine ⟨ret_int ?_, rfl⟩; unfold hRight)
  all_goals (clear HE; simp_all)
  all_goals omega

set_option maxHeartbeats 400000 in
theorem refHRight_c (k f : Int) (w : World) :
    Calls Tryd.prog 47 #[.int .i64 k, .int .i64 f] w fun e w' => e = .returned (.int .i64 (hRight k f)) ∧ w = w' := by
  go_enter Tryd.func47, Tryd.ntmps47
  go_wp2
  all_goals (go_ret; refine ⟨ret_int ?_, rfl⟩)
  all_goals rw [hRight_alt]
  all_goals (try simp only [beq_iff_eq, bne_iff_ne, beq_eq_false_iff_ne, bne_eq_false_iff_eq, ne_eq] at *)
  all_goals (repeat' split)
  all_goals omega

theorem orBits : ∀ k : Fin 15, ∀ f : Fin 16, bits .or .i64 (((k.val : Nat) : Int) * 16) ((f.val : Nat) : Int) = 16 * (k.val : Int) + (f.val : Int) := by decide +kernel
theorem orMore : ∀ n : Fin 128, bits .or .i64 ((n.val : Nat) : Int) 128 = (n.val : Int) + 128 := by decide +kernel

def hBytes (k f n : Nat) : List UInt8 := B8 (16 * k + f) :: (if n < 128 then [B8 n] else [B8 (n % 128 + 128), B8 (n / 128)])
def hPutE (k f n : Int) : Int := if hRight k f = 0 then (if n < 0 ∨ 4096 < n then 3 else 0) else hRight k f
def hPutB (k f n : Int) : List UInt8 := if hPutE k f n = 0 then hBytes k.toNat f.toNat n.toNat else []


set_option maxRecDepth 100000 in
set_option maxHeartbeats 1000000 in
theorem refHPut_c (k f n : Int) (w : World) :
    Calls Tryd.prog 24 #[.agg #[.int .i64 k, .int .i64 f, .int .i64 n]] w (GivesB w (hPutB k f n) (hPutE k f n)) := by
  obtain ⟨r, hr⟩ : ∃ r, hRight k f = r := ⟨_, rfl⟩
  obtain ⟨rE, hrE⟩ : ∃ r, hPutE k f n = r := ⟨_, rfl⟩
  obtain ⟨rB, hrB⟩ : ∃ r, hPutB k f n = r := ⟨_, rfl⟩
  rw [hrE, hrB]
  unfold hPutB at hrB
  rw [hrE] at hrB
  unfold hPutE at hrE
  rw [hr] at hrE
  by_cases h0 : r = 0
  · rw [if_pos h0] at hrE
    have hok := hRight_ok (hr.trans h0)
    subst h0
    obtain ⟨hk1, hk2, hf1, hf2⟩ := hok
    obtain ⟨k, rfl⟩ := Int.eq_ofNat_of_zero_le (show 0 ≤ k by omega)
    obtain ⟨f, rfl⟩ := Int.eq_ofNat_of_zero_le hf1
    by_cases hn : n < 0 ∨ 4096 < n
    · rw [if_pos hn] at hrE
      subst hrE
      rw [if_neg (by decide)] at hrB
      subst hrB
      have Hr := hd hr; clear hr
      rcases hn with hn | hn
      all_goals
        go_enter Tryd.func24, Tryd.ntmps24
        go_wp2_with fail
        refine (refHRight_c _ _ _).mono ?_
        rintro e w' ⟨rfl, rfl⟩
        rw [Hr.out]
        go_wp2
        go_ret2
        exact GivesB.nil ((Below.refl _ _).alloc (Nat.le_refl _) _)
    · rw [if_neg hn] at hrE
      subst hrE
      rw [if_pos rfl] at hrB
      obtain ⟨n, rfl⟩ := Int.eq_ofNat_of_zero_le (show 0 ≤ n by omega)
      simp only [Int.toNat_natCast] at hrB
      have hn2 : n ≤ 4096 := by omega
      clear hn
      have hx1 : Value.int .u8 (16 * (k : Int) + f) = byteV (B8 (16 * k + f)) := (byteV_B8 (by omega) (by omega)).symm
      have Hx1 := hd hx1; clear hx1
      have Hr := hd hr; clear hr
      by_cases hn : n < 128
      · have HB : Hd (B8 (16 * k + f) :: [B8 n] = rB) := hd (by rw [← hrB]; unfold hBytes; rw [if_pos hn])
        clear hrB
        go_enter Tryd.func24, Tryd.ntmps24
        go_wp2_with fail
        refine (refHRight_c _ _ _).mono ?_
        rintro e w' ⟨rfl, rfl⟩
        rw [Hr.out]
        go_wp2_with fail
        have hown0 := owned_lit w.heap.size (w.alloc (Obj.cells #[Value.int IntKind.i64 ↑k, Value.int IntKind.i64 ↑f, Value.int IntKind.i64 ↑n] 52)) [B8 (16 * k + f)] (w.heap.size + 1) (by simp) (by omega) (by unfold maxLen; simp) [Value.int IntKind.u8 (16 * ↑k + ↑f)] (by rw [Hx1.out]; rfl) 1 rfl
        have hb0 : Below w.heap.size w ((w.alloc (Obj.cells #[Value.int IntKind.i64 ↑k, Value.int IntKind.i64 ↑f, Value.int IntKind.i64 ↑n] 52)).alloc (Obj.cells #[Value.int IntKind.u8 (16 * ↑k + ↑f)] 5)) := ((Below.refl _ _).alloc (Nat.le_refl _) _).alloc (by simp) _
        generalize ((w.alloc (Obj.cells #[Value.int IntKind.i64 ↑k, Value.int IntKind.i64 ↑f, Value.int IntKind.i64 ↑n] 52)).alloc (Obj.cells #[Value.int IntKind.u8 (16 * ↑k + ↑f)] 5)) = w1 at hown0 hb0 ⊢
        refine wp_loop_rounds 1 ?_
        rw [rounds_succ]
        go_wp2_with (at_builtin; refine wp_appB1 rfl _ _ rfl w.heap.size _ _ rfl hown0 _ (B8 n) (byteV_B8 (by omega) rfl).symm rfl (by simp) hb0.size ?_; intro v' w2 hown1 hb1)
        go_ret2
        exact ⟨v', rfl, HB.out ▸ hown1, hb0.trans hb1⟩
      · have hm1 : bits .or .i64 ((n : Int) % 128) 128 = (n : Int) % 128 + 128 := orMore ⟨n % 128, by omega⟩
        have HB : Hd (B8 (16 * k + f) :: [B8 (n % 128 + 128), B8 (n / 128)] = rB) := hd (by rw [← hrB]; unfold hBytes; rw [if_neg hn])
        clear hrB
        go_enter Tryd.func24, Tryd.ntmps24
        go_wp2_with fail
        refine (refHRight_c _ _ _).mono ?_
        rintro e w' ⟨rfl, rfl⟩
        rw [Hr.out]
        go_wp2_with fail
        have hown0 := owned_lit w.heap.size (w.alloc (Obj.cells #[Value.int IntKind.i64 ↑k, Value.int IntKind.i64 ↑f, Value.int IntKind.i64 ↑n] 52)) [B8 (16 * k + f)] (w.heap.size + 1) (by simp) (by omega) (by unfold maxLen; simp) [Value.int IntKind.u8 (16 * ↑k + ↑f)] (by rw [Hx1.out]; rfl) 1 rfl
        have hb0 : Below w.heap.size w ((w.alloc (Obj.cells #[Value.int IntKind.i64 ↑k, Value.int IntKind.i64 ↑f, Value.int IntKind.i64 ↑n] 52)).alloc (Obj.cells #[Value.int IntKind.u8 (16 * ↑k + ↑f)] 5)) := ((Below.refl _ _).alloc (Nat.le_refl _) _).alloc (by simp) _
        generalize ((w.alloc (Obj.cells #[Value.int IntKind.i64 ↑k, Value.int IntKind.i64 ↑f, Value.int IntKind.i64 ↑n] 52)).alloc (Obj.cells #[Value.int IntKind.u8 (16 * ↑k + ↑f)] 5)) = w1 at hown0 hb0 ⊢
        refine wp_loop_rounds 2 ?_
        rw [rounds_succ]
        go_wp2_with (at_builtin; refine wp_appB1 rfl _ _ rfl w.heap.size _ _ rfl hown0 _ (B8 (n % 128 + 128)) (byteV_B8 (by omega) (by omega)).symm rfl (by simp) hb0.size ?_; intro v' w2 hown1 hb1)
        rw [rounds_succ]
        go_wp2_with (at_builtin; refine wp_appB1 rfl _ _ rfl w.heap.size _ _ rfl hown1 _ (B8 (n / 128)) (byteV_B8 (by omega) (by omega)).symm rfl (by simp) (hb0.trans hb1).size ?_; intro v3 w3 hown3 hb3)
        go_ret2
        exact ⟨v3, rfl, HB.out ▸ hown3, (hb0.trans hb1).trans hb3⟩
  · rw [if_neg h0] at hrE
    subst hrE
    rw [if_neg h0] at hrB
    subst hrB
    have hr0 : (r != 0) = true := by simpa using h0
    have Hr := hd hr; clear hr h0
    go_enter Tryd.func24, Tryd.ntmps24
    go_wp2_with fail
    refine (refHRight_c _ _ _).mono ?_
    rintro e w' ⟨rfl, rfl⟩
    rw [Hr.out]
    go_wp2
    go_ret2
    exact GivesB.nil ((Below.refl _ _).alloc (Nat.le_refl _) _)


end Go.Proofs.YtgafhnomkeiakaaDoor
