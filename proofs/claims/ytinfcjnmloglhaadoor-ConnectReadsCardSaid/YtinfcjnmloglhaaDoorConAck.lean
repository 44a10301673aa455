/- Who comes: what is answered: the walks. -/
import Derived.Test.YtinfcjnmloglhaaDoorConPlain
import Derived.Test.YtinfcjnmloglhaaDoorPubOf
namespace Go.Proofs.YtinfcjnmloglhaaDoor
open Go.RowKit
set_option linter.unusedVariables false
set_option linter.unusedSimpArgs false

set_option maxRecDepth 100000 in
set_option maxHeartbeats 1000000 in
theorem bit_c (b : Bool) (n : Int) (w : World) : Calls Tryd.prog 60 #[.bool b, .int .i64 n] w fun e w' => e = .returned (.int .i64 (bI b n)) ∧ w = w' := by
  unfold bI
  cases b
  all_goals
    go_enter Tryd.func60, Tryd.ntmps60
    go_wp2_with fail
    go_ret
    exact ⟨rfl, rfl⟩

theorem aPut_nil {p : Bool} {k : Int} {w w' : World} (e : Int) (he : aPutE p k = e) (h0 : e ≠ 0) (hb : Below w.heap.size w w') :
    GivesB w (aPutB p k) (aPutE p k) (.returned (.tuple #[.slice none 0 0, .int .i64 e])) w' := by
  unfold aPutB
  rw [he, if_neg h0]
  exact GivesB.nil hb

theorem gives_lit (w : World) (l : List UInt8) (E : Int) (hE : E = 0) (L : List UInt8) (hL : L = l) (cs : List Value) (hc : cs = l.map byteV) (hm : l.length ≤ maxLen) (n : Nat) (hn : n = l.length) :
    GivesB w L E (.returned (.tuple #[.slice (some ⟨w.heap.size, 0, none⟩) n n, .int .i64 0])) (w.alloc (.cells cs.toArray 5)) := by
  subst hE hL
  exact ⟨_, rfl, owned_lit w.heap.size w L w.heap.size rfl (Nat.le_refl _) hm cs hc n hn, by go_grown⟩

set_option maxRecDepth 100000 in
set_option maxHeartbeats 1000000 in
theorem PutAck_c (p : Bool) (k : Int) (w : World) : Calls Tryd.prog 40 #[.bool p, .int .i64 k] w (GivesB w (aPutB p k) (aPutE p k)) := by
  by_cases h1 : k < 0 ∨ 5 < k
  · have hs : aPutE p k = 1 := by rw [aPutE, if_pos h1]
    rcases h1 with h1 | h1
    all_goals
      go_enter Tryd.func40, Tryd.ntmps40
      go_wp2_with fail
      go_ret2
      exact aPut_nil 1 hs (by decide) (by go_grown)
  have hk0 : 0 ≤ k := by omega
  have hk1 : k ≤ 5 := by omega
  cases p
  · have hs : aPutE false k = 0 := by rw [aPutE, if_neg h1, if_neg (by simp)]
    have hB : aPutB false k = [0, B8 k.toNat] := by rw [aPutB, if_pos hs]; rfl
    have Hs := hd hs; have HB := hd hB; clear hs hB h1
    go_enter Tryd.func40, Tryd.ntmps40
    go_wp2_with fail
    refine (bit_c false 1 _).mono ?_
    rintro e w' ⟨rfl, rfl⟩
    rw [show bI false 1 = 0 from rfl]
    go_wp2_with fail
    go_ret2
    exact gives_lit w _ _ Hs.out _ HB.out [.int .u8 0, .int .u8 k] (by simp only [List.map]; rw [byteV_B8 (x := k) (by omega) (by omega)]; rfl) (by unfold maxLen; simp) 2 rfl
  · by_cases h2 : k = 0
    · subst h2
      have hs : aPutE true 0 = 0 := by decide
      have hB : aPutB true 0 = [1, 0] := by decide
      have Hs := hd hs; have HB := hd hB; clear hs hB h1
      go_enter Tryd.func40, Tryd.ntmps40
      go_wp2_with fail
      refine (bit_c true 1 _).mono ?_
      rintro e w' ⟨rfl, rfl⟩
      rw [show bI true 1 = 1 from rfl]
      go_wp2_with fail
      go_ret2
      exact gives_lit w _ _ Hs.out _ HB.out [.int .u8 1, .int .u8 0] rfl (by unfold maxLen; simp) 2 rfl
    · have hs : aPutE true k = 4 := by rw [aPutE, if_neg h1, if_pos ⟨rfl, h2⟩]
      have hkb : (k != 0) = true := by simpa using h2
      go_enter Tryd.func40, Tryd.ntmps40
      go_wp2_with fail
      go_ret2
      exact aPut_nil 4 hs (by decide) (by go_grown)

set_option maxRecDepth 100000 in
set_option maxHeartbeats 1000000 in
theorem refPutAck_c (p : Bool) (k : Int) (w : World) : Calls Tryd.prog 41 #[.bool p, .int .i64 k] w (GivesB w (aPutB p k) (aPutE p k)) := by
  by_cases h1 : k < 0 ∨ 5 < k
  · have hs : aPutE p k = 1 := by rw [aPutE, if_pos h1]
    rcases h1 with h1 | h1
    all_goals
      go_enter Tryd.func41, Tryd.ntmps41
      go_wp2_with fail
      go_ret2
      exact aPut_nil 1 hs (by decide) (by go_grown)
  have hk0 : 0 ≤ k := by omega
  have hk1 : k ≤ 5 := by omega
  cases p
  · have hs : aPutE false k = 0 := by rw [aPutE, if_neg h1, if_neg (by simp)]
    have hB : aPutB false k = [0, B8 k.toNat] := by rw [aPutB, if_pos hs]; rfl
    have Hs := hd hs; have HB := hd hB; clear hs hB h1
    go_enter Tryd.func41, Tryd.ntmps41
    go_wp2_with fail
    go_ret2
    exact gives_lit w _ _ Hs.out _ HB.out [.int .u8 0, .int .u8 k] (by simp only [List.map]; rw [byteV_B8 (x := k) (by omega) (by omega)]; rfl) (by unfold maxLen; simp) 2 rfl
  · by_cases h2 : k = 0
    · subst h2
      have hs : aPutE true 0 = 0 := by decide
      have hB : aPutB true 0 = [1, 0] := by decide
      have Hs := hd hs; have HB := hd hB; clear hs hB h1
      go_enter Tryd.func41, Tryd.ntmps41
      go_wp2_with fail
      go_ret2
      exact gives_lit w _ _ Hs.out _ HB.out [.int .u8 1, .int .u8 0] rfl (by unfold maxLen; simp) 2 rfl
    · have hs : aPutE true k = 4 := by rw [aPutE, if_neg h1, if_pos ⟨rfl, h2⟩]
      have hkb : (k != 0) = true := by simpa using h2
      go_enter Tryd.func41, Tryd.ntmps41
      go_wp2_with fail
      go_ret2
      exact aPut_nil 4 hs (by decide) (by go_grown)

/-- What an answer's bytes tell. -/
def GivesA (w : World) (l : List UInt8) (e : Ending) (w' : World) : Prop :=
  e = .returned (.tuple #[.bool (aOf l).1, .int .i64 (aOf l).2.1, .int .i64 (aOf l).2.2]) ∧ Below w.heap.size w w'
theorem GivesA.mk {w w' : World} {l : List UInt8} {p : Bool} {k e : Int} (h : aOf l = (p, k, e)) (hb : Below w.heap.size w w') : GivesA w l (.returned (.tuple #[.bool p, .int .i64 k, .int .i64 e])) w' := by
  unfold GivesA
  rw [h]
  exact ⟨rfl, hb⟩

set_option maxRecDepth 100000 in
set_option maxHeartbeats 1000000 in
theorem OfAck_c (b : ByteArray) (w : World) : Calls Tryd.prog 42 #[.string b] w (GivesA w (sB b)) := by
  by_cases hl : b.size = 2
  rotate_left
  · have hr : aOf (sB b) = (false, 0, 4) := by rw [aOf, sB_len, if_pos (Or.inl hl)]
    have hlb : (((b.size : Nat) : Int) != 2) = true := by simp; omega
    go_enter Tryd.func42, Tryd.ntmps42
    go_wp2_with fail
    go_ret3
    exact GivesA.mk hr (by go_grown)
  have hlb : (((b.size : Nat) : Int) != 2) = false := by simp; omega
  have hx0 : ∀ W : World, (Instr.index 9 (.string b) (.int .i64 0)).run Tryd.prog W = .ok (.int .u8 (bN (sB b) 0)) W := fun W => run_at b 0 0 rfl (by omega) W
  have hx1 : ∀ W : World, (Instr.index 9 (.string b) (.int .i64 1)).run Tryd.prog W = .ok (.int .u8 (bN (sB b) 1)) W := fun W => run_at b 1 1 rfl (by omega) W
  have b0 := bN_lt (sB b) 0
  have b1 := bN_lt (sB b) 1
  have hof : aOf (sB b) = aOf (sB b) := rfl
  conv at hof => rhs; rw [aOf, sB_len]
  generalize bN (sB b) 0 = x at *
  generalize bN (sB b) 1 = y at *
  by_cases hx : 1 < x
  · rw [if_pos (Or.inr hx)] at hof
    clear hl
    go_enter Tryd.func42, Tryd.ntmps42
    go_wp2_with fail
    go_ret3
    exact GivesA.mk hof (by go_grown)
  rw [if_neg (by omega)] at hof
  have Hof := hd hof; clear hof hl
  have hxx : x = 0 ∨ x = 1 := by omega
  rcases hxx with rfl | rfl
  all_goals
    go_enter Tryd.func42, Tryd.ntmps42
    go_wp2_with fail
    go_region
    go_wp2_with fail
    refine (PutAck_c _ (y : Int) _).mono ?_
    have hof := Hof.out
    simp only [Nat.zero_ne_one, decide_false, decide_true] at hof
    clear Hof
    rintro e w1 ⟨v1, rfl, ho1, hb1⟩
    have hb : Below w.heap.size w w1 := Below.up (by go_grown) hb1
    generalize aPutE _ (y : Int) = E at hof ⊢
    by_cases hE : E = 0
    · subst hE
      rw [if_neg (by decide)] at hof
      have Hof := hd hof; clear hof
      go_wp2_with fail
      go_ret3
      exact GivesA.mk Hof.out hb
    · rw [if_pos hE] at hof
      have hEb : (E != 0) = true := by simpa using hE
      have Hof := hd hof; clear hof
      go_wp2_with fail
      go_ret3
      exact GivesA.mk Hof.out hb

set_option maxRecDepth 100000 in
set_option maxHeartbeats 1000000 in
theorem refOfAck_c (b : ByteArray) (w : World) : Calls Tryd.prog 43 #[.string b] w (GivesA w (sB b)) := by
  by_cases hl : b.size = 2
  rotate_left
  · have hr : aOf (sB b) = (false, 0, 4) := by rw [aOf, sB_len, if_pos (Or.inl hl)]
    have hlb : (((b.size : Nat) : Int) != 2) = true := by simp; omega
    go_enter Tryd.func43, Tryd.ntmps43
    go_wp2_with fail
    go_ret3
    exact GivesA.mk hr (by go_grown)
  have hlb : (((b.size : Nat) : Int) != 2) = false := by simp; omega
  have hx0 : ∀ W : World, (Instr.index 9 (.string b) (.int .i64 0)).run Tryd.prog W = .ok (.int .u8 (bN (sB b) 0)) W := fun W => run_at b 0 0 rfl (by omega) W
  have hx1 : ∀ W : World, (Instr.index 9 (.string b) (.int .i64 1)).run Tryd.prog W = .ok (.int .u8 (bN (sB b) 1)) W := fun W => run_at b 1 1 rfl (by omega) W
  have b0 := bN_lt (sB b) 0
  have b1 := bN_lt (sB b) 1
  have hof : aOf (sB b) = aOf (sB b) := rfl
  conv at hof => rhs; rw [aOf, sB_len]
  generalize bN (sB b) 0 = x at *
  generalize bN (sB b) 1 = y at *
  by_cases hx : 1 < x
  · rw [if_pos (Or.inr hx)] at hof
    clear hl
    go_enter Tryd.func43, Tryd.ntmps43
    go_wp2_with fail
    go_ret3
    exact GivesA.mk hof (by go_grown)
  rw [if_neg (by omega)] at hof
  by_cases hy : 5 < y
  · have h4 : ∀ p, aPutE p (y : Int) = 1 := fun p => by rw [aPutE, if_pos (by omega)]
    rw [h4, if_pos (by decide)] at hof
    clear hl h4
    go_enter Tryd.func43, Tryd.ntmps43
    go_wp2_with fail
    go_ret3
    exact GivesA.mk hof (by go_grown)
  have hxx : x = 0 ∨ x = 1 := by omega
  rcases hxx with rfl | rfl
  · have h4 : aPutE (decide ((0 : Nat) = 1)) (y : Int) = 0 := by rw [aPutE, if_neg (by omega), if_neg (by simp)]
    rw [h4, if_neg (by decide)] at hof
    have Hof := hd hof
    clear hl h4 hof
    go_enter Tryd.func43, Tryd.ntmps43
    go_wp2_with fail
    try go_region
    go_wp2_with fail
    go_ret3
    exact GivesA.mk Hof.out (by go_grown)
  · by_cases hy0 : y = 0
    · subst hy0
      have h4 : aPutE (decide ((1 : Nat) = 1)) ((0 : Nat) : Int) = 0 := by decide
      rw [h4, if_neg (by decide)] at hof
      have Hof := hd hof
      clear hl h4 hof
      go_enter Tryd.func43, Tryd.ntmps43
      go_wp2_with fail
      try go_region
      go_wp2_with fail
      go_ret3
      exact GivesA.mk Hof.out (by go_grown)
    · have hyb : ((y : Int) != 0) = true := by simp; omega
      have h4 : aPutE (decide ((1 : Nat) = 1)) (y : Int) = 4 := by rw [aPutE, if_neg (by omega), if_pos ⟨rfl, by omega⟩]
      rw [h4, if_pos (by decide)] at hof
      have Hof := hd hof
      clear hl h4 hof
      go_enter Tryd.func43, Tryd.ntmps43
      go_wp2_with fail
      go_ret3
      exact GivesA.mk Hof.out (by go_grown)
end Go.Proofs.YtinfcjnmloglhaaDoor
