/- A bundle of texts (merged for the limit on files): ConAck, ConReader, ConWriter. -/
import Derived.Test.YtjlnlgemngpelaaGreatDoorZa5
import Derived.Test.YtjlnlgemngpelaaGreatDoorZa4
/- Who comes: what is answered: the walks. -/
namespace Go.Proofs.YtjlnlgemngpelaaGreatDoor
open Go.RowKit
set_option linter.unusedVariables false
set_option linter.unusedSimpArgs false

set_option maxRecDepth 100000 in
set_option maxHeartbeats 1000000 in
theorem bit_c (b : Bool) (n : Int) (w : World) : Calls Tryz.prog 110 #[.bool b, .int .i64 n] w fun e w' => e = .returned (.int .i64 (bI b n)) ∧ w = w' := by
  unfold bI
  cases b
  all_goals
    go_enter Tryz.func110, Tryz.ntmps110
    go_wp2_with fail
    go_ret
    exact ⟨rfl, rfl⟩

theorem aPut_nil {p : Bool} {k : Int} {w w' : World} (e : Int) (he : aPutE p k = e) (h0 : e ≠ 0) (hb : Below w.heap.size w w') :
    GivesB w (aPutB p k) (aPutE p k) (.returned (.tuple #[.slice none 0 0, .int .i64 e])) w' := by
  unfold aPutB
  rw [he, if_neg h0]
  exact GivesB.nil hb

theorem gives_lit (w : World) (l : List UInt8) (E : Int) (hE : E = 0) (L : List UInt8) (hL : L = l) (cs : List Value) (hc : cs = l.map byteV) (hm : l.length ≤ maxLen) (n : Nat) (hn : n = l.length) :
    GivesB w L E (.returned (.tuple #[.slice (some ⟨w.heap.size, 0, none⟩) n n, .int .i64 0])) (w.alloc (.cells cs.toArray 5)) := by
  subst hE hL
  exact ⟨_, rfl, owned_lit w.heap.size w L w.heap.size rfl (Nat.le_refl _) hm cs hc n hn, by go_grown⟩

set_option maxRecDepth 100000 in
set_option maxHeartbeats 1000000 in
theorem PutAck_c (p : Bool) (k : Int) (w : World) : Calls Tryz.prog 74 #[.bool p, .int .i64 k] w (GivesB w (aPutB p k) (aPutE p k)) := by
  by_cases h1 : k < 0 ∨ 5 < k
  · have hs : aPutE p k = 1 := by rw [aPutE, if_pos h1]
    rcases h1 with h1 | h1
    all_goals
      go_enter Tryz.func74, Tryz.ntmps74
      go_wp2_with fail
      go_ret2
      exact aPut_nil 1 hs (by decide) (by go_grown)
  have hk0 : 0 ≤ k := by omega
  have hk1 : k ≤ 5 := by omega
  cases p
  · have hs : aPutE false k = 0 := by rw [aPutE, if_neg h1, if_neg (by simp)]
    have hB : aPutB false k = [0, B8 k.toNat] := by rw [aPutB, if_pos hs]; rfl
    have Hs := hd hs; have HB := hd hB; clear hs hB h1
    go_enter Tryz.func74, Tryz.ntmps74
    go_wp2_with fail
    refine (bit_c false 1 _).mono ?_
    rintro e w' ⟨rfl, rfl⟩
    rw [show bI false 1 = 0 from rfl]
    go_wp2_with fail
    go_ret2
    exact gives_lit w _ _ Hs.out _ HB.out [.int .u8 0, .int .u8 k] (by simp only [List.map]; rw [byteV_B8 (x := k) (by omega) (by omega)]; rfl) (by unfold maxLen; simp) 2 rfl
  · by_cases h2 : k = 0
    · subst h2
      have hs : aPutE true 0 = 0 := by decide
      have hB : aPutB true 0 = [1, 0] := by decide
      have Hs := hd hs; have HB := hd hB; clear hs hB h1
      go_enter Tryz.func74, Tryz.ntmps74
      go_wp2_with fail
      refine (bit_c true 1 _).mono ?_
      rintro e w' ⟨rfl, rfl⟩
      rw [show bI true 1 = 1 from rfl]
      go_wp2_with fail
      go_ret2
      exact gives_lit w _ _ Hs.out _ HB.out [.int .u8 1, .int .u8 0] rfl (by unfold maxLen; simp) 2 rfl
    · have hs : aPutE true k = 4 := by rw [aPutE, if_neg h1, if_pos ⟨rfl, h2⟩]
      have hkb : (k != 0) = true := by simpa using h2
      go_enter Tryz.func74, Tryz.ntmps74
      go_wp2_with fail
      go_ret2
      exact aPut_nil 4 hs (by decide) (by go_grown)

/-- What an answer's bytes tell. -/
def GivesA (w : World) (l : List UInt8) (e : Ending) (w' : World) : Prop :=
  e = .returned (.tuple #[.bool (aOf l).1, .int .i64 (aOf l).2.1, .int .i64 (aOf l).2.2]) ∧ Below w.heap.size w w'
theorem GivesA.mk {w w' : World} {l : List UInt8} {p : Bool} {k e : Int} (h : aOf l = (p, k, e)) (hb : Below w.heap.size w w') : GivesA w l (.returned (.tuple #[.bool p, .int .i64 k, .int .i64 e])) w' := by
  unfold GivesA
  rw [h]
  exact ⟨rfl, hb⟩

set_option maxRecDepth 100000 in
set_option maxHeartbeats 1000000 in
theorem OfAck_c (b : ByteArray) (w : World) : Calls Tryz.prog 125 #[.string b] w (GivesA w (sB b)) := by
  by_cases hl : b.size = 2
  rotate_left
  · have hr : aOf (sB b) = (false, 0, 4) := by rw [aOf, sB_len, if_pos (Or.inl hl)]
    have hlb : (((b.size : Nat) : Int) != 2) = true := by simp; omega
    go_enter Tryz.func125, Tryz.ntmps125
    go_wp2_with fail
    go_ret3
    exact GivesA.mk hr (by go_grown)
  have hlb : (((b.size : Nat) : Int) != 2) = false := by simp; omega
  have hx0 : ∀ W : World, (Instr.index 9 (.string b) (.int .i64 0)).run Tryz.prog W = .ok (.int .u8 (bN (sB b) 0)) W := fun W => run_at b 0 0 rfl (by omega) W
  have hx1 : ∀ W : World, (Instr.index 9 (.string b) (.int .i64 1)).run Tryz.prog W = .ok (.int .u8 (bN (sB b) 1)) W := fun W => run_at b 1 1 rfl (by omega) W
  have b0 := bN_lt (sB b) 0
  have b1 := bN_lt (sB b) 1
  have hof : aOf (sB b) = aOf (sB b) := rfl
  conv at hof => rhs; rw [aOf, sB_len]
  generalize bN (sB b) 0 = x at *
  generalize bN (sB b) 1 = y at *
  by_cases hx : 1 < x
  · rw [if_pos (Or.inr hx)] at hof
    clear hl
    go_enter Tryz.func125, Tryz.ntmps125
    go_wp2_with fail
    go_ret3
    exact GivesA.mk hof (by go_grown)
  rw [if_neg (by omega)] at hof
  have Hof := hd hof; clear hof hl
  have hxx : x = 0 ∨ x = 1 := by omega
  rcases hxx with rfl | rfl
  all_goals
    go_enter Tryz.func125, Tryz.ntmps125
    go_wp2_with fail
    go_region
    go_wp2_with fail
    refine (PutAck_c _ (y : Int) _).mono ?_
    have hof := Hof.out
    simp only [Nat.zero_ne_one, decide_false, decide_true] at hof
    clear Hof
    rintro e w1 ⟨v1, rfl, ho1, hb1⟩
    have hb : Below w.heap.size w w1 := Below.up (by go_grown) hb1
    generalize aPutE _ (y : Int) = E at hof ⊢
    by_cases hE : E = 0
    · subst hE
      rw [if_neg (by decide)] at hof
      have Hof := hd hof; clear hof
      go_wp2_with fail
      go_ret3
      exact GivesA.mk Hof.out hb
    · rw [if_pos hE] at hof
      have hEb : (E != 0) = true := by simpa using hE
      have Hof := hd hof; clear hof
      go_wp2_with fail
      go_ret3
      exact GivesA.mk Hof.out hb

set_option maxRecDepth 100000 in
set_option maxHeartbeats 1000000 in
theorem refOfAck_c (b : ByteArray) (w : World) : Calls Tryz.prog 97 #[.string b] w (GivesA w (sB b)) := by
  by_cases hl : b.size = 2
  rotate_left
  · have hr : aOf (sB b) = (false, 0, 4) := by rw [aOf, sB_len, if_pos (Or.inl hl)]
    have hlb : (((b.size : Nat) : Int) != 2) = true := by simp; omega
    go_enter Tryz.func97, Tryz.ntmps97
    go_wp2_with fail
    go_ret3
    exact GivesA.mk hr (by go_grown)
  have hlb : (((b.size : Nat) : Int) != 2) = false := by simp; omega
  have hx0 : ∀ W : World, (Instr.index 9 (.string b) (.int .i64 0)).run Tryz.prog W = .ok (.int .u8 (bN (sB b) 0)) W := fun W => run_at b 0 0 rfl (by omega) W
  have hx1 : ∀ W : World, (Instr.index 9 (.string b) (.int .i64 1)).run Tryz.prog W = .ok (.int .u8 (bN (sB b) 1)) W := fun W => run_at b 1 1 rfl (by omega) W
  have b0 := bN_lt (sB b) 0
  have b1 := bN_lt (sB b) 1
  have hof : aOf (sB b) = aOf (sB b) := rfl
  conv at hof => rhs; rw [aOf, sB_len]
  generalize bN (sB b) 0 = x at *
  generalize bN (sB b) 1 = y at *
  by_cases hx : 1 < x
  · rw [if_pos (Or.inr hx)] at hof
    clear hl
    go_enter Tryz.func97, Tryz.ntmps97
    go_wp2_with fail
    go_ret3
    exact GivesA.mk hof (by go_grown)
  rw [if_neg (by omega)] at hof
  by_cases hy : 5 < y
  · have h4 : ∀ p, aPutE p (y : Int) = 1 := fun p => by rw [aPutE, if_pos (by omega)]
    rw [h4, if_pos (by decide)] at hof
    clear hl h4
    go_enter Tryz.func97, Tryz.ntmps97
    go_wp2_with fail
    go_ret3
    exact GivesA.mk hof (by go_grown)
  have hxx : x = 0 ∨ x = 1 := by omega
  rcases hxx with rfl | rfl
  · have h4 : aPutE (decide ((0 : Nat) = 1)) (y : Int) = 0 := by rw [aPutE, if_neg (by omega), if_neg (by simp)]
    rw [h4, if_neg (by decide)] at hof
    have Hof := hd hof
    clear hl h4 hof
    go_enter Tryz.func97, Tryz.ntmps97
    go_wp2_with fail
    try go_region
    go_wp2_with fail
    go_ret3
    exact GivesA.mk Hof.out (by go_grown)
  · by_cases hy0 : y = 0
    · subst hy0
      have h4 : aPutE (decide ((1 : Nat) = 1)) ((0 : Nat) : Int) = 0 := by decide
      rw [h4, if_neg (by decide)] at hof
      have Hof := hd hof
      clear hl h4 hof
      go_enter Tryz.func97, Tryz.ntmps97
      go_wp2_with fail
      try go_region
      go_wp2_with fail
      go_ret3
      exact GivesA.mk Hof.out (by go_grown)
    · have hyb : ((y : Int) != 0) = true := by simp; omega
      have h4 : aPutE (decide ((1 : Nat) = 1)) (y : Int) = 4 := by rw [aPutE, if_neg (by omega), if_pos ⟨rfl, by omega⟩]
      rw [h4, if_pos (by decide)] at hof
      have Hof := hd hof
      clear hl h4 hof
      go_enter Tryz.func97, Tryz.ntmps97
      go_wp2_with fail
      go_ret3
      exact GivesA.mk Hof.out (by go_grown)
end Go.Proofs.YtjlnlgemngpelaaGreatDoor

/- Who comes: bytes that are read: the walks of the reader (printed by wip/gen/conreader.py). -/
namespace Go.Proofs.YtjlnlgemngpelaaGreatDoor
open Go.RowKit
set_option linter.unusedVariables false
set_option linter.unusedSimpArgs false

def rFail (st : Int × Int) (E : Int) : Int × Int := (st.1, if st.2 = 0 then E else st.2)
def rOneV (l : List UInt8) (st : Int × Int) : Int := if st.2 ≠ 0 then 0 else if (l.length : Int) ≤ st.1 then 0 else bN l st.1.toNat
def rOneS (l : List UInt8) (st : Int × Int) : Int × Int := if st.2 ≠ 0 then st else if (l.length : Int) ≤ st.1 then (st.1, 2) else (st.1 + 1, 0)
def rTwoV (l : List UInt8) (st : Int × Int) : Int := if st.2 ≠ 0 then 0 else (uGet2 l st.1).1
def rTwoS (l : List UInt8) (st : Int × Int) : Int × Int := if st.2 ≠ 0 then st else ((uGet2 l st.1).2.1, (uGet2 l st.1).2.2)
def rTextV (g : List UInt8 × Int × Int) (is : Bool) (st : Int × Int) : List UInt8 := if is = false then [] else if st.2 ≠ 0 then [] else g.1
def rTextS (g : List UInt8 × Int × Int) (is : Bool) (st : Int × Int) : Int × Int := if is = false then st else if st.2 ≠ 0 then st else (g.2.1, g.2.2)

/-- A reader's cells. -/
def RdAt (w : World) (g : Nat) (v : Value) (l : List UInt8) (st : Int × Int) : Prop :=
  w.cell? ⟨g, 0, none⟩ = some v ∧ Bs w v l ∧ w.cell? ⟨g, 1, none⟩ = some (.int .i64 st.1) ∧ w.cell? ⟨g, 2, none⟩ = some (.int .i64 st.2) ∧ w.frozen? ⟨g, 1, none⟩ = false ∧ w.frozen? ⟨g, 2, none⟩ = false ∧ g < w.heap.size ∧ OutOf v [g]
theorem RdAt.keeps {S : List Nat} {w w' : World} {g : Nat} {v : Value} {l : List UInt8} {st : Int × Int} (h : RdAt w g v l st) (hk : Keeps S w w') (hg : g ∉ S) (ho : OutOf v S) : RdAt w' g v l st := by
  obtain ⟨h0, h1, h2, h3, h4, h5, h6, h7⟩ := h
  exact ⟨(hk.cell h6 hg).trans h0, h1.keeps hk ho, (hk.cell h6 hg).trans h2, (hk.cell h6 hg).trans h3, (hk.free h6 hg).trans h4, (hk.free h6 hg).trans h5, Nat.lt_of_lt_of_le h6 hk.size, h7⟩
theorem RdAt.step {w w' : World} {g : Nat} {v : Value} {l : List UInt8} {st st' : Int × Int} (h : RdAt w g v l st) (hk : Keeps [g] w w') (c0 : w'.cell? ⟨g, 0, none⟩ = some v) (c1 : w'.cell? ⟨g, 1, none⟩ = some (.int .i64 st'.1)) (c2 : w'.cell? ⟨g, 2, none⟩ = some (.int .i64 st'.2))
    (f1 : w'.frozen? ⟨g, 1, none⟩ = false) (f2 : w'.frozen? ⟨g, 2, none⟩ = false) : RdAt w' g v l st' := by
  obtain ⟨h0, h1, h2, h3, h4, h5, h6, h7⟩ := h
  exact ⟨c0, h1.keeps hk h7, c1, c2, f1, f2, Nat.lt_of_lt_of_le h6 hk.size, h7⟩
theorem OutOf.nil (v : Value) : OutOf v [] := fun _ _ _ _ h => by cases h

set_option maxRecDepth 100000 in
set_option maxHeartbeats 1000000 in
theorem fail_c (E : Int) (g : Nat) (v : Value) (l : List UInt8) (st : Int × Int) (w : World) (hR : RdAt w g v l st) :
    Calls Tryz.prog 146 #[.pointer (some ⟨g, 0, none⟩), .int .i64 E] w fun r w' => r = .returned (.tuple #[]) ∧ RdAt w' g v l (rFail st E) ∧ Keeps [g] w w' := by
  obtain ⟨at', e⟩ := st
  have hR' := hR
  obtain ⟨h0, h1, h2, h3, h4, h5, h6, h7⟩ := hR
  simp only at h2 h3
  by_cases he : e = 0
  · subst he
    clear hR'
    go_enter Tryz.func146, Tryz.ntmps146
    go_wp2_with fail
    go_end0
    have hk : Keeps [g] w (w.setCell ⟨g, 2, none⟩ (.int .i64 E)) := (Keeps.refl _ _).setCell (.inl (by simp)) _
    exact ⟨rfl, ⟨by simp [go_sem, h0], h1.keeps hk h7, by simp [go_sem, h2, rFail], by simp [go_sem, h3, rFail], by simp [go_sem, h4], by simp [go_sem, h5], by simpa [go_sem] using h6, h7⟩, hk⟩
  · have heb : (e == 0) = false := by simpa using he
    have hs : rFail (at', e) E = (at', e) := by unfold rFail; simp [he]
    rw [hs]
    have HR := hd hR'; clear hR' hs
    go_enter Tryz.func146, Tryz.ntmps146
    go_wp2_with fail
    go_end0
    exact ⟨rfl, HR.out, Keeps.refl _ _⟩

set_option maxRecDepth 100000 in
set_option maxHeartbeats 2000000 in
theorem one_c (g : Nat) (v : Value) (l : List UInt8) (st : Int × Int) (w : World) (hR : RdAt w g v l st) (hp : 0 ≤ st.1 ∧ st.1 ≤ 140737488355328) :
    Calls Tryz.prog 147 #[.pointer (some ⟨g, 0, none⟩)] w fun r w' => r = .returned (.int .i64 (rOneV l st)) ∧ RdAt w' g v l (rOneS l st) ∧ Keeps [g] w w' := by
  obtain ⟨at', e⟩ := st
  have hR' := hR
  obtain ⟨h0, h1, h2, h3, h4, h5, h6, h7⟩ := hR
  simp only at h2 h3 hp
  obtain ⟨p0, p1⟩ := hp
  by_cases he : e = 0
  rotate_left
  · have heb : (e != 0) = true := by simpa using he
    have hs : rOneS l (at', e) = (at', e) := by rw [rOneS, if_pos he]
    have hv : rOneV l (at', e) = 0 := by rw [rOneV, if_pos he]
    rw [hs, hv]
    have HR := hd hR'; clear hR' hs hv
    go_enter Tryz.func147, Tryz.ntmps147
    go_wp2_with fail
    go_ret
    exact ⟨rfl, HR.out, Keeps.refl _ _⟩
  subst he
  obtain ⟨a, c, rfl⟩ := h1.slice
  by_cases hl : (l.length : Int) ≤ at'
  · have hs : rOneS l (at', 0) = rFail (at', 0) 2 := by rw [rOneS, if_neg (by simp), if_pos hl]; rfl
    have hv : rOneV l (at', 0) = 0 := by rw [rOneV, if_neg (by simp), if_pos hl]
    rw [hs, hv]
    have HR := hd hR'; clear hR' hs hv
    go_enter Tryz.func147, Tryz.ntmps147
    go_wp2_with fail
    go_quiet (fail)
    go_wp2_with fail
    refine (fail_c 2 g _ l (at', 0) _ (HR.out.keeps ((Keeps.refl [] _).drewN _) (by simp) (OutOf.nil _))).mono ?_
    rintro r w' ⟨rfl, hR1, hk1⟩
    go_wp2_with fail
    go_ret
    exact ⟨rfl, hR1, ((Keeps.refl _ _).drewN _).trans hk1⟩
  · have hs : rOneS l (at', 0) = (at' + 1, 0) := by rw [rOneS, if_neg (by simp), if_neg hl]
    have hv : rOneV l (at', 0) = bN l at'.toNat := by rw [rOneV, if_neg (by simp), if_neg hl]
    rw [hs, hv]
    have HR := hd hR'
    clear hR' hs hv
    obtain ⟨k, rfl⟩ := Int.eq_ofNat_of_zero_le p0
    have hkl : k < l.length := by omega
    have hll : l.length ≤ 9223372036854775807 := by have := h1.len; unfold maxLen at this; omega
    have hu : ∀ W, Bs W (.slice a l.length c) l → ∃ b o', a = some ⟨b, o', none⟩ ∧ W.cell? ⟨b, o' + k, none⟩ = some (.int .u8 (bN l k)) := fun W hW => by
      rcases hW.split with ⟨hn, _⟩ | ⟨_, b, o', c', hv, _, _, _, hcell⟩
      · rw [hn] at hkl; simp at hkl
      · simp only [Value.slice.injEq] at hv
        exact ⟨b, o', hv.1, hcell k hkl⟩
    obtain ⟨b, o', rfl, hcell⟩ := hu w h1
    have hbg : b ≠ g := fun e => h7 _ _ _ rfl (by simp [e])
    clear hu
    rw [Int.toNat_natCast]
    have hbN := bN_lt l k
    generalize hx : bN l k = x at *
    clear hx
    go_enter Tryz.func147, Tryz.ntmps147
    go_wp2_with fail
    go_quiet (fail)
    go_wp2_with fail
    have hbg2 : (⟨b, o' + k, none⟩ : Addr) ≠ ⟨g, 1, none⟩ := by simp [hbg]
    go_quiet (fail)
    go_wp2_with fail
    go_ret
    refine ⟨rfl, RdAt.step HR.out ((((Keeps.refl _ _).drewN _).setCell (.inl (by simp)) _).drewN _) ?_ ?_ ?_ ?_ ?_, (((Keeps.refl _ _).drewN _).setCell (.inl (by simp)) _).drewN _⟩
    all_goals simp [go_sem, h0, h2, h3, h4, h5]

set_option maxRecDepth 100000 in
set_option maxHeartbeats 2000000 in
theorem two_c (g : Nat) (v : Value) (l : List UInt8) (st : Int × Int) (w : World) (hR : RdAt w g v l st) :
    Calls Tryz.prog 160 #[.pointer (some ⟨g, 0, none⟩)] w fun r w' => r = .returned (.int .i64 (rTwoV l st)) ∧ RdAt w' g v l (rTwoS l st) ∧ Keeps [g] w w' := by
  obtain ⟨at', e⟩ := st
  have hR' := hR
  obtain ⟨h0, h1, h2, h3, h4, h5, h6, h7⟩ := hR
  simp only at h2 h3
  by_cases he : e = 0
  rotate_left
  · have heb : (e != 0) = true := by simpa using he
    have hs : rTwoS l (at', e) = (at', e) := by rw [rTwoS, if_pos he]
    have hv : rTwoV l (at', e) = 0 := by rw [rTwoV, if_pos he]
    rw [hs, hv]
    have HR := hd hR'; clear hR' hs hv
    go_enter Tryz.func160, Tryz.ntmps160
    go_wp2_with fail
    go_ret
    exact ⟨rfl, HR.out, Keeps.refl _ _⟩
  subst he
  have hs : rTwoS l (at', 0) = ((uGet2 l at').2.1, (uGet2 l at').2.2) := by rw [rTwoS, if_neg (by simp)]
  have hv : rTwoV l (at', 0) = (uGet2 l at').1 := by rw [rTwoV, if_neg (by simp)]
  rw [hs, hv]
  obtain ⟨a, c, rfl⟩ := h1.slice
  have HR := hd hR'
  clear hs hv hR'
  go_enter Tryz.func160, Tryz.ntmps160
  go_wp2_with fail
  refine wp_region_M (fun W => W.cell? ⟨g, 0, none⟩ = some (.slice a l.length c) ∧ W.cell? ⟨g, 1, none⟩ = some (.int .i64 at')) 15 [(0, false), (1, false), (2, false), (3, false), (4, false), (5, false), (6, false), (7, false), (8, true), (9, false), (10, false), (11, false), (12, false), (13, false), (14, false), (15, true)] (by kernel_rfl) (by kernel_rfl) (fun _ _ _ _ h => h) ⟨h0, h2⟩ ?_
  iterate 8
    apply wpM_still (by rfl) (by rfl)
    · intro W hC
      obtain ⟨d0, d1⟩ := hC
      go_simp
      rfl
    go_simp
  apply wpM_move (by rfl) (by rfl)
  intro K hK
  go_simp
  refine (Get2_c _ l at' _ (h1.keeps (Keeps.refl [] _).drew (OutOf.nil _))).mono ?_
  rintro r w1 ⟨rfl, hb1⟩
  have hk1 : Keeps [] w w1 := (Keeps.refl [] w).drew.trans (Keeps.below hb1)
  have HR1 := HR.out.keeps hk1 (by simp) (OutOf.nil _)
  have HR2 := hd HR1
  obtain ⟨i0, i1, i2, i3, i4, i5, i6, i7⟩ := HR1
  simp only []
  refine hK _ _ (fun _ => ⟨i0, i2⟩) ?_
  clear hK K hb1 h0 h1 h2 h3 h4 h5 h6
  generalize hq : uGet2 l at' = q
  obtain ⟨qn, qk, qe⟩ := q
  have Hq := hd hq; clear hq
  simp only
  iterate 6
    apply wpM_still (by rfl) (by rfl)
    · intro W hC
      obtain ⟨d0, d1⟩ := hC
      go_simp
      rfl
    go_simp
  apply wpM_move (by rfl) (by rfl)
  intro K hK
  go_simp
  refine hK _ _ (fun h => absurd h (by decide)) ?_
  clear hK K
  refine wpM_nil ?_
  go_wp2_with fail
  refine (fail_c qe g _ l (at', 0) _ HR2.out).mono ?_
  rintro r w2 ⟨rfl, hR3, hk2⟩
  have HR3 := hd hR3
  obtain ⟨j0, j1, j2, j3, j4, j5, j6, j7⟩ := hR3
  simp only [rFail, if_true] at j2 j3
  go_wp2_with fail
  go_ret
  rw [Hq.out]
  refine ⟨rfl, RdAt.step HR3.out ((Keeps.refl _ _).setCell (.inl (by simp)) _) ?_ ?_ ?_ ?_ ?_, ((hk1.mono (by simp)).trans hk2).setCell (.inl (by simp)) _⟩
  all_goals simp [go_sem, j0, j2, j3, j4, j5]

set_option maxRecDepth 100000 in
set_option maxHeartbeats 2000000 in
theorem textT_c (is : Bool) (g : Nat) (v : Value) (l : List UInt8) (st : Int × Int) (w : World) (hE : EnvU w) (hR : RdAt w g v l st) :
    Calls Tryz.prog 144 #[.pointer (some ⟨g, 0, none⟩), .bool is, .func (.func 145) #[] #[]] w fun r w' => r = .returned (.string (sOf (rTextV (uGet l st.1) is st))) ∧ RdAt w' g v l (rTextS (uGet l st.1) is st) ∧ Keeps [g] w w' := by
  have HE := hd hE; clear hE
  obtain ⟨at', e⟩ := st
  have hR' := hR
  obtain ⟨h0, h1, h2, h3, h4, h5, h6, h7⟩ := hR
  simp only at h2 h3
  simp only []
  cases is
  · have hs : rTextS (uGet l at') false (at', e) = (at', e) := rfl
    have hv : rTextV (uGet l at') false (at', e) = [] := rfl
    rw [hs, hv]
    have HR := hd hR'; clear hR' hs hv
    go_enter Tryz.func144, Tryz.ntmps144
    go_wp2_with fail
    go_ret
    exact ⟨rfl, HR.out, Keeps.refl _ _⟩
  by_cases he : e = 0
  rotate_left
  · have heb : (e != 0) = true := by simpa using he
    have hs : rTextS (uGet l at') true (at', e) = (at', e) := by rw [rTextS, if_neg (by simp), if_pos he]
    have hv : rTextV (uGet l at') true (at', e) = [] := by rw [rTextV, if_neg (by simp), if_pos he]
    rw [hs, hv]
    have HR := hd hR'; clear hR' hs hv
    go_enter Tryz.func144, Tryz.ntmps144
    go_wp2_with fail
    go_ret
    exact ⟨rfl, HR.out, Keeps.refl _ _⟩
  subst he
  have hs : rTextS (uGet l at') true (at', 0) = ((uGet l at').2.1, (uGet l at').2.2) := by rw [rTextS, if_neg (by simp), if_neg (by simp)]
  have hv : rTextV (uGet l at') true (at', 0) = (uGet l at').1 := by rw [rTextV, if_neg (by simp), if_neg (by simp)]
  rw [hs, hv]
  obtain ⟨a, c, rfl⟩ := h1.slice
  have HR := hd hR'
  clear hs hv hR'
  go_enter Tryz.func144, Tryz.ntmps144
  go_wp2_with fail
  refine wp_region_M (fun W => W.cell? ⟨g, 0, none⟩ = some (.slice a l.length c) ∧ W.cell? ⟨g, 1, none⟩ = some (.int .i64 at')) 16 [(0, false), (1, false), (2, false), (3, false), (4, false), (5, false), (6, false), (7, false), (8, false), (9, true), (10, false), (11, false), (12, false), (13, false), (14, false), (15, false), (16, true)] (by kernel_rfl) (by kernel_rfl) (fun _ _ _ _ h => h) ⟨h0, h2⟩ ?_
  iterate 9
    apply wpM_still (by rfl) (by rfl)
    · intro W hC
      obtain ⟨d0, d1⟩ := hC
      go_simp
      rfl
    go_simp
  apply wpM_move (by rfl) (by rfl)
  intro K hK
  go_simp
  refine (Get_c _ l at' _ (HE.out.below ((Below.refl _ w).drew)) (h1.keeps (Keeps.refl [] _).drew (OutOf.nil _))).mono ?_
  rintro r w1 ⟨rfl, hb1⟩
  have hk1 : Keeps [] w w1 := (Keeps.refl [] w).drew.trans (Keeps.below hb1)
  have HR1 := HR.out.keeps hk1 (by simp) (OutOf.nil _)
  have HR2 := hd HR1
  obtain ⟨i0, i1, i2, i3, i4, i5, i6, i7⟩ := HR1
  simp only []
  refine hK _ _ (fun _ => ⟨i0, i2⟩) ?_
  clear hK K hb1 h0 h1 h2 h3 h4 h5 h6
  generalize hq : uGet l at' = q
  obtain ⟨qn, qk, qe⟩ := q
  have Hq := hd hq; clear hq
  simp only
  iterate 6
    apply wpM_still (by rfl) (by rfl)
    · intro W hC
      obtain ⟨d0, d1⟩ := hC
      go_simp
      rfl
    go_simp
  apply wpM_move (by rfl) (by rfl)
  intro K hK
  go_simp
  refine hK _ _ (fun h => absurd h (by decide)) ?_
  clear hK K
  refine wpM_nil ?_
  go_wp2_with fail
  refine (fail_c qe g _ l (at', 0) _ HR2.out).mono ?_
  rintro r w2 ⟨rfl, hR3, hk2⟩
  have HR3 := hd hR3
  obtain ⟨j0, j1, j2, j3, j4, j5, j6, j7⟩ := hR3
  simp only [rFail, if_true] at j2 j3
  go_wp2_with fail
  go_ret
  rw [Hq.out]
  refine ⟨rfl, RdAt.step HR3.out ((Keeps.refl _ _).setCell (.inl (by simp)) _) ?_ ?_ ?_ ?_ ?_, ((hk1.mono (by simp)).trans hk2).setCell (.inl (by simp)) _⟩
  all_goals simp [go_sem, j0, j2, j3, j4, j5]

set_option maxRecDepth 100000 in
set_option maxHeartbeats 2000000 in
theorem textR_c (is : Bool) (g : Nat) (v : Value) (l : List UInt8) (st : Int × Int) (w : World) (hE : EnvU w) (hR : RdAt w g v l st) :
    Calls Tryz.prog 144 #[.pointer (some ⟨g, 0, none⟩), .bool is, .func (.func 158) #[] #[]] w fun r w' => r = .returned (.string (sOf (rTextV (uGetRaw l st.1) is st))) ∧ RdAt w' g v l (rTextS (uGetRaw l st.1) is st) ∧ Keeps [g] w w' := by
  have HE := hd hE; clear hE
  obtain ⟨at', e⟩ := st
  have hR' := hR
  obtain ⟨h0, h1, h2, h3, h4, h5, h6, h7⟩ := hR
  simp only at h2 h3
  simp only []
  cases is
  · have hs : rTextS (uGetRaw l at') false (at', e) = (at', e) := rfl
    have hv : rTextV (uGetRaw l at') false (at', e) = [] := rfl
    rw [hs, hv]
    have HR := hd hR'; clear hR' hs hv
    go_enter Tryz.func144, Tryz.ntmps144
    go_wp2_with fail
    go_ret
    exact ⟨rfl, HR.out, Keeps.refl _ _⟩
  by_cases he : e = 0
  rotate_left
  · have heb : (e != 0) = true := by simpa using he
    have hs : rTextS (uGetRaw l at') true (at', e) = (at', e) := by rw [rTextS, if_neg (by simp), if_pos he]
    have hv : rTextV (uGetRaw l at') true (at', e) = [] := by rw [rTextV, if_neg (by simp), if_pos he]
    rw [hs, hv]
    have HR := hd hR'; clear hR' hs hv
    go_enter Tryz.func144, Tryz.ntmps144
    go_wp2_with fail
    go_ret
    exact ⟨rfl, HR.out, Keeps.refl _ _⟩
  subst he
  have hs : rTextS (uGetRaw l at') true (at', 0) = ((uGetRaw l at').2.1, (uGetRaw l at').2.2) := by rw [rTextS, if_neg (by simp), if_neg (by simp)]
  have hv : rTextV (uGetRaw l at') true (at', 0) = (uGetRaw l at').1 := by rw [rTextV, if_neg (by simp), if_neg (by simp)]
  rw [hs, hv]
  obtain ⟨a, c, rfl⟩ := h1.slice
  have HR := hd hR'
  clear hs hv hR'
  go_enter Tryz.func144, Tryz.ntmps144
  go_wp2_with fail
  refine wp_region_M (fun W => W.cell? ⟨g, 0, none⟩ = some (.slice a l.length c) ∧ W.cell? ⟨g, 1, none⟩ = some (.int .i64 at')) 16 [(0, false), (1, false), (2, false), (3, false), (4, false), (5, false), (6, false), (7, false), (8, false), (9, true), (10, false), (11, false), (12, false), (13, false), (14, false), (15, false), (16, true)] (by kernel_rfl) (by kernel_rfl) (fun _ _ _ _ h => h) ⟨h0, h2⟩ ?_
  iterate 9
    apply wpM_still (by rfl) (by rfl)
    · intro W hC
      obtain ⟨d0, d1⟩ := hC
      go_simp
      rfl
    go_simp
  apply wpM_move (by rfl) (by rfl)
  intro K hK
  go_simp
  refine (GetRaw_c _ l at' _ (h1.keeps (Keeps.refl [] _).drew (OutOf.nil _))).mono ?_
  rintro r w1 ⟨rfl, hb1⟩
  have hk1 : Keeps [] w w1 := (Keeps.refl [] w).drew.trans (Keeps.below hb1)
  have HR1 := HR.out.keeps hk1 (by simp) (OutOf.nil _)
  have HR2 := hd HR1
  obtain ⟨i0, i1, i2, i3, i4, i5, i6, i7⟩ := HR1
  simp only []
  refine hK _ _ (fun _ => ⟨i0, i2⟩) ?_
  clear hK K hb1 h0 h1 h2 h3 h4 h5 h6
  generalize hq : uGetRaw l at' = q
  obtain ⟨qn, qk, qe⟩ := q
  have Hq := hd hq; clear hq
  simp only
  iterate 6
    apply wpM_still (by rfl) (by rfl)
    · intro W hC
      obtain ⟨d0, d1⟩ := hC
      go_simp
      rfl
    go_simp
  apply wpM_move (by rfl) (by rfl)
  intro K hK
  go_simp
  refine hK _ _ (fun h => absurd h (by decide)) ?_
  clear hK K
  refine wpM_nil ?_
  go_wp2_with fail
  refine (fail_c qe g _ l (at', 0) _ HR2.out).mono ?_
  rintro r w2 ⟨rfl, hR3, hk2⟩
  have HR3 := hd hR3
  obtain ⟨j0, j1, j2, j3, j4, j5, j6, j7⟩ := hR3
  simp only [rFail, if_true] at j2 j3
  go_wp2_with fail
  go_ret
  rw [Hq.out]
  refine ⟨rfl, RdAt.step HR3.out ((Keeps.refl _ _).setCell (.inl (by simp)) _) ?_ ?_ ?_ ?_ ?_, ((hk1.mono (by simp)).trans hk2).setCell (.inl (by simp)) _⟩
  all_goals simp [go_sem, j0, j2, j3, j4, j5]

end Go.Proofs.YtjlnlgemngpelaaGreatDoor

/- Who comes: bytes on their way: the walks (printed by wip/gen/conwriter.py). -/
namespace Go.Proofs.YtjlnlgemngpelaaGreatDoor
open Go.RowKit
set_option linter.unusedVariables false
set_option linter.unusedSimpArgs false

theorem Owned.aside {B : Nat} {w : World} {v : Value} {l : List UInt8} (h : Owned B w v l) {p : Addr} (hp : p.block < B) (u : Value) : Owned B (w.setCell p u) v l := by
  refine ⟨h.1, ?_⟩
  rcases h.2 with h0 | ⟨g, cap, cur, h1, h2, h3, h4⟩
  · exact .inl h0
  · exact .inr ⟨g, cap, cur, h1, h2, by rw [heap_setCell_other w p g u (by omega)]; exact h3, h4⟩

/-- A writer's cells. -/
def WrAt (w : World) (g : Nat) (l : List UInt8) (e : Int) : Prop :=
  ∃ v, w.cell? ⟨g, 0, none⟩ = some v ∧ Owned (g + 1) w v l ∧ w.cell? ⟨g, 1, none⟩ = some (.int .i64 e) ∧ w.frozen? ⟨g, 0, none⟩ = false ∧ w.frozen? ⟨g, 1, none⟩ = false ∧ g < w.heap.size
theorem WrAt.below {B g : Nat} {w w' : World} {l : List UInt8} {e : Int} (h : WrAt w g l e) (hb : Below B w w') (hB : w.heap.size ≤ B) : WrAt w' g l e := by
  obtain ⟨v, h0, h1, h2, h3, h4, h5⟩ := h
  exact ⟨v, (bcell hb _ _ (by omega)).trans h0, h1.kept hb hB, (bcell hb _ _ (by omega)).trans h2, (bfree hb _ _ (by omega)).trans h3, (bfree hb _ _ (by omega)).trans h4, Nat.lt_of_lt_of_le h5 hb.size⟩
theorem uPutRawB_len2 (l : List UInt8) : (uPutRawB l).length ≤ 65537 := by
  by_cases h : l.length ≤ 65535
  · rw [uPutRawB_len h]; omega
  · unfold uPutRawB; rw [if_pos (by omega)]; simp

set_option maxRecDepth 100000 in
set_option maxHeartbeats 2000000 in
theorem wputT_c (is : Bool) (s : ByteArray) (g : Nat) (l : List UInt8) (e : Int) (w : World) (hW : WrAt w g l e) (hE : EnvU w) (hs : s.size ≤ 140737488351232) (hl : l.length ≤ 1000000) :
    Calls Tryz.prog 106 #[.pointer (some ⟨g, 0, none⟩), .bool is, .string s, .func (.func 107) #[] #[]] w fun r w' =>
      r = .returned (.tuple #[]) ∧ WrAt w' g (cStep (l, e) is (uPutE (sB s)) (uPutB (sB s))).1 (cStep (l, e) is (uPutE (sB s)) (uPutB (sB s))).2 ∧ Below g w w' := by
  have HE := hd hE; clear hE
  have hW' := hW
  obtain ⟨v, h0, h1, h2, h3, h4, h5⟩ := hW
  cases is
  · rw [cStep_no]
    have HW := hd hW'; clear hW'
    go_enter Tryz.func106, Tryz.ntmps106
    go_wp2_with fail
    refine bodyPost_ret (results_none rfl _ _ _) rfl ?_
    exact ⟨rfl, HW.out, Below.refl _ _⟩
  by_cases he : e = 0
  rotate_left
  · rw [cStep_bad he]
    have heb : (e != 0) = true := by simpa using he
    have HW := hd hW'; clear hW'
    go_enter Tryz.func106, Tryz.ntmps106
    go_wp2_with fail
    refine bodyPost_ret (results_none rfl _ _ _) rfl ?_
    exact ⟨rfl, HW.out, Below.refl _ _⟩
  subst he
  clear hW'
  have hB := @uPutB_len (sB s)
  go_enter Tryz.func106, Tryz.ntmps106
  go_wp2_with fail
  refine (Put_c s _ HE.out (by omega)).mono ?_
  rintro r w1 ⟨v1, rfl, ho1, hb1⟩
  have c0 := (bcell hb1 g 0 h5).trans h0
  have c1 := (bcell hb1 g 1 h5).trans h2
  have z0 := (bfree hb1 g 0 h5).trans h3
  have z1 := (bfree hb1 g 1 h5).trans h4
  have hz1 := hb1.size
  have hl1 : g < w1.heap.size := by omega
  have ho := h1.kept hb1 (Nat.le_refl _)
  have hbg : Below g w w1 := hb1.mono (by omega)
  clear h0 h1 h2 h3 h4 hb1
  obtain ⟨a0, k0, rfl⟩ := Owns.slice ho
  obtain ⟨a1, k1, rfl⟩ := Owns.slice ho1
  by_cases hf : uPutE (sB s) = 0
  rotate_left
  · have hfb : (uPutE (sB s) == 0) = false := by simpa using hf
    go_wp2_with fail
    go_end0
    rw [cStep_err _ _ hf]
    refine ⟨rfl, ⟨_, ?_, ho.aside (by simp) _, ?_, ?_, ?_, ?_⟩, hbg.setCell (by simp) _⟩
    all_goals simp [go_sem, c0, c1, z0, z1, hl1]
  rw [hf]
  have ho' := ho.aside (p := ⟨g, 1, none⟩) (by simp) (.int .i64 0)
  have ho1' := (ho1.aside (p := ⟨g, 1, none⟩) (by simp; omega) (.int .i64 0)).bs
  clear ho ho1
  go_wp2_with (at_builtin; refine wp_appB rfl _ _ rfl (g + 1) _ l rfl ho' _ (uPutB (sB s)) rfl ho1' (by omega) (by simp; omega) ?_; intro v4 w4 ho4 hb4; obtain ⟨a4, k4, rfl⟩ := Owns.slice ho4; rw [List.length_append] at ho4; have hc4 := bcell hb4 g 0 (by omega); have hd4 := bcell hb4 g 1 (by omega); have hy4 := bfree hb4 g 0 (by omega); have hf4 := bfree hb4 g 1 (by omega); have hz4 := hb4.size)
  go_end0
  rw [hf, cStep_ok]
  have hlt4 : g < w4.heap.size := by simp at hz4; omega
  refine ⟨rfl, ⟨_, ?_, ho4.aside (by simp) _, ?_, ?_, ?_, ?_⟩, ((hbg.setCell (p := ⟨g, 1, none⟩) (by simp) _).trans (hb4.mono (by omega))).setCell (by simp) _⟩
  all_goals simp [go_sem, c0, c1, z0, z1, hl1, hc4, hd4, hy4, hf4, hlt4]

set_option maxRecDepth 100000 in
set_option maxHeartbeats 2000000 in
theorem wputR_c (is : Bool) (s : ByteArray) (g : Nat) (l : List UInt8) (e : Int) (w : World) (hW : WrAt w g l e) (hE : EnvU w) (hs : s.size ≤ 140737488351232) (hl : l.length ≤ 1000000) :
    Calls Tryz.prog 106 #[.pointer (some ⟨g, 0, none⟩), .bool is, .string s, .func (.func 109) #[] #[]] w fun r w' =>
      r = .returned (.tuple #[]) ∧ WrAt w' g (cStep (l, e) is (uPutRawE (sB s)) (uPutRawB (sB s))).1 (cStep (l, e) is (uPutRawE (sB s)) (uPutRawB (sB s))).2 ∧ Below g w w' := by
  have HE := hd hE; clear hE
  have hW' := hW
  obtain ⟨v, h0, h1, h2, h3, h4, h5⟩ := hW
  cases is
  · rw [cStep_no]
    have HW := hd hW'; clear hW'
    go_enter Tryz.func106, Tryz.ntmps106
    go_wp2_with fail
    refine bodyPost_ret (results_none rfl _ _ _) rfl ?_
    exact ⟨rfl, HW.out, Below.refl _ _⟩
  by_cases he : e = 0
  rotate_left
  · rw [cStep_bad he]
    have heb : (e != 0) = true := by simpa using he
    have HW := hd hW'; clear hW'
    go_enter Tryz.func106, Tryz.ntmps106
    go_wp2_with fail
    refine bodyPost_ret (results_none rfl _ _ _) rfl ?_
    exact ⟨rfl, HW.out, Below.refl _ _⟩
  subst he
  clear hW'
  have hB := uPutRawB_len2 (sB s)
  go_enter Tryz.func106, Tryz.ntmps106
  go_wp2_with fail
  refine (PutRaw_c s _ (by omega)).mono ?_
  rintro r w1 ⟨v1, rfl, ho1, hb1⟩
  have c0 := (bcell hb1 g 0 h5).trans h0
  have c1 := (bcell hb1 g 1 h5).trans h2
  have z0 := (bfree hb1 g 0 h5).trans h3
  have z1 := (bfree hb1 g 1 h5).trans h4
  have hz1 := hb1.size
  have hl1 : g < w1.heap.size := by omega
  have ho := h1.kept hb1 (Nat.le_refl _)
  have hbg : Below g w w1 := hb1.mono (by omega)
  clear h0 h1 h2 h3 h4 hb1
  obtain ⟨a0, k0, rfl⟩ := Owns.slice ho
  obtain ⟨a1, k1, rfl⟩ := Owns.slice ho1
  by_cases hf : uPutRawE (sB s) = 0
  rotate_left
  · have hfb : (uPutRawE (sB s) == 0) = false := by simpa using hf
    go_wp2_with fail
    go_end0
    rw [cStep_err _ _ hf]
    refine ⟨rfl, ⟨_, ?_, ho.aside (by simp) _, ?_, ?_, ?_, ?_⟩, hbg.setCell (by simp) _⟩
    all_goals simp [go_sem, c0, c1, z0, z1, hl1]
  rw [hf]
  have ho' := ho.aside (p := ⟨g, 1, none⟩) (by simp) (.int .i64 0)
  have ho1' := (ho1.aside (p := ⟨g, 1, none⟩) (by simp; omega) (.int .i64 0)).bs
  clear ho ho1
  go_wp2_with (at_builtin; refine wp_appB rfl _ _ rfl (g + 1) _ l rfl ho' _ (uPutRawB (sB s)) rfl ho1' (by omega) (by simp; omega) ?_; intro v4 w4 ho4 hb4; obtain ⟨a4, k4, rfl⟩ := Owns.slice ho4; rw [List.length_append] at ho4; have hc4 := bcell hb4 g 0 (by omega); have hd4 := bcell hb4 g 1 (by omega); have hy4 := bfree hb4 g 0 (by omega); have hf4 := bfree hb4 g 1 (by omega); have hz4 := hb4.size)
  go_end0
  rw [hf, cStep_ok]
  have hlt4 : g < w4.heap.size := by simp at hz4; omega
  refine ⟨rfl, ⟨_, ?_, ho4.aside (by simp) _, ?_, ?_, ?_, ?_⟩, ((hbg.setCell (p := ⟨g, 1, none⟩) (by simp) _).trans (hb4.mono (by omega))).setCell (by simp) _⟩
  all_goals simp [go_sem, c0, c1, z0, z1, hl1, hc4, hd4, hy4, hf4, hlt4]

end Go.Proofs.YtjlnlgemngpelaaGreatDoor
