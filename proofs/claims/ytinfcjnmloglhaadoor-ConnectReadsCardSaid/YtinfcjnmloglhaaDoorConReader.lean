/- Who comes: bytes that are read: the walks of the reader (printed by wip/gen/conreader.py). -/
import Derived.Test.YtinfcjnmloglhaaDoorKeeps
import Derived.Test.YtinfcjnmloglhaaDoorRegion
import Derived.Test.YtinfcjnmloglhaaDoorConAck
namespace Go.Proofs.YtinfcjnmloglhaaDoor
open Go.RowKit
set_option linter.unusedVariables false
set_option linter.unusedSimpArgs false

def rFail (st : Int × Int) (E : Int) : Int × Int := (st.1, if st.2 = 0 then E else st.2)
def rOneV (l : List UInt8) (st : Int × Int) : Int := if st.2 ≠ 0 then 0 else if (l.length : Int) ≤ st.1 then 0 else bN l st.1.toNat
def rOneS (l : List UInt8) (st : Int × Int) : Int × Int := if st.2 ≠ 0 then st else if (l.length : Int) ≤ st.1 then (st.1, 2) else (st.1 + 1, 0)
def rTwoV (l : List UInt8) (st : Int × Int) : Int := if st.2 ≠ 0 then 0 else (uGet2 l st.1).1
def rTwoS (l : List UInt8) (st : Int × Int) : Int × Int := if st.2 ≠ 0 then st else ((uGet2 l st.1).2.1, (uGet2 l st.1).2.2)
def rTextV (g : List UInt8 × Int × Int) (is : Bool) (st : Int × Int) : List UInt8 := if is = false then [] else if st.2 ≠ 0 then [] else g.1
def rTextS (g : List UInt8 × Int × Int) (is : Bool) (st : Int × Int) : Int × Int := if is = false then st else if st.2 ≠ 0 then st else (g.2.1, g.2.2)

/-- A reader's cells. -/
def RdAt (w : World) (g : Nat) (v : Value) (l : List UInt8) (st : Int × Int) : Prop :=
  w.cell? ⟨g, 0, none⟩ = some v ∧ Bs w v l ∧ w.cell? ⟨g, 1, none⟩ = some (.int .i64 st.1) ∧ w.cell? ⟨g, 2, none⟩ = some (.int .i64 st.2) ∧ w.frozen? ⟨g, 1, none⟩ = false ∧ w.frozen? ⟨g, 2, none⟩ = false ∧ g < w.heap.size ∧ OutOf v [g]
theorem RdAt.keeps {S : List Nat} {w w' : World} {g : Nat} {v : Value} {l : List UInt8} {st : Int × Int} (h : RdAt w g v l st) (hk : Keeps S w w') (hg : g ∉ S) (ho : OutOf v S) : RdAt w' g v l st := by
  obtain ⟨h0, h1, h2, h3, h4, h5, h6, h7⟩ := h
  exact ⟨(hk.cell h6 hg).trans h0, h1.keeps hk ho, (hk.cell h6 hg).trans h2, (hk.cell h6 hg).trans h3, (hk.free h6 hg).trans h4, (hk.free h6 hg).trans h5, Nat.lt_of_lt_of_le h6 hk.size, h7⟩
theorem RdAt.step {w w' : World} {g : Nat} {v : Value} {l : List UInt8} {st st' : Int × Int} (h : RdAt w g v l st) (hk : Keeps [g] w w') (c0 : w'.cell? ⟨g, 0, none⟩ = some v) (c1 : w'.cell? ⟨g, 1, none⟩ = some (.int .i64 st'.1)) (c2 : w'.cell? ⟨g, 2, none⟩ = some (.int .i64 st'.2))
    (f1 : w'.frozen? ⟨g, 1, none⟩ = false) (f2 : w'.frozen? ⟨g, 2, none⟩ = false) : RdAt w' g v l st' := by
  obtain ⟨h0, h1, h2, h3, h4, h5, h6, h7⟩ := h
  exact ⟨c0, h1.keeps hk h7, c1, c2, f1, f2, Nat.lt_of_lt_of_le h6 hk.size, h7⟩
theorem OutOf.nil (v : Value) : OutOf v [] := fun _ _ _ _ h => by cases h

set_option maxRecDepth 100000 in
set_option maxHeartbeats 1000000 in
theorem fail_c (E : Int) (g : Nat) (v : Value) (l : List UInt8) (st : Int × Int) (w : World) (hR : RdAt w g v l st) :
    Calls Tryd.prog 63 #[.pointer (some ⟨g, 0, none⟩), .int .i64 E] w fun r w' => r = .returned (.tuple #[]) ∧ RdAt w' g v l (rFail st E) ∧ Keeps [g] w w' := by
  obtain ⟨at', e⟩ := st
  have hR' := hR
  obtain ⟨h0, h1, h2, h3, h4, h5, h6, h7⟩ := hR
  simp only at h2 h3
  by_cases he : e = 0
  · subst he
    clear hR'
    go_enter Tryd.func63, Tryd.ntmps63
    go_wp2_with fail
    go_end0
    have hk : Keeps [g] w (w.setCell ⟨g, 2, none⟩ (.int .i64 E)) := (Keeps.refl _ _).setCell (.inl (by simp)) _
    exact ⟨rfl, ⟨by simp [go_sem, h0], h1.keeps hk h7, by simp [go_sem, h2, rFail], by simp [go_sem, h3, rFail], by simp [go_sem, h4], by simp [go_sem, h5], by simpa [go_sem] using h6, h7⟩, hk⟩
  · have heb : (e == 0) = false := by simpa using he
    have hs : rFail (at', e) E = (at', e) := by unfold rFail; simp [he]
    rw [hs]
    have HR := hd hR'; clear hR' hs
    go_enter Tryd.func63, Tryd.ntmps63
    go_wp2_with fail
    go_end0
    exact ⟨rfl, HR.out, Keeps.refl _ _⟩

set_option maxRecDepth 100000 in
set_option maxHeartbeats 2000000 in
theorem one_c (g : Nat) (v : Value) (l : List UInt8) (st : Int × Int) (w : World) (hR : RdAt w g v l st) (hp : 0 ≤ st.1 ∧ st.1 ≤ 140737488355328) :
    Calls Tryd.prog 64 #[.pointer (some ⟨g, 0, none⟩)] w fun r w' => r = .returned (.int .i64 (rOneV l st)) ∧ RdAt w' g v l (rOneS l st) ∧ Keeps [g] w w' := by
  obtain ⟨at', e⟩ := st
  have hR' := hR
  obtain ⟨h0, h1, h2, h3, h4, h5, h6, h7⟩ := hR
  simp only at h2 h3 hp
  obtain ⟨p0, p1⟩ := hp
  by_cases he : e = 0
  rotate_left
  · have heb : (e != 0) = true := by simpa using he
    have hs : rOneS l (at', e) = (at', e) := by rw [rOneS, if_pos he]
    have hv : rOneV l (at', e) = 0 := by rw [rOneV, if_pos he]
    rw [hs, hv]
    have HR := hd hR'; clear hR' hs hv
    go_enter Tryd.func64, Tryd.ntmps64
    go_wp2_with fail
    go_ret
    exact ⟨rfl, HR.out, Keeps.refl _ _⟩
  subst he
  obtain ⟨a, c, rfl⟩ := h1.slice
  by_cases hl : (l.length : Int) ≤ at'
  · have hs : rOneS l (at', 0) = rFail (at', 0) 2 := by rw [rOneS, if_neg (by simp), if_pos hl]; rfl
    have hv : rOneV l (at', 0) = 0 := by rw [rOneV, if_neg (by simp), if_pos hl]
    rw [hs, hv]
    have HR := hd hR'; clear hR' hs hv
    go_enter Tryd.func64, Tryd.ntmps64
    go_wp2_with fail
    go_quiet (fail)
    go_wp2_with fail
    refine (fail_c 2 g _ l (at', 0) _ (HR.out.keeps ((Keeps.refl [] _).drewN _) (by simp) (OutOf.nil _))).mono ?_
    rintro r w' ⟨rfl, hR1, hk1⟩
    go_wp2_with fail
    go_ret
    exact ⟨rfl, hR1, ((Keeps.refl _ _).drewN _).trans hk1⟩
  · have hs : rOneS l (at', 0) = (at' + 1, 0) := by rw [rOneS, if_neg (by simp), if_neg hl]
    have hv : rOneV l (at', 0) = bN l at'.toNat := by rw [rOneV, if_neg (by simp), if_neg hl]
    rw [hs, hv]
    have HR := hd hR'
    clear hR' hs hv
    obtain ⟨k, rfl⟩ := Int.eq_ofNat_of_zero_le p0
    have hkl : k < l.length := by omega
    have hll : l.length ≤ 9223372036854775807 := by have := h1.len; unfold maxLen at this; omega
    have hu : ∀ W, Bs W (.slice a l.length c) l → ∃ b o', a = some ⟨b, o', none⟩ ∧ W.cell? ⟨b, o' + k, none⟩ = some (.int .u8 (bN l k)) := fun W hW => by
      rcases hW.split with ⟨hn, _⟩ | ⟨_, b, o', c', hv, _, _, _, hcell⟩
      · rw [hn] at hkl; simp at hkl
      · simp only [Value.slice.injEq] at hv
        exact ⟨b, o', hv.1, hcell k hkl⟩
    obtain ⟨b, o', rfl, hcell⟩ := hu w h1
    have hbg : b ≠ g := fun e => h7 _ _ _ rfl (by simp [e])
    clear hu
    rw [Int.toNat_natCast]
    have hbN := bN_lt l k
    generalize hx : bN l k = x at *
    clear hx
    go_enter Tryd.func64, Tryd.ntmps64
    go_wp2_with fail
    go_quiet (fail)
    go_wp2_with fail
    have hbg2 : (⟨b, o' + k, none⟩ : Addr) ≠ ⟨g, 1, none⟩ := by simp [hbg]
    go_quiet (fail)
    go_wp2_with fail
    go_ret
    refine ⟨rfl, RdAt.step HR.out ((((Keeps.refl _ _).drewN _).setCell (.inl (by simp)) _).drewN _) ?_ ?_ ?_ ?_ ?_, (((Keeps.refl _ _).drewN _).setCell (.inl (by simp)) _).drewN _⟩
    all_goals simp [go_sem, h0, h2, h3, h4, h5]

set_option maxRecDepth 100000 in
set_option maxHeartbeats 2000000 in
theorem two_c (g : Nat) (v : Value) (l : List UInt8) (st : Int × Int) (w : World) (hR : RdAt w g v l st) :
    Calls Tryd.prog 71 #[.pointer (some ⟨g, 0, none⟩)] w fun r w' => r = .returned (.int .i64 (rTwoV l st)) ∧ RdAt w' g v l (rTwoS l st) ∧ Keeps [g] w w' := by
  obtain ⟨at', e⟩ := st
  have hR' := hR
  obtain ⟨h0, h1, h2, h3, h4, h5, h6, h7⟩ := hR
  simp only at h2 h3
  by_cases he : e = 0
  rotate_left
  · have heb : (e != 0) = true := by simpa using he
    have hs : rTwoS l (at', e) = (at', e) := by rw [rTwoS, if_pos he]
    have hv : rTwoV l (at', e) = 0 := by rw [rTwoV, if_pos he]
    rw [hs, hv]
    have HR := hd hR'; clear hR' hs hv
    go_enter Tryd.func71, Tryd.ntmps71
    go_wp2_with fail
    go_ret
    exact ⟨rfl, HR.out, Keeps.refl _ _⟩
  subst he
  have hs : rTwoS l (at', 0) = ((uGet2 l at').2.1, (uGet2 l at').2.2) := by rw [rTwoS, if_neg (by simp)]
  have hv : rTwoV l (at', 0) = (uGet2 l at').1 := by rw [rTwoV, if_neg (by simp)]
  rw [hs, hv]
  obtain ⟨a, c, rfl⟩ := h1.slice
  have HR := hd hR'
  clear hs hv hR'
  go_enter Tryd.func71, Tryd.ntmps71
  go_wp2_with fail
  refine wp_region_M (fun W => W.cell? ⟨g, 0, none⟩ = some (.slice a l.length c) ∧ W.cell? ⟨g, 1, none⟩ = some (.int .i64 at')) 15 [(0, false), (1, false), (2, false), (3, false), (4, false), (5, false), (6, false), (7, false), (8, true), (9, false), (10, false), (11, false), (12, false), (13, false), (14, false), (15, true)] (by kernel_rfl) (by kernel_rfl) (fun _ _ _ _ h => h) ⟨h0, h2⟩ ?_
  iterate 8
    apply wpM_still (by rfl) (by rfl)
    · intro W hC
      obtain ⟨d0, d1⟩ := hC
      go_simp
      rfl
    go_simp
  apply wpM_move (by rfl) (by rfl)
  intro K hK
  go_simp
  refine (Get2_c _ l at' _ (h1.keeps (Keeps.refl [] _).drew (OutOf.nil _))).mono ?_
  rintro r w1 ⟨rfl, hb1⟩
  have hk1 : Keeps [] w w1 := (Keeps.refl [] w).drew.trans (Keeps.below hb1)
  have HR1 := HR.out.keeps hk1 (by simp) (OutOf.nil _)
  have HR2 := hd HR1
  obtain ⟨i0, i1, i2, i3, i4, i5, i6, i7⟩ := HR1
  simp only []
  refine hK _ _ (fun _ => ⟨i0, i2⟩) ?_
  clear hK K hb1 h0 h1 h2 h3 h4 h5 h6
  generalize hq : uGet2 l at' = q
  obtain ⟨qn, qk, qe⟩ := q
  have Hq := hd hq; clear hq
  simp only
  iterate 6
    apply wpM_still (by rfl) (by rfl)
    · intro W hC
      obtain ⟨d0, d1⟩ := hC
      go_simp
      rfl
    go_simp
  apply wpM_move (by rfl) (by rfl)
  intro K hK
  go_simp
  refine hK _ _ (fun h => absurd h (by decide)) ?_
  clear hK K
  refine wpM_nil ?_
  go_wp2_with fail
  refine (fail_c qe g _ l (at', 0) _ HR2.out).mono ?_
  rintro r w2 ⟨rfl, hR3, hk2⟩
  have HR3 := hd hR3
  obtain ⟨j0, j1, j2, j3, j4, j5, j6, j7⟩ := hR3
  simp only [rFail, if_true] at j2 j3
  go_wp2_with fail
  go_ret
  rw [Hq.out]
  refine ⟨rfl, RdAt.step HR3.out ((Keeps.refl _ _).setCell (.inl (by simp)) _) ?_ ?_ ?_ ?_ ?_, ((hk1.mono (by simp)).trans hk2).setCell (.inl (by simp)) _⟩
  all_goals simp [go_sem, j0, j2, j3, j4, j5]

set_option maxRecDepth 100000 in
set_option maxHeartbeats 2000000 in
theorem textT_c (is : Bool) (g : Nat) (v : Value) (l : List UInt8) (st : Int × Int) (w : World) (hE : EnvU w) (hR : RdAt w g v l st) :
    Calls Tryd.prog 62 #[.pointer (some ⟨g, 0, none⟩), .bool is, .func (.func 22) #[] #[]] w fun r w' => r = .returned (.string (sOf (rTextV (uGet l st.1) is st))) ∧ RdAt w' g v l (rTextS (uGet l st.1) is st) ∧ Keeps [g] w w' := by
  have HE := hd hE; clear hE
  obtain ⟨at', e⟩ := st
  have hR' := hR
  obtain ⟨h0, h1, h2, h3, h4, h5, h6, h7⟩ := hR
  simp only at h2 h3
  simp only []
  cases is
  · have hs : rTextS (uGet l at') false (at', e) = (at', e) := rfl
    have hv : rTextV (uGet l at') false (at', e) = [] := rfl
    rw [hs, hv]
    have HR := hd hR'; clear hR' hs hv
    go_enter Tryd.func62, Tryd.ntmps62
    go_wp2_with fail
    go_ret
    exact ⟨rfl, HR.out, Keeps.refl _ _⟩
  by_cases he : e = 0
  rotate_left
  · have heb : (e != 0) = true := by simpa using he
    have hs : rTextS (uGet l at') true (at', e) = (at', e) := by rw [rTextS, if_neg (by simp), if_pos he]
    have hv : rTextV (uGet l at') true (at', e) = [] := by rw [rTextV, if_neg (by simp), if_pos he]
    rw [hs, hv]
    have HR := hd hR'; clear hR' hs hv
    go_enter Tryd.func62, Tryd.ntmps62
    go_wp2_with fail
    go_ret
    exact ⟨rfl, HR.out, Keeps.refl _ _⟩
  subst he
  have hs : rTextS (uGet l at') true (at', 0) = ((uGet l at').2.1, (uGet l at').2.2) := by rw [rTextS, if_neg (by simp), if_neg (by simp)]
  have hv : rTextV (uGet l at') true (at', 0) = (uGet l at').1 := by rw [rTextV, if_neg (by simp), if_neg (by simp)]
  rw [hs, hv]
  obtain ⟨a, c, rfl⟩ := h1.slice
  have HR := hd hR'
  clear hs hv hR'
  go_enter Tryd.func62, Tryd.ntmps62
  go_wp2_with fail
  refine wp_region_M (fun W => W.cell? ⟨g, 0, none⟩ = some (.slice a l.length c) ∧ W.cell? ⟨g, 1, none⟩ = some (.int .i64 at')) 16 [(0, false), (1, false), (2, false), (3, false), (4, false), (5, false), (6, false), (7, false), (8, false), (9, true), (10, false), (11, false), (12, false), (13, false), (14, false), (15, false), (16, true)] (by kernel_rfl) (by kernel_rfl) (fun _ _ _ _ h => h) ⟨h0, h2⟩ ?_
  iterate 9
    apply wpM_still (by rfl) (by rfl)
    · intro W hC
      obtain ⟨d0, d1⟩ := hC
      go_simp
      rfl
    go_simp
  apply wpM_move (by rfl) (by rfl)
  intro K hK
  go_simp
  refine (Get_c _ l at' _ (HE.out.below ((Below.refl _ w).drew)) (h1.keeps (Keeps.refl [] _).drew (OutOf.nil _))).mono ?_
  rintro r w1 ⟨rfl, hb1⟩
  have hk1 : Keeps [] w w1 := (Keeps.refl [] w).drew.trans (Keeps.below hb1)
  have HR1 := HR.out.keeps hk1 (by simp) (OutOf.nil _)
  have HR2 := hd HR1
  obtain ⟨i0, i1, i2, i3, i4, i5, i6, i7⟩ := HR1
  simp only []
  refine hK _ _ (fun _ => ⟨i0, i2⟩) ?_
  clear hK K hb1 h0 h1 h2 h3 h4 h5 h6
  generalize hq : uGet l at' = q
  obtain ⟨qn, qk, qe⟩ := q
  have Hq := hd hq; clear hq
  simp only
  iterate 6
    apply wpM_still (by rfl) (by rfl)
    · intro W hC
      obtain ⟨d0, d1⟩ := hC
      go_simp
      rfl
    go_simp
  apply wpM_move (by rfl) (by rfl)
  intro K hK
  go_simp
  refine hK _ _ (fun h => absurd h (by decide)) ?_
  clear hK K
  refine wpM_nil ?_
  go_wp2_with fail
  refine (fail_c qe g _ l (at', 0) _ HR2.out).mono ?_
  rintro r w2 ⟨rfl, hR3, hk2⟩
  have HR3 := hd hR3
  obtain ⟨j0, j1, j2, j3, j4, j5, j6, j7⟩ := hR3
  simp only [rFail, if_true] at j2 j3
  go_wp2_with fail
  go_ret
  rw [Hq.out]
  refine ⟨rfl, RdAt.step HR3.out ((Keeps.refl _ _).setCell (.inl (by simp)) _) ?_ ?_ ?_ ?_ ?_, ((hk1.mono (by simp)).trans hk2).setCell (.inl (by simp)) _⟩
  all_goals simp [go_sem, j0, j2, j3, j4, j5]

set_option maxRecDepth 100000 in
set_option maxHeartbeats 2000000 in
theorem textR_c (is : Bool) (g : Nat) (v : Value) (l : List UInt8) (st : Int × Int) (w : World) (hE : EnvU w) (hR : RdAt w g v l st) :
    Calls Tryd.prog 62 #[.pointer (some ⟨g, 0, none⟩), .bool is, .func (.func 24) #[] #[]] w fun r w' => r = .returned (.string (sOf (rTextV (uGetRaw l st.1) is st))) ∧ RdAt w' g v l (rTextS (uGetRaw l st.1) is st) ∧ Keeps [g] w w' := by
  have HE := hd hE; clear hE
  obtain ⟨at', e⟩ := st
  have hR' := hR
  obtain ⟨h0, h1, h2, h3, h4, h5, h6, h7⟩ := hR
  simp only at h2 h3
  simp only []
  cases is
  · have hs : rTextS (uGetRaw l at') false (at', e) = (at', e) := rfl
    have hv : rTextV (uGetRaw l at') false (at', e) = [] := rfl
    rw [hs, hv]
    have HR := hd hR'; clear hR' hs hv
    go_enter Tryd.func62, Tryd.ntmps62
    go_wp2_with fail
    go_ret
    exact ⟨rfl, HR.out, Keeps.refl _ _⟩
  by_cases he : e = 0
  rotate_left
  · have heb : (e != 0) = true := by simpa using he
    have hs : rTextS (uGetRaw l at') true (at', e) = (at', e) := by rw [rTextS, if_neg (by simp), if_pos he]
    have hv : rTextV (uGetRaw l at') true (at', e) = [] := by rw [rTextV, if_neg (by simp), if_pos he]
    rw [hs, hv]
    have HR := hd hR'; clear hR' hs hv
    go_enter Tryd.func62, Tryd.ntmps62
    go_wp2_with fail
    go_ret
    exact ⟨rfl, HR.out, Keeps.refl _ _⟩
  subst he
  have hs : rTextS (uGetRaw l at') true (at', 0) = ((uGetRaw l at').2.1, (uGetRaw l at').2.2) := by rw [rTextS, if_neg (by simp), if_neg (by simp)]
  have hv : rTextV (uGetRaw l at') true (at', 0) = (uGetRaw l at').1 := by rw [rTextV, if_neg (by simp), if_neg (by simp)]
  rw [hs, hv]
  obtain ⟨a, c, rfl⟩ := h1.slice
  have HR := hd hR'
  clear hs hv hR'
  go_enter Tryd.func62, Tryd.ntmps62
  go_wp2_with fail
  refine wp_region_M (fun W => W.cell? ⟨g, 0, none⟩ = some (.slice a l.length c) ∧ W.cell? ⟨g, 1, none⟩ = some (.int .i64 at')) 16 [(0, false), (1, false), (2, false), (3, false), (4, false), (5, false), (6, false), (7, false), (8, false), (9, true), (10, false), (11, false), (12, false), (13, false), (14, false), (15, false), (16, true)] (by kernel_rfl) (by kernel_rfl) (fun _ _ _ _ h => h) ⟨h0, h2⟩ ?_
  iterate 9
    apply wpM_still (by rfl) (by rfl)
    · intro W hC
      obtain ⟨d0, d1⟩ := hC
      go_simp
      rfl
    go_simp
  apply wpM_move (by rfl) (by rfl)
  intro K hK
  go_simp
  refine (GetRaw_c _ l at' _ (h1.keeps (Keeps.refl [] _).drew (OutOf.nil _))).mono ?_
  rintro r w1 ⟨rfl, hb1⟩
  have hk1 : Keeps [] w w1 := (Keeps.refl [] w).drew.trans (Keeps.below hb1)
  have HR1 := HR.out.keeps hk1 (by simp) (OutOf.nil _)
  have HR2 := hd HR1
  obtain ⟨i0, i1, i2, i3, i4, i5, i6, i7⟩ := HR1
  simp only []
  refine hK _ _ (fun _ => ⟨i0, i2⟩) ?_
  clear hK K hb1 h0 h1 h2 h3 h4 h5 h6
  generalize hq : uGetRaw l at' = q
  obtain ⟨qn, qk, qe⟩ := q
  have Hq := hd hq; clear hq
  simp only
  iterate 6
    apply wpM_still (by rfl) (by rfl)
    · intro W hC
      obtain ⟨d0, d1⟩ := hC
      go_simp
      rfl
    go_simp
  apply wpM_move (by rfl) (by rfl)
  intro K hK
  go_simp
  refine hK _ _ (fun h => absurd h (by decide)) ?_
  clear hK K
  refine wpM_nil ?_
  go_wp2_with fail
  refine (fail_c qe g _ l (at', 0) _ HR2.out).mono ?_
  rintro r w2 ⟨rfl, hR3, hk2⟩
  have HR3 := hd hR3
  obtain ⟨j0, j1, j2, j3, j4, j5, j6, j7⟩ := hR3
  simp only [rFail, if_true] at j2 j3
  go_wp2_with fail
  go_ret
  rw [Hq.out]
  refine ⟨rfl, RdAt.step HR3.out ((Keeps.refl _ _).setCell (.inl (by simp)) _) ?_ ?_ ?_ ?_ ?_, ((hk1.mono (by simp)).trans hk2).setCell (.inl (by simp)) _⟩
  all_goals simp [go_sem, j0, j2, j3, j4, j5]

end Go.Proofs.YtinfcjnmloglhaaDoor
