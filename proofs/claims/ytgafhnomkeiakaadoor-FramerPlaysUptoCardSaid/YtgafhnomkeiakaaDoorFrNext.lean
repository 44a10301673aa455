/- Packets out of chunks: Next: the walk. -/
import Derived.Test.YtgafhnomkeiakaaDoorFrFeed
namespace Go.Proofs.YtgafhnomkeiakaaDoor
open Go.RowKit
set_option linter.unusedVariables false
set_option linter.unusedSimpArgs false

/-- a packet: its head and its body -/
abbrev Pk := (Int × Int × Int) × List UInt8
def pk0 : Pk := ((0, 0, 0), [])
def pkV (x : Pk) : Value := .agg #[.int .i64 x.1.1, .int .i64 x.1.2.1, .int .i64 x.1.2.2, .string (sOf x.2)]
/-- what waits, how many were taken, the error -/
abbrev FrS := List UInt8 × Int × Int
def frNext (s : FrS) : (Pk × Bool × Int) × FrS :=
  if s.2.2 ≠ 0 then ((pk0, false, s.2.2), s)
  else if (hGet s.1 0).2.2 = 2 then ((pk0, false, 0), s)
  else if (hGet s.1 0).2.2 ≠ 0 then ((pk0, false, (hGet s.1 0).2.2), ([], s.2.1, (hGet s.1 0).2.2))
  else if (s.1.length : Int) - (hGet s.1 0).2.1 < (hGet s.1 0).1.2.2 then ((pk0, false, 0), s)
  else ((((hGet s.1 0).1, (s.1.drop (hGet s.1 0).2.1.toNat).take (hGet s.1 0).1.2.2.toNat), true, 0),
    (s.1.drop ((hGet s.1 0).2.1 + (hGet s.1 0).1.2.2).toNat, s.2.1 + 1, 0))

theorem nextRead {w' : World} {gr : Nat} {tmps : Array Value} {a b c x : Int} {s : ByteArray} {ok : Bool} (h2 : tmps[2]?.getD undef = .pointer (some ⟨gr, 0, none⟩)) (h3 : tmps[3]?.getD undef = .bool ok) (h4 : tmps[4]?.getD undef = .int .i64 x)
    (c0 : w'.cell? ⟨gr, 0, none⟩ = some (.int .i64 a)) (c1 : w'.cell? ⟨gr, 1, none⟩ = some (.int .i64 b)) (c2 : w'.cell? ⟨gr, 2, none⟩ = some (.int .i64 c)) (c3 : w'.cell? ⟨gr, 3, none⟩ = some (.string s)) :
    (results Tryd.f31 tmps).run Tryd.prog w' = .ok (.tuple #[.agg #[.int .i64 a, .int .i64 b, .int .i64 c, .string s], .bool ok, .int .i64 x]) w' := by
  simp [results, Tryd.results31, go_sem, h2, h3, h4, c0, c1, c2, c3]

def GivesNext (w : World) (g : Nat) (r : (Pk × Bool × Int) × FrS) (e : Ending) (w' : World) (S : List Nat := []) : Prop :=
  e = .returned (.tuple #[pkV r.1.1, .bool r.1.2.1, .int .i64 r.1.2.2]) ∧ FrAt w' g r.2.1 r.2.2.1 r.2.2.2 S ∧ Keeps [g] w w'

theorem FrAt.below {w w' : World} {g : Nat} {l : List UInt8} {t d : Int} {S : List Nat} (h : FrAt w g l t d S) (hb : Below w.heap.size w w') : FrAt w' g l t d S := by
  obtain ⟨⟨v, c0, hv, ho⟩, c1, c2, c3, fr, lt, ltS⟩ := h
  exact ⟨⟨v, (bcell hb g 0 lt).trans c0, hv.below' hb (Nat.le_refl _), ho⟩, (bcell hb g 1 lt).trans c1, (bcell hb g 2 lt).trans c2, (bcell hb g 3 lt).trans c3, fun o => (bfree hb g o lt).trans (fr o), Nat.lt_of_lt_of_le lt hb.size, fun k hk => Nat.lt_of_lt_of_le (ltS k hk) hb.size⟩

set_option maxRecDepth 100000 in
set_option maxHeartbeats 4000000 in
theorem nextDead_c (g : Nat) (l : List UInt8) (t d : Int) {S : List Nat} (w : World) (h : FrAt w g l t d S) (hd0 : d ≠ 0) :
    Calls Tryd.prog 31 #[.pointer (some ⟨g, 0, none⟩)] w (fun e w' => GivesNext w g ((pk0, false, d), (l, t, d)) e w' S) := by
  have H := hd h
  obtain ⟨⟨v, c0, hv, ho⟩, c1, c2, c3, fr, lt, ltS⟩ := h
  have hdb : (d != 0) = true := by simpa using hd0
  have hgn : w.heap.size ≠ g := by omega
  clear hv ho fr ltS
  go_enter Tryd.func31, Tryd.ntmps31
  go_wp2_with fail
  refine (none_c g _ (by simp [go_sem, c3, lt])).mono ?_
  rintro e w' ⟨rfl, rfl⟩
  go_wp2_with fail
  go_region
  go_wp2_with fail
  have hb : Below w.heap.size w (w.alloc (Obj.cells #[Value.int IntKind.i64 0, Value.int IntKind.i64 0, Value.int IntKind.i64 0, Value.string ⟨#[]⟩] 54)).drew := below_dn ((Below.refl _ w).alloc (Nat.le_refl _) _) 1
  exact bodyPost_ret (nextRead (a := 0) (b := 0) (c := 0) (x := d) (s := ⟨#[]⟩) (ok := false) rfl rfl rfl (by simp [go_sem]) (by simp [go_sem]) (by simp [go_sem]) (by simp [go_sem])) rfl ⟨rfl, H.out.below hb, Keeps.below hb⟩

theorem frNext_short {l : List UInt8} {t : Int} (h : (frLook l).2.2.2 = some 2) : frNext (l, t, 0) = ((pk0, false, 0), (l, t, 0)) := by
  unfold frLook at h
  rw [frNext, if_neg (by simp)]
  simp only
  split at h
  · rename_i h1
    simp only [Option.some.injEq] at h
    rw [if_pos h]
  · rename_i h1
    simp only [ne_eq, Decidable.not_not] at h1
    split at h
    · rename_i h2
      simp [h1, h2]
    · simp at h
theorem frNext_bad {l : List UInt8} {t e : Int} (h : (frLook l).2.2.2 = some e) (he : e ≠ 2) : e ≠ 0 ∧ frNext (l, t, 0) = ((pk0, false, e), ([], t, e)) := by
  unfold frLook at h
  rw [frNext, if_neg (by simp)]
  simp only
  split at h
  · rename_i h1
    simp only [Option.some.injEq] at h
    rw [if_neg (by rw [h]; exact he), if_pos h1, h]
    exact ⟨h ▸ h1, rfl⟩
  · split at h
    · simp only [Option.some.injEq] at h
      exact absurd h.symm he
    · simp at h
theorem frNext_ok {l : List UInt8} {t : Int} (h : (frLook l).2.2.2 = none) : 0 ≤ (frLook l).2.1 ∧ (frLook l).2.1 ≤ (frLook l).2.2.1 ∧ (frLook l).2.2.1 ≤ l.length ∧
    frNext (l, t, 0) = ((((frLook l).1, (l.drop (frLook l).2.1.toNat).take ((frLook l).2.2.1.toNat - (frLook l).2.1.toNat)), true, 0), (l.drop (frLook l).2.2.1.toNat, t + 1, 0)) := by
  have h1 : (hGet l 0).2.2 = 0 := by
    by_cases h1 : (hGet l 0).2.2 = 0
    · exact h1
    · unfold frLook at h; rw [if_pos h1] at h; simp at h
  obtain ⟨p0, p1, n0, n1⟩ := hGet_rng h1
  have h2 : ¬ ((l.length : Int) - (hGet l 0).2.1 < (hGet l 0).1.2.2) := fun h2 => by
    unfold frLook at h; rw [if_neg (by simp [h1]), if_pos h2] at h; simp at h
  have e : frLook l = ((hGet l 0).1, (hGet l 0).2.1, (hGet l 0).2.1 + (hGet l 0).1.2.2, none) := by unfold frLook; simp [h1, h2]
  rw [e]
  simp only
  refine ⟨by omega, by omega, by omega, ?_⟩
  rw [show ((hGet l 0).2.1 + (hGet l 0).1.2.2).toNat - (hGet l 0).2.1.toNat = (hGet l 0).1.2.2.toNat by omega, frNext]
  simp [h1, h2]

theorem EnvR.below {w w' : World} (h : EnvR w) (hb : Below w.heap.size w w') : EnvR w' := by
  have hlt : 0 < w.heap.size := by
    rcases Nat.lt_or_ge 0 w.heap.size with h' | h'
    · exact h'
    · unfold EnvR at h; simp [World.cell?, Array.getElem?_eq_none h'] at h
  unfold EnvR at h ⊢
  exact (bcell hb _ _ hlt).trans h

theorem run_fromO {w : World} {a : Option Addr} {n c : Nat} {l : List UInt8} (h : Bs w (.slice a n c) l) (I : Int) (i : Nat) (hI : I = i) (hi : i ≤ l.length) :
    ∃ a' c', (∀ W : World, (Instr.slice 23 (.slice a n c) (some (.int .i64 I)) none none).run Tryd.prog W = .ok (.slice a' (l.length - i) c') W) ∧ Bs w (.slice a' (l.length - i) c') (l.drop i) ∧ ∀ S, OutOf (.slice a n c) S → OutOf (.slice a' (l.length - i) c') S := by
  have hp := h.part i l.length hi (Nat.le_refl _)
  rw [List.take_of_length_le (by simp)] at hp
  obtain ⟨a0, c0, hv, h1, h2, h3, h4⟩ := h
  cases hv
  subst hI
  refine ⟨_, _, fun W => ?_, hp, fun S hS a'' n'' c'' e => ?_⟩
  · rw [run_slice_l W 23 a l.length c (by kernel_rfl) .i64 (i : Int) (by omega) (by omega)]
    obtain ⟨i0, hi, hz0, hz1, hz2⟩ := info_parts info_u8
    have he : Tryd.prog.elem 23 = 5 := by kernel_rfl
    simp [sizeOf, typeInfo, he, hi, hz1, sliced, Result.andThen]
  · simp only [Value.slice.injEq] at e
    have e1 := e.1
    cases a with
    | none => split at e1 <;> simp at e1
    | some ad =>
      split at e1
      · simp only [Option.some.injEq] at e1
        exact e1 ▸ hS ad _ _ rfl
      · simp only [Option.map_some, Option.some.injEq] at e1
        have : a''.block = ad.block := by rw [← e1]; unfold Addr.add; split <;> rfl
        rw [this]
        exact hS ad _ _ rfl

theorem FrAt.nilKeeps {S S' : List Nat} {w w' : World} {g : Nat} {t d : Int} (h : FrAt w g [] t d S') (hk : Keeps S w w') (hg : g ∉ S) : FrAt w' g [] t d S' := by
  obtain ⟨⟨v, c0, hv, ho⟩, c1, c2, c3, fr, lt, ltS⟩ := h
  refine ⟨⟨v, (hk.cell lt hg).trans c0, ?_, ho⟩, (hk.cell lt hg).trans c1, (hk.cell lt hg).trans c2, (hk.cell lt hg).trans c3, fun o => (hk.free lt hg).trans (fr o), Nat.lt_of_lt_of_le lt hk.size, fun k hk' => Nat.lt_of_lt_of_le (ltS k hk') hk.size⟩
  obtain ⟨a, c, rfl, h1, h2, h3, h4⟩ := hv
  exact ⟨a, c, rfl, h1, h2, h3, fun ad _ j u hu => by simp at hu⟩

set_option maxRecDepth 100000 in
set_option maxHeartbeats 4000000 in
theorem nextLive_c (g : Nat) (l : List UInt8) (t : Int) {S : List Nat} (w : World) (hE : EnvH w) (hR : EnvR w) (h : FrAt w g l t 0 S) (hlm : l.length ≤ 140737488355328) (ht : 0 ≤ t ∧ t ≤ 140737488355328) :
    Calls Tryd.prog 31 #[.pointer (some ⟨g, 0, none⟩)] w (fun e w' => GivesNext w g (frNext (l, t, 0)) e w' S) := by
  have HE := hd hE; clear hE
  have HR := hd hR; clear hR
  have H := hd h
  have hlk := fun W => look_c g l t 0 (S := S) W
  have hS := @frNext_short l t
  have hB := fun e => @frNext_bad l t e
  have hO := @frNext_ok l t
  generalize frNext (l, t, 0) = N at *
  generalize frLook l = R at *
  obtain ⟨⟨k, f, n⟩, p, q, er⟩ := R
  simp only at hS hB hO
  have HS := hd hS; have HB := hd hB; have HO := hd hO
  clear hS hB hO
  have HL := hd hlk; clear hlk
  obtain ⟨⟨v, c0, hv, ho⟩, c1, c2, c3, fr, lt, ltS⟩ := h
  obtain ⟨a, c, rfl⟩ := hv.slice
  have hgn : w.heap.size ≠ g := by omega
  have HV := hd hv; have HOut := hd ho; have HLS := hd ltS
  clear hv ho ltS
  go_enter Tryd.func31, Tryd.ntmps31
  go_wp2_with fail
  refine (none_c g _ (by simp [go_sem, c3, lt])).mono ?_
  rintro e w' ⟨rfl, rfl⟩
  go_wp2_with fail
  have hb0 : Below w.heap.size w (w.alloc (Obj.cells #[Value.int IntKind.i64 0, Value.int IntKind.i64 0, Value.int IntKind.i64 0, Value.string ⟨#[]⟩] 54)) := (Below.refl _ w).alloc (Nat.le_refl _) _
  refine (HL.out _ (HE.out.below hb0 (Nat.le_refl _)) (H.out.below hb0) hlm).mono ?_
  rintro e w1 ⟨rfl, hb1⟩
  clear HL
  have HRR : Hd (EnvR w1 ∧ FrAt w1 g l t 0 S ∧ Below w.heap.size w w1) := hd (by
    have hb : Below w.heap.size w w1 := Below.up (by go_grown) hb1
    exact ⟨HR.out.below hb, H.out.below hb, hb⟩)
  have hl1 : w.heap.size < w1.heap.size := by have := hb1.size; simp at this; omega
  have q0 : ∀ o, w1.frozen? ⟨w.heap.size, o, none⟩ = false := fun o => (bfree hb1 w.heap.size o (by simp)).trans (by simp [go_sem])
  have z0 : w1.cell? ⟨w.heap.size, 0, none⟩ = some (.int .i64 0) := (bcell hb1 w.heap.size 0 (by simp)).trans (World.cell?_alloc_new w _ _ 0)
  have z1 : w1.cell? ⟨w.heap.size, 1, none⟩ = some (.int .i64 0) := (bcell hb1 w.heap.size 1 (by simp)).trans (World.cell?_alloc_new w _ _ 1)
  have z2 : w1.cell? ⟨w.heap.size, 2, none⟩ = some (.int .i64 0) := (bcell hb1 w.heap.size 2 (by simp)).trans (World.cell?_alloc_new w _ _ 2)
  have z3 : w1.cell? ⟨w.heap.size, 3, none⟩ = some (.string ⟨#[]⟩) := (bcell hb1 w.heap.size 3 (by simp)).trans (World.cell?_alloc_new w _ _ 3)
  have hb : Below w.heap.size w w1 := HRR.out.2.2
  replace c0 := (bcell hb g 0 lt).trans c0
  replace c1 := (bcell hb g 1 lt).trans c1
  replace c2 := (bcell hb g 2 lt).trans c2
  replace c3 := (bcell hb g 3 lt).trans c3
  replace fr := fun o => (bfree hb g o lt).trans (fr o)
  have hg1 : g < w1.heap.size := by omega
  have f0 := fr 0; have f1 := fr 1
  have qq0 := q0 0
  clear hb hb0 hb1 HE HR
  cases er with
  | some e =>
    have eV : errV (some e) = fV e := rfl
    simp only [eV]
    clear eV HO
    have hb2 : Below w1.heap.size w1 (w1.alloc (Obj.cells #[.int .i64 k, .int .i64 f, .int .i64 n] 52)) := (Below.refl _ _).alloc (Nat.le_refl _) _
    have HR2 : Hd (EnvR (w1.alloc (Obj.cells #[.int .i64 k, .int .i64 f, .int .i64 n] 52)) ∧ FrAt (w1.alloc (Obj.cells #[.int .i64 k, .int .i64 f, .int .i64 n] 52)) g l t 0 S ∧ Below w.heap.size w (w1.alloc (Obj.cells #[.int .i64 k, .int .i64 f, .int .i64 n] 52))) := hd ⟨HRR.out.1.below hb2, HRR.out.2.1.below hb2, HRR.out.2.2.trans (hb2.mono (Nat.le_of_lt hl1))⟩
    clear hb2
    go_wp2_with fail
    refine (tooShort_c _).mono ?_
    rintro r w2 ⟨rfl, rfl⟩
    go_wp2_with fail
    refine (errIs_c e 2 _).mono ?_
    rintro r w2 ⟨rfl, rfl⟩
    by_cases he : e = 2
    · subst he
      have HN := hd (HS.out rfl)
      clear HS HB HR2
      go_wp2_with fail
      refine bodyPost_ret (nextRead (a := 0) (b := 0) (c := 0) (x := 0) (s := ⟨#[]⟩) (ok := false) rfl rfl rfl (by simp [go_sem, z0, hl1]) (by simp [go_sem, z1, hl1]) (by simp [go_sem, z2, hl1]) (by simp [go_sem, z3, hl1])) rfl ?_
      rw [HN.out]
      have hbb : Below w.heap.size w (((((w1.setCell ⟨w.heap.size, 0, none⟩ (.int .i64 0)).setCell ⟨w.heap.size, 1, none⟩ (.int .i64 0)).setCell ⟨w.heap.size, 2, none⟩ (.int .i64 0)).setCell ⟨w.heap.size, 3, none⟩ (.string ⟨#[]⟩)).alloc (Obj.cells #[.int .i64 k, .int .i64 f, .int .i64 n] 52)) :=
        (((((HRR.out.2.2.setCell (Nat.le_refl _) _).setCell (Nat.le_refl _) _).setCell (Nat.le_refl _) _).setCell (Nat.le_refl _) _).alloc (by simp; omega) _)
      exact ⟨rfl, H.out.below hbb, Keeps.below hbb⟩
    · have heb : (e == 2) = false := by simpa using he
      have HN := hd (HB.out e rfl he)
      clear HS HB HRR
      unfold fV
      go_wp2_with fail
      refine (die_c g l t 0 e _ HR2.out.1 HR2.out.2.1).mono ?_
      rintro r w3 ⟨rfl, hF, hk⟩
      have hs3 := hk.size
      simp at hs3
      have hl3 : w.heap.size < w3.heap.size := by omega
      replace z0 := (hk.cell (b := w.heap.size) (o := 0) (by simp; omega) (by simpa using hgn)).trans ((World.cell?_alloc_lt _ _ ⟨w.heap.size, 0, none⟩ hl1).trans z0)
      replace z1 := (hk.cell (b := w.heap.size) (o := 1) (by simp; omega) (by simpa using hgn)).trans ((World.cell?_alloc_lt _ _ ⟨w.heap.size, 1, none⟩ hl1).trans z1)
      replace z2 := (hk.cell (b := w.heap.size) (o := 2) (by simp; omega) (by simpa using hgn)).trans ((World.cell?_alloc_lt _ _ ⟨w.heap.size, 2, none⟩ hl1).trans z2)
      replace z3 := (hk.cell (b := w.heap.size) (o := 3) (by simp; omega) (by simpa using hgn)).trans ((World.cell?_alloc_lt _ _ ⟨w.heap.size, 3, none⟩ hl1).trans z3)
      have hq : ∀ o, w3.frozen? ⟨w.heap.size, o, none⟩ = false := fun o => (hk.free (b := w.heap.size) (o := o) (by simp; omega) (by simpa using hgn)).trans (by simpa [go_sem, hl1] using q0 o)
      have y0 := hq 0; have y1 := hq 1; have y2 := hq 2; have y3 := hq 3
      clear q0 qq0 c0 c1 c2 c3 fr f0 f1 hq
      have HF := hd hF; have HK := hd hk
      clear hF hk
      go_wp2_with fail
      refine bodyPost_ret (nextRead (a := 0) (b := 0) (c := 0) (x := e) (s := ⟨#[]⟩) (ok := false) rfl rfl rfl (by simp [go_sem, z0, hl3]) (by simp [go_sem, z1, hl3]) (by simp [go_sem, z2, hl3]) (by simp [go_sem, z3, hl3])) rfl ?_
      rw [HN.out.2]
      have hk4 : Keeps [w.heap.size] w3 ((((w3.setCell ⟨w.heap.size, 0, none⟩ (.int .i64 0)).setCell ⟨w.heap.size, 1, none⟩ (.int .i64 0)).setCell ⟨w.heap.size, 2, none⟩ (.int .i64 0)).setCell ⟨w.heap.size, 3, none⟩ (.string ⟨#[]⟩)) :=
        (((((Keeps.refl _ _).setCell (.inl (by simp)) _).setCell (.inl (by simp)) _).setCell (.inl (by simp)) _).setCell (.inl (by simp)) _)
      exact ⟨rfl, HF.out.nilKeeps hk4 (by simpa using hgn.symm), (((((Keeps.below HR2.out.2.2).trans (S := [g]) ⟨HK.out.os, HK.out.tape, HK.out.output, HK.out.size, HK.out.block⟩).setCell (.inr (Nat.le_refl _)) _).setCell (.inr (Nat.le_refl _)) _).setCell (.inr (Nat.le_refl _)) _).setCell (.inr (Nat.le_refl _)) _⟩
  | none =>
    have eV : errV none = .nilIface := rfl
    simp only [eV]
    clear eV HS HB
    obtain ⟨p0, p1, p2, hN⟩ := HO.out rfl
    have HN := hd hN
    clear hN HO
    have hb2 : Below w1.heap.size w1 (w1.alloc (Obj.cells #[.int .i64 k, .int .i64 f, .int .i64 n] 52)) := (Below.refl _ _).alloc (Nat.le_refl _) _
    have hbw := HRR.out.2.2
    have hbs : Bs (w1.alloc (Obj.cells #[.int .i64 k, .int .i64 f, .int .i64 n] 52)).drew (.slice a l.length c) l := (HV.out.below' hbw (Nat.le_refl _)).below' (below_dn hb2 1) (Nat.le_refl _)
    obtain ⟨a1, c1', hsl, hbs1⟩ := run_part hbs p q p.toNat q.toNat (by omega) (by omega) (by omega) (by omega)
    obtain ⟨a2, c2', hsl2, hbs2, hout2⟩ := run_fromO HV.out q q.toNat (by omega) (by omega)
    have HO2 : Hd (l.drop q.toNat ≠ [] → OutOf (.slice a2 (l.length - q.toNat) c2') (g :: S)) := hd (fun hne => hout2 (g :: S) (HOut.out (fun e => hne (by rw [e]; simp)))); clear hout2
    have HB1 := hd hbs1; have HB2 := hd hbs2
    clear hb2 hbw hbs hbs1 hbs2
    go_wp2_with fail
    refine (tooShort_c _).mono ?_
    rintro r w2 ⟨rfl, rfl⟩
    go_wp2_with fail
    refine (errIsNil_c 2 _).mono ?_
    rintro r w2 ⟨rfl, rfl⟩
    go_wp2_with fail
    refine wp_region_M (fun W => W.cell? ⟨w1.heap.size, 0, none⟩ = some (.int .i64 k) ∧ W.cell? ⟨w1.heap.size, 1, none⟩ = some (.int .i64 f) ∧ W.cell? ⟨w1.heap.size, 2, none⟩ = some (.int .i64 n) ∧ W.cell? ⟨g, 0, none⟩ = some (.slice a l.length c) ∧ Bs W (.slice a1 (q.toNat - p.toNat) c1') ((l.drop p.toNat).take (q.toNat - p.toNat))) 11 [(0, false), (1, false), (2, false), (3, false), (4, false), (5, false), (6, false), (7, false), (8, false), (9, false), (10, true), (11, true)] (by kernel_rfl) (by kernel_rfl) (fun _ _ _ _ h => h) ⟨World.cell?_alloc_new _ _ _ 0, World.cell?_alloc_new _ _ _ 1, World.cell?_alloc_new _ _ _ 2, (World.cell?_alloc_lt _ _ ⟨g, 0, none⟩ hg1).trans c0, HB1.out⟩ ?_
    iterate 10
      apply wpM_still (by rfl) (by rfl)
      · intro W hC
        obtain ⟨d0, d1, d2, d3, d4⟩ := hC
        have hst := run_str d4
        clear d4
        go_simp
        rfl
      go_simp
    apply wpM_move (by rfl) (by rfl)
    intro K hK
    go_simp
    refine hK _ _ (fun _ => ?_) ?_
    · refine ⟨?_, ?_, ?_, ?_, HB1.out.below' ((Below.refl _ _).alloc (Nat.le_refl _) _) (Nat.le_refl _)⟩
      · simp [go_sem]
      · simp [go_sem]
      · simp [go_sem]
      · simp [go_sem, c0, hg1]
    clear hK K
    apply wpM_move (by rfl) (by rfl)
    intro K hK
    go_simp
    refine hK _ _ (fun h => absurd h (by decide)) ?_
    clear hK K
    refine wpM_nil ?_
    have hb5 : Below w1.heap.size w1 ((w1.alloc (Obj.cells #[.int .i64 k, .int .i64 f, .int .i64 n] 52)).alloc (Obj.cells #[.int .i64 k, .int .i64 f, .int .i64 n, .string ⟨((l.drop p.toNat).take (q.toNat - p.toNat)).toArray⟩] 54)).drew :=
      below_dn (((Below.refl _ _).alloc (Nat.le_refl _) _).alloc (by simp) _) 1
    have x0 : ((w1.alloc (Obj.cells #[.int .i64 k, .int .i64 f, .int .i64 n] 52)).alloc (Obj.cells #[.int .i64 k, .int .i64 f, .int .i64 n, .string ⟨((l.drop p.toNat).take (q.toNat - p.toNat)).toArray⟩] 54)).drew.cell? ⟨w1.heap.size + 1, 0, none⟩ = some (.int .i64 k) := by simp [go_sem]
    have x1 : ((w1.alloc (Obj.cells #[.int .i64 k, .int .i64 f, .int .i64 n] 52)).alloc (Obj.cells #[.int .i64 k, .int .i64 f, .int .i64 n, .string ⟨((l.drop p.toNat).take (q.toNat - p.toNat)).toArray⟩] 54)).drew.cell? ⟨w1.heap.size + 1, 1, none⟩ = some (.int .i64 f) := by simp [go_sem]
    have x2 : ((w1.alloc (Obj.cells #[.int .i64 k, .int .i64 f, .int .i64 n] 52)).alloc (Obj.cells #[.int .i64 k, .int .i64 f, .int .i64 n, .string ⟨((l.drop p.toNat).take (q.toNat - p.toNat)).toArray⟩] 54)).drew.cell? ⟨w1.heap.size + 1, 2, none⟩ = some (.int .i64 n) := by simp [go_sem]
    have x3 : ((w1.alloc (Obj.cells #[.int .i64 k, .int .i64 f, .int .i64 n] 52)).alloc (Obj.cells #[.int .i64 k, .int .i64 f, .int .i64 n, .string ⟨((l.drop p.toNat).take (q.toNat - p.toNat)).toArray⟩] 54)).drew.cell? ⟨w1.heap.size + 1, 3, none⟩ = some (.string (sOf ((l.drop p.toNat).take (q.toNat - p.toNat)))) := by simp [go_sem, sOf]
    have hs5 : ((w1.alloc (Obj.cells #[.int .i64 k, .int .i64 f, .int .i64 n] 52)).alloc (Obj.cells #[.int .i64 k, .int .i64 f, .int .i64 n, .string ⟨((l.drop p.toNat).take (q.toNat - p.toNat)).toArray⟩] 54)).drew.heap.size = w1.heap.size + 2 := by simp
    generalize ((w1.alloc (Obj.cells #[.int .i64 k, .int .i64 f, .int .i64 n] 52)).alloc (Obj.cells #[.int .i64 k, .int .i64 f, .int .i64 n, .string ⟨((l.drop p.toNat).take (q.toNat - p.toNat)).toArray⟩] 54)).drew = w5 at *
    clear HB1 hsl
    replace c0 := (bcell hb5 g 0 hg1).trans c0
    replace c1 := (bcell hb5 g 1 hg1).trans c1
    replace c2 := (bcell hb5 g 2 hg1).trans c2
    replace c3 := (bcell hb5 g 3 hg1).trans c3
    replace fr := fun o => (bfree hb5 g o hg1).trans (fr o)
    have f0 := fr 0; have f1 := fr 1
    replace q0 := fun o => (bfree hb5 w.heap.size o hl1).trans (q0 o)
    have y0 := q0 0; have y1 := q0 1; have y2 := q0 2; have y3 := q0 3
    have hg5 : g < w5.heap.size := by omega
    replace z0 := (bcell hb5 w.heap.size 0 hl1).trans z0
    replace z1 := (bcell hb5 w.heap.size 1 hl1).trans z1
    replace z2 := (bcell hb5 w.heap.size 2 hl1).trans z2
    replace z3 := (bcell hb5 w.heap.size 3 hl1).trans z3
    have hl5 : w.heap.size < w5.heap.size := by omega
    have hne : w1.heap.size + 1 ≠ g := by omega
    have hne2 : w1.heap.size + 1 ≠ w.heap.size := by omega
    have hbw : Below w.heap.size w w5 := HRR.out.2.2.trans (hb5.mono (Nat.le_of_lt hl1))
    have HBW := hd hbw
    clear hb5 hbw qq0 HRR H
    go_wp2_with fail
    refine bodyPost_ret (nextRead (a := k) (b := f) (c := n) (x := 0) (s := sOf ((l.drop p.toNat).take (q.toNat - p.toNat))) (ok := true) rfl rfl rfl (by simp [go_sem, z0, z1, z2, z3, hl5, hgn]) (by simp [go_sem, z0, z1, z2, z3, hl5, hgn]) (by simp [go_sem, z0, z1, z2, z3, hl5, hgn]) (by simp [go_sem, z0, z1, z2, z3, hl5, hgn])) rfl ?_
    rw [HN.out]
    have hk6 : Keeps [g] w ((((((w5.setCell ⟨g, 0, none⟩ (.slice a2 (l.length - q.toNat) c2')).setCell ⟨g, 1, none⟩ (.int .i64 (t + 1))).setCell ⟨w.heap.size, 0, none⟩ (.int .i64 k)).setCell ⟨w.heap.size, 1, none⟩ (.int .i64 f)).setCell ⟨w.heap.size, 2, none⟩ (.int .i64 n)).setCell ⟨w.heap.size, 3, none⟩ (.string (sOf ((l.drop p.toNat).take (q.toNat - p.toNat))))) :=
      ((((((Keeps.below HBW.out).setCell (.inl (by simp)) _).setCell (.inl (by simp)) _).setCell (.inr (Nat.le_refl _)) _).setCell (.inr (Nat.le_refl _)) _).setCell (.inr (Nat.le_refl _)) _).setCell (.inr (Nat.le_refl _)) _
    exact ⟨rfl, ⟨⟨_, by simp [go_sem, c0, hgn], HB2.out.keepsL hk6 (fun h => (HO2.out h).head), HO2.out⟩, by simp [go_sem, c1, hgn], by simp [go_sem, c2, hgn], by simp [go_sem, c3, hgn], fun o => by simp [go_sem]; exact fr o, by simp [go_sem]; exact hg5, fun k hk => by have := HLS.out k hk; simp [go_sem]; omega⟩, hk6⟩
end Go.Proofs.YtgafhnomkeiakaaDoor
