/- Packets out of chunks: the first head that waits: the walk. -/
import Derived.Test.YtgafhnomkeiakaaDoorFr
namespace Go.Proofs.YtgafhnomkeiakaaDoor
open Go.RowKit
set_option linter.unusedVariables false
set_option linter.unusedSimpArgs false

/-- the first head that waits, where its packet begins and ends; the error's number, if there is one -/
def frLook (l : List UInt8) : (Int × Int × Int) × Int × Int × Option Int :=
  if (hGet l 0).2.2 ≠ 0 then ((0, 0, 0), 0, 0, some (hGet l 0).2.2)
  else if (l.length : Int) - (hGet l 0).2.1 < (hGet l 0).1.2.2 then ((0, 0, 0), 0, 0, some 2)
  else ((hGet l 0).1, (hGet l 0).2.1, (hGet l 0).2.1 + (hGet l 0).1.2.2, none)
theorem below_dn {B : Nat} {a w : World} (h : Below B a w) (n : Nat) : Below B a (w.drewN n) := ⟨h.os, h.tape, h.output, h.size, h.block⟩
def errV : Option Int → Value
  | none => .nilIface
  | some e => fV e
theorem hGet_rng {l : List UInt8} (h : (hGet l 0).2.2 = 0) : 1 ≤ (hGet l 0).2.1 ∧ (hGet l 0).2.1 ≤ l.length ∧ 0 ≤ (hGet l 0).1.2.2 ∧ (hGet l 0).1.2.2 ≤ 4096 := by
  unfold hGet at h ⊢
  have hb := hLen_bounds (l.drop ((0 : Int).toNat + 1))
  have hd : (l.drop ((0 : Int).toNat + 1)).length = l.length - 1 := by simp
  rw [hd] at hb
  repeat' split at h
  all_goals try (simp at h; done)
  all_goals try (simp only at h; omega)
  rename_i h1 h2 h3 h4 h5
  rw [if_neg h1, if_neg h2, if_neg h3, if_neg h4, if_neg h5]
  simp only
  omega
theorem lookRead {w' : World} {gr : Nat} {tmps : Array Value} {a b c x y : Int} {z : Value} (h2 : tmps[2]?.getD undef = .pointer (some ⟨gr, 0, none⟩)) (h3 : tmps[3]?.getD undef = .int .i64 x) (h4 : tmps[4]?.getD undef = .int .i64 y) (h5 : tmps[5]?.getD undef = z)
    (c0 : w'.cell? ⟨gr, 0, none⟩ = some (.int .i64 a)) (c1 : w'.cell? ⟨gr, 1, none⟩ = some (.int .i64 b)) (c2 : w'.cell? ⟨gr, 2, none⟩ = some (.int .i64 c)) :
    (results Tryd.f49 tmps).run Tryd.prog w' = .ok (.tuple #[.agg #[.int .i64 a, .int .i64 b, .int .i64 c], .int .i64 x, .int .i64 y, z]) w' := by
  simp [results, Tryd.results49, go_sem, h2, h3, h4, h5, c0, c1, c2]
def GivesLook (w : World) (r : (Int × Int × Int) × Int × Int × Option Int) (e : Ending) (w' : World) : Prop :=
  e = .returned (.tuple #[.agg #[.int .i64 r.1.1, .int .i64 r.1.2.1, .int .i64 r.1.2.2], .int .i64 r.2.1, .int .i64 r.2.2.1, errV r.2.2.2]) ∧ Below w.heap.size w w'
theorem GivesLook.mk {w w' : World} {r : (Int × Int × Int) × Int × Int × Option Int} {a b c x y : Int} {z : Option Int} (h : r = ((a, b, c), x, y, z)) (hb : Below w.heap.size w w') :
    GivesLook w r (.returned (.tuple #[.agg #[.int .i64 a, .int .i64 b, .int .i64 c], .int .i64 x, .int .i64 y, errV z])) w' := by subst h; exact ⟨rfl, hb⟩

set_option maxRecDepth 100000 in
set_option maxHeartbeats 4000000 in
theorem look_c (g : Nat) (l : List UInt8) (t d : Int) {S : List Nat} (w : World) (hE : EnvH w) (h : FrAt w g l t d S) (hlm : l.length ≤ 140737488355328) :
    Calls Tryd.prog 49 #[.pointer (some ⟨g, 0, none⟩)] w (GivesLook w (frLook l)) := by
  obtain ⟨⟨v, c0, hv, ho⟩, c1, c2, c3, fr, lt, ltS⟩ := h
  obtain ⟨a, c, rfl⟩ := hv.slice
  have HE := hd hE; clear hE
  have hsp : frLook l = frLook l := rfl
  conv at hsp => rhs; rw [frLook]
  have hrg := @hGet_rng l
  generalize frLook l = R at hsp ⊢
  have Hsp := hd hsp; clear hsp
  have hgn : w.heap.size ≠ g := by omega
  go_enter Tryd.func49, Tryd.ntmps49
  go_wp2_with fail
  refine (hGet_c _ l 0 _ (HE.out.below ((Below.refl w.heap.size w).alloc (Nat.le_refl _) _) (Nat.le_refl _)) (hv.below' ((Below.refl _ w).alloc (Nat.le_refl _) _) (Nat.le_refl _))).mono ?_
  have hsp := Hsp.out; clear Hsp
  generalize hGet l 0 = r at hsp hrg ⊢
  obtain ⟨⟨k, f, n⟩, p, e⟩ := r
  simp only at hsp hrg ⊢
  have Hsp := hd hsp; clear hsp
  rintro e' w1 ⟨rfl, hb1⟩
  have hc1 := bcell hb1
  have hf1 := bfree hb1
  have hl1 : w.heap.size < w1.heap.size := by have := hb1.size; simp at this; omega
  have hb : Below w.heap.size w w1 := Below.up (by go_grown) hb1
  have hcg : w1.cell? ⟨g, 0, none⟩ = some (.slice a l.length c) := (bcell hb g 0 lt).trans c0
  have hlg : g < w1.heap.size := by omega
  have hbs := hb.size
  clear hb1 hv
  simp only []
  by_cases he2 : e = 2
  · subst he2
    clear hrg
    go_wp2_with fail
    refine (tooShort_c _).mono ?_
    rintro e' w2 ⟨rfl, rfl⟩
    go_wp2_with fail
    exact bodyPost_ret (lookRead (a := 0) (b := 0) (c := 0) (x := 0) (y := 0) (z := errV (some 2)) rfl rfl rfl rfl (by simp [go_sem, hc1, hl1]) (by simp [go_sem, hc1, hl1]) (by simp [go_sem, hc1, hl1])) rfl (GivesLook.mk (by rw [Hsp.out]; simp) (by go_grown))
  have he2b : (e == 2) = false := by simpa using he2
  by_cases he : e = 0
  rotate_left
  · have heb : (e != 0) = true := by simpa using he
    clear hrg
    go_wp2_with fail
    exact bodyPost_ret (lookRead (a := 0) (b := 0) (c := 0) (x := 0) (y := 0) (z := errV (some e)) rfl rfl rfl rfl (by simp [go_sem, hc1, hl1]) (by simp [go_sem, hc1, hl1]) (by simp [go_sem, hc1, hl1])) rfl (GivesLook.mk (by rw [Hsp.out, if_pos he]) (by go_grown))
  subst he
  obtain ⟨p0, p1, n0, n1⟩ := hrg rfl
  have hlt0 : ¬ ((l.length : Int) - p < n) ∨ (l.length : Int) - p < n := by omega
  have Hsp2 := hd (Hsp.out.trans (if_neg (by simp))); clear Hsp hrg
  clear hlt0
  by_cases hs : (l.length : Int) - p < n
  · go_wp2_with fail
    go_quiet (fail)
    go_wp2_with fail
    refine (tooShort_c _).mono ?_
    rintro e' w2 ⟨rfl, rfl⟩
    go_wp2_with fail
    exact bodyPost_ret (lookRead (a := 0) (b := 0) (c := 0) (x := 0) (y := 0) (z := errV (some 2)) rfl rfl rfl rfl (by simp [go_sem, hc1, hl1]) (by simp [go_sem, hc1, hl1]) (by simp [go_sem, hc1, hl1])) rfl (GivesLook.mk (by rw [Hsp2.out, if_pos hs]) ((((below_dn hb.box _).setCell (Nat.le_refl _) _).setCell (Nat.le_refl _) _).setCell (Nat.le_refl _) _))
  · go_wp2_with fail
    go_quiet (fail)
    go_wp2_with fail
    have hf0 : ∀ o, w1.frozen? ⟨w.heap.size, o, none⟩ = false := fun o => (hf1 _ o (by simp)).trans (by simp [go_sem])
    have hd0 := (hc1 w.heap.size 0 (by simp)).trans (World.cell?_alloc_new w _ _ 0)
    have hd1 := (hc1 w.heap.size 1 (by simp)).trans (World.cell?_alloc_new w _ _ 1)
    have hd2 := (hc1 w.heap.size 2 (by simp)).trans (World.cell?_alloc_new w _ _ 2)
    have z0 := hf0 0; have z1 := hf0 1; have z2 := hf0 2
    clear hc1 hf1 hf0
    go_region
    go_wp2_with fail
    exact bodyPost_ret (lookRead (a := k) (b := f) (c := n) (x := p) (y := p + n) (z := errV none) rfl rfl rfl rfl (by simp [go_sem, hd0, hd1, hd2, hl1]) (by simp [go_sem, hd0, hd1, hd2, hl1]) (by simp [go_sem, hd0, hd1, hd2, hl1])) rfl (GivesLook.mk (by rw [Hsp2.out, if_neg (by omega)]) (by
      first
        | exact ((((below_dn (below_dn hb.box _) _).setCell (Nat.le_refl _) _).setCell (Nat.le_refl _) _).setCell (Nat.le_refl _) _)
        | exact ((((below_dn hb.box _).setCell (Nat.le_refl _) _).setCell (Nat.le_refl _) _).setCell (Nat.le_refl _) _)
        | (refine below_dn (((?_ : Below _ _ _).setCell (Nat.le_refl _) _).setCell (Nat.le_refl _) _ |>.setCell (Nat.le_refl _) _) _; exact below_dn hb.box _)))
end Go.Proofs.YtgafhnomkeiakaaDoor
