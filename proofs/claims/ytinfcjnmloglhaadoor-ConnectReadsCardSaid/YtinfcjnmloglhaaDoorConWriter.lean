/- Who comes: bytes on their way: the walks (printed by wip/gen/conwriter.py). -/
import Derived.Test.YtinfcjnmloglhaaDoorConAck
namespace Go.Proofs.YtinfcjnmloglhaaDoor
open Go.RowKit
set_option linter.unusedVariables false
set_option linter.unusedSimpArgs false

theorem Owned.aside {B : Nat} {w : World} {v : Value} {l : List UInt8} (h : Owned B w v l) {p : Addr} (hp : p.block < B) (u : Value) : Owned B (w.setCell p u) v l := by
  refine ⟨h.1, ?_⟩
  rcases h.2 with h0 | ⟨g, cap, cur, h1, h2, h3, h4⟩
  · exact .inl h0
  · exact .inr ⟨g, cap, cur, h1, h2, by rw [heap_setCell_other w p g u (by omega)]; exact h3, h4⟩

/-- A writer's cells. -/
def WrAt (w : World) (g : Nat) (l : List UInt8) (e : Int) : Prop :=
  ∃ v, w.cell? ⟨g, 0, none⟩ = some v ∧ Owned (g + 1) w v l ∧ w.cell? ⟨g, 1, none⟩ = some (.int .i64 e) ∧ w.frozen? ⟨g, 0, none⟩ = false ∧ w.frozen? ⟨g, 1, none⟩ = false ∧ g < w.heap.size
theorem WrAt.below {B g : Nat} {w w' : World} {l : List UInt8} {e : Int} (h : WrAt w g l e) (hb : Below B w w') (hB : w.heap.size ≤ B) : WrAt w' g l e := by
  obtain ⟨v, h0, h1, h2, h3, h4, h5⟩ := h
  exact ⟨v, (bcell hb _ _ (by omega)).trans h0, h1.kept hb hB, (bcell hb _ _ (by omega)).trans h2, (bfree hb _ _ (by omega)).trans h3, (bfree hb _ _ (by omega)).trans h4, Nat.lt_of_lt_of_le h5 hb.size⟩
theorem uPutRawB_len2 (l : List UInt8) : (uPutRawB l).length ≤ 65537 := by
  by_cases h : l.length ≤ 65535
  · rw [uPutRawB_len h]; omega
  · unfold uPutRawB; rw [if_pos (by omega)]; simp

set_option maxRecDepth 100000 in
set_option maxHeartbeats 2000000 in
theorem wputT_c (is : Bool) (s : ByteArray) (g : Nat) (l : List UInt8) (e : Int) (w : World) (hW : WrAt w g l e) (hE : EnvU w) (hs : s.size ≤ 140737488351232) (hl : l.length ≤ 1000000) :
    Calls Tryd.prog 55 #[.pointer (some ⟨g, 0, none⟩), .bool is, .string s, .func (.func 15) #[] #[]] w fun r w' =>
      r = .returned (.tuple #[]) ∧ WrAt w' g (cStep (l, e) is (uPutE (sB s)) (uPutB (sB s))).1 (cStep (l, e) is (uPutE (sB s)) (uPutB (sB s))).2 ∧ Below g w w' := by
  have HE := hd hE; clear hE
  have hW' := hW
  obtain ⟨v, h0, h1, h2, h3, h4, h5⟩ := hW
  cases is
  · rw [cStep_no]
    have HW := hd hW'; clear hW'
    go_enter Tryd.func55, Tryd.ntmps55
    go_wp2_with fail
    refine bodyPost_ret (results_none rfl _ _ _) rfl ?_
    exact ⟨rfl, HW.out, Below.refl _ _⟩
  by_cases he : e = 0
  rotate_left
  · rw [cStep_bad he]
    have heb : (e != 0) = true := by simpa using he
    have HW := hd hW'; clear hW'
    go_enter Tryd.func55, Tryd.ntmps55
    go_wp2_with fail
    refine bodyPost_ret (results_none rfl _ _ _) rfl ?_
    exact ⟨rfl, HW.out, Below.refl _ _⟩
  subst he
  clear hW'
  have hB := @uPutB_len (sB s)
  go_enter Tryd.func55, Tryd.ntmps55
  go_wp2_with fail
  refine (Put_c s _ HE.out (by omega)).mono ?_
  rintro r w1 ⟨v1, rfl, ho1, hb1⟩
  have c0 := (bcell hb1 g 0 h5).trans h0
  have c1 := (bcell hb1 g 1 h5).trans h2
  have z0 := (bfree hb1 g 0 h5).trans h3
  have z1 := (bfree hb1 g 1 h5).trans h4
  have hz1 := hb1.size
  have hl1 : g < w1.heap.size := by omega
  have ho := h1.kept hb1 (Nat.le_refl _)
  have hbg : Below g w w1 := hb1.mono (by omega)
  clear h0 h1 h2 h3 h4 hb1
  obtain ⟨a0, k0, rfl⟩ := Owns.slice ho
  obtain ⟨a1, k1, rfl⟩ := Owns.slice ho1
  by_cases hf : uPutE (sB s) = 0
  rotate_left
  · have hfb : (uPutE (sB s) == 0) = false := by simpa using hf
    go_wp2_with fail
    go_end0
    rw [cStep_err _ _ hf]
    refine ⟨rfl, ⟨_, ?_, ho.aside (by simp) _, ?_, ?_, ?_, ?_⟩, hbg.setCell (by simp) _⟩
    all_goals simp [go_sem, c0, c1, z0, z1, hl1]
  rw [hf]
  have ho' := ho.aside (p := ⟨g, 1, none⟩) (by simp) (.int .i64 0)
  have ho1' := (ho1.aside (p := ⟨g, 1, none⟩) (by simp; omega) (.int .i64 0)).bs
  clear ho ho1
  go_wp2_with (at_builtin; refine wp_appB rfl _ _ rfl (g + 1) _ l rfl ho' _ (uPutB (sB s)) rfl ho1' (by omega) (by simp; omega) ?_; intro v4 w4 ho4 hb4; obtain ⟨a4, k4, rfl⟩ := Owns.slice ho4; rw [List.length_append] at ho4; have hc4 := bcell hb4 g 0 (by omega); have hd4 := bcell hb4 g 1 (by omega); have hy4 := bfree hb4 g 0 (by omega); have hf4 := bfree hb4 g 1 (by omega); have hz4 := hb4.size)
  go_end0
  rw [hf, cStep_ok]
  have hlt4 : g < w4.heap.size := by simp at hz4; omega
  refine ⟨rfl, ⟨_, ?_, ho4.aside (by simp) _, ?_, ?_, ?_, ?_⟩, ((hbg.setCell (p := ⟨g, 1, none⟩) (by simp) _).trans (hb4.mono (by omega))).setCell (by simp) _⟩
  all_goals simp [go_sem, c0, c1, z0, z1, hl1, hc4, hd4, hy4, hf4, hlt4]

set_option maxRecDepth 100000 in
set_option maxHeartbeats 2000000 in
theorem wputR_c (is : Bool) (s : ByteArray) (g : Nat) (l : List UInt8) (e : Int) (w : World) (hW : WrAt w g l e) (hE : EnvU w) (hs : s.size ≤ 140737488351232) (hl : l.length ≤ 1000000) :
    Calls Tryd.prog 55 #[.pointer (some ⟨g, 0, none⟩), .bool is, .string s, .func (.func 17) #[] #[]] w fun r w' =>
      r = .returned (.tuple #[]) ∧ WrAt w' g (cStep (l, e) is (uPutRawE (sB s)) (uPutRawB (sB s))).1 (cStep (l, e) is (uPutRawE (sB s)) (uPutRawB (sB s))).2 ∧ Below g w w' := by
  have HE := hd hE; clear hE
  have hW' := hW
  obtain ⟨v, h0, h1, h2, h3, h4, h5⟩ := hW
  cases is
  · rw [cStep_no]
    have HW := hd hW'; clear hW'
    go_enter Tryd.func55, Tryd.ntmps55
    go_wp2_with fail
    refine bodyPost_ret (results_none rfl _ _ _) rfl ?_
    exact ⟨rfl, HW.out, Below.refl _ _⟩
  by_cases he : e = 0
  rotate_left
  · rw [cStep_bad he]
    have heb : (e != 0) = true := by simpa using he
    have HW := hd hW'; clear hW'
    go_enter Tryd.func55, Tryd.ntmps55
    go_wp2_with fail
    refine bodyPost_ret (results_none rfl _ _ _) rfl ?_
    exact ⟨rfl, HW.out, Below.refl _ _⟩
  subst he
  clear hW'
  have hB := uPutRawB_len2 (sB s)
  go_enter Tryd.func55, Tryd.ntmps55
  go_wp2_with fail
  refine (PutRaw_c s _ (by omega)).mono ?_
  rintro r w1 ⟨v1, rfl, ho1, hb1⟩
  have c0 := (bcell hb1 g 0 h5).trans h0
  have c1 := (bcell hb1 g 1 h5).trans h2
  have z0 := (bfree hb1 g 0 h5).trans h3
  have z1 := (bfree hb1 g 1 h5).trans h4
  have hz1 := hb1.size
  have hl1 : g < w1.heap.size := by omega
  have ho := h1.kept hb1 (Nat.le_refl _)
  have hbg : Below g w w1 := hb1.mono (by omega)
  clear h0 h1 h2 h3 h4 hb1
  obtain ⟨a0, k0, rfl⟩ := Owns.slice ho
  obtain ⟨a1, k1, rfl⟩ := Owns.slice ho1
  by_cases hf : uPutRawE (sB s) = 0
  rotate_left
  · have hfb : (uPutRawE (sB s) == 0) = false := by simpa using hf
    go_wp2_with fail
    go_end0
    rw [cStep_err _ _ hf]
    refine ⟨rfl, ⟨_, ?_, ho.aside (by simp) _, ?_, ?_, ?_, ?_⟩, hbg.setCell (by simp) _⟩
    all_goals simp [go_sem, c0, c1, z0, z1, hl1]
  rw [hf]
  have ho' := ho.aside (p := ⟨g, 1, none⟩) (by simp) (.int .i64 0)
  have ho1' := (ho1.aside (p := ⟨g, 1, none⟩) (by simp; omega) (.int .i64 0)).bs
  clear ho ho1
  go_wp2_with (at_builtin; refine wp_appB rfl _ _ rfl (g + 1) _ l rfl ho' _ (uPutRawB (sB s)) rfl ho1' (by omega) (by simp; omega) ?_; intro v4 w4 ho4 hb4; obtain ⟨a4, k4, rfl⟩ := Owns.slice ho4; rw [List.length_append] at ho4; have hc4 := bcell hb4 g 0 (by omega); have hd4 := bcell hb4 g 1 (by omega); have hy4 := bfree hb4 g 0 (by omega); have hf4 := bfree hb4 g 1 (by omega); have hz4 := hb4.size)
  go_end0
  rw [hf, cStep_ok]
  have hlt4 : g < w4.heap.size := by simp at hz4; omega
  refine ⟨rfl, ⟨_, ?_, ho4.aside (by simp) _, ?_, ?_, ?_, ?_⟩, ((hbg.setCell (p := ⟨g, 1, none⟩) (by simp) _).trans (hb4.mono (by omega))).setCell (by simp) _⟩
  all_goals simp [go_sem, c0, c1, z0, z1, hl1, hc4, hd4, hy4, hf4, hlt4]

end Go.Proofs.YtinfcjnmloglhaaDoor
