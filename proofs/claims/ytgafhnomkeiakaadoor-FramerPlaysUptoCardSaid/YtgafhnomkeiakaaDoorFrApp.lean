/- append of a string's bytes onto a slice that is full (cap = len), the call's own or not. Of no function of the program. -/
import Derived.Test.YtgafhnomkeiakaaDoorFrLook
import Derived.Test.YtgafhnomkeiakaaDoorUtf4
namespace Go.Proofs.YtgafhnomkeiakaaDoor
open Go.RowKit
set_option linter.unusedVariables false
set_option linter.unusedSimpArgs false

set_option maxRecDepth 100000 in
theorem run_appFull (a : Option Addr) (l : List UInt8) (s : ByteArray) (ty : TypeId) (w : World) (hv : Bs w (.slice a l.length l.length) l) (hlen : l.length + s.size ≤ 140737488355328) :
    ∃ v' w', (Builtin.append_ #[23, 9] ty #[.slice a l.length l.length, .string s]).run Tryd.prog w = .ok v' w' ∧
      (Owned w.heap.size w' v' (l ++ sB s) ∨ (s.size = 0 ∧ v' = .slice a l.length l.length ∧ w' = w)) ∧ Below w.heap.size w w' := by
  obtain ⟨i, hi, hz, hs1, hby⟩ := info_parts info_u8
  have hsl : (Lib.strCells s).length = s.size := Lib.strCells_length s
  have hxl : (l.map byteV).length = l.length := List.length_map ..
  have hmx : l.length + s.size ≤ maxLen := by unfold maxLen; omega
  cases a with
  | none =>
    have hl0 : l = [] := by
      obtain ⟨a', c', e, h1, h2, h3, h4⟩ := hv
      simp only [Value.slice.injEq] at e
      have := (h3 e.1.symm).2.2
      simpa using this
    subst hl0
    obtain ⟨v', w', h1, h2, h3, h4⟩ := Lib.run_append_own_string (P := Tryd.prog) w w.heap.size 23 9 ty 5 i Tryd.underlying23 Tryd.underlying9 hi hz hs1 hby (.slice none 0 0) 0 [] (World.ownsRow_nil w w.heap.size 5 1) s (by simpa using hmx) (by simpa using hlen) (Nat.le_refl _)
    refine ⟨v', w', h1, .inl ?_, (Below.refl _ w).grown h3 (Nat.le_refl _) (fun k e => by cases e)⟩
    unfold Owned
    rw [List.nil_append, sB_len, ← strCells_B]
    simpa using h2
  | some ad =>
    by_cases h0 : s.size = 0
    · refine ⟨_, w, ?_, .inr ⟨h0, rfl, rfl⟩, Below.refl _ _⟩
      have hf := Lib.run_firstCells_string (P := Tryd.prog) w 1 s
      have hn : Lib.strCells s = [] := List.eq_nil_of_length_eq_zero (by rw [hsl]; exact h0)
      rw [h0, hn] at hf
      simp [Builtin.append_, run_underlying Tryd.underlying23, run_underlying Tryd.underlying9, sizeOf, typeInfo, hi, hs1, Builtin.lenOf, h0, hf, storeCells]
    · have holds : ∀ j u, (l.map byteV)[j]? = some u → w.cell? (ad.add j) = some u := by
        obtain ⟨a', c', e, h1, h2, h3, h4⟩ := hv
        simp only [Value.slice.injEq] at e
        exact h4 ad e.1.symm
      have hr := Lib.run_append_grow_string (P := Tryd.prog) w 23 9 ty 5 i (.int .u8 0) Tryd.underlying23 Tryd.underlying9 hi hz ad l.length l.length (l.map byteV) (by rw [hs1]; simp) holds s (by omega) (by omega) (by rw [hby]; have := nextslicecap_le (need := l.length + s.size) (old := l.length) (by omega); omega)
      refine ⟨_, _, hr, .inl ?_, ⟨rfl, rfl, rfl, by simp, fun k hk => Below.heap_alloc w.drew _ k hk⟩⟩
      have hge := grownCap_ge w (l.length + s.size) l.length 5
      have hcm := grownCap_le_maxLen w (l.length + s.size) l.length 5 hmx
      unfold Owned
      rw [List.length_append, sB_len, List.map_append, ← strCells_B]
      have hll : (l.map byteV ++ Lib.strCells s).length = (l.length + s.size) * 1 := by rw [List.length_append, hsl, hxl, Nat.mul_one]
      refine ⟨hll, .inr ⟨w.heap.size, _, _, rfl, Nat.le_refl _, heap_alloc_new w.drew _, hge, hcm, ?_, ?_⟩⟩
      · have hz1 : (Value.int IntKind.u8 0).cells.size = 1 := rfl
        simp only [Array.size_append, List.size_toArray, size_zeroCells, hz1, hxl, hsl]
        omega
      · simp only [Array.toList_append, List.append_assoc]
        rw [← List.append_assoc, ← hll]
        exact List.take_left
end Go.Proofs.YtgafhnomkeiakaaDoor
