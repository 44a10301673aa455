/- Wishes: what bytes tell: a filter read; lists of filters compared; the reference's Of. -/
import Derived.Test.YtgafhnomkeiakaaDoorSubAck
namespace Go.Proofs.YtgafhnomkeiakaaDoor
open Go.RowKit
set_option linter.unusedVariables false
set_option linter.unusedSimpArgs false

/-! ### Rows of wishes of one's own -/
def OwnW (B : Nat) (w : World) (v : Value) (l : List Wish) : Prop := w.ownsRow B 47 2 v l.length (wCells l)
theorem OwnW.ws {B : Nat} {w : World} {v : Value} {l : List Wish} (h : OwnW B w v l) : Ws w v l := Owns.rd h
theorem OwnW.kept {B B' : Nat} {w w' : World} {v : Value} {l : List Wish} (h : OwnW B w v l) (hb : Below B' w w') (hB : w.heap.size ≤ B') : OwnW B w' v l := Owns.kept h hb hB
theorem OwnW.nil (B : Nat) (w : World) : OwnW B w (.slice none 0 0) [] := ⟨rfl, .inl ⟨rfl, rfl⟩⟩
theorem info_filter : (Tryd.prog.info? 47).map (fun i => (i.zero, i.size, i.bytes)) = some (some (.agg #[.string ⟨#[]⟩, .int .i64 0]), 2, 24) := by kernel_rfl
/-- append(out, f) of one wish: the walk has laid a block of its cells for it. -/
theorem wp_appW1 {w : World} {ops : Array Oper} {rest : List Oper} {o : Oper} {a : Act} {Q : Exit → Act → World → Prop} (hgd : o.guard = none) (s x : Operand)
    (ho : o.op = .call { callee := .builtin .append, args := #[s, x], argTypes := #[22, 22] })
    (B : Nat) (v : Value) (l : List Wish) (hv : a.eval s = v) (hown : OwnW B w v l) (T : ByteArray) (X : Int) (hx : a.eval x = .slice (some ⟨w.heap.size, 0, none⟩) 1 1)
    (hlen : l.length < 1000000) (hbase : B ≤ w.heap.size)
    (h : ∀ v' w', OwnW B w' v' (l ++ [(T, X)]) → Below B w w' → wpList Tryd.prog ops Q rest (a.put o.dst v') w') : wpList Tryd.prog ops Q (o :: rest) a (w.alloc (.cells #[.string T, .int .i64 X] 47)) := by
  obtain ⟨i0, hi, hz0, hz1, hz2⟩ := info_parts info_filter
  have hb : Below B w (w.alloc (.cells #[.string T, .int .i64 X] 47)) := (Below.refl B w).alloc hbase _
  have hb' : Below w.heap.size w (w.alloc (.cells #[.string T, .int .i64 X] 47)) := (Below.refl _ w).alloc (Nat.le_refl _) _
  have hone : Rd (w.alloc (.cells #[.string T, .int .i64 X] 47)) (.slice (some ⟨w.heap.size, 0, none⟩) 1 1) 1 [.string T, .int .i64 X] :=
    Owns.rd (owns_lit w.heap.size 47 w 2 1 [.string T, .int .i64 X] w.heap.size rfl (Nat.le_refl _) (by unfold maxLen; simp) rfl)
  refine wp_app hgd s x 22 ho B 47 i0 (.agg #[.string ⟨#[]⟩, .int .i64 0]) 2 24 Tryd.underlying22 hi hz0 hz1 hz2 rfl (by decide) v l.length (wCells l) hv (hown.kept hb' (Nat.le_refl _)) _ 1 [.string T, .int .i64 X] hx hone rfl (by intro u hu; simp at hu; rcases hu with rfl | rfl <;> rfl) (by omega) (by unfold maxLen; omega) (by simp; omega) ?_
  intro v' w' h1 h2 _
  refine h v' w' ?_ (hb.trans h2)
  unfold OwnW
  rw [List.length_append, wCells_append]
  exact h1

/-! ### Lists of wishes compared -/
theorem take_moreW {a b : List Wish} {k : Nat} {x : Wish} (h : a.take k = b.take k) (ha : a[k]? = some x) (hb : b[k]? = some x) : a.take (k + 1) = b.take (k + 1) := by
  rw [List.take_add_one, List.take_add_one, h, ha, hb]
instance : DecidableEq ByteArray := fun a b => decidable_of_iff (a.data = b.data) ⟨fun h => by cases a; cases b; simp_all, fun h => by rw [h]⟩

set_option maxRecDepth 100000 in
set_option maxHeartbeats 4000000 in
theorem same_c (v1 v2 : Value) (a : List Wish) (w : World) (h1 : Ws w v1 a) (h2 : Ws w v2 a) :
    Calls Tryd.prog 22 #[v1, v2] w fun e w' => e = .returned (.bool true) ∧ Below w.heap.size w w' := by
  obtain ⟨a1, c1, rfl⟩ := h1.slice
  obtain ⟨a2, c2, rfl⟩ := h2.slice
  have hm1 := h1.len
  unfold maxLen at hm1
  have hmx : a.length ≤ 9223372036854775807 := by omega
  clear hm1
  have HV1 := hd h1; have HV2 := hd h2; clear h1 h2
  have hlb : ((a.length : Int) != (a.length : Int)) = false := by simp
  go_enter Tryd.func22, Tryd.ntmps22
  go_wp2_with fail
  go_loopw [5] (fun n w' => ∃ k : Nat, n = .int .i64 k ∧ k ≤ a.length ∧ Below w.heap.size w w') (fun n _ => leftTo a.length n)
  case atStart => exact ⟨0, rfl, by omega, by go_grown⟩
  case round =>
    obtain ⟨k, rfl, hk, hB⟩ := hrel
    by_cases hkl : k < a.length
    · obtain ⟨x, hx⟩ : ∃ x, a[k]? = some x := ⟨_, List.getElem?_eq_getElem hkl⟩
      obtain ⟨b1, o1, rfl, hl1, hc1, hd1⟩ := HV1.out.at hx
      obtain ⟨b2, o2, rfl, hl2, hc2, hd2⟩ := HV2.out.at hx
      replace hc1 := (bcell hB _ _ hl1).trans hc1
      replace hc2 := (bcell hB _ _ hl2).trans hc2
      replace hd1 := (bcell hB _ _ hl1).trans hd1
      replace hd2 := (bcell hB _ _ hl2).trans hd2
      obtain ⟨s, q⟩ := x
      simp only at hc1 hc2 hd1 hd2
      go_wp2_with fail
      go_quiet (fail)
      go_wp2_with fail
      go_roundw
      case rel => exact ⟨k + 1, by congr 1, by omega, ⟨hB.os, hB.tape, hB.output, hB.size, hB.block⟩⟩
      case measure => simp [leftTo]; omega
    · have hke : k = a.length := by omega
      subst hke
      go_wp2_with fail
      go_ret
      exact ⟨rfl, by go_grown⟩

def GivesRd (w : World) (r : Wish × Int × Int) (e : Ending) (w' : World) : Prop :=
  e = .returned (.tuple #[.agg #[.string r.1.1, .int .i64 r.1.2], .int .i64 r.2.1, .int .i64 r.2.2]) ∧ Below w.heap.size w w'
theorem GivesRd.mk {w w' : World} {r : Wish × Int × Int} {T : ByteArray} {q t e : Int} (h : r = ((T, q), t, e)) (hb : Below w.heap.size w w') : GivesRd w r (.returned (.tuple #[.agg #[.string T, .int .i64 q], .int .i64 t, .int .i64 e])) w' := by
  subst h; exact ⟨rfl, hb⟩

set_option maxRecDepth 100000 in
set_option maxHeartbeats 4000000 in
theorem read_c (v : Value) (l : List UInt8) (at' : Int) (ends : Bool) (w : World) (hE : EnvU w) (hv : Bs w v l) (hlm : l.length ≤ 140737488355328) :
    Calls Tryd.prog 61 #[v, .int .i64 at', .bool ends] w (GivesRd w (sbRead l at' ends)) := by
  have HE := hd hE; clear hE
  obtain ⟨a, c, rfl⟩ := hv.slice
  have hsp : sbRead l at' ends = sbRead l at' ends := rfl
  conv at hsp => rhs; rw [sbRead]
  have hrg := @uGet_rng l at'
  generalize sbRead l at' ends = R at hsp ⊢
  have Hsp := hd hsp; clear hsp
  go_enter Tryd.func61, Tryd.ntmps61
  go_wp2_with fail
  refine (Get_c _ l at' _ (HE.out.below (by go_grown)) (hv.below' ((Below.refl _ w).alloc (Nat.le_refl _) _) (Nat.le_refl _))).mono ?_
  have hsp := Hsp.out; clear Hsp
  generalize uGet l at' = g at hsp hrg ⊢
  obtain ⟨T, n, e⟩ := g
  simp only at hsp hrg ⊢
  have Hsp := hd hsp; clear hsp
  rintro e' w1 ⟨rfl, hb1⟩
  have hc1 := bcell hb1
  have hf1 := bfree hb1
  have hl1 : w.heap.size < w1.heap.size := by have := hb1.size; simp at this; omega
  have hb : Below w.heap.size w w1 := Below.up (by go_grown) hb1
  have hv1 := hv.below' hb (Nat.le_refl _)
  clear hb1 hv
  by_cases he : e = 0
  rotate_left
  · have heb : (e != 0) = true := by simpa using he
    clear hrg
    go_wp2_with fail
    exact bodyPost_ret (v := .tuple #[.agg #[.string ⟨#[]⟩, .int .i64 0], .int .i64 0, .int .i64 e]) (by simp [results, Tryd.results61, go_sem, hc1, hl1]) rfl (GivesRd.mk (by rw [Hsp.out, if_pos he]) (by go_grown))
  subst he
  obtain ⟨g1, g2, g3⟩ := hrg rfl
  clear hrg
  have Hsp2 := hd (Hsp.out.trans (if_neg (by simp))); clear Hsp
  cases ends
  rotate_left
  · clear g1 g2 g3 hlm
    go_wp2_with fail
    exact bodyPost_ret (v := .tuple #[.agg #[.string (sOf T), .int .i64 0], .int .i64 n, .int .i64 0]) (by simp [results, Tryd.results61, go_sem, hc1, hl1]) rfl (GivesRd.mk (by rw [Hsp2.out]; simp) (by go_grown))
  have Hsp3 := hd (Hsp2.out.trans (if_neg (by simp))); clear Hsp2
  obtain ⟨k, rfl⟩ := Int.eq_ofNat_of_zero_le (show 0 ≤ n by omega)
  rw [Int.toNat_natCast] at Hsp3
  by_cases hk : (l.length : Int) ≤ k
  · clear g1 g2 g3 hlm
    go_wp2_with fail
    exact bodyPost_ret (v := .tuple #[.agg #[.string ⟨#[]⟩, .int .i64 0], .int .i64 0, .int .i64 2]) (by simp [results, Tryd.results61, go_sem, hc1, hl1]) rfl (GivesRd.mk (by rw [Hsp3.out, if_pos hk]) (by go_grown))
  have hkl : k < l.length := by omega
  have Hsp4 := hd (Hsp3.out.trans (if_neg hk)); clear Hsp3
  have hx0 : (0 : Int) ≤ (bN l k : Int) := by omega
  have hx1 : (bN l k : Int) ≤ 255 := by have := bN_lt l k; omega
  obtain ⟨bb, oo, rfl, hcell⟩ : ∃ bb oo, a = some ⟨bb, oo, none⟩ ∧ w1.cell? ⟨bb, oo + k, none⟩ = some (.int .u8 (bN l k)) := by
    rcases hv1.split with ⟨hn, _⟩ | ⟨_, b, o, c, hv, _, _, _, hcell⟩
    · rw [hn] at hkl; simp at hkl
    · simp only [Value.slice.injEq] at hv; exact ⟨b, o, hv.1, hcell k hkl⟩
  have hgt : (2 < bN l k) ↔ ((2 : Int) < (bN l k : Int)) := by omega
  clear hv1 g1 g2 g3 hk
  generalize hx : (bN l k : Int) = x at *
  have Hx := hd hx; clear hx
  by_cases h2 : 2 < x
  · have Hsp5 := hd (Hsp4.out.trans (if_pos (hgt.2 h2))); clear Hsp4 hgt
    go_wp2_with fail
    exact bodyPost_ret (v := .tuple #[.agg #[.string ⟨#[]⟩, .int .i64 0], .int .i64 0, .int .i64 5]) (by simp [results, Tryd.results61, go_sem, hc1, hl1]) rfl (GivesRd.mk Hsp5.out (by go_grown))
  · have Hsp5 := hd (Hsp4.out.trans (if_neg (fun h => h2 (hgt.1 h)))); clear Hsp4 hgt
    go_wp2_with fail
    exact bodyPost_ret (v := .tuple #[.agg #[.string (sOf T), .int .i64 x], .int .i64 (k + 1), .int .i64 0]) (by simp [results, Tryd.results61, go_sem, hc1, hl1]) rfl (GivesRd.mk Hsp5.out (by go_grown))
end Go.Proofs.YtgafhnomkeiakaaDoor
