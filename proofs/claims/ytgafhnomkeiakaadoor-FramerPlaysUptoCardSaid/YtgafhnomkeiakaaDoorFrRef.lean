/- Packets out of chunks: the reference's framer: Feed. -/
import Derived.Test.YtgafhnomkeiakaaDoorFrPk
namespace Go.Proofs.YtgafhnomkeiakaaDoor
open Go.RowKit
set_option linter.unusedVariables false
set_option linter.unusedSimpArgs false

theorem appStr_block (w : World) (ty : TypeId) (v : Value) (l : List UInt8) (hown : Owned 0 w v l) (s : ByteArray) (hlen : l.length + s.size ≤ 140737488355328) :
    ∃ v' w', (Builtin.append_ #[23, 9] ty #[v, .string s]).run Tryd.prog w = .ok v' w' ∧ Owned 0 w' v' (l ++ sB s) ∧ Keeps (blk v) w w' ∧ (∀ k, k ∈ blk v' → k ∈ blk v ∨ w.heap.size ≤ k) := by
  obtain ⟨i, hi, hz, hs1, hby⟩ := info_parts info_u8
  have hmx : l.length + s.size ≤ maxLen := by unfold maxLen; omega
  obtain ⟨v', w', hr, h2, h3, -⟩ := Lib.run_append_own_string (P := Tryd.prog) w 0 23 9 ty 5 i Tryd.underlying23 Tryd.underlying9 hi hz hs1 hby v l.length (l.map byteV) hown s hmx hlen (Nat.zero_le _)
  refine ⟨v', w', hr, ?_, ⟨h3.os, h3.tape, h3.output, h3.size, fun k hk hn => h3.block k hk (fun e => hn (by unfold blk; rw [← e]; simp))⟩, ?_⟩
  · unfold Owned
    rw [List.length_append, List.map_append, sB_len, ← strCells_B]
    exact h2
  intro k hk
  have hk' : v'.ownBlock = some k := by simpa [blk] using hk
  unfold Owned at hown
  rcases hown.2 with ⟨rfl, hl0⟩ | ⟨g, cap, cur, rfl, hbg, hg, hnc, hcm, hcs, htake⟩
  · right
    have hx : l = [] := List.eq_nil_of_length_eq_zero hl0
    subst hx
    obtain ⟨v2, w2, hr2, h22, -⟩ := Lib.run_append_own_string (P := Tryd.prog) w w.heap.size 23 9 ty 5 i Tryd.underlying23 Tryd.underlying9 hi hz hs1 hby (.slice none 0 0) 0 [] (World.ownsRow_nil w w.heap.size 5 1) s (by simpa using hmx) (by simpa using hlen) (Nat.le_refl _)
    rw [hr] at hr2
    cases hr2
    exact (h22.lt k hk').1
  · by_cases hroom : l.length + s.size ≤ cap
    · left
      have hcs' : cur.size = cap := by simpa using hcs
      have hr2 := Lib.run_append_room_string (P := Tryd.prog) w 23 9 ty 5 i Tryd.underlying23 Tryd.underlying9 hi hs1 g l.length cap cur hg s hroom (by omega)
      rw [hr] at hr2
      cases hr2
      simpa [blk, Value.ownBlock] using hk'.symm
    · right
      have holds : ∀ j u, (l.map byteV)[j]? = some u → w.cell? ((⟨g, 0, none⟩ : Addr).add j) = some u := World.ownsRow.cells hown (g := g) rfl
      have hr2 := Lib.run_append_grow_string (P := Tryd.prog) w 23 9 ty 5 i (.int .u8 0) Tryd.underlying23 Tryd.underlying9 hi hz ⟨g, 0, none⟩ l.length cap (l.map byteV) (by rw [hs1]; simp) holds s (by omega) (by omega) (by rw [hby]; exact growslice_fits (by omega) (by omega))
      rw [hr] at hr2
      cases hr2
      simp only [Value.ownBlock, Option.some.injEq] at hk'
      omega
theorem wp_appStr {w : World} {ops : Array Oper} {rest : List Oper} {o : Oper} {a : Act} {Q : Exit → Act → World → Prop} (hgd : o.guard = none) (s x : Operand)
    (ho : o.op = .call { callee := .builtin .append, args := #[s, x], argTypes := #[23, 9] })
    (v : Value) (l : List UInt8) (hv : a.eval s = v) (hown : Owned 0 w v l) (str : ByteArray) (hx : a.eval x = .string str)
    (hlen : l.length + str.size ≤ 140737488355328)
    (h : ∀ v' w', Owned 0 w' v' (l ++ sB str) → Keeps (blk v) w w' → (∀ k, k ∈ blk v' → k ∈ blk v ∨ w.heap.size ≤ k) → wpList Tryd.prog ops Q rest (a.put o.dst v') w') : wpList Tryd.prog ops Q (o :: rest) a w := by
  refine wpList_plain hgd fun K hK => ?_
  obtain ⟨v', w', hr, h2, h3, h4⟩ := appStr_block w o.type v l hown str hlen
  unfold Oper.wp execOp
  simp only [ho, resolve, invoke, builtin, Sem.run_bind, Sem.run_pure, Result.andThen_ok, List.map_toArray, List.map_cons, List.map_nil, hv, hx, hr]
  exact hK _ _ (h v' w' h2 h3 h4)

/-- The reference's cells: what waits (a row of its own), how many were taken, the error. -/
structure RefAt (w : World) (g : Nat) (s : FrS) (v : Value) : Prop where
  own : Owned 0 w v s.1
  ng : g ∉ blk v
  c0 : w.cell? ⟨g, 0, none⟩ = some v
  c1 : w.cell? ⟨g, 1, none⟩ = some (.int .i64 s.2.1)
  c2 : w.cell? ⟨g, 2, none⟩ = some (.int .i64 s.2.2)
  fr : ∀ o, w.frozen? ⟨g, o, none⟩ = false
  lt : g < w.heap.size
theorem RefAt.keeps {S : List Nat} {w w' : World} {g : Nat} {s : FrS} {v : Value} (h : RefAt w g s v) (hk : Keeps S w w') (hg : g ∉ S) (hv : ∀ i, i ∈ blk v → i ∉ S) : RefAt w' g s v :=
  ⟨hk.row h.own hv, h.ng, (hk.cell h.lt hg).trans h.c0, (hk.cell h.lt hg).trans h.c1, (hk.cell h.lt hg).trans h.c2, fun o => (hk.free h.lt hg).trans (h.fr o), Nat.lt_of_lt_of_le h.lt hk.size⟩
theorem RefAt.below {w w' : World} {g : Nat} {s : FrS} {v : Value} (h : RefAt w g s v) (hb : Below w.heap.size w w') : RefAt w' g s v := h.keeps (S := []) (Keeps.below hb) (by simp) (fun _ _ => by simp)

def feedR (s : FrS) (B : List UInt8) : FrS := (if s.2.2 = 0 then s.1 ++ B else s.1, s.2.1, s.2.2)

set_option maxRecDepth 100000 in
set_option maxHeartbeats 4000000 in
theorem refFeed_c (g : Nat) (s : FrS) (v : Value) (B : ByteArray) (w : World) (h : RefAt w g s v) (hlen : s.1.length + B.size ≤ 140737488355328) :
    Calls Tryd.prog 33 #[.pointer (some ⟨g, 0, none⟩), .string B] w fun r w' => r = .returned (.tuple #[]) ∧ ∃ v', RefAt w' g (feedR s (sB B)) v' ∧ Keeps (g :: blk v) w w' ∧ (∀ i, i ∈ blk v' → i ∈ blk v ∨ w.heap.size ≤ i) := by
  have H := hd h
  obtain ⟨own, ng, c0, c1, c2, fr, lt⟩ := h
  obtain ⟨l, t, d⟩ := s
  simp only at c1 c2 hlen
  by_cases hdd : d = 0
  rotate_left
  · have hdb : (d == 0) = false := by simpa using hdd
    have hf : feedR (l, t, d) (sB B) = (l, t, d) := by unfold feedR; rw [if_neg hdd]
    rw [hf]
    clear own fr hlen
    go_enter Tryd.func33, Tryd.ntmps33
    go_wp2_with fail
    exact bodyPost_end (v := .tuple #[]) (by simp [results, Tryd.results33, go_sem]) rfl ⟨rfl, v, H.out, Keeps.refl _ _, fun i hi => .inl hi⟩
  subst hdd
  have hf : feedR (l, t, 0) (sB B) = (l ++ sB B, t, 0) := rfl
  rw [hf]
  clear hf H
  obtain ⟨a, c, rfl⟩ := own.bs.slice
  have f0 := fr 0
  have own' : Owned 0 w (.slice a l.length c) l := own
  have HL := hd hlen; clear hlen own
  go_enter Tryd.func33, Tryd.ntmps33
  go_wp2_with (at_builtin; refine wp_appStr rfl _ _ rfl (.slice a l.length c) l rfl own' B rfl HL.out ?_; intro v1 w1 ho1 hk1 hn1; obtain ⟨a1, n1, rfl⟩ := ho1.bs.slice; generalize hm1 : (l ++ sB B).length = m1 at *; clear hm1; have c0' := (hk1.cell lt ng).trans c0; have fr0 := (hk1.free lt ng).trans f0)
  have hs1 := hk1.size
  have hn2 : g ∉ blk (.slice a1 m1 n1) := fun hm => by
    rcases hn1 g hm with h9 | h9
    · exact ng h9
    · omega
  have c1' := (hk1.cell lt ng).trans c1
  have c2' := (hk1.cell lt ng).trans c2
  have hk2 : Keeps [g] w1 (w1.setCell ⟨g, 0, none⟩ (.slice a1 m1 n1)) := (Keeps.refl _ _).setCell (.inl (by simp)) _
  refine bodyPost_end (v := .tuple #[]) (by simp [results, Tryd.results33, go_sem]) rfl ⟨rfl, _, ⟨hk2.row ho1 (fun i hi => by simp; rintro rfl; exact hn2 hi), hn2, by simp [go_sem, c0'], by simp [go_sem, c1'], by simp [go_sem, c2'], fun o => by simp [go_sem]; exact (hk1.free lt ng).trans (fr o), by simp [go_sem]; omega⟩, ?_, hn1⟩
  exact (hk1.mono (fun k hk => by simp [hk])).trans (hk2.mono (fun k hk => by simp at hk; simp [hk]))
end Go.Proofs.YtgafhnomkeiakaaDoor
