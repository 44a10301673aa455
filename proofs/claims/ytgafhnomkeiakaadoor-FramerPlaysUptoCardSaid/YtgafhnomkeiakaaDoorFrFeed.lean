/- Packets out of chunks: Feed: the walk. -/
import Derived.Test.YtgafhnomkeiakaaDoorFrApp
namespace Go.Proofs.YtgafhnomkeiakaaDoor
open Go.RowKit
set_option linter.unusedVariables false
set_option linter.unusedSimpArgs false

theorem Owned.outOf {B : Nat} {w : World} {v : Value} {l : List UInt8} (h : Owned B w v l) {S : List Nat} (hS : ∀ k, k ∈ S → k < B) : OutOf v S := by
  intro a n c e hm
  unfold Owned World.ownsRow at h
  rcases h.2 with ⟨rfl, -⟩ | ⟨b, r, k, rfl, hb, -⟩
  · cases e
  · cases e
    have := hS _ hm
    simp at this
    omega

theorem wp_appFull {o : Oper} {a : Act} {w : World} {K : Act → World → Prop} {Q : Exit → Act → World → Prop} (s x : Operand)
    (ho : o.op = .call { callee := .builtin .append, args := #[s, x], argTypes := #[23, 9] })
    (ad : Option Addr) (l : List UInt8) (hv : a.eval s = .slice ad l.length l.length) (hb : Bs w (.slice ad l.length l.length) l) (str : ByteArray) (hx : a.eval x = .string str)
    (hlen : l.length + str.size ≤ 140737488355328)
    (h : ∀ v' w', (Owned w.heap.size w' v' (l ++ sB str) ∨ (str.size = 0 ∧ v' = .slice ad l.length l.length ∧ w' = w)) → Below w.heap.size w w' → K (a.put o.dst v') w') : Oper.wp Tryd.prog o a w K Q := by
  obtain ⟨v', w', hr, h2, h3⟩ := run_appFull ad l str o.type w hb hlen
  unfold Oper.wp execOp
  simp only [ho, resolve, invoke, builtin, Sem.run_bind, Sem.run_pure, Result.andThen_ok, List.map_toArray, List.map_cons, List.map_nil, hv, hx, hr]
  exact h v' w' h2 h3

/-- A slice cut to its length is as readable. -/
theorem Bs.cut {w : World} {a : Option Addr} {l : List UInt8} {c : Nat} (h : Bs w (.slice a l.length c) l) : Bs w (.slice a l.length l.length) l := by
  obtain ⟨a', c', e, h1, h2, h3, h4⟩ := h
  cases e
  exact ⟨a, l.length, rfl, Nat.le_refl _, by omega, fun h => ⟨(h3 h).1, (h3 h).1, (h3 h).2.2⟩, h4⟩

set_option maxRecDepth 100000 in
set_option maxHeartbeats 4000000 in
theorem feed_c (g : Nat) (l : List UInt8) (t d : Int) {S : List Nat} (s : ByteArray) (w : World) (h : FrAt w g l t d S) (hlen : l.length + s.size ≤ 140737488355328) :
    Calls Tryd.prog 25 #[.pointer (some ⟨g, 0, none⟩), .string s] w fun r w' => r = .returned (.int .i64 0) ∧ FrAt w' g (if d = 0 then l ++ sB s else l) t d S ∧ Keeps [g] w w' := by
  have H := hd h
  obtain ⟨⟨v, c0, hv, ho⟩, c1, c2, c3, fr, lt, ltS⟩ := h
  obtain ⟨a, c, rfl⟩ := hv.slice
  by_cases hdd : d = 0
  rotate_left
  · have hdb : (d != 0) = true := by simpa using hdd
    rw [if_neg hdd]
    clear hv fr ho hlen
    go_enter Tryd.func25, Tryd.ntmps25
    go_wp2_with fail
    refine (none_c g _ c3).mono ?_
    rintro e w' ⟨rfl, rfl⟩
    go_wp2_with fail
    go_ret
    exact ⟨rfl, H.out, Keeps.refl _ _⟩
  subst hdd
  rw [if_pos rfl]
  have hcap : l.length ≤ c := by
    obtain ⟨a', c', e, h1, h2, h3, h4⟩ := hv
    cases e
    exact h1
  have hcut := hd hv.cut
  have HL := hd hlen
  clear hlen H
  have HV := hd hv
  clear hv
  go_enter Tryd.func25, Tryd.ntmps25
  go_wp2_with fail
  refine (none_c g _ c3).mono ?_
  rintro e w' ⟨rfl, rfl⟩
  go_wp2_with fail
  refine wp_region_M (fun W => W.cell? ⟨g, 0, none⟩ = some (.slice a l.length c)) 20 [(0, false), (1, false), (2, false), (3, false), (4, false), (5, false), (6, false), (7, false), (8, false), (9, false), (10, false), (11, false), (12, false), (13, false), (14, false), (15, false), (16, false), (17, true), (18, false), (19, false), (20, true)] (by kernel_rfl) (by kernel_rfl) (fun _ _ _ _ h => h) c0 ?_
  iterate 17
    apply wpM_still (by rfl) (by rfl)
    · intro W hC
      go_simp
      rfl
    go_simp
  apply wpM_move (by rfl) (by rfl)
  intro K hK
  refine wp_appFull _ _ (by rfl) a l (by rfl) (hcut.out.below' (Below.refl _ _).drew (Nat.le_refl _)) s (by rfl) HL.out ?_
  rintro v5 w5 ho5 hb5
  have hin : ∃ a5 n5, v5 = .slice a5 (l ++ sB s).length n5 ∧ Bs w5 v5 (l ++ sB s) ∧ ((l ++ sB s) ≠ [] → OutOf v5 (g :: S)) := by
    rcases ho5 with h5 | ⟨hz, rfl, rfl⟩
    · obtain ⟨a5, n5, e⟩ := Owns.slice h5
      exact ⟨a5, n5, by rw [e], h5.bs, fun _ => h5.outOf (fun k hk => by rcases List.mem_cons.1 hk with rfl | hk; exact lt; exact ltS k hk)⟩
    · have e0 : sB s = [] := List.eq_nil_of_length_eq_zero (by rw [sB_len]; exact hz)
      rw [e0, List.append_nil]
      exact ⟨a, l.length, rfl, hcut.out.below' (Below.refl _ _).drew (Nat.le_refl _), fun hne a' n' c' e => by cases e; exact ho hne a' _ _ rfl⟩
  obtain ⟨a5, n5, rfl, hv5, hout⟩ := hin
  have hb : Below w.heap.size w w5 := ⟨hb5.os, hb5.tape, hb5.output, hb5.size, hb5.block⟩
  clear ho5 hb5 hcut HV HL ho
  replace c0 := (bcell hb g 0 lt).trans c0
  replace c1 := (bcell hb g 1 lt).trans c1
  replace c2 := (bcell hb g 2 lt).trans c2
  replace c3 := (bcell hb g 3 lt).trans c3
  replace fr := fun o => (bfree hb g o lt).trans (fr o)
  have f0 := fr 0
  have hg5 : g < w5.heap.size := Nat.lt_of_lt_of_le lt hb.size
  have Hv5 := hd hv5; clear hv5
  have HOut := hd hout; clear hout
  have hltS : ∀ k, k ∈ S → k < w5.heap.size := fun k hk => Nat.lt_of_lt_of_le (ltS k hk) hb.size
  clear ltS
  generalize hm : (l ++ sB s).length = m at *
  refine hK _ _ (fun _ => c0) ?_
  clear hK K
  go_simp
  iterate 2
    apply wpM_still (by rfl) (by rfl)
    · intro W hC
      go_simp
      rfl
    go_simp
  apply wpM_move (by rfl) (by rfl)
  intro K hK
  go_simp
  refine hK _ _ (fun h => absurd h (by decide)) ?_
  clear hK K
  refine wpM_nil ?_
  have hk5 : Keeps [g] w5 (w5.setCell ⟨g, 0, none⟩ (.slice a5 m n5)) := (Keeps.refl _ _).setCell (.inl (by simp)) _
  go_wp2_with fail
  go_ret
  exact ⟨rfl, ⟨⟨_, by simp [go_sem, c0], Hv5.out.keepsL hk5 (fun h => (HOut.out h).head), HOut.out⟩, by simp [go_sem, c1], by simp [go_sem, c2], by simp [go_sem, c3], fun o => by simp [go_sem]; exact fr o, by simp [go_sem]; exact hg5, fun k hk => by simp [go_sem]; exact hltS k hk⟩, (Keeps.below hb).trans hk5⟩
end Go.Proofs.YtgafhnomkeiakaaDoor
