/- Wishes: what bytes tell: the walk of the program's Of, a loop over its iterator. -/
import Derived.WalkMore
import Derived.Test.YtgafhnomkeiakaaDoorSubIter
namespace Go.Proofs.YtgafhnomkeiakaaDoor
open Go.RowKit Go.Shelf
set_option linter.unusedVariables false
set_option linter.unusedSimpArgs false
attribute [local go_sem] Oper.semAt_some

/-- []byte(s): where the new bytes lie. -/
theorem run_bytesW (s : ByteArray) (hs : s.size ≤ 140737488355327) (w : World) : ∃ c W', (convert 9 23 (.string s)).run Tryd.prog w = .ok (.slice (some ⟨w.heap.size, 0, none⟩) (sB s).length c) W' ∧ Bs W' (.slice (some ⟨w.heap.size, 0, none⟩) (sB s).length c) (sB s) ∧ Below w.heap.size w W' ∧ w.heap.size < W'.heap.size := by
  obtain ⟨c, W', hr, hB, hb⟩ := run_bytes s hs w
  refine ⟨c, W', hr, hB, hb, ?_⟩
  have h2 := Lib.run_convert_string_bytes w 9 23 5 s Tryd.underlying9 Tryd.underlying23 Tryd.underlying5
  rw [hr] at h2
  simp only [Result.ok.injEq] at h2
  rw [h2.2, Lib.bytesWorld_size]
  omega
set_option maxRecDepth 100000 in
theorem upon_bytesW {o : Oper} {a : Act} {K : Act → World → Prop} {Q : Exit → Act → World → Prop} {W : World} {s : ByteArray} {f : Value → World → Result Next} (hs : s.size ≤ 140737488355327)
    (h : ∀ ad c W', Bs W' (.slice (some ad) (sB s).length c) (sB s) → Below W.heap.size W W' → W.heap.size ≤ ad.block → ad.block < W'.heap.size → Oper.upon Tryd.prog o a K Q ((Result.ok (.slice (some ad) (sB s).length c) W').andThen f)) :
    Oper.upon Tryd.prog o a K Q ((Sem.run Tryd.prog (convert 9 23 (.string s)) W).andThen f) := by
  obtain ⟨c, W', hr, hB, hb, hl⟩ := run_bytesW s hs W
  rw [hr]
  exact h _ c W' hB hb (Nat.le_refl _) hl

set_option maxRecDepth 100000 in
theorem wishes_c (sa : Option Addr) (sn sc : Nat) (ends : Bool) (w : World) :
    Calls Tryd.prog 45 #[.slice sa sn sc, .bool ends] w fun e w' => e = .returned (.func (.func 60) #[] #[.pointer (some ⟨w.heap.size, 0, none⟩), .pointer (some ⟨w.heap.size + 1, 0, none⟩)]) ∧ w' = (w.alloc (.cells #[.slice sa sn sc] 23)).alloc (.cells #[.bool ends] 4) := by
  have hmf : ∀ (fn : Fn) (first cap : Array Value) (w : World), (Instr.makeFunc fn first cap).run Tryd.prog w = .ok (.func fn first cap) w := fun _ _ _ _ => rfl
  go_enter Tryd.func45, Tryd.ntmps45
  go_wp2_with fail
  go_ret
  exact ⟨rfl, rfl⟩

/-- a boxed wish -/
def Boxed2 (W : World) (B : Nat) (f : Wish) : Prop := W.heap[B]? = some (.cells #[.string f.1, .int .i64 f.2] 47 (0, 0))
theorem ownW_block {B : Nat} {w : World} {v : Value} {l : List Wish} (h : OwnW B w v l) : ∀ k, v.ownBlock = some k → B ≤ k ∧ ∃ o : Obj, w.heap[k]? = some o ∧ o.isCells = true := by
  rcases h.2 with ⟨rfl, _⟩ | ⟨g, cap, cur, rfl, hb, hg, _⟩
  · intro k e; cases e
  · intro k e
    cases e
    exact ⟨hb, _, hg, rfl⟩
theorem ownW_grown {B : Nat} {w w' : World} {row : Option Nat} {v : Value} {l : List Wish} (h : OwnW B w v l) (hg : w.grownBy w' row) (hne : ∀ k, v.ownBlock = some k → some k ≠ row) : OwnW B w' v l := by
  refine ⟨h.1, ?_⟩
  rcases h.2 with h0 | ⟨g, cap, cur, rfl, h1, h2, h3⟩
  · exact .inl h0
  · exact .inr ⟨g, cap, cur, rfl, h1, by rw [hg.block g (Array.getElem?_eq_some_iff.1 h2).1 (hne g rfl)]; exact h2, h3⟩
theorem not_row {B : Nat} {w : World} {row : Option Nat} (hr : ∀ r, row = some r → B ≤ r ∧ ∃ o : Obj, w.heap[r]? = some o ∧ o.isCells = false) : ∀ (k : Nat) (o : Obj), w.heap[k]? = some o → o.isCells = true → some k ≠ row := by
  intro k o ho hc e
  obtain ⟨_, o', ho', hc'⟩ := hr k e.symm
  rw [ho] at ho'
  cases ho'
  rw [hc] at hc'
  cases hc'
/-- append(out, f) of one wish, in a round. -/
theorem wpIn_appW1 {F : Fence} {n : Nat} {w : World} {ops : Array Oper} {rest : List Oper} {o : Oper} {a : Act} {Q : Exit → Act → World → Prop} (hgd : o.guard = none) (s x : Operand)
    (ho : o.op = .call { callee := .builtin .append, args := #[s, x], argTypes := #[22, 22] })
    (B : Nat) (v : Value) (l : List Wish) (hv : a.eval s = v) (hown : OwnW B w v l) (T : ByteArray) (X : Int) (hx : a.eval x = .slice (some ⟨w.heap.size, 0, none⟩) 1 1)
    (hlen : l.length < 1000000) (hbase : B ≤ w.heap.size)
    (h : ∀ v' w', OwnW B w' v' (l ++ [(T, X)]) → Below B w w' → KeepsOthers w w' → wpListIn F n Tryd.prog ops Q rest (a.put o.dst v') w') : wpListIn F n Tryd.prog ops Q (o :: rest) a (w.alloc (.cells #[.string T, .int .i64 X] 47)) := by
  obtain ⟨i0, hi, hz0, hz1, hz2⟩ := info_parts info_filter
  have hb : Below B w (w.alloc (.cells #[.string T, .int .i64 X] 47)) := (Below.refl B w).alloc hbase _
  have hb' : Below w.heap.size w (w.alloc (.cells #[.string T, .int .i64 X] 47)) := (Below.refl _ w).alloc (Nat.le_refl _) _
  have hown' : OwnW B (w.alloc (.cells #[.string T, .int .i64 X] 47)) v l := hown.kept hb' (Nat.le_refl _)
  have hbl := ownW_block hown'
  refine wpListIn_append_own _ hgd s x 22 ho B 47 i0 (.agg #[.string ⟨#[]⟩, .int .i64 0]) 2 24 Tryd.underlying22 hi hz0 hz1 hz2 rfl (by decide) v l.length (wCells l) hv hown' ⟨w.heap.size, 0, none⟩ 1 1 [.string T, .int .i64 X] hx rfl ?_ (by intro u hu; simp at hu; rcases hu with rfl | rfl <;> rfl) (by unfold maxLen; omega) (by omega) (by simp; omega) ?_
  · intro j u hu
    match j, hu with
    | 0, hu => cases hu; exact World.cell?_alloc_new w _ _ 0
    | 1, hu => cases hu; exact World.cell?_alloc_new w _ _ 1
    | j + 2, hu => simp at hu
  · intro v' w' h1 h2 _
    refine h v' w' ?_ (hb.grown h2 (by simp; omega) (fun k e => (hbl k e).1)) ((KeepsOthers.alloc w _).trans (KeepsOthers.of_grownBy h2 (fun j o e ho => by
      obtain ⟨_, o', ho', hc⟩ := hbl j e
      rw [ho'] at ho; cases ho; exact hc)))
    unfold OwnW
    rw [List.length_append, wCells_append]
    exact h1

theorem wishes_stops (n : Nat) (hn : 1 ≤ n) (Bb Be : Nat) (S : List Nat) (B : Nat) (v : Value) (l : List UInt8) (ends : Bool) (w : World)
    (hBb : w.cell? ⟨Bb, 0, none⟩ = some v) (hBe : w.cell? ⟨Be, 0, none⟩ = some (.bool ends)) (hv : Bs w v l) (hn0 : B ≤ w.heap.size) (hb0 : Bb < B ∧ Bb ∉ S) (he0 : Be < B ∧ Be ∉ S) (hvb : ∀ a n c, v = .slice (some a) n c → a.block < B ∧ a.block ∉ S)
    (hE : ∀ W', KeepsU S B w W' → EnvU W') (hl2 : 2 ≤ l.length) (hlm : l.length ≤ 140737488351232) :
    SeqStopsK Fence.wide n Tryd.prog 60 #[.pointer (some ⟨Bb, 0, none⟩), .pointer (some ⟨Be, 0, none⟩)] itemV (KeepsU S B) (sbDone ends l) (sbStop ends l) l.length w := fun lp J Jx W hW hJ hJx hY h0 =>
  wishes1_in n hn lp Bb Be S B v l ends J Jx W hJ hY ((hW.cell (p := ⟨Bb, 0, none⟩) (by simp; omega)).trans hBb) ((hW.cell (p := ⟨Be, 0, none⟩) (by simp; omega)).trans hBe)
    (hv.below' hW (Nat.le_refl _)) (Nat.le_trans hn0 hW.size) hb0 he0 hvb (fun W' hk => hE W' ((KeepsU.below hW hn0).trans hk)) hl2 hlm h0

/-! ### what the loop has come to -/
theorem sbAll_run {ends : Bool} {l : List UInt8} : ∀ {k : Nat}, k ≤ 8 → sbWell ends l k → sbAll ends l 9 [] 2 = sbAll ends l (9 - k) ((sbItems ends l k).map (·.1)) (sbPlace ends l k)
  | 0, _, _ => rfl
  | k + 1, hk, h => by
    have ih := sbAll_run (ends := ends) (l := l) (k := k) (by omega) (fun j hj => h j (by omega))
    obtain ⟨h1, h2⟩ := h k (by omega)
    have hlen : ((sbItems ends l k).map (·.1)).length = k := by rw [List.length_map, sbItems_len]
    have hm := @sbAll_more ends l ((sbItems ends l k).map (·.1)) (sbPlace ends l k) (by omega) h2 h1
    rw [hlen, List.length_append, hlen] at hm
    rw [ih, hm, sbItems_succ, List.map_append]
    rfl
theorem sbAll_done {ends : Bool} {l : List UInt8} {xs : List Item} (h : sbDone ends l xs) (h8 : xs.length ≤ 8) (h0 : ∀ x ∈ xs, x.2 = 0) : sbAll ends l 9 [] 2 = (xs.map (·.1), 0) := by
  obtain ⟨k, ⟨rfl, hw, hp⟩ | ⟨rfl, hw, hp, he⟩⟩ := h
  · rw [sbItems_len] at h8
    have hlen : ((sbItems ends l k).map (·.1)).length = k := by rw [List.length_map, sbItems_len]
    rw [sbAll_run h8 hw]
    have := @sbAll_end ends l ((sbItems ends l k).map (·.1)) (sbPlace ends l k) (by omega) hp
    rw [hlen] at this
    exact this
  · exact absurd (h0 _ (by rw [sbItems_succ]; simp)) he
theorem sbAll_stop {ends : Bool} {l : List UInt8} {ini : List Item} {x : Item} {bad : Int} (h : sbStop ends l (ini ++ [x])) (hb : ini.length = 8 ∧ bad = 6 ∨ ini.length < 8 ∧ x.2 ≠ 0 ∧ bad = x.2) : sbAll ends l 9 [] 2 = ([], bad) := by
  obtain ⟨k, hk, hw, hp⟩ := h
  rw [sbItems_succ] at hk
  have hi : ini = sbItems ends l k := (List.append_inj' hk rfl).1
  have hx : x = sbItem ends l k := by have := (List.append_inj' hk rfl).2; simpa using this
  subst hi hx
  have hlen : ((sbItems ends l k).map (·.1)).length = k := by rw [List.length_map, sbItems_len]
  rw [sbItems_len] at hb
  rcases hb with ⟨h8, rfl⟩ | ⟨h8, he, rfl⟩
  · rw [sbAll_run (by omega) hw]
    have := @sbAll_full ends l ((sbItems ends l k).map (·.1)) (sbPlace ends l k) (by omega) hp
    rw [hlen] at this
    exact this
  · rw [sbAll_run (by omega) hw]
    have := @sbAll_bad ends l ((sbItems ends l k).map (·.1)) (sbPlace ends l k) (by omega) hp he
    rw [hlen] at this
    exact this

theorem below_drewPut {w W : World} {D : Nat} (h : Below w.heap.size w W) (hD : w.heap.size ≤ D) (n : Nat) (o : Obj) : Below w.heap.size w ((W.drewN n).putObj D o) := by
  have h' : Below w.heap.size w (W.drewN n) := ⟨h.os, h.tape, h.output, h.size, h.block⟩
  exact h'.grown (grownBy_putObj' (W.drewN n) D o) h.size (fun k e => by cases e; exact hD)
/-- between two rounds · a round has left -/
structure SbI (w : World) (b n0 : Nat) (pre : List Item) (W : World) : Prop where
  row : ∃ v, Boxed W b 22 v ∧ OwnW n0 W v (pre.map (·.1))
  bad : Boxed W (b + 1) 24 (.int .i64 0)
  few : pre.length ≤ 8
  well : ∀ x ∈ pre, x.2 = 0
  b : Below w.heap.size w W
  size : n0 ≤ W.heap.size
structure SbIx (w : World) (b n0 : Nat) (c : Code) (xs : List Item) (W : World) : Prop where
  c : c = .exit 0
  why : ∃ ini x bad, xs = ini ++ [x] ∧ (ini.length = 8 ∧ bad = 6 ∨ ini.length < 8 ∧ x.2 ≠ 0 ∧ bad = x.2) ∧ bad ≠ 0 ∧ (∃ v n c, Boxed W b 22 (.slice v n c)) ∧ Boxed W (b + 1) 24 (.int .i64 bad)
  b : Below w.heap.size w W
  size : n0 ≤ W.heap.size

set_option maxRecDepth 100000 in
set_option maxHeartbeats 16000000 in
theorem subsOf_c (s : ByteArray) (ends : Bool) (w : World) (hE : EnvU w) (hs : s.size ≤ 140737488351232) :
    Calls Tryd.prog 20 #[.string s, .bool ends] w (GivesW w (sbOf (sB s) ends)) := by
  have HE := hd hE; clear hE
  have hsl : Hd ((sB s).length = s.size) := sB_len s
  have hbr := @sbBegin_rng (sB s)
  have hof : sbOf (sB s) ends = sbOf (sB s) ends := rfl
  conv at hof => rhs; rw [sbOf]
  generalize sbOf (sB s) ends = R at hof ⊢
  have HO := hd hof; clear hof
  refine (callsIn_wide (n := 8)).1 ?_
  refine callsIn_of_wp_marks Tryd.func20 rfl trivial ?_ rfl
  simp only [Tryd.ntmps20, List.size_toArray, List.length_cons, List.length_nil, Nat.reduceAdd, Nat.reduceSub, Array.replicate_succ, Array.replicate_zero, List.push_toArray, List.append_toArray, List.nil_append, List.cons_append]
  refine wpIn_wide.2 ?_
  go_wp2_with fail
  go_step3
  go_wp2_with fail
  refine (subBegin_c s _ hs).mono ?_
  generalize sbBegin (sB s) = g at hbr HO ⊢
  obtain ⟨id, e⟩ := g
  simp only at hbr HO ⊢
  rintro e' w1 ⟨rfl, hb⟩
  by_cases he : e = 0
  rotate_left
  · have heb : (e != 0) = true := by simpa using he
    go_wp2_with fail
    rw [Exit.noGoto_ret]
    exact ⟨_, results_tmp3 rfl _ _ _, GivesW.nil e (by rw [HO.out, if_pos he]) hb⟩
  subst he
  have h2l := (hbr rfl).1
  clear hbr
  have HO2 := hd (HO.out.trans (if_neg (by simp))); clear HO
  go_wp2_with fail
  go_step3
  go_wp2_with fail
  refine upon_bytesW (by omega) fun d1 k1 w2 hs2 hb2 hd0 hd1 => ?_
  go_wp2_with fail
  refine (wishes_c _ _ _ ends _).mono ?_
  rintro e' w3 ⟨rfl, rfl⟩
  have hw1 : w.heap.size ≤ w1.heap.size := hb.size
  have hb10 : Boxed (w1.alloc (Obj.cells #[.slice none 0 0] 22)) w1.heap.size 22 (.slice none 0 0) := Boxed.new _ _ _
  have bL : Boxed ((w2.alloc (.cells #[.slice (some d1) (sB s).length k1] 23)).alloc (.cells #[.bool ends] 4)) w1.heap.size 22 (.slice none 0 0) :=
    Boxed.alloc (Boxed.alloc ((hb2.block _ (by simp; omega)).trans (hb10.alloc _)) _) _
  have bE : Boxed ((w2.alloc (.cells #[.slice (some d1) (sB s).length k1] 23)).alloc (.cells #[.bool ends] 4)) (w1.heap.size + 1) 24 (.int .i64 0) := by
    have h := Boxed.new (w1.alloc (Obj.cells #[.slice none 0 0] 22)) 24 (.int .i64 0)
    rw [World.size_alloc] at h
    exact Boxed.alloc (Boxed.alloc ((hb2.block _ (by simp)).trans h) _) _
  have hs2s : w1.heap.size + 2 ≤ w2.heap.size := by have := hb2.size; simp at this; omega
  simp only [World.size_alloc] at hd0
  have hbW : Below w.heap.size w ((w2.alloc (.cells #[.slice (some d1) (sB s).length k1] 23)).alloc (.cells #[.bool ends] 4)) :=
    ((Below.up (by go_grown) hb2).box).box
  have hcb : ((w2.alloc (.cells #[.slice (some d1) (sB s).length k1] 23)).alloc (.cells #[.bool ends] 4)).cell? ⟨w2.heap.size, 0, none⟩ = some (.slice (some d1) (sB s).length k1) := by simp [go_sem]
  have hce : ((w2.alloc (.cells #[.slice (some d1) (sB s).length k1] 23)).alloc (.cells #[.bool ends] 4)).cell? ⟨w2.heap.size + 1, 0, none⟩ = some (.bool ends) := by simp [go_sem]
  have hv : Bs ((w2.alloc (.cells #[.slice (some d1) (sB s).length k1] 23)).alloc (.cells #[.bool ends] 4)) (.slice (some d1) (sB s).length k1) (sB s) := hs2.below' (((Below.refl w2.heap.size w2).alloc (Nat.le_refl _) _).alloc (by simp) _) (Nat.le_refl _)
  have hsz : ((w2.alloc (.cells #[.slice (some d1) (sB s).length k1] 23)).alloc (.cells #[.bool ends] 4)).heap.size = w2.heap.size + 2 := by simp
  have hll : (sB s).length ≤ 140737488351232 := by rw [hsl.out]; exact hs
  go_wp2_with fail
  obtain ⟨W0, hW0⟩ : ∃ W0, (w2.alloc (.cells #[.slice (some d1) (sB s).length k1] 23)).alloc (.cells #[.bool ends] 4) = W0 := ⟨_, rfl⟩
  rw [hW0] at bL bE hbW hcb hce hv hsz ⊢
  clear hW0 hb10 hs2 hb2 hsl
  generalize sB s = l at *
  refine (wpIn_wide (n := 8)).1 ?_
  refine wpIn_rangeFunc_ownH (F := Fence.wide) rfl (by omega) (gf := 60) (lb := #[.pointer (some ⟨w2.heap.size, 0, none⟩), .pointer (some ⟨w2.heap.size + 1, 0, none⟩)]) rfl trivial (enters_of Tryd.func60 (by kernel_rfl) rfl)
    (wishes_stops (8 - 1) (by omega) w2.heap.size (w2.heap.size + 1) [w1.heap.size, w1.heap.size + 1] W0.heap.size (.slice (some d1) l.length k1) l ends W0 hcb hce hv (Nat.le_refl _) ⟨by omega, by simp; omega⟩ ⟨by omega, by simp; omega⟩
      (fun a n c e => by cases e; exact ⟨by omega, by simp; omega⟩) (fun W' hk => HE.out.below (hbW.trans (hk.toBelow (by omega) (fun k hk => by simp at hk; omega)))) h2l hll)
    (fun h k => h.trans k) (fun W lk o o' hl hW hc hwk => by
      obtain ⟨g1, g2, g3, g4, g5⟩ := grownBy_putObj' W lk o'
      have hlt := (Array.getElem?_eq_some_iff.1 hW).1
      exact ⟨g1, g2, g3, g4, fun k hk _ => g5 k (by omega) (by simp; omega)⟩) (Below.refl _ _) (fun _ => rfl)
    (SbI w w1.heap.size W0.heap.size) (SbIx w w1.heap.size W0.heap.size)
    ?hI ?hIx ⟨⟨_, bL, OwnW.nil _ _⟩, bE, by simp, by simp, hbW, Nat.le_refl _⟩
    (fun x a' W => ∃ Bx, W0.heap.size ≤ Bx ∧ Boxed2 W Bx x.1 ∧ a' = { tmps := #[.string s, .bool ends, undef, undef, .int .i64 0, .slice none 0 0, .int .i64 0, .int .i64 id, .int .i64 0, .pointer (some ⟨w1.heap.size, 0, none⟩), .pointer (some ⟨w1.heap.size + 1, 0, none⟩), .pointer (some ⟨Bx, 0, none⟩), .int .i64 x.2, .tuple #[.int .i64 id, .int .i64 0], .string s, .tuple #[.int .i64 id, .int .i64 0], .int .i64 id, .int .i64 0, .int .i64 0, .bool false, undef, .string s, .slice (some d1) l.length k1, .bool ends, .func (.func 60) #[] #[.pointer (some ⟨w2.heap.size, 0, none⟩), .pointer (some ⟨w2.heap.size + 1, 0, none⟩)], .agg #[.string x.1.1, .int .i64 x.1.2], .int .i64 x.2, undef, undef, undef, undef, undef, undef, undef, undef, undef, undef, undef, undef, undef, undef, undef, undef, undef, undef, undef, undef, undef, undef], defers := [] })
    ?hAx ?assign ?body ?done ?stop
  all_goals (have Hsz := hd hsz; clear hsz)
  case hI =>
    intro pre A B row hs hg hr
    have hq := Hsz.out
    obtain ⟨⟨v, b1, ow⟩, b2, hp8, hp0, hbb, hz⟩ := hs
    have hne := not_row hr
    exact ⟨⟨v, b1.kept hg (hne _ _ b1 rfl), ownW_grown ow hg (fun k e => by obtain ⟨_, o, ho, hc⟩ := ownW_block ow k e; exact hne _ _ ho hc)⟩, b2.kept hg (hne _ _ b2 rfl), hp8, hp0, hbb.grown hg hbb.size (fun k e => by have := (hr k e).1; omega), Nat.le_trans hz hg.size⟩
  case hIx =>
    intro c pre A B row hs hg hr
    have hq := Hsz.out
    obtain ⟨hc, ⟨ini, x, bad, h1, h2, h3, ⟨v, n, cc, b1⟩, b2⟩, hbb, hz⟩ := hs
    have hne := not_row hr
    exact ⟨hc, ⟨ini, x, bad, h1, h2, h3, ⟨v, n, cc, b1.kept hg (hne _ _ b1 rfl)⟩, b2.kept hg (hne _ _ b2 rfl)⟩, hbb.grown hg hbb.size (fun k e => by have := (hr k e).1; omega), Nat.le_trans hz hg.size⟩
  case hAx =>
    intro x a' u A B row hs hg hr
    obtain ⟨Bx, h1, h2, h3⟩ := hs
    exact ⟨Bx, h1, (hg.block Bx (Array.getElem?_eq_some_iff.1 h2).1 (not_row hr _ _ h2 rfl)).trans h2, h3⟩
  case assign =>
    rintro lp pre x W K ⟨⟨v, b1, ow⟩, b2, hp8, hp0, hbb, hz⟩ hK
    obtain ⟨⟨T, q⟩, er⟩ := x
    simp only [itemV]
    gi_wp2
    exact hK _ _ ((KeepsOthers.alloc _ _).from _) ((KeepsU.refl _ _ _).alloc hz _) ⟨⟨v, b1.alloc _, ow.kept ((Below.refl _ _).alloc (Nat.le_refl _) _) (Nat.le_refl _)⟩, b2.alloc _, hp8, hp0, hbb.alloc hbb.size _, by simp; omega⟩ ⟨W.heap.size, hz, World.alloc_heap_new W _, rfl⟩
  case body =>
    rintro lp pre x a' W hlw ⟨r, hr⟩ ⟨⟨v, b1, ow⟩, b2, hp8, hp0, hbb, hz⟩ ⟨Bx, hBx, bX, rfl⟩ hlt
    have hsz' := Hsz.out
    have hq9 : w1.heap.size + 1 < W0.heap.size := by omega
    clear hsz'
    obtain ⟨⟨T, q⟩, er⟩ := x
    obtain ⟨va, vc, rfl⟩ := ow.ws.slice
    simp only [List.length_map] at b1 ow
    have hc1 := b1.cell; have hf1 := b1.frozen; have hc2 := b2.cell; have hf2 := b2.frozen
    have hx0 : W.cell? ⟨Bx, 0, none⟩ = some (.string T) := by simp [World.cell?, show W.heap[Bx]? = _ from bX]
    have hx1 : W.cell? ⟨Bx, 1, none⟩ = some (.int .i64 q) := by simp [World.cell?, show W.heap[Bx]? = _ from bX]
    by_cases h8 : pre.length = 8
    · have h8b : (8 : Int) ≤ (pre.length : Int) := by omega
      dsimp only
      gi_wp2
      exact ⟨(KeepsOthers.setCell _ _ _).from _, rfl, ⟨pre, _, 6, rfl, .inl ⟨h8, rfl⟩, by decide, ⟨_, _, _, b1.kept (grownBy_setCell' W (w1.heap.size + 1) _) (by simp)⟩, b2.set _⟩, hbb.setCell (by simp; omega) _, by simpa using hz⟩
    have h8b : ¬ (8 : Int) ≤ (pre.length : Int) := by omega
    by_cases he : er = 0
    rotate_left
    · have heb : (er != 0) = true := by simpa using he
      dsimp only
      gi_wp2
      exact ⟨(KeepsOthers.setCell _ _ _).from _, rfl, ⟨pre, _, er, rfl, .inr ⟨by omega, he, rfl⟩, he, ⟨_, _, _, b1.kept (grownBy_setCell' W (w1.heap.size + 1) _) (by simp)⟩, b2.set _⟩, hbb.setCell (by simp; omega) _, by simpa using hz⟩
    subst he
    have hlm : (pre.map (·.1)).length < 1000000 := by simp; omega
    dsimp only
    have hle : (pre.map (·.1) ++ [(T, q)]).length = pre.length + 1 := by simp
    have Hle := hd hle; clear hle
    gi_wp2_with (gi_at_builtin; refine wpIn_appW1 rfl _ _ rfl W0.heap.size _ (pre.map (·.1)) rfl ow T q rfl hlm hz ?_; intro v' w' ho' hb' hk'; obtain ⟨a', c', rfl⟩ := ho'.ws.slice; rw [Hle.out] at ho' ⊢; have hc' := (bcell hb' w1.heap.size 0 (by omega)).trans hc1; have hf' := (bfree hb' w1.heap.size 0 (by omega)).trans hf1)
    have bL' : Boxed w' w1.heap.size 22 (.slice va pre.length vc) := (hb'.block _ (by omega)).trans b1
    have bE' : Boxed w' (w1.heap.size + 1) 24 (.int .i64 0) := (hb'.block _ (by omega)).trans b2
    refine ⟨(hk'.trans (KeepsOthers.setCell _ _ _)).from _, (KeepsU.below hb' (Nat.le_refl _)).setCell (.inl (by simp)) _, ⟨_, bL'.set _, ?_⟩, bE'.kept (grownBy_setCell' w' w1.heap.size _) (by simp), by simp; omega, ?_, (hbb.trans (hb'.mono (by omega))).setCell (by simp; omega) _, ?_⟩
    · rw [List.map_append]
      exact ownW_grown ho' (grownBy_setCell' w' w1.heap.size _) (fun k e => by have := (ownW_block ho' k e).1; simp; omega)
    · intro y hy
      rcases List.mem_append.1 hy with hy | hy
      · exact hp0 y hy
      · simp at hy; subst hy; rfl
    · have := hb'.size; simp; omega
  case done =>
    rintro D xs W hD hS ⟨⟨v, b1, ow⟩, b2, hp8, hp0, hbb, hz⟩ hK
    have hall := sbAll_done hS hp8 hp0
    have HO3 := HO2.out; clear HO2
    rw [hall, if_neg (by simp)] at HO3
    simp only at HO3
    obtain ⟨va, vc, rfl⟩ := ow.ws.slice
    have hc1 := b1.cell; have hc2 := b2.cell
    have HO4 := hd HO3; clear HO3
    by_cases hx : xs.map (·.1) = []
    · rw [hx] at hc1 ow HO4
      go_wp2_with fail
      refine ⟨by simp, .inl ⟨_, _, rfl, run_takeDeferred hK, ?_⟩⟩
      exact ⟨_, results_tmp3 rfl _ _ _, GivesW.nil 4 (by rw [HO4.out]; simp) (hbb.grown (grownBy_putObj' W D _) hbb.size (fun k e => by cases e; have := Hsz.out; omega))⟩
    · have hxl : ((xs.map (·.1)).length : Int) ≠ 0 := by
        intro e
        exact hx (List.eq_nil_of_length_eq_zero (by omega))
      have hle : (xs.map (·.1)).length = xs.length := List.length_map ..
      rw [hle] at hxl hc1 ow
      have hxb : ((xs.length : Int) == 0) = false := by simpa using hxl
      have Hx := hd hx; clear hx hxl hle
      go_wp2_with fail
      go_quiet (fail)
      go_wp2_with fail
      rw [Exit.noGoto_ret]
      refine ⟨by simp, .inl ⟨_, _, rfl, run_takeDeferred (show _ from hK), ?_⟩⟩
      refine ⟨_, results_tmp3 rfl _ _ _, ?_⟩
      rw [HO4.out, if_neg Hx.out]
      refine ⟨_, rfl, ?_, ?_⟩
      · exact (ownW_grown (show OwnW W0.heap.size (W.drewN _) _ _ from ow) (grownBy_putObj' _ D _) (fun k e => by
          obtain ⟨_, o, ho, hcl⟩ := ownW_block ow k e
          intro ek
          cases ek
          rw [hK] at ho
          cases ho
          cases hcl)).le hbW.size
      · exact (show Below w.heap.size w (W.drewN _) from ⟨hbb.os, hbb.tape, hbb.output, hbb.size, hbb.block⟩).grown (grownBy_putObj' _ D _) hbb.size (fun k e => by cases e; have := Hsz.out; omega)
  case stop =>
    rintro D c pre W hD hS ⟨rfl, ⟨ini, x, bad, rfl, hbad, hb0, ⟨va, vn, vc, b1⟩, b2⟩, hbb, hz⟩ hK
    have hall := sbAll_stop hS hbad
    have HO3 := HO2.out; clear HO2
    rw [hall, if_pos hb0] at HO3
    have HO4 := hd HO3; clear HO3
    have hc1 := b1.cell; have hc2 := b2.cell
    have hbb0 : (bad != 0) = true := by simpa using hb0
    refine wpIn_wide.2 ?_
    go_wp2_with fail
    go_quiet (fail)
    go_wp2_with fail
    rw [Exit.noGoto_ret]
    refine ⟨by simp, .inl ⟨_, _, rfl, run_takeDeferred (show _ from hK), ?_⟩⟩
    refine ⟨_, results_tmp3 rfl _ _ _, ?_⟩
    have hfin : Below w.heap.size w ((W.drewN nq).putObj D (Obj.deferred none)) := below_drewPut hbb (by have := Hsz.out; omega) _ _
    exact GivesW.nil bad HO4.out hfin
end Go.Proofs.YtgafhnomkeiakaaDoor
