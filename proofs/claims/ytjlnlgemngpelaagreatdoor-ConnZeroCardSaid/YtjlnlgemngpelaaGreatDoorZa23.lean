/- A bundle of texts (merged for the limit on files): PacRow, PacAll, PacRef, PacRows, UtfVars, PacVars. -/
import Derived.Test.YtjlnlgemngpelaaGreatDoorZa22
import Derived.Test.YtjlnlgemngpelaaGreatDoorZa5
import Derived.Test.YtjlnlgemngpelaaGreatDoorZa19
import Derived.Test.YtjlnlgemngpelaaGreatDoorZa14
import Derived.Test.YtjlnlgemngpelaaGreatDoorZa17
import Derived.Test.YtjlnlgemngpelaaGreatDoorZa4
import Derived.Test.YtjlnlgemngpelaaGreatDoorZa12
import Derived.Test.YtjlnlgemngpelaaGreatDoorZa3
import Derived.Lib.LaidU8T
/- Packets: rows of packets that grow. -/
namespace Go.Proofs.YtjlnlgemngpelaaGreatDoor
open Go.RowKit
set_option linter.unusedVariables false
set_option linter.unusedSimpArgs false

theorem info_pacz : (Tryz.prog.info? 36).map (fun i => (i.zero, i.size, i.bytes)) = some (some (.agg (zK 0).toArray), 24, 280) := by kernel_rfl
theorem pacv_len (x : PacV) : (PacV.cells x).length = 24 := rfl
theorem pcells_len : ∀ l : List PacV, (l.flatMap PacV.cells).length = l.length * 24
  | [] => rfl
  | x :: t => by rw [List.flatMap_cons, List.length_append, pcells_len t, pacv_len, List.length_cons]; omega
theorem pacv_one (x : PacV) (hf : x.2.1.oneCell' = true) (hc : x.2.2.oneCell' = true) : ∀ v ∈ PacV.cells x, v.oneCell' = true := Pac.one x.1 x.2.1 x.2.2 hf hc
/-- A row of packets that is the call's own: its cells, and what lies behind them, apart from it. -/
structure OwnPs (B : Nat) (w : World) (v : Value) (l : List PacV) : Prop where
  row : w.ownsRow B 36 24 v l.length (l.flatMap PacV.cells)
  each : ∀ x ∈ l, PacOwn B w x.1 x.2.1 x.2.2 ∧ (∀ k, k ∈ blk x.2.1 → k ∉ blk v) ∧ (∀ k, k ∈ blk x.2.2 → k ∉ blk v)
theorem OwnPs.nil (B : Nat) (w : World) : OwnPs B w (.slice none 0 0) [] := ⟨⟨rfl, .inl ⟨rfl, rfl⟩⟩, by simp⟩
theorem OwnPs.kept {B B' : Nat} {w w' : World} {v : Value} {l : List PacV} (h : OwnPs B w v l) (hb : Below B' w w') (hB : w.heap.size ≤ B') : OwnPs B w' v l :=
  ⟨Owns.kept h.row hb hB, fun x hx => ⟨(h.each x hx).1.kept hb hB, (h.each x hx).2⟩⟩
theorem blk_ge {w : World} {B e size n : Nat} {v : Value} {xs : List Value} (h : w.ownsRow B e size v n xs) {k : Nat} (hk : k ∈ blk v) : B ≤ k := (h.lt k (by simpa [blk] using hk)).1
theorem own_keeps {S : List Nat} {w w' : World} {B e size n : Nat} {v : Value} {xs : List Value} (hk : Keeps S w w') (h : w.ownsRow B e size v n xs) (ho : ∀ k, k ∈ blk v → k ∉ S) : w'.ownsRow B e size v n xs := by
  refine ⟨h.1, ?_⟩
  rcases h.2 with h0 | ⟨g, cap, cur, rfl, h1, h2, h3⟩
  · exact .inl h0
  · exact .inr ⟨g, cap, cur, rfl, h1, by rw [hk.block g (Array.getElem?_eq_some_iff.1 h2).1 (ho g (by simp [blk, Value.ownBlock]))]; exact h2, h3⟩
theorem OwnPs.le {B B' : Nat} {w : World} {v : Value} {l : List PacV} (h : OwnPs B w v l) (hB : B' ≤ B) : OwnPs B' w v l := ⟨Owns.le h.row hB, fun x hx => ⟨(h.each x hx).1.le hB, (h.each x hx).2⟩⟩
theorem OwnPs.keeps0 {B : Nat} {w w' : World} {v : Value} {l : List PacV} (h : OwnPs B w v l) (hk : Keeps [] w w') : OwnPs B w' v l :=
  ⟨own_keeps hk h.row (fun k _ => by simp), fun x hx => ⟨(h.each x hx).1.keeps hk (fun k hk => by simp at hk), (h.each x hx).2⟩⟩
set_option maxRecDepth 100000 in
theorem build_row (p : Pac) (vf vc : Value) (W : World) : (Instr.buildSlice 44 1 #[(0, .agg (p.cells vf vc).toArray)]).run Tryz.prog W = .ok (.slice (some ⟨W.heap.size, 0, none⟩) 1 1) (W.alloc (.cells (p.cells vf vc).toArray 36)) := by
  simp [Instr.buildSlice, go_sem, Pac.cells]
/-- The row of one that an append takes is built. -/
theorem wpl_buildSlice {P : Program} {w : World} {ops : Array Oper} {rest : List Oper} {o : Oper} {a : Act} {Q : Exit → Act → World → Prop} (hgd : o.guard = none) (ty : TypeId) (n : Nat) (parts : Array (Nat × Operand)) (ho : o.op = .buildSlice ty n parts) (vals : Array (Nat × Value))
    (hp : parts.map (fun (i, x) => (i, a.eval x)) = vals) (v : Value) (w' : World) (hr : (Instr.buildSlice ty n vals).run P w = .ok v w') (h : wpList P ops Q rest (a.put o.dst v) w') : wpList P ops Q (o :: rest) a w := by
  refine wpList_plain hgd fun K hK => ?_
  unfold Oper.wp execOp
  simp only [ho, hp, Sem.run_bind, Sem.run_pure, hr, Result.andThen_ok]
  exact hK _ _ h
/-- The same of one part. -/
theorem wpl_buildSlice1 {P : Program} {w : World} {ops : Array Oper} {rest : List Oper} {o : Oper} {a : Act} {Q : Exit → Act → World → Prop} (hgd : o.guard = none) (ty : TypeId) (x : Operand) (ho : o.op = .buildSlice ty 1 #[(0, x)]) (u : Value)
    (hx : a.eval x = u) (v : Value) (w' : World) (hr : (Instr.buildSlice ty 1 #[(0, u)]).run P w = .ok v w') (h : wpList P ops Q rest (a.put o.dst v) w') : wpList P ops Q (o :: rest) a w := by
  refine wpList_plain hgd fun K hK => ?_
  unfold Oper.wp execOp
  simp only [ho, List.map_toArray, List.map_cons, List.map_nil, hx, Sem.run_bind, Sem.run_pure, hr, Result.andThen_ok]
  exact hK _ _ h
/-- append(l, p) of one packet: its block has been laid at g. -/
theorem wpl_appPs {w : World} {ops : Array Oper} {rest : List Oper} {o : Oper} {a : Act} {Q : Exit → Act → World → Prop} (hgd : o.guard = none) (s x : Operand)
    (ho : o.op = .call { callee := .builtin .append, args := #[s, x], argTypes := #[44, 44] })
    (B : Nat) (v : Value) (l : List PacV) (hv : a.eval s = v) (hown : OwnPs B w v l) (p : Pac) (vf vc : Value) (g : Nat) (hx : a.eval x = .slice (some ⟨g, 0, none⟩) 1 1) (hg : At w g (p.cells vf vc))
    (hp : PacOwn B w p vf vc) (hf : ∀ k, k ∈ blk vf → k ∉ blk v) (hc : ∀ k, k ∈ blk vc → k ∉ blk v) (hlen : l.length < 2000000) (hB : B ≤ w.heap.size)
    (h : ∀ v' w', OwnPs B w' v' (l ++ [(p, vf, vc)]) → Keeps (blk v) w w' → Below B w w' → (∀ k, k ∈ blk v' → k ∈ blk v ∨ w.heap.size ≤ k) → wpList Tryz.prog ops Q rest (a.put o.dst v') w') : wpList Tryz.prog ops Q (o :: rest) a w := by
  obtain ⟨i0, hi, hz0, hz1, hz2⟩ := info_parts info_pacz
  have h1 : ∀ u ∈ p.cells vf vc, u.oneCell' = true := Pac.one p vf vc hp.rd.f.oneCell hp.rd.c.oneCell
  have hrow0 : w.ownsRow 0 36 24 v l.length (l.flatMap PacV.cells) := Owns.le hown.row (Nat.zero_le _)
  obtain ⟨v', w', hr, h2, h3, h4⟩ := app_block (P := Tryz.prog) w 44 o.type 36 i0 (.agg (zK 0).toArray) 24 280 Tryz.underlying44 hi hz0 hz1 hz2 rfl (by decide) v l.length (l.flatMap PacV.cells)
    hrow0 ⟨g, 0, none⟩ 1 1 (p.cells vf vc) rfl (fun j u hu => by rw [Go.WideShapes.add_plain, Nat.zero_add]; exact hg.at j hu) h1 (by unfold maxLen; omega) (by omega)
  have hkB : Below B w w' := h3.toBelow hB (fun k hk => blk_ge hown.row hk)
  refine wpList_plain hgd fun K hK => ?_
  unfold Oper.wp execOp
  simp only [ho, resolve, invoke, builtin, Sem.run_bind, Sem.run_pure, Result.andThen_ok, List.map_toArray, List.map_cons, List.map_nil, hv, hx, hr]
  have hblk : ∀ k, k ∈ blk v' → B ≤ k := fun k hk => by
    rcases h4 k hk with h5 | h5
    · exact blk_ge hown.row h5
    · omega
  have hrow : w'.ownsRow B 36 24 v' (l.length + 1) (l.flatMap PacV.cells ++ p.cells vf vc) := by
    refine ⟨h2.1, ?_⟩
    rcases h2.2 with h0 | ⟨g', cap, cur, rfl, hg1, hg2, hg3⟩
    · exact .inl h0
    · exact .inr ⟨g', cap, cur, rfl, hblk g' (by simp [blk, Value.ownBlock]), hg2, hg3⟩
  have apart : ∀ (q : Value), (∀ k, k ∈ blk q → k < w.heap.size) → (∀ k, k ∈ blk q → k ∉ blk v) → ∀ k, k ∈ blk q → k ∉ blk v' := fun q hq hn k hk hm => by
    rcases h4 k hm with h5 | h5
    · exact hn k hk h5
    · have := hq k hk; omega
  have keep : ∀ (y : PacV), PacOwn B w y.1 y.2.1 y.2.2 → (∀ k, k ∈ blk y.2.1 → k ∉ blk v) → (∀ k, k ∈ blk y.2.2 → k ∉ blk v) → PacOwn B w' y.1 y.2.1 y.2.2 ∧ (∀ k, k ∈ blk y.2.1 → k ∉ blk v') ∧ (∀ k, k ∈ blk y.2.2 → k ∉ blk v') := fun y hy ha hb =>
    ⟨⟨own_keeps h3 hy.f ha, own_keeps h3 hy.c hb, hy.lf, hy.lc⟩, apart _ (fun k hk => blk_lt hy.f hk) ha, apart _ (fun k hk => blk_lt hy.c hk) hb⟩
  refine hK _ _ (h v' w' ⟨?_, fun y hy => ?_⟩ h3 hkB h4)
  · rw [List.length_append, List.flatMap_append]
    simpa [PacV.cells] using hrow
  · rcases List.mem_append.1 hy with hy | hy
    · obtain ⟨e1, e2, e3⟩ := hown.each y hy
      exact keep y e1 e2 e3
    · obtain rfl := List.mem_singleton.1 hy
      exact keep (p, vf, vc) hp hf hc
end Go.Proofs.YtjlnlgemngpelaaGreatDoor

/- Packets: all of them: the walk. -/
namespace Go.Proofs.YtjlnlgemngpelaaGreatDoor
open Go.RowKit
set_option linter.unusedVariables false
set_option linter.unusedSimpArgs false

def GivesAllP (w : World) (r : List Pac × Int × Int) (e : Ending) (w' : World) : Prop :=
  ∃ v xs, e = .returned (.tuple #[v, .int .i64 r.2.1, .int .i64 r.2.2]) ∧ OwnPs w.heap.size w' v xs ∧ xs.map (·.1) = r.1 ∧ Below w.heap.size w w'
structure AllP (wb : World) (b : List UInt8) (v : Value) (xs : List PacV) (a : Nat) (w' : World) : Prop where
  own : OwnPs wb.heap.size w' v xs
  le : a ≤ b.length
  cnt : xs.length ≤ a
  eq : paAllB b = (xs.map (·.1) ++ (paAll (b.length - a + 1) b a).1, (paAll (b.length - a + 1) b a).2)
  below : Below wb.heap.size wb w'
theorem AllP.step {wb w1 w2 : World} {b : List UInt8} {v v' : Value} {xs : List PacV} {a : Nat} (h : AllP wb b v xs a w1) (x : PacV) (hx : x.1 = (paOne b a).1) (hok : (paOne b a).2.2.1 = true) (ho : OwnPs wb.heap.size w2 v' (xs ++ [x])) (hb : Below wb.heap.size wb w2) :
    AllP wb b v' (xs ++ [x]) (paOne b a).2.1.toNat w2 := by
  have hr := paOne_rng hok
  have hle := h.le
  have hc := h.cnt
  refine ⟨ho, by omega, by rw [List.length_append, List.length_singleton]; omega, ?_, hb⟩
  obtain ⟨m, hm⟩ : ∃ m, b.length - a = m + 1 := ⟨b.length - a - 1, by omega⟩
  rw [h.eq, hm, paAll_succ (m + 1), if_pos hok, paAll_fuel b m (b.length - (paOne b a).2.1.toNat) (paOne b a).2.1.toNat (by omega) (by omega)]
  simp [hx]
set_option maxRecDepth 100000 in
set_option maxHeartbeats 8000000 in
theorem packAll_c (s : ByteArray) (w : World) (hs : s.size ≤ 1048576) (hH : EnvH w) (hE : EnvU w) :
    Calls Tryz.prog 23 #[.string s] w (GivesAllP w (paAllB (sB s))) := by
  have HE := hd hE; have HH := hd hH
  clear hE hH
  obtain ⟨bc, wb, hrun, hB, hb⟩ := run_bytes s (by omega) w
  have hbl : (sB s).length = s.size := sB_lenP s
  generalize sB s = b at *
  have HB := hd hB; have hbm : b.length ≤ 1048576 := by omega
  clear hB hbl
  go_enter Tryz.func23, Tryz.ntmps23
  go_wp2_with fail
  have I0 : AllP wb b (.slice none 0 0) [] 0 wb := ⟨OwnPs.nil _ _, Nat.zero_le _, Nat.zero_le _, by unfold paAllB; simp, Below.refl _ _⟩
  go_loopw [5, 7] (fun v a w' => ∃ (xs : List PacV) (n : Nat), a = .int .i64 n ∧ AllP wb b v xs n w') (fun _ a _ => match a with | .int _ m => b.length - m.toNat | _ => 0)
  case atStart => exact ⟨[], 0, rfl, I0⟩
  case round =>
    obtain ⟨xs, n, rfl, I⟩ := hrel
    have HI := hd I
    have hle := I.le
    clear I I0
    go_wp2_with fail
    have hBr := Below.up hb HI.out.below
    have hc := one16_c (.slice (some ⟨w.heap.size, 0, none⟩) b.length bc) b n wr (HB.out.below' HI.out.below (Nat.le_refl _)) (by omega) (HH.out.below hBr (Nat.le_refl _)) (HE.out.below hBr)
    refine hc.mono ?_
    rintro e w2 ⟨vf, vc, rfl, hr2, hb2⟩
    clear hc
    have hst := fun (v' : Value) (w3 : World) (hok : (paOne b n).2.2.1 = true) (ho : OwnPs wb.heap.size w3 v' (xs ++ [((paOne b n).1, vf, vc)])) (hB3 : Below wb.heap.size wb w3) => HI.out.step ((paOne b n).1, vf, vc) rfl hok ho hB3
    have hend : (paOne b n).2.2.1 = false → paAllB b = (xs.map (·.1), (n : Int), (paOne b n).2.2.2) := fun hok => by
      rw [HI.out.eq, paAll_succ, if_neg (by rw [hok]; simp)]
      simp
    have hrg := @paOne_rng b n
    generalize paOne b n = r at *
    obtain ⟨P, q, ok, E⟩ := r
    have HST := hd hst; have HEN := hd hend; have HRG := hd hrg
    clear hst hend hrg
    have hw := HI.out.below.size
    have hz2 := hb2.size
    have hor : OwnPs wb.heap.size w2 u5 xs := HI.out.own.kept hb2 (Nat.le_refl _)
    have B2 : Below wb.heap.size wb w2 := HI.out.below.trans (hb2.mono hw)
    have hone := Pac.one P vf vc hr2.rd.f.oneCell hr2.rd.c.oneCell
    have hcnt := HI.out.cnt
    have HOR := hd hor
    clear hor
    simp only
    cases ok with
    | false =>
      go_wp2_with (first
        | (with_reducible refine wpl_alloc (o := ⟨some 8, .alloc 36, _, _, _, _⟩) rfl _ rfl (zK 0) alloc_pac _ rfl ?_; intro w3 h3 f3 b3 z3; have B3 := B2.trans (b3.mono (by omega)))
        | ((with_reducible refine wpl_at (o := ⟨none, .store 36 (.tmp 8) (.tmp 18), _, _, _, _⟩) ?_); refine wpl_storeAll rfl rfl _ _ _ rfl w2.heap.size (P.cells vf vc) (zK 0) rfl rfl info_pac hone h3 rfl f3 ?_; intro w4 h4 f4 k4 z4; have K4 : Keeps [] w2 w4 := (Keeps.below b3).next k4 (by intro i hi; simp at hi; subst hi; exact .inr (Nat.le_refl _)); have B4 := B3.trans (k4.toBelow (by omega) (by simp; omega))))
      go_ret3
      have he : paAllB b = (xs.map (·.1), (n : Int), E) := HEN.out (by first | rfl | trivial)
      rw [he]
      refine ⟨_, xs, rfl, ?_, rfl, ?_⟩
      · exact (HOR.out.keeps0 K4).le hb.size
      · exact Below.up hb B4
    | true =>
      have hr4 : PacOwn wr.heap.size w2 P vf vc := hr2
      go_wp2_with (first
        | (with_reducible refine wpl_alloc (o := ⟨some 8, .alloc 36, _, _, _, _⟩) rfl _ rfl (zK 0) alloc_pac _ rfl ?_; intro w3 h3 f3 b3 z3; have B3 := B2.trans (b3.mono (by omega)))
        | ((with_reducible refine wpl_at (o := ⟨none, .store 36 (.tmp 8) (.tmp 18), _, _, _, _⟩) ?_); refine wpl_storeAll rfl rfl _ _ _ rfl w2.heap.size (P.cells vf vc) (zK 0) rfl rfl info_pac hone h3 rfl f3 ?_; intro w4 h4 f4 k4 z4; have K4 : Keeps [] w2 w4 := (Keeps.below b3).next k4 (by intro i hi; simp at hi; subst hi; exact .inr (Nat.le_refl _)); have B4 := B3.trans (k4.toBelow (by omega) (by simp; omega)))
        | ((with_reducible refine wpl_at (o := ⟨some 28, .load 36 (.tmp 8), _, _, _, _⟩) ?_); refine wpl_loadAt rfl _ _ rfl w2.heap.size 0 rfl (P.cells vf vc) _ h4.range Tryz.underlying36 rfl info_pac ?_)
        | ((with_reducible refine wpl_at (o := ⟨some 29, .buildSlice 44 1 #[(0, .tmp 28)], _, _, _, _⟩) ?_); refine wpl_buildSlice1 rfl _ _ rfl (.agg (P.cells vf vc).toArray) rfl _ (w4.alloc (.cells (P.cells vf vc).toArray 36)) (build_row P vf vc w4) ?_; have b5 := (Below.refl w4.heap.size w4).alloc (Nat.le_refl _) (.cells (P.cells vf vc).toArray 36); have h5 : At (w4.alloc (.cells (P.cells vf vc).toArray 36)) w4.heap.size (P.cells vf vc) := At.new _ _ _; generalize w4.alloc (.cells (P.cells vf vc).toArray 36) = w5 at *; have K5 := K4.trans (Keeps.below b5); have ho5 := HOR.out.keeps0 K5; have hr5 := hr4.keeps K5 (fun k hk => by simp at hk); have B5 := B4.trans (b5.mono B4.size))
        | (at_builtin; refine wpl_appPs rfl _ _ rfl wb.heap.size u5 xs rfl ho5 P vf vc w4.heap.size rfl h5 (hr5.le hw) (fun k hk hm => by have h1 := blk_ge hr5.f hk; have h2 := blk_lt HI.out.own.row hm; omega) (fun k hk hm => by have h1 := blk_ge hr5.c hk; have h2 := blk_lt HI.out.own.row hm; omega) (by omega) (by have := B5.size; omega) ?_; intro v6 w6 ho6 hk6 hb6 hn6))
      obtain ⟨rg1, rg2⟩ : (n : Int) + 1 ≤ q ∧ q ≤ b.length := HRG.out (by first | rfl | trivial)
      have I6 : AllP wb b v6 (xs ++ [(P, vf, vc)]) q.toNat w6 := HST.out v6 w6 (by first | rfl | trivial) ho6 (B5.trans hb6)
      go_roundw
      case rel => exact ⟨xs ++ [(P, vf, vc)], q.toNat, by rw [Int.toNat_of_nonneg (by omega)], I6⟩
      all_goals (show b.length - q.toNat < b.length - (n : Int).toNat; omega)
end Go.Proofs.YtjlnlgemngpelaaGreatDoor

/- Packets: laid: the reference: the walks. -/
namespace Go.Proofs.YtjlnlgemngpelaaGreatDoor
open Go.RowKit
set_option linter.unusedVariables false
set_option linter.unusedSimpArgs false

def GivesF (w : World) (fl : Int) (b : List UInt8) (E : Int) (e : Ending) (w' : World) : Prop :=
  ∃ v, e = .returned (.tuple #[.int .i64 fl, v, .int .i64 E]) ∧ Owned w.heap.size w' v b ∧ Below w.heap.size w w'
end Go.Proofs.YtjlnlgemngpelaaGreatDoor

/- Packets: rows of packets that are read; what there and back keeps. -/
namespace Go.Proofs.YtjlnlgemngpelaaGreatDoor
open Go.RowKit
set_option linter.unusedVariables false
set_option linter.unusedSimpArgs false

theorem pflat_at : ∀ (l : List PacV) (k : Nat) (x : PacV), l[k]? = some x → ∀ j v, (PacV.cells x)[j]? = some v → (l.flatMap PacV.cells)[k * 24 + j]? = some v
  | [], k, x, h => by simp at h
  | y :: t, 0, x, h => by
    intro j v hv
    simp only [List.getElem?_cons_zero, Option.some.injEq] at h
    subst h
    rw [List.flatMap_cons, Nat.zero_mul, Nat.zero_add, List.getElem?_append_left (List.getElem?_eq_some_iff.1 hv).1]
    exact hv
  | y :: t, k + 1, x, h => by
    intro j v hv
    rw [List.getElem?_cons_succ] at h
    have := pflat_at t k x h j v hv
    rw [List.flatMap_cons, List.getElem?_append_right (by rw [pacv_len]; omega), pacv_len, show (k + 1) * 24 + j - 24 = k * 24 + j by omega]
    exact this
theorem prow_at {w : World} {a : Option Addr} {n c : Nat} {l : List PacV} (h : Rd w (.slice a n c) l.length (l.flatMap PacV.cells)) {k : Nat} {x : PacV} (hk : l[k]? = some x) :
    ∃ b o, a = some ⟨b, o, none⟩ ∧ b < w.heap.size ∧ w.rangeAt b (o + k * 24) (PacV.cells x) := by
  have hx := pflat_at l k x hk
  have hw := @Rd.split w (.slice a n c) l.length (l.flatMap PacV.cells) h
  rcases hw with ⟨hn, _⟩ | ⟨_, b, o, c', hv, _, _, hlt, hcell⟩
  · have : l = [] := by
      have := pcells_len l
      rw [hn] at this
      simp at this
      exact List.eq_nil_of_length_eq_zero (by omega)
    subst this
    simp at hk
  · simp only [Value.slice.injEq] at hv
    refine ⟨b, o, hv.1, hlt, fun j v hv => ?_⟩
    have := hcell _ _ (hx j v hv)
    rwa [← Nat.add_assoc] at this
theorem rangeAt_keep {B : Nat} {w w' : World} {b o : Nat} {l : List Value} (h : w.rangeAt b o l) (hb : Below B w w') (hB : b < B) : w'.rangeAt b o l := fun j v hv => (bcell hb _ _ hB).trans (h j v hv)
theorem OwnPs.rd {B : Nat} {w : World} {v : Value} {l : List PacV} (h : OwnPs B w v l) : Rd w v l.length (l.flatMap PacV.cells) := Owns.rd h.row
theorem OwnPs.at {B : Nat} {w : World} {v : Value} {l : List PacV} (h : OwnPs B w v l) {k : Nat} {x : PacV} (hk : l[k]? = some x) : PacRd w x.1 x.2.1 x.2.2 := (h.each x (List.mem_of_getElem? hk)).1.rd

theorem paCat_len : ∀ l : List Pac, (paCat l).length ≤ 4099 * l.length
  | [] => by simp [paCat]
  | p :: t => by
    have h1 := paCat_len t
    have h2 := paPutB_len p
    unfold paCat
    rw [List.length_append, List.length_cons]
    split
    · omega
    · simp; omega
theorem paWant_len : ∀ l : List Pac, (paWant l).length ≤ l.length
  | [] => by simp [paWant]
  | p :: t => by
    have h1 := paWant_len t
    unfold paWant
    rw [List.length_append, List.length_cons]
    split
    · simp; omega
    · simp; omega
theorem take_putP {l : List PacV} {k : Nat} {x : PacV} (hk : l[k]? = some x) : (l.take (k + 1)).map (·.1) = (l.take k).map (·.1) ++ [x.1] := by
  rw [List.take_add_one, hk, List.map_append]; rfl
theorem paCat_snoc (a : List Pac) (p : Pac) : paCat (a ++ [p]) = paCat a ++ (if paPutE p = 0 then paPutB p else []) := by
  rw [paCat_append]; simp [paCat]
theorem paWant_snoc (a : List Pac) (p : Pac) : paWant (a ++ [p]) = paWant a ++ (if paPutE p = 0 then [paClean p] else []) := by
  rw [paWant_append]; simp [paWant]
/-- What stands behind k rounds of putting. -/
structure BackP (w : World) (l : List PacV) (k : Nat) (s : ByteArray) (v : Value) (xs : List PacV) (w' : World) : Prop where
  own : OwnPs w.heap.size w' v xs
  want : xs.map (·.1) = paWant ((l.take k).map (·.1))
  cat : sB s = paCat ((l.take k).map (·.1))
  cnt : xs.length ≤ k
  below : Below w.heap.size w w'
theorem BackP.size {w w' : World} {l : List PacV} {k : Nat} {s : ByteArray} {v : Value} {xs : List PacV} (h : BackP w l k s v xs w') : s.size ≤ 4099 * k := by
  have h1 := paCat_len ((l.take k).map (·.1))
  rw [← h.cat] at h1
  have h2 : (sB s).length = s.size := sB_lenP s
  rw [h2, List.length_map, List.length_take] at h1
  have : 4099 * min k l.length ≤ 4099 * k := Nat.mul_le_mul_left _ (Nat.min_le_left _ _)
  omega
theorem BackP.skip {w w' w2 : World} {l : List PacV} {k : Nat} {s : ByteArray} {v : Value} {xs : List PacV} (h : BackP w l k s v xs w') {x : PacV} (hk : l[k]? = some x) (he : ¬ paPutE x.1 = 0) (hb : Below w'.heap.size w' w2) : BackP w l (k + 1) s v xs w2 :=
  ⟨h.own.kept hb (Nat.le_refl _), by rw [take_putP hk, paWant_snoc, if_neg he, List.append_nil]; exact h.want, by rw [take_putP hk, paCat_snoc, if_neg he, List.append_nil]; exact h.cat, by have := h.cnt; omega, h.below.trans (hb.mono h.below.size)⟩
theorem BackP.put {w w' w2 : World} {l : List PacV} {k : Nat} {s t : ByteArray} {v v' : Value} {xs : List PacV} (h : BackP w l k s v xs w') {x : PacV} (hk : l[k]? = some x) (he : paPutE x.1 = 0) (ht : sB t = paPutB x.1) {vf vc : Value} (ho : OwnPs w.heap.size w2 v' (xs ++ [(paClean x.1, vf, vc)])) (hb : Below w.heap.size w w2) :
    BackP w l (k + 1) (s ++ t) v' (xs ++ [(paClean x.1, vf, vc)]) w2 :=
  ⟨ho, by rw [take_putP hk, paWant_snoc, if_pos he, List.map_append, h.want]; rfl, by rw [take_putP hk, paCat_snoc, if_pos he, ← h.cat, ← ht]; simp [sB], by have := h.cnt; rw [List.length_append, List.length_singleton]; omega, hb⟩
end Go.Proofs.YtjlnlgemngpelaaGreatDoor

/- The tables of utf8, out of a row's list. -/
namespace Go.Proofs.YtjlnlgemngpelaaGreatDoor
open Go.RowKit

theorem u8extra : U8Extra Tryz.prog Tryz.laysValid_ren := {
  n3 := by kernel_rfl
  n4 := by kernel_rfl
  y3 := by kernel_rfl
  y4 := by kernel_rfl
  c5 := by kernel_rfl
  c119 := by kernel_rfl
  c138 := by kernel_rfl }

theorem envU_of {W : World} {l : List (String × DataW Unit)} (h : laidMetH Tryz.prog l W) (i j : Nat) (dF dA : DataW Unit)
    (hi : (l.filter fun x => x.2.handleName?.isNone)[i]? = some ("unicode/utf8.first", dF)) (hj : (l.filter fun x => x.2.handleName?.isNone)[j]? = some ("unicode/utf8.acceptRanges", dA))
    (hF : dF = Lib.firstData) (hA : dA = Lib.acceptData) : EnvU W := by
  subst hF hA
  obtain ⟨h1, _⟩ := laidMetH_iff.1 h
  obtain ⟨ps, hv, _⟩ := h1
  exact utf8Tabs_of_readsT (U8Types.of196 Tryz.laysValid) u8extra (laidVars_get _ ps hv i _ _ hi) (laidVars_get _ ps hv j _ _ hj)
theorem first_is : Go.Pinned.utf8First = Lib.firstData := by kernel_rfl
/-- The tables, laid into a heap. -/
def layFirst : Obj → Obj
  | .cells _ t frozen => .cells ((List.range 256).map fun c => Value.int .u8 (Lib.firstT c : Int)).toArray t frozen
  | o => o
def layAccept : Obj → Obj
  | .cells _ t frozen => .cells ((List.range 16).flatMap fun i => [Value.int .u8 (Lib.accLo i : Int), Value.int .u8 (Lib.accHi i : Int)]).toArray t frozen
  | o => o
def layU (h : Array Obj) : Array Obj := (h.modify 2 layFirst).modify 3 layAccept

end Go.Proofs.YtjlnlgemngpelaaGreatDoor

/- The tables of packets' laws, laid; a packet that came in is in hand. -/
namespace Go.Proofs.YtjlnlgemngpelaaGreatDoor
open Go.RowKit
theorem PacIn.ok {w : World} {p : Pac} {vf vc : Value} (h : PacIn w p vf vc) : PacOk w p vf vc := ⟨⟨h.1, h.2.1, h.2.2.2.1, h.2.2.2.2⟩, h.2.2.1⟩
def pkLitV : Lit → Value
  | .bool b => .bool b
  | _ => .bool false
def layMayP : Obj → Obj
  | .cells _ t frozen => .cells (mayLits.map pkLitV).toArray t frozen
  | o => o
def layPk (h : Array Obj) : Array Obj := (layU h).modify 0 layMayP
end Go.Proofs.YtjlnlgemngpelaaGreatDoor
