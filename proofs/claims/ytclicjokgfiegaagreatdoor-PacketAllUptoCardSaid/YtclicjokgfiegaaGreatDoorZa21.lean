/- A bundle of texts (merged for the limit on files): PacOpen, PacRow, PacAll, ConRef, ConRefPlain, UtfVars. -/
import Derived.Test.YtclicjokgfiegaaGreatDoorZa20
import Derived.Test.YtclicjokgfiegaaGreatDoorZa9
import Derived.Test.YtclicjokgfiegaaGreatDoorZa17
import Derived.Test.YtclicjokgfiegaaGreatDoorZa7
import Derived.Test.YtclicjokgfiegaaGreatDoorZa8
import Derived.Test.YtclicjokgfiegaaGreatDoorZa3
import Derived.Lib.LaidU8T
/- What packets that came in read as. Of no function of the program. -/
namespace Go.Proofs.YtclicjokgfiegaaGreatDoor
open Go.ChangeShapes Go.WideShapes Go.ChangeAt Go.RowKit
set_option linter.unusedVariables false
set_option linter.unusedSimpArgs false
set_option maxRecDepth 100000

theorem cells_pac : Tryz.prog.cellsOf 56 = 24 := by kernel_rfl
theorem cells_wishes : Tryz.prog.cellsOf 23 = 1 := by kernel_rfl
theorem cells_nums : Tryz.prog.cellsOf 54 = 1 := by kernel_rfl
theorem bytes_filter : Tryz.prog.bytesOf 77 = 24 := by kernel_rfl
theorem bytes_int : Tryz.prog.bytesOf 3 = 8 := by kernel_rfl
theorem weights_len {H : Type} {P : Program} {t e : TypeId} (ht : P.underlying t = some (.slice e)) {es sp : List (DataW H)} (h : ((DataW.slice es sp).weights P t).all (· ≤ reachBytes) = true) : es.length * P.bytesOf e ≤ 140737488351232 := by
  simp only [DataW.weights, ht, List.all_cons, List.all_append, Bool.and_eq_true] at h
  have h1 : (es.length + sp.length) * P.bytesOf e ≤ reachBytes := by simpa using h.1
  have r : reachBytes = 140737488351232 := rfl
  rw [Nat.add_mul, r] at h1
  omega

section
variable {H : Type} {enc : TypeId × Value → H} {w : World}

theorem wishes_trod {n : Nat} {v : Value} {d : DataW H} {ps : List MemPlace}
    (hf' : DataW.trod enc Tryz.prog w 0 (fun _ => true) true n 23 [v] = some (d, ps)) (hz : (d.weights Tryz.prog 23).all (· ≤ reachBytes) = true) : ∃ l : List Wish, Ws w v l ∧ (∀ f ∈ l, f.1.size ≤ 140737488351232) ∧ l.length * 24 ≤ 140737488351232 := by
  rcases Go.Deep.open_slice_pairs Tryz.underlying23 Tryz.underlying77 (by kernel_rfl) rfl rfl (by kernel_rfl) (by kernel_rfl) hf' with ⟨hcs, hx⟩ | ⟨ad, len, cap, m, n, V0, V1, D0, D1, P0, P1, hcs, _, hl, hm, hmm, hx, hcell⟩
  · simp only [List.cons.injEq, and_true] at hcs
    subst hcs
    exact ⟨[], Rd.nil w, by simp, by simp⟩
  · simp only [List.cons.injEq, and_true] at hcs
    subst hcs
    simp only [if_true] at hmm
    subst hmm
    simp only [Prod.mk.injEq] at hx
    obtain ⟨rfl, _⟩ := hx
    have each : ∀ i, i < len → ∃ f : Wish, V0 i = .string f.1 ∧ V1 i = .int .i64 f.2 ∧ f.1.size ≤ 140737488351232 := by
      intro i hi
      obtain ⟨_, _, t0, t1⟩ := hcell i (by omega)
      obtain ⟨s, e0, hd0, _⟩ := DataW.trod_string Tryz.underlying9 t0
      obtain ⟨q, e1, hd1, _⟩ := DataW.trod_int Tryz.underlying3 t1
      simp only [List.cons.injEq, and_true] at e0 e1
      have hmem : (DataW.agg [D0 i, D1 i] : DataW H) ∈ (List.range len).map fun i => DataW.agg [D0 i, D1 i] := List.mem_map.2 ⟨i, List.mem_range.2 hi, rfl⟩
      have hw := weights_slice Tryz.underlying23 hz hmem
      refine ⟨(s, q), e0, e1, ?_⟩
      simp only [Prod.mk.injEq] at hd0
      have hw' : (DataW.weightsEach Tryz.prog [9, 3] [D0 i, D1 i]).all (· ≤ reachBytes) = true := by
        simpa [DataW.weights, Tryz.underlying77] using hw
      rw [hd0.1] at hw'
      exact sized_string hw' (j := 0) (t := 9) rfl rfl
    have hlw := weights_len Tryz.underlying23 hz
    rw [bytes_filter, List.length_map, List.length_range] at hlw
    obtain ⟨g, hg⟩ := Go.Deep.choose_lt each
    have hlen : ((List.range len).map g).length = len := by simp
    refine ⟨(List.range len).map g, ?_, ?_, by rw [hlen]; exact hlw⟩
    · unfold Ws
      rw [hlen]
      refine ⟨some ad, _, rfl, hl, hm, (fun e => by cases e), fun ad' e j u hu => ?_⟩
      cases e
      have hj : j < len * 2 := by
        have := (List.getElem?_eq_some_iff.1 hu).1
        rw [wCells_len, hlen] at this
        exact this
      have hi : j / 2 < len := by omega
      have hgi : ((List.range len).map g)[j / 2]? = some (g (j / 2)) := by simp [hi]
      have hwc := wCells_at _ _ _ hgi
      obtain ⟨c0, c1, _, _⟩ := hcell (j / 2) (by omega)
      obtain ⟨v0, v1, _⟩ := hg (j / 2) hi
      rcases Nat.mod_two_eq_zero_or_one j with hp | hp
      · have ej : j / 2 * 2 = j := by omega
        rw [ej] at c0 hwc
        rw [hwc.1] at hu
        cases hu
        rw [c0, v0]
      · have ej : j / 2 * 2 + 1 = j := by omega
        rw [ej] at c1 hwc
        rw [hwc.2] at hu
        cases hu
        rw [c1, v1]
    · intro f hf
      obtain ⟨i, hi, rfl⟩ := List.mem_map.1 hf
      exact (hg i (List.mem_range.1 hi)).2.2

theorem nums_trod {n : Nat} {v : Value} {d : DataW H} {ps : List MemPlace}
    (hf' : DataW.trod enc Tryz.prog w 0 (fun _ => true) true n 54 [v] = some (d, ps)) (hz : (d.weights Tryz.prog 54).all (· ≤ reachBytes) = true) : ∃ l : List Int, Is w v l ∧ l.length * 8 ≤ 140737488351232 := by
  rcases Go.Deep.open_slice Tryz.underlying54 hf' with ⟨hcs, hx⟩ | ⟨ad, len, cap, m, n, D, Pl, hcs, _, hl, hm, hmm, hx, hcell⟩
  · simp only [List.cons.injEq, and_true] at hcs
    subst hcs
    exact ⟨[], Rd.nil w, by simp⟩
  · simp only [List.cons.injEq, and_true] at hcs
    subst hcs
    simp only [if_true] at hmm
    subst hmm
    simp only [Prod.mk.injEq] at hx
    obtain ⟨rfl, _⟩ := hx
    have each : ∀ i, i < len → ∃ x : Int, w.cell? (ad.add i) = some (.int .i64 x) := by
      intro i hi
      obtain ⟨cs', h1, h2⟩ := hcell i (by omega)
      obtain ⟨x, rfl, _, _⟩ := DataW.trod_int Tryz.underlying3 h2
      rw [cells_int, Nat.mul_one] at h1
      obtain ⟨_, _, hcc⟩ := World.cells?_some h1
      have := hcc 0 (by decide)
      rw [Go.Deep.add_add] at this
      exact ⟨x, by simpa using this⟩
    have hlw := weights_len Tryz.underlying54 hz
    rw [bytes_int, List.length_map, List.length_range] at hlw
    obtain ⟨g, hg⟩ := Go.Deep.choose_lt each
    have hlen : ((List.range len).map g).length = len := by simp
    refine ⟨(List.range len).map g, ?_, by rw [hlen]; exact hlw⟩
    unfold Is
    rw [hlen]
    refine ⟨some ad, _, rfl, hl, hm, (fun e => by cases e), fun ad' e j u hu => ?_⟩
    cases e
    have hj : j < len := by
      have := (List.getElem?_eq_some_iff.1 hu).1
      simpa using this
    rw [hg j hj, ← hu]
    simp [hj, iV]

/-- A packet's cells that came in: what they are, and that the rows behind them read. -/
def PacIn (w : World) (p : Pac) (vf vc : Value) : Prop := Ws w vf p.fs ∧ Is w vc p.cs ∧ p.sized 140737488351232 ∧ p.fs.length * 24 ≤ 140737488351232 ∧ p.cs.length * 8 ≤ 140737488351232

theorem pac_cells {n : Nat} {cs : List Value} {d : DataW H} {p : List MemPlace} (h : DataW.trod enc Tryz.prog w 0 (fun _ => true) true n 56 cs = some (d, p)) (hz : (d.weights Tryz.prog 56).all (· ≤ reachBytes) = true) :
    ∃ (p : Pac) (vf vc : Value), cs = p.cells vf vc ∧ PacIn w p vf vc := by
  obtain ⟨xs, n', _, hx, hlen, hxl, hf⟩ := DataW.trod_struct Tryz.underlying56 h
  simp only [Prod.mk.injEq] at hx
  obtain ⟨rfl, rfl⟩ := hx
  rw [cells_pac] at hlen
  match cs, hlen, xs, hxl with
  | [c0, c1, c2, c3, c4, c5, c6, c7, c8, c9, c10, c11, c12, c13, c14, c15, c16, c17, c18, c19, c20, c21, c22, c23], _, [y0, y1, y2, y3, y4, y5, y6, y7, y8], _ =>
    have g0 : DataW.trod enc Tryz.prog w 0 (fun _ => true) true n' 3 [c0] = some y0 := by have := hf 0 _ rfl; simpa [cells_int] using this
    have g1 : DataW.trod enc Tryz.prog w 0 (fun _ => true) true n' 3 [c1] = some y1 := by have := hf 1 _ rfl; simpa [cells_int] using this
    have g2 : DataW.trod enc Tryz.prog w 0 (fun _ => true) true n' 4 [c2] = some y2 := by have := hf 2 _ rfl; simpa [cells_bool] using this
    have g3 : DataW.trod enc Tryz.prog w 0 (fun _ => true) true n' 51 [c3, c4, c5, c6] = some y3 := by have := hf 3 _ rfl; simpa [cells_msg] using this
    have g4 : DataW.trod enc Tryz.prog w 0 (fun _ => true) true n' 53 [c7, c8, c9, c10, c11, c12, c13, c14, c15, c16, c17, c18, c19] = some y4 := by have := hf 4 _ rfl; simpa [cells_con] using this
    have g5 : DataW.trod enc Tryz.prog w 0 (fun _ => true) true n' 4 [c20] = some y5 := by have := hf 5 _ rfl; simpa [cells_bool] using this
    have g6 : DataW.trod enc Tryz.prog w 0 (fun _ => true) true n' 3 [c21] = some y6 := by have := hf 6 _ rfl; simpa [cells_int] using this
    have g7 : DataW.trod enc Tryz.prog w 0 (fun _ => true) true n' 23 [c22] = some y7 := by have := hf 7 _ rfl; simpa [cells_wishes] using this
    have g8 : DataW.trod enc Tryz.prog w 0 (fun _ => true) true n' 54 [c23] = some y8 := by have := hf 8 _ rfl; simpa [cells_nums] using this
    obtain ⟨x0, e0, rfl, _⟩ := DataW.trod_int Tryz.underlying3 g0
    obtain ⟨x1, e1, rfl, _⟩ := DataW.trod_int Tryz.underlying3 g1
    obtain ⟨x2, e2, rfl⟩ := DataW.trod_bool Tryz.underlying4 g2
    obtain ⟨x5, e5, rfl⟩ := DataW.trod_bool Tryz.underlying4 g5
    obtain ⟨x6, e6, rfl, _⟩ := DataW.trod_int Tryz.underlying3 g6
    obtain ⟨d3, p3⟩ := y3
    obtain ⟨d4, p4⟩ := y4
    obtain ⟨d7, p7⟩ := y7
    obtain ⟨d8, p8⟩ := y8
    have hw : (DataW.weightsEach Tryz.prog [3, 3, 4, 51, 53, 4, 3, 23, 54] [DataW.lit (.int .i64 x0), DataW.lit (.int .i64 x1), DataW.lit (.bool x2), d3, d4, DataW.lit (.bool x5), DataW.lit (.int .i64 x6), d7, d8]).all (· ≤ reachBytes) = true := by
      simpa [DataW.weights, Tryz.underlying56] using hz
    obtain ⟨T, X, q, R, e3, hT, hX, _⟩ := msg_cells g3 (sized_at hw (j := 3) (t := 51) rfl rfl)
    obtain ⟨c, e4, hc⟩ := con_cells g4 (sized_at hw (j := 4) (t := 53) rfl rfl)
    obtain ⟨fs, hfs, hfz, hfl⟩ := wishes_trod g7 (sized_at hw (j := 7) (t := 23) rfl rfl)
    obtain ⟨ns, hns, hnl⟩ := nums_trod g8 (sized_at hw (j := 8) (t := 54) rfl rfl)
    simp only [List.cons.injEq, and_true, Con.cells] at e0 e1 e2 e3 e4 e5 e6
    obtain ⟨rfl, rfl, rfl, rfl⟩ := e3
    obtain ⟨rfl, rfl, rfl, rfl, rfl, rfl, rfl, rfl, rfl, rfl, rfl, rfl, rfl⟩ := e4
    subst e0 e1 e2 e5 e6
    exact ⟨⟨x0, x1, x2, T, X, q, R, c, x5, x6, fs, ns⟩, c22, c23, rfl, hfs, hns, ⟨hT, hX, hc, hfz⟩, hfl, hnl⟩

theorem open_pac {r : Reach} {b0 : Nat} {v : Value} {d : DataW H} {p : List MemPlace} (hv : Value.okWide Tryz.prog w r b0 56 v) (h : DataW.Trod enc Tryz.prog w 0 (fun _ => true) true 56 v d p) (hz : (d.weights Tryz.prog 56).all (· ≤ reachBytes) = true) :
    ∃ (p : Pac) (vf vc : Value), v = .agg (p.cells vf vc).toArray ∧ PacIn w p vf vc := by
  obtain ⟨cs, rfl, hsz⟩ := okWide_struct Tryz.underlying56 hv
  obtain ⟨fuel, hf⟩ := h
  obtain ⟨p, vf, vc, hc, h1⟩ := pac_cells hf hz
  refine ⟨p, vf, vc, ?_, h1⟩
  have : cs.toList = p.cells vf vc := by simpa [Value.cells] using hc
  rw [← Array.toArray_toList (xs := cs), this]

/-- A packet in a row, with the values of its slices. -/
abbrev PacV := Pac × Value × Value
def PacV.cells (x : PacV) : List Value := x.1.cells x.2.1 x.2.2
instance : Inhabited PacV := ⟨(Pac.zero, .slice none 0 0, .slice none 0 0)⟩
theorem open_pacs {r : Reach} {b0 : Nat} {v : Value} {d : DataW H} {ps : List MemPlace} (hval : Value.okWide Tryz.prog w r b0 44 v)
    (h : DataW.Trod enc Tryz.prog w 0 (fun _ => true) true 44 v d ps) (hz : (d.weights Tryz.prog 44).all (· ≤ reachBytes) = true) : ∃ l : List PacV, Rd w v l.length (l.flatMap PacV.cells) ∧ ∀ x ∈ l, PacIn w x.1 x.2.1 x.2.2 :=
  open_rows PacV.cells 24 (by decide) (fun _ => rfl) Tryz.underlying44 cells_pac (fun x => PacIn w x.1 x.2.1 x.2.2) (fun n cs d p h hz => by
    obtain ⟨p, vf, vc, h1, h2⟩ := pac_cells h hz
    exact ⟨(p, vf, vc), h1, h2⟩) hval h hz
end
end Go.Proofs.YtclicjokgfiegaaGreatDoor

/- Packets: rows of packets that grow. -/
namespace Go.Proofs.YtclicjokgfiegaaGreatDoor
open Go.RowKit
set_option linter.unusedVariables false
set_option linter.unusedSimpArgs false

theorem info_pacz : (Tryz.prog.info? 56).map (fun i => (i.zero, i.size, i.bytes)) = some (some (.agg (zK 0).toArray), 24, 280) := by kernel_rfl
theorem pacv_len (x : PacV) : (PacV.cells x).length = 24 := rfl
theorem pcells_len : ∀ l : List PacV, (l.flatMap PacV.cells).length = l.length * 24
  | [] => rfl
  | x :: t => by rw [List.flatMap_cons, List.length_append, pcells_len t, pacv_len, List.length_cons]; omega
theorem pacv_one (x : PacV) (hf : x.2.1.oneCell' = true) (hc : x.2.2.oneCell' = true) : ∀ v ∈ PacV.cells x, v.oneCell' = true := Pac.one x.1 x.2.1 x.2.2 hf hc
/-- A row of packets that is the call's own: its cells, and what lies behind them, apart from it. -/
structure OwnPs (B : Nat) (w : World) (v : Value) (l : List PacV) : Prop where
  row : w.ownsRow B 56 24 v l.length (l.flatMap PacV.cells)
  each : ∀ x ∈ l, PacOwn B w x.1 x.2.1 x.2.2 ∧ (∀ k, k ∈ blk x.2.1 → k ∉ blk v) ∧ (∀ k, k ∈ blk x.2.2 → k ∉ blk v)
theorem OwnPs.nil (B : Nat) (w : World) : OwnPs B w (.slice none 0 0) [] := ⟨⟨rfl, .inl ⟨rfl, rfl⟩⟩, by simp⟩
theorem OwnPs.kept {B B' : Nat} {w w' : World} {v : Value} {l : List PacV} (h : OwnPs B w v l) (hb : Below B' w w') (hB : w.heap.size ≤ B') : OwnPs B w' v l :=
  ⟨Owns.kept h.row hb hB, fun x hx => ⟨(h.each x hx).1.kept hb hB, (h.each x hx).2⟩⟩
theorem blk_ge {w : World} {B e size n : Nat} {v : Value} {xs : List Value} (h : w.ownsRow B e size v n xs) {k : Nat} (hk : k ∈ blk v) : B ≤ k := (h.lt k (by simpa [blk] using hk)).1
theorem own_keeps {S : List Nat} {w w' : World} {B e size n : Nat} {v : Value} {xs : List Value} (hk : Keeps S w w') (h : w.ownsRow B e size v n xs) (ho : ∀ k, k ∈ blk v → k ∉ S) : w'.ownsRow B e size v n xs := by
  refine ⟨h.1, ?_⟩
  rcases h.2 with h0 | ⟨g, cap, cur, rfl, h1, h2, h3⟩
  · exact .inl h0
  · exact .inr ⟨g, cap, cur, rfl, h1, by rw [hk.block g (Array.getElem?_eq_some_iff.1 h2).1 (ho g (by simp [blk, Value.ownBlock]))]; exact h2, h3⟩
theorem OwnPs.le {B B' : Nat} {w : World} {v : Value} {l : List PacV} (h : OwnPs B w v l) (hB : B' ≤ B) : OwnPs B' w v l := ⟨Owns.le h.row hB, fun x hx => ⟨(h.each x hx).1.le hB, (h.each x hx).2⟩⟩
theorem OwnPs.keeps0 {B : Nat} {w w' : World} {v : Value} {l : List PacV} (h : OwnPs B w v l) (hk : Keeps [] w w') : OwnPs B w' v l :=
  ⟨own_keeps hk h.row (fun k _ => by simp), fun x hx => ⟨(h.each x hx).1.keeps hk (fun k hk => by simp at hk), (h.each x hx).2⟩⟩
set_option maxRecDepth 100000 in
theorem build_row (p : Pac) (vf vc : Value) (W : World) : (Instr.buildSlice 44 1 #[(0, .agg (p.cells vf vc).toArray)]).run Tryz.prog W = .ok (.slice (some ⟨W.heap.size, 0, none⟩) 1 1) (W.alloc (.cells (p.cells vf vc).toArray 56)) := by
  simp [Instr.buildSlice, go_sem, Pac.cells]
/-- The row of one that an append takes is built. -/
theorem wpl_buildSlice {P : Program} {w : World} {ops : Array Oper} {rest : List Oper} {o : Oper} {a : Act} {Q : Exit → Act → World → Prop} (hgd : o.guard = none) (ty : TypeId) (n : Nat) (parts : Array (Nat × Operand)) (ho : o.op = .buildSlice ty n parts) (vals : Array (Nat × Value))
    (hp : parts.map (fun (i, x) => (i, a.eval x)) = vals) (v : Value) (w' : World) (hr : (Instr.buildSlice ty n vals).run P w = .ok v w') (h : wpList P ops Q rest (a.put o.dst v) w') : wpList P ops Q (o :: rest) a w := by
  refine wpList_plain hgd fun K hK => ?_
  unfold Oper.wp execOp
  simp only [ho, hp, Sem.run_bind, Sem.run_pure, hr, Result.andThen_ok]
  exact hK _ _ h
/-- The same of one part. -/
theorem wpl_buildSlice1 {P : Program} {w : World} {ops : Array Oper} {rest : List Oper} {o : Oper} {a : Act} {Q : Exit → Act → World → Prop} (hgd : o.guard = none) (ty : TypeId) (x : Operand) (ho : o.op = .buildSlice ty 1 #[(0, x)]) (u : Value)
    (hx : a.eval x = u) (v : Value) (w' : World) (hr : (Instr.buildSlice ty 1 #[(0, u)]).run P w = .ok v w') (h : wpList P ops Q rest (a.put o.dst v) w') : wpList P ops Q (o :: rest) a w := by
  refine wpList_plain hgd fun K hK => ?_
  unfold Oper.wp execOp
  simp only [ho, List.map_toArray, List.map_cons, List.map_nil, hx, Sem.run_bind, Sem.run_pure, hr, Result.andThen_ok]
  exact hK _ _ h
/-- append(l, p) of one packet: its block has been laid at g. -/
theorem wpl_appPs {w : World} {ops : Array Oper} {rest : List Oper} {o : Oper} {a : Act} {Q : Exit → Act → World → Prop} (hgd : o.guard = none) (s x : Operand)
    (ho : o.op = .call { callee := .builtin .append, args := #[s, x], argTypes := #[44, 44] })
    (B : Nat) (v : Value) (l : List PacV) (hv : a.eval s = v) (hown : OwnPs B w v l) (p : Pac) (vf vc : Value) (g : Nat) (hx : a.eval x = .slice (some ⟨g, 0, none⟩) 1 1) (hg : At w g (p.cells vf vc))
    (hp : PacOwn B w p vf vc) (hf : ∀ k, k ∈ blk vf → k ∉ blk v) (hc : ∀ k, k ∈ blk vc → k ∉ blk v) (hlen : l.length < 2000000) (hB : B ≤ w.heap.size)
    (h : ∀ v' w', OwnPs B w' v' (l ++ [(p, vf, vc)]) → Keeps (blk v) w w' → Below B w w' → (∀ k, k ∈ blk v' → k ∈ blk v ∨ w.heap.size ≤ k) → wpList Tryz.prog ops Q rest (a.put o.dst v') w') : wpList Tryz.prog ops Q (o :: rest) a w := by
  obtain ⟨i0, hi, hz0, hz1, hz2⟩ := info_parts info_pacz
  have h1 : ∀ u ∈ p.cells vf vc, u.oneCell' = true := Pac.one p vf vc hp.rd.f.oneCell hp.rd.c.oneCell
  have hrow0 : w.ownsRow 0 56 24 v l.length (l.flatMap PacV.cells) := Owns.le hown.row (Nat.zero_le _)
  obtain ⟨v', w', hr, h2, h3, h4⟩ := app_block (P := Tryz.prog) w 44 o.type 56 i0 (.agg (zK 0).toArray) 24 280 Tryz.underlying44 hi hz0 hz1 hz2 rfl (by decide) v l.length (l.flatMap PacV.cells)
    hrow0 ⟨g, 0, none⟩ 1 1 (p.cells vf vc) rfl (fun j u hu => by rw [Go.WideShapes.add_plain, Nat.zero_add]; exact hg.at j hu) h1 (by unfold maxLen; omega) (by omega)
  have hkB : Below B w w' := h3.toBelow hB (fun k hk => blk_ge hown.row hk)
  refine wpList_plain hgd fun K hK => ?_
  unfold Oper.wp execOp
  simp only [ho, resolve, invoke, builtin, Sem.run_bind, Sem.run_pure, Result.andThen_ok, List.map_toArray, List.map_cons, List.map_nil, hv, hx, hr]
  have hblk : ∀ k, k ∈ blk v' → B ≤ k := fun k hk => by
    rcases h4 k hk with h5 | h5
    · exact blk_ge hown.row h5
    · omega
  have hrow : w'.ownsRow B 56 24 v' (l.length + 1) (l.flatMap PacV.cells ++ p.cells vf vc) := by
    refine ⟨h2.1, ?_⟩
    rcases h2.2 with h0 | ⟨g', cap, cur, rfl, hg1, hg2, hg3⟩
    · exact .inl h0
    · exact .inr ⟨g', cap, cur, rfl, hblk g' (by simp [blk, Value.ownBlock]), hg2, hg3⟩
  have apart : ∀ (q : Value), (∀ k, k ∈ blk q → k < w.heap.size) → (∀ k, k ∈ blk q → k ∉ blk v) → ∀ k, k ∈ blk q → k ∉ blk v' := fun q hq hn k hk hm => by
    rcases h4 k hm with h5 | h5
    · exact hn k hk h5
    · have := hq k hk; omega
  have keep : ∀ (y : PacV), PacOwn B w y.1 y.2.1 y.2.2 → (∀ k, k ∈ blk y.2.1 → k ∉ blk v) → (∀ k, k ∈ blk y.2.2 → k ∉ blk v) → PacOwn B w' y.1 y.2.1 y.2.2 ∧ (∀ k, k ∈ blk y.2.1 → k ∉ blk v') ∧ (∀ k, k ∈ blk y.2.2 → k ∉ blk v') := fun y hy ha hb =>
    ⟨⟨own_keeps h3 hy.f ha, own_keeps h3 hy.c hb, hy.lf, hy.lc⟩, apart _ (fun k hk => blk_lt hy.f hk) ha, apart _ (fun k hk => blk_lt hy.c hk) hb⟩
  refine hK _ _ (h v' w' ⟨?_, fun y hy => ?_⟩ h3 hkB h4)
  · rw [List.length_append, List.flatMap_append]
    simpa [PacV.cells] using hrow
  · rcases List.mem_append.1 hy with hy | hy
    · obtain ⟨e1, e2, e3⟩ := hown.each y hy
      exact keep y e1 e2 e3
    · obtain rfl := List.mem_singleton.1 hy
      exact keep (p, vf, vc) hp hf hc
end Go.Proofs.YtclicjokgfiegaaGreatDoor

/- Packets: all of them: the walk. -/
namespace Go.Proofs.YtclicjokgfiegaaGreatDoor
open Go.RowKit
set_option linter.unusedVariables false
set_option linter.unusedSimpArgs false

def GivesAllP (w : World) (r : List Pac × Int × Int) (e : Ending) (w' : World) : Prop :=
  ∃ v xs, e = .returned (.tuple #[v, .int .i64 r.2.1, .int .i64 r.2.2]) ∧ OwnPs w.heap.size w' v xs ∧ xs.map (·.1) = r.1 ∧ Below w.heap.size w w'
structure AllP (wb : World) (b : List UInt8) (v : Value) (xs : List PacV) (a : Nat) (w' : World) : Prop where
  own : OwnPs wb.heap.size w' v xs
  le : a ≤ b.length
  cnt : xs.length ≤ a
  eq : paAllB b = (xs.map (·.1) ++ (paAll (b.length - a + 1) b a).1, (paAll (b.length - a + 1) b a).2)
  below : Below wb.heap.size wb w'
theorem AllP.step {wb w1 w2 : World} {b : List UInt8} {v v' : Value} {xs : List PacV} {a : Nat} (h : AllP wb b v xs a w1) (x : PacV) (hx : x.1 = (paOne b a).1) (hok : (paOne b a).2.2.1 = true) (ho : OwnPs wb.heap.size w2 v' (xs ++ [x])) (hb : Below wb.heap.size wb w2) :
    AllP wb b v' (xs ++ [x]) (paOne b a).2.1.toNat w2 := by
  have hr := paOne_rng hok
  have hle := h.le
  have hc := h.cnt
  refine ⟨ho, by omega, by rw [List.length_append, List.length_singleton]; omega, ?_, hb⟩
  obtain ⟨m, hm⟩ : ∃ m, b.length - a = m + 1 := ⟨b.length - a - 1, by omega⟩
  rw [h.eq, hm, paAll_succ (m + 1), if_pos hok, paAll_fuel b m (b.length - (paOne b a).2.1.toNat) (paOne b a).2.1.toNat (by omega) (by omega)]
  simp [hx]
set_option maxRecDepth 100000 in
set_option maxHeartbeats 8000000 in
theorem packAll_c (s : ByteArray) (w : World) (hs : s.size ≤ 1048576) (hH : EnvH w) (hE : EnvU w) :
    Calls Tryz.prog 18 #[.string s] w (GivesAllP w (paAllB (sB s))) := by
  have HE := hd hE; have HH := hd hH
  clear hE hH
  obtain ⟨bc, wb, hrun, hB, hb⟩ := run_bytes s (by omega) w
  have hbl : (sB s).length = s.size := sB_lenP s
  generalize sB s = b at *
  have HB := hd hB; have hbm : b.length ≤ 1048576 := by omega
  clear hB hbl
  go_enter Tryz.func18, Tryz.ntmps18
  go_wp2_with fail
  have I0 : AllP wb b (.slice none 0 0) [] 0 wb := ⟨OwnPs.nil _ _, Nat.zero_le _, Nat.zero_le _, by unfold paAllB; simp, Below.refl _ _⟩
  go_loopw [5, 7] (fun v a w' => ∃ (xs : List PacV) (n : Nat), a = .int .i64 n ∧ AllP wb b v xs n w') (fun _ a _ => match a with | .int _ m => b.length - m.toNat | _ => 0)
  case atStart => exact ⟨[], 0, rfl, I0⟩
  case round =>
    obtain ⟨xs, n, rfl, I⟩ := hrel
    have HI := hd I
    have hle := I.le
    clear I I0
    go_wp2_with fail
    have hBr := Below.up hb HI.out.below
    have hc := one16_c (.slice (some ⟨w.heap.size, 0, none⟩) b.length bc) b n wr (HB.out.below' HI.out.below (Nat.le_refl _)) (by omega) (HH.out.below hBr (Nat.le_refl _)) (HE.out.below hBr)
    refine hc.mono ?_
    rintro e w2 ⟨vf, vc, rfl, hr2, hb2⟩
    clear hc
    have hst := fun (v' : Value) (w3 : World) (hok : (paOne b n).2.2.1 = true) (ho : OwnPs wb.heap.size w3 v' (xs ++ [((paOne b n).1, vf, vc)])) (hB3 : Below wb.heap.size wb w3) => HI.out.step ((paOne b n).1, vf, vc) rfl hok ho hB3
    have hend : (paOne b n).2.2.1 = false → paAllB b = (xs.map (·.1), (n : Int), (paOne b n).2.2.2) := fun hok => by
      rw [HI.out.eq, paAll_succ, if_neg (by rw [hok]; simp)]
      simp
    have hrg := @paOne_rng b n
    generalize paOne b n = r at *
    obtain ⟨P, q, ok, E⟩ := r
    have HST := hd hst; have HEN := hd hend; have HRG := hd hrg
    clear hst hend hrg
    have hw := HI.out.below.size
    have hz2 := hb2.size
    have hor : OwnPs wb.heap.size w2 u5 xs := HI.out.own.kept hb2 (Nat.le_refl _)
    have B2 : Below wb.heap.size wb w2 := HI.out.below.trans (hb2.mono hw)
    have hone := Pac.one P vf vc hr2.rd.f.oneCell hr2.rd.c.oneCell
    have hcnt := HI.out.cnt
    have HOR := hd hor
    clear hor
    simp only
    cases ok with
    | false =>
      go_wp2_with (first
        | (with_reducible refine wpl_alloc (o := ⟨some 8, .alloc 56, _, _, _, _⟩) rfl _ rfl (zK 0) alloc_pac _ rfl ?_; intro w3 h3 f3 b3 z3; have B3 := B2.trans (b3.mono (by omega)))
        | ((with_reducible refine wpl_at (o := ⟨none, .store 56 (.tmp 8) (.tmp 18), _, _, _, _⟩) ?_); refine wpl_storeAll rfl rfl _ _ _ rfl w2.heap.size (P.cells vf vc) (zK 0) rfl rfl info_pac hone h3 rfl f3 ?_; intro w4 h4 f4 k4 z4; have K4 : Keeps [] w2 w4 := (Keeps.below b3).next k4 (by intro i hi; simp at hi; subst hi; exact .inr (Nat.le_refl _)); have B4 := B3.trans (k4.toBelow (by omega) (by simp; omega))))
      go_ret3
      have he : paAllB b = (xs.map (·.1), (n : Int), E) := HEN.out (by first | rfl | trivial)
      rw [he]
      refine ⟨_, xs, rfl, ?_, rfl, ?_⟩
      · exact (HOR.out.keeps0 K4).le hb.size
      · exact Below.up hb B4
    | true =>
      have hr4 : PacOwn wr.heap.size w2 P vf vc := hr2
      go_wp2_with (first
        | (with_reducible refine wpl_alloc (o := ⟨some 8, .alloc 56, _, _, _, _⟩) rfl _ rfl (zK 0) alloc_pac _ rfl ?_; intro w3 h3 f3 b3 z3; have B3 := B2.trans (b3.mono (by omega)))
        | ((with_reducible refine wpl_at (o := ⟨none, .store 56 (.tmp 8) (.tmp 18), _, _, _, _⟩) ?_); refine wpl_storeAll rfl rfl _ _ _ rfl w2.heap.size (P.cells vf vc) (zK 0) rfl rfl info_pac hone h3 rfl f3 ?_; intro w4 h4 f4 k4 z4; have K4 : Keeps [] w2 w4 := (Keeps.below b3).next k4 (by intro i hi; simp at hi; subst hi; exact .inr (Nat.le_refl _)); have B4 := B3.trans (k4.toBelow (by omega) (by simp; omega)))
        | ((with_reducible refine wpl_at (o := ⟨some 28, .load 56 (.tmp 8), _, _, _, _⟩) ?_); refine wpl_loadAt rfl _ _ rfl w2.heap.size 0 rfl (P.cells vf vc) _ h4.range Tryz.underlying56 rfl info_pac ?_)
        | ((with_reducible refine wpl_at (o := ⟨some 29, .buildSlice 44 1 #[(0, .tmp 28)], _, _, _, _⟩) ?_); refine wpl_buildSlice1 rfl _ _ rfl (.agg (P.cells vf vc).toArray) rfl _ (w4.alloc (.cells (P.cells vf vc).toArray 56)) (build_row P vf vc w4) ?_; have b5 := (Below.refl w4.heap.size w4).alloc (Nat.le_refl _) (.cells (P.cells vf vc).toArray 56); have h5 : At (w4.alloc (.cells (P.cells vf vc).toArray 56)) w4.heap.size (P.cells vf vc) := At.new _ _ _; generalize w4.alloc (.cells (P.cells vf vc).toArray 56) = w5 at *; have K5 := K4.trans (Keeps.below b5); have ho5 := HOR.out.keeps0 K5; have hr5 := hr4.keeps K5 (fun k hk => by simp at hk); have B5 := B4.trans (b5.mono B4.size))
        | (at_builtin; refine wpl_appPs rfl _ _ rfl wb.heap.size u5 xs rfl ho5 P vf vc w4.heap.size rfl h5 (hr5.le hw) (fun k hk hm => by have h1 := blk_ge hr5.f hk; have h2 := blk_lt HI.out.own.row hm; omega) (fun k hk hm => by have h1 := blk_ge hr5.c hk; have h2 := blk_lt HI.out.own.row hm; omega) (by omega) (by have := B5.size; omega) ?_; intro v6 w6 ho6 hk6 hb6 hn6))
      obtain ⟨rg1, rg2⟩ : (n : Int) + 1 ≤ q ∧ q ≤ b.length := HRG.out (by first | rfl | trivial)
      have I6 : AllP wb b v6 (xs ++ [(P, vf, vc)]) q.toNat w6 := HST.out v6 w6 (by first | rfl | trivial) ho6 (B5.trans hb6)
      go_roundw
      case rel => exact ⟨xs ++ [(P, vf, vc)], q.toNat, by rw [Int.toNat_of_nonneg (by omega)], I6⟩
      all_goals (show b.length - q.toNat < b.length - (n : Int).toNat; omega)
end Go.Proofs.YtclicjokgfiegaaGreatDoor

/- Who comes: what bytes tell, by the reference: the walks (printed by wip/gen/conref.py). -/
namespace Go.Proofs.YtclicjokgfiegaaGreatDoor
open Go.RowKit
set_option linter.unusedVariables false
set_option linter.unusedSimpArgs false

def q4 (l : List UInt8) (s : Int × Int) : Int × Int := rTextS (uGet l s.1) true s
def q5 (hw : Bool) (l : List UInt8) (s : Int × Int) : Int × Int := rTextS (uGet l (q4 l s).1) hw (q4 l s)
def q6 (hw : Bool) (l : List UInt8) (s : Int × Int) : Int × Int := rTextS (uGetRaw l (q5 hw l s).1) hw (q5 hw l s)
def q7 (hw hu : Bool) (l : List UInt8) (s : Int × Int) : Int × Int := rTextS (uGet l (q6 hw l s).1) hu (q6 hw l s)
def q8 (hw hu hp : Bool) (l : List UInt8) (s : Int × Int) : Int × Int := rTextS (uGetRaw l (q7 hw hu l s).1) hp (q7 hw hu l s)
def qCon (c : Con) (l : List UInt8) (s : Int × Int) (q : Int) (r : Bool) : Con :=
  ⟨c.level, c.clean, c.keep, sOf (uGet l s.1).1, c.hasWill, if c.hasWill = true then sOf (uGet l (q4 l s).1).1 else c.topic, if c.hasWill = true then sOf (uGetRaw l (q5 c.hasWill l s).1).1 else c.text, if c.hasWill = true then q else c.qos, if c.hasWill = true then r else c.retain,
    c.hasUser, if c.hasUser = true then sOf (uGet l (q6 c.hasWill l s).1).1 else c.user, c.hasPass, if c.hasPass = true then sOf (uGetRaw l (q7 c.hasWill c.hasUser l s).1).1 else c.pass⟩
def qRest (c : Con) (l : List UInt8) (s : Int × Int) (q : Int) (r : Bool) : Con × Int :=
  if (q8 c.hasWill c.hasUser c.hasPass l s).2 ≠ 0 then (Con.zero, (q8 c.hasWill c.hasUser c.hasPass l s).2)
  else if (q8 c.hasWill c.hasUser c.hasPass l s).1 ≠ l.length then (Con.zero, 4) else (qCon c l s q r, 0)

theorem qText_stuck (g : List UInt8 × Int × Int) (is : Bool) {st : Int × Int} (h : st.2 ≠ 0) : rTextS g is st = st := by
  unfold rTextS; repeat' split
  all_goals first | rfl | contradiction
theorem q7_bad {hw hu hp : Bool} {l : List UInt8} {s : Int × Int} (h : (q7 hw hu l s).2 ≠ 0) : q8 hw hu hp l s = q7 hw hu l s := qText_stuck _ _ h
theorem q6_bad {hw hu hp : Bool} {l : List UInt8} {s : Int × Int} (h : (q6 hw l s).2 ≠ 0) : q8 hw hu hp l s = q6 hw l s := by
  have e : q7 hw hu l s = q6 hw l s := qText_stuck _ _ h
  rw [q7_bad (by rw [e]; exact h), e]
theorem q5_bad {hw hu hp : Bool} {l : List UInt8} {s : Int × Int} (h : (q5 hw l s).2 ≠ 0) : q8 hw hu hp l s = q5 hw l s := by
  have e : q6 hw l s = q5 hw l s := qText_stuck _ _ h
  rw [q6_bad (by rw [e]; exact h), e]
theorem q4_bad {hw hu hp : Bool} {l : List UInt8} {s : Int × Int} (h : (q4 l s).2 ≠ 0) : q8 hw hu hp l s = q4 l s := by
  have e : q5 hw l s = q4 l s := qText_stuck _ _ h
  rw [q5_bad (by rw [e]; exact h), e]
theorem qRest_bad {c : Con} {l : List UInt8} {s : Int × Int} {q : Int} {r : Bool} {k : Int × Int} (h : q8 c.hasWill c.hasUser c.hasPass l s = k) (hk : k.2 ≠ 0) : qRest c l s q r = (Con.zero, k.2) := by
  unfold qRest; rw [h, if_pos hk]

def GivesQ (w : World) (r : Con × Int) (e : Ending) (w' : World) : Prop :=
  e = .returned (.tuple #[.agg r.1.cells.toArray, .int .i64 r.2]) ∧ Below w.heap.size w w'

/-- The state of the reference's rest: its result's block, its own. -/
structure RQ (w W : World) (gr gc : Nat) (c : Con) : Prop where
  cr : ConAt W gr Con.zero
  fr : Free W gr
  con : ConAt W gc c
  fc : Free W gc
  b : Below w.heap.size w W
theorem Free.below {w w' : World} {b : Nat} (h : Free w b) (hb : Below w.heap.size w w') (hl : b < w.heap.size) : Free w' b := fun o => (bfree hb _ _ hl).trans (h o)
theorem RQ.call {w W W' : World} {gr gc : Nat} {c : Con} (h : RQ w W gr gc c) (hb : Below W.heap.size W W') : RQ w W' gr gc c :=
  ⟨h.cr.keep hb h.cr.lt, h.fr.below hb h.cr.lt, h.con.keep hb h.con.lt, h.fc.below hb h.con.lt, Below.up h.b hb⟩
theorem RQ.set2 {w W : World} {gr gc : Nat} {c : Con} (h : RQ w W gr gc c) (hne : gr ≠ gc) (hl : w.heap.size ≤ gc) (x : Int) : RQ w (W.setCell ⟨gc, 2, none⟩ (.int .i64 x)) gr gc { c with keep := x } :=
  ⟨h.cr.keeps ((Keeps.refl [gc] W).setCell (.inl (by simp)) _) (by simp [hne]), h.fr.set _ _, h.con.set2 x, h.fc.set _ _, h.b.setCell hl _⟩
theorem RQ.set3 {w W : World} {gr gc : Nat} {c : Con} (h : RQ w W gr gc c) (hne : gr ≠ gc) (hl : w.heap.size ≤ gc) (x : ByteArray) : RQ w (W.setCell ⟨gc, 3, none⟩ (.string x)) gr gc { c with client := x } :=
  ⟨h.cr.keeps ((Keeps.refl [gc] W).setCell (.inl (by simp)) _) (by simp [hne]), h.fr.set _ _, h.con.set3 x, h.fc.set _ _, h.b.setCell hl _⟩
theorem RQ.set5 {w W : World} {gr gc : Nat} {c : Con} (h : RQ w W gr gc c) (hne : gr ≠ gc) (hl : w.heap.size ≤ gc) (x : ByteArray) : RQ w (W.setCell ⟨gc, 5, none⟩ (.string x)) gr gc { c with topic := x } :=
  ⟨h.cr.keeps ((Keeps.refl [gc] W).setCell (.inl (by simp)) _) (by simp [hne]), h.fr.set _ _, h.con.set5 x, h.fc.set _ _, h.b.setCell hl _⟩
theorem RQ.set6 {w W : World} {gr gc : Nat} {c : Con} (h : RQ w W gr gc c) (hne : gr ≠ gc) (hl : w.heap.size ≤ gc) (x : ByteArray) : RQ w (W.setCell ⟨gc, 6, none⟩ (.string x)) gr gc { c with text := x } :=
  ⟨h.cr.keeps ((Keeps.refl [gc] W).setCell (.inl (by simp)) _) (by simp [hne]), h.fr.set _ _, h.con.set6 x, h.fc.set _ _, h.b.setCell hl _⟩
theorem RQ.set7 {w W : World} {gr gc : Nat} {c : Con} (h : RQ w W gr gc c) (hne : gr ≠ gc) (hl : w.heap.size ≤ gc) (x : Int) : RQ w (W.setCell ⟨gc, 7, none⟩ (.int .i64 x)) gr gc { c with qos := x } :=
  ⟨h.cr.keeps ((Keeps.refl [gc] W).setCell (.inl (by simp)) _) (by simp [hne]), h.fr.set _ _, h.con.set7 x, h.fc.set _ _, h.b.setCell hl _⟩
theorem RQ.set8 {w W : World} {gr gc : Nat} {c : Con} (h : RQ w W gr gc c) (hne : gr ≠ gc) (hl : w.heap.size ≤ gc) (x : Bool) : RQ w (W.setCell ⟨gc, 8, none⟩ (.bool x)) gr gc { c with retain := x } :=
  ⟨h.cr.keeps ((Keeps.refl [gc] W).setCell (.inl (by simp)) _) (by simp [hne]), h.fr.set _ _, h.con.set8 x, h.fc.set _ _, h.b.setCell hl _⟩
theorem RQ.set10 {w W : World} {gr gc : Nat} {c : Con} (h : RQ w W gr gc c) (hne : gr ≠ gc) (hl : w.heap.size ≤ gc) (x : ByteArray) : RQ w (W.setCell ⟨gc, 10, none⟩ (.string x)) gr gc { c with user := x } :=
  ⟨h.cr.keeps ((Keeps.refl [gc] W).setCell (.inl (by simp)) _) (by simp [hne]), h.fr.set _ _, h.con.set10 x, h.fc.set _ _, h.b.setCell hl _⟩
theorem RQ.set12 {w W : World} {gr gc : Nat} {c : Con} (h : RQ w W gr gc c) (hne : gr ≠ gc) (hl : w.heap.size ≤ gc) (x : ByteArray) : RQ w (W.setCell ⟨gc, 12, none⟩ (.string x)) gr gc { c with pass := x } :=
  ⟨h.cr.keeps ((Keeps.refl [gc] W).setCell (.inl (by simp)) _) (by simp [hne]), h.fr.set _ _, h.con.set12 x, h.fc.set _ _, h.b.setCell hl _⟩
theorem ConAt.put {W : World} {b : Nat} {c0 : Con} (h : ConAt W b c0) (c : Con) : ConAt (((((((((((((W.setCell ⟨b, 0, none⟩ (.int .i64 c.level)).setCell ⟨b, 1, none⟩ (.bool c.clean)).setCell ⟨b, 2, none⟩ (.int .i64 c.keep)).setCell ⟨b, 3, none⟩ (.string c.client)).setCell ⟨b, 4, none⟩ (.bool c.hasWill)).setCell ⟨b, 5, none⟩ (.string c.topic)).setCell ⟨b, 6, none⟩ (.string c.text)).setCell ⟨b, 7, none⟩ (.int .i64 c.qos)).setCell ⟨b, 8, none⟩ (.bool c.retain)).setCell ⟨b, 9, none⟩ (.bool c.hasUser)).setCell ⟨b, 10, none⟩ (.string c.user)).setCell ⟨b, 11, none⟩ (.bool c.hasPass)).setCell ⟨b, 12, none⟩ (.string c.pass)) b c :=
  (((((((((((((h.set0 c.level).set1 c.clean).set2 c.keep).set3 c.client).set4 c.hasWill).set5 c.topic).set6 c.text).set7 c.qos).set8 c.retain).set9 c.hasUser).set10 c.user).set11 c.hasPass).set12 c.pass)
theorem below_put {w W : World} {b : Nat} (h : Below w.heap.size w W) (hb : w.heap.size ≤ b) (c : Con) : Below w.heap.size w (((((((((((((W.setCell ⟨b, 0, none⟩ (.int .i64 c.level)).setCell ⟨b, 1, none⟩ (.bool c.clean)).setCell ⟨b, 2, none⟩ (.int .i64 c.keep)).setCell ⟨b, 3, none⟩ (.string c.client)).setCell ⟨b, 4, none⟩ (.bool c.hasWill)).setCell ⟨b, 5, none⟩ (.string c.topic)).setCell ⟨b, 6, none⟩ (.string c.text)).setCell ⟨b, 7, none⟩ (.int .i64 c.qos)).setCell ⟨b, 8, none⟩ (.bool c.retain)).setCell ⟨b, 9, none⟩ (.bool c.hasUser)).setCell ⟨b, 10, none⟩ (.string c.user)).setCell ⟨b, 11, none⟩ (.bool c.hasPass)).setCell ⟨b, 12, none⟩ (.string c.pass)) := by
  iterate 13 refine Below.setCell ?_ hb _
  exact h

theorem qRead {w' : World} {gr : Nat} {tmps : Array Value} {C : Con} {x : Int} (h2 : tmps[10]?.getD undef = .pointer (some ⟨gr, 0, none⟩)) (h3 : tmps[11]?.getD undef = .int .i64 x) (hc : ConAt w' gr C) :
    (results Tryz.f136 tmps).run Tryz.prog w' = .ok (.tuple #[.agg C.cells.toArray, .int .i64 x]) w' := by
  simp only [ConAt] at hc
  obtain ⟨d0, d1, d2, d3, d4, d5, d6, d7, d8, d9, d10, d11, d12, dl⟩ := hc
  simp [results, Tryz.results136, go_sem, h2, h3, d0, d1, d2, d3, d4, d5, d6, d7, d8, d9, d10, d11, d12, Con.cells]

theorem qDone {w w' : World} {C X : Con} {l : List UInt8} {s : Int × Int} {q : Int} {r : Bool} {e : Int} (h : qRest C l s q r = (X, e)) (hb : Below w.heap.size w w') : GivesQ w (qRest C l s q r) (.returned (.tuple #[.agg X.cells.toArray, .int .i64 e])) w' := by
  unfold GivesQ; rw [h]; exact ⟨rfl, hb⟩
theorem qRest_form {c : Con} {l : List UInt8} {s : Int × Int} {q : Int} {r : Bool} {n : Int} (h : q8 c.hasWill c.hasUser c.hasPass l s = (n, 0)) (hk : n ≠ l.length) : qRest c l s q r = (Con.zero, 4) := by
  unfold qRest; rw [h, if_neg (by simp), if_pos hk]
theorem qRest_ok {c : Con} {l : List UInt8} {s : Int × Int} {q : Int} {r : Bool} {n : Int} (h : q8 c.hasWill c.hasUser c.hasPass l s = (n, 0)) (hk : n = l.length) : qRest c l s q r = (qCon c l s q r, 0) := by
  unfold qRest; rw [h, if_neg (by simp), if_neg (by simp [hk])]
theorem q5_on {l : List UInt8} {s : Int × Int} {n : Int} (h : q4 l s = (n, 0)) : q5 true l s = ((uGet l n).2.1, (uGet l n).2.2) := by unfold q5; rw [h]; rfl
theorem q6_on {l : List UInt8} {s : Int × Int} {n : Int} (h : q5 true l s = (n, 0)) : q6 true l s = ((uGetRaw l n).2.1, (uGetRaw l n).2.2) := by unfold q6; rw [h]; rfl
theorem q7_on {hw : Bool} {l : List UInt8} {s : Int × Int} {n : Int} (h : q6 hw l s = (n, 0)) : q7 hw true l s = ((uGet l n).2.1, (uGet l n).2.2) := by unfold q7; rw [h]; rfl
theorem q8_on {hw hu : Bool} {l : List UInt8} {s : Int × Int} {n : Int} (h : q7 hw hu l s = (n, 0)) : q8 hw hu true l s = ((uGetRaw l n).2.1, (uGetRaw l n).2.2) := by unfold q8; rw [h]; rfl
theorem q6_off (l : List UInt8) (s : Int × Int) : q6 false l s = q4 l s := rfl
theorem q7_off (hw : Bool) (l : List UInt8) (s : Int × Int) : q7 hw false l s = q6 hw l s := rfl
theorem q8_off (hw hu : Bool) (l : List UInt8) (s : Int × Int) : q8 hw hu false l s = q7 hw hu l s := rfl

end Go.Proofs.YtclicjokgfiegaaGreatDoor

/- Who comes: what bytes tell, by the reference: plain laws: the program answers so. -/
namespace Go.Proofs.YtclicjokgfiegaaGreatDoor
open Go.RowKit
set_option linter.unusedVariables false
set_option linter.unusedSimpArgs false

theorem k9_of3 {l : List UInt8} {s : Int × Int} (h : (k3 l s).2 ≠ 0) : k9 l s = k3 l s := by
  have e4 : k4 l s = k3 l s := qText_stuck _ _ h
  have e5 : k5 l s = k3 l s := by unfold k5; rw [e4]; exact qText_stuck _ _ h
  have e6 : k6 l s = k3 l s := by unfold k6; rw [e5]; exact qText_stuck _ _ h
  have e7 : k7 l s = k3 l s := by unfold k7; rw [e6]; exact qText_stuck _ _ h
  have e8 : k8 l s = k3 l s := by unfold k8; rw [e7]; exact qText_stuck _ _ h
  unfold k9
  rw [e8, if_neg (by simp [h])]
theorem k9_of2 {l : List UInt8} {s : Int × Int} (h : (k2 l s).2 ≠ 0) : k9 l s = k2 l s := by
  have e3 : k3 l s = k2 l s := by unfold k3 rTwoS; rw [if_pos h]
  rw [k9_of3 (by rw [e3]; exact h), e3]
theorem k9_of1 {l : List UInt8} {s : Int × Int} (h : (k1 l s).2 ≠ 0) : k9 l s = k1 l s := by
  have e2 : k2 l s = k1 l s := by unfold k2; rw [if_neg (by simp [h])]
  rw [k9_of2 (by rw [e2]; exact h), e2]

/-! ### what Of answers, step by step -/
theorem cOf_get {l : List UInt8} {e : Int} (h : (uGet l 0).2.2 = e) (he : e ≠ 0) : cOf l = (Con.zero, e) := by
  have hn : cNm l = [] := uGet_bad (by rw [h]; exact he)
  have ht : (cT0 l).2 = e := h
  unfold cOf
  rw [if_pos (by rw [hn]; simp)]
  unfold cFin rFail
  rw [if_neg (by simp [ht, he])]
  simp [ht, he]
theorem cOf_name {l : List UInt8} (h : (uGet l 0).2.2 = 0) (hn : (uGet l 0).1 ≠ [77, 81, 84, 84]) : cOf l = (Con.zero, 15) := by
  have ht : (cT0 l).2 = 0 := h
  unfold cOf
  rw [if_pos (show cNm l ≠ _ from hn)]
  unfold cFin rFail
  rw [if_pos ht]
  rfl
theorem cOf_lv {l : List UInt8} {n : Int} (h : uGet l 0 = ([77, 81, 84, 84], n, 0)) (hl : (l.length : Int) ≤ n) : cOf l = (Con.zero, 2) := by
  have hn : cNm l = [77, 81, 84, 84] := by unfold cNm; rw [h]; rfl
  have ht : cT0 l = (n, 0) := by unfold cT0; rw [h]; rfl
  have hv : cLv l = 0 := by unfold cLv rOneV; rw [ht, if_neg (by simp), if_pos hl]
  have h1 : cT1 l = (n, 2) := by unfold cT1 rOneS; rw [ht, if_neg (by simp), if_pos hl]
  unfold cOf
  rw [if_neg (by simp [hn]), hv, if_neg (by decide), h1]
  rfl
theorem cOf_lv4 {l : List UInt8} {n : Int} (h : uGet l 0 = ([77, 81, 84, 84], n, 0)) (hl : n < l.length) (hb : (bN l n.toNat : Int) ≠ 4) : cOf l = ({ Con.zero with level := (bN l n.toNat : Int) }, 0) := by
  have hn : cNm l = [77, 81, 84, 84] := by unfold cNm; rw [h]; rfl
  have ht : cT0 l = (n, 0) := by unfold cT0; rw [h]; rfl
  have hv : cLv l = bN l n.toNat := by unfold cLv rOneV; rw [ht, if_neg (by simp), if_neg (by simp only; omega)]
  have h1 : cT1 l = (n + 1, 0) := by unfold cT1 rOneS; rw [ht, if_neg (by simp), if_neg (by simp only; omega)]
  unfold cOf
  rw [if_neg (by simp [hn]), hv, if_neg hb, h1]
  rfl
/-- level 4: the rest tells -/
theorem cOf_4 {l : List UInt8} {n : Int} (h : uGet l 0 = ([77, 81, 84, 84], n, 0)) (hl : n < l.length) (hb : (bN l n.toNat : Int) = 4) : cOf l = cFin (kCon 4 l (n + 1, 0)) (k9 l (n + 1, 0)) := by
  have hn : cNm l = [77, 81, 84, 84] := by unfold cNm; rw [h]; rfl
  have ht : cT0 l = (n, 0) := by unfold cT0; rw [h]; rfl
  have hv : cLv l = bN l n.toNat := by unfold cLv rOneV; rw [ht, if_neg (by simp), if_neg (by simp only; omega)]
  have h1 : cT1 l = (n + 1, 0) := by unfold cT1 rOneS; rw [ht, if_neg (by simp), if_neg (by simp only; omega)]
  unfold cOf
  rw [if_neg (by simp [hn]), hv, if_pos hb, h1]
theorem cFin_bad {C : Con} {s : Int × Int} (h : s.2 ≠ 0) : cFin C s = (Con.zero, s.2) := by unfold cFin; rw [if_neg h]
theorem c4_short {l : List UInt8} {n : Int} (hl : (l.length : Int) ≤ n) : cFin (kCon 4 l (n, 0)) (k9 l (n, 0)) = (Con.zero, 2) := by
  have h1 : k1 l (n, 0) = (n, 2) := by unfold k1 rOneS; rw [if_neg (by simp), if_pos hl]
  rw [k9_of1 (by rw [h1]; simp), h1]
  rfl
theorem kf_is {l : List UInt8} {n : Int} (hl : n < l.length) : kf l (n, 0) = bN l n.toNat := by unfold kf rOneV; rw [if_neg (by simp), if_neg (by simp only; omega)]
theorem k1_is {l : List UInt8} {n : Int} (hl : n < l.length) : k1 l (n, 0) = (n + 1, 0) := by unfold k1 rOneS; rw [if_neg (by simp), if_neg (by simp only; omega)]
theorem c4_flags {l : List UInt8} {n : Int} (hl : n < l.length) (hm : cMay (bN l n.toNat) = false) : cFin (kCon 4 l (n, 0)) (k9 l (n, 0)) = (Con.zero, 10) := by
  have h2 : k2 l (n, 0) = (n + 1, 10) := by unfold k2; rw [k1_is hl, kf_is hl, hm, if_pos ⟨rfl, rfl⟩]; rfl
  rw [k9_of2 (by rw [h2]; simp), h2]
  rfl
theorem k2_is {l : List UInt8} {n : Int} (hl : n < l.length) (hm : cMay (bN l n.toNat) = true) : k2 l (n, 0) = (n + 1, 0) := by
  unfold k2; rw [k1_is hl, kf_is hl, hm, if_neg (by simp)]
theorem k3_is {l : List UInt8} {n : Int} (hl : n < l.length) (hm : cMay (bN l n.toNat) = true) : k3 l (n, 0) = ((uGet2 l (n + 1)).2.1, (uGet2 l (n + 1)).2.2) := by
  unfold k3; rw [k2_is hl hm]; rfl
theorem c4_two {l : List UInt8} {n : Int} (hl : n < l.length) (hm : cMay (bN l n.toNat) = true) (he : (uGet2 l (n + 1)).2.2 ≠ 0) : cFin (kCon 4 l (n, 0)) (k9 l (n, 0)) = (Con.zero, (uGet2 l (n + 1)).2.2) := by
  have h3 := k3_is hl hm
  rw [k9_of3 (by rw [h3]; exact he), h3]
  exact cFin_bad he

/-- the flags' bits as the reference reads them -/
theorem fb_of {f : Int} (h0 : 0 ≤ f) (h1 : f ≤ 255) : fb f 2 = (f / 2 % 2 == 1) ∧ fb f 4 = (f / 4 % 2 == 1) ∧ fb f 32 = (f / 32 % 2 == 1) ∧ fb f 64 = (f / 64 % 2 == 1) ∧ fb f 128 = decide (128 ≤ f) := by
  obtain ⟨-, b2, b4, b32, b64, b128, -⟩ := bits_of h0 h1
  unfold fb
  rw [b2, b4, b32, b64, b128]
  have c : ∀ x : Int, x = 0 ∨ x = 1 → ∀ k : Int, 0 < k → (x * k != 0) = (x == 1) := by
    intro x hx k hk
    rcases hx with rfl | rfl
    · simp
    · have : k ≠ 0 := by omega
      simp [this]
  refine ⟨c _ (by omega) 2 (by omega), c _ (by omega) 4 (by omega), c _ (by omega) 32 (by omega), c _ (by omega) 64 (by omega), ?_⟩
  rw [c _ (by omega) 128 (by omega)]
  by_cases h : 128 ≤ f
  · rw [decide_eq_true h]; have : f / 128 % 2 = 1 := by omega
    rw [this]; rfl
  · rw [decide_eq_false h]; have : f / 128 % 2 = 0 := by omega
    rw [this]; rfl

/-- WHAT STANDS BEHIND KEEP: the program's answer is the reference's. -/
theorem c4_rest {l : List UInt8} {n m N : Int} (hl : n < l.length) (hm : cMay (bN l n.toNat) = true) (hg : uGet2 l (n + 1) = (N, m, 0)) :
    cFin (kCon 4 l (n, 0)) (k9 l (n, 0)) = qRest ⟨4, fb (bN l n.toNat) 2, N, ⟨#[]⟩, fb (bN l n.toNat) 4, ⟨#[]⟩, ⟨#[]⟩, 0, false, fb (bN l n.toNat) 128, ⟨#[]⟩, fb (bN l n.toNat) 64, ⟨#[]⟩⟩ l (m, 0) (bits .and .i64 ((bN l n.toNat : Int) / 8) 3) (fb (bN l n.toNat) 32) := by
  have h3 := k3_is hl hm
  rw [hg] at h3
  have hf := kf_is hl
  have hN : rTwoV l (k2 l (n, 0)) = N := by rw [k2_is hl hm]; unfold rTwoV; rw [if_neg (by simp)]; simp only; rw [hg]
  have e4 : k4 l (n, 0) = q4 l (m, 0) := by unfold k4; rw [h3]; rfl
  have e5 : k5 l (n, 0) = q5 (fb (bN l n.toNat) 4) l (m, 0) := by unfold k5; rw [e4, hf]; rfl
  have e6 : k6 l (n, 0) = q6 (fb (bN l n.toNat) 4) l (m, 0) := by unfold k6; rw [e5, hf]; rfl
  have e7 : k7 l (n, 0) = q7 (fb (bN l n.toNat) 4) (fb (bN l n.toNat) 128) l (m, 0) := by unfold k7; rw [e6, hf]; rfl
  have e8 : k8 l (n, 0) = q8 (fb (bN l n.toNat) 4) (fb (bN l n.toNat) 128) (fb (bN l n.toNat) 64) l (m, 0) := by unfold k8; rw [e7, hf]; rfl
  -- where no will is, the flags bear none of it
  have hno : fb (bN l n.toNat) 4 = false → bits .and .i64 ((bN l n.toNat : Int) / 8) 3 = 0 ∧ fb (bN l n.toNat) 32 = false := by
    intro hw
    have hr := bN_lt l n.toNat
    obtain ⟨b2, b4, b32, b64, b128⟩ := fb_of (f := (bN l n.toNat : Int)) (by omega) (by omega)
    obtain ⟨-, -, -, -, -, -, b8⟩ := bits_of (f := (bN l n.toNat : Int)) (by omega) (by omega)
    rw [b4] at hw
    unfold cMay at hm
    rw [hw] at hm
    simp only [Bool.false_or, Bool.and_eq_true, beq_iff_eq] at hm
    rw [b8, b32]
    refine ⟨hm.2.2.1.1, ?_⟩
    rw [hm.2.2.1.2]; rfl
  unfold qRest
  simp only
  rw [← e8]
  unfold k9
  by_cases h8 : (k8 l (n, 0)).2 = 0
  rotate_left
  · rw [if_neg (by simp [h8]), if_pos h8]
    exact cFin_bad h8
  by_cases hx : (k8 l (n, 0)).1 = l.length
  rotate_left
  · rw [if_pos ⟨h8, hx⟩, if_neg (by simp [h8]), if_pos hx]
    unfold rFail; rw [h8, if_pos rfl]
    exact cFin_bad (by simp)
  rw [if_neg (by simp [hx]), if_neg (by simp [h8]), if_neg (by simp [hx])]
  unfold cFin
  rw [if_pos h8]
  -- no text was an error, for the last state is none
  have s4 : (q4 l (m, 0)).2 = 0 := by
    by_cases h : (q4 l (m, 0)).2 = 0
    · exact h
    · rw [e8, q4_bad h] at h8; exact absurd h8 h
  have s5 : (q5 (fb (bN l n.toNat) 4) l (m, 0)).2 = 0 := by
    by_cases h : (q5 (fb (bN l n.toNat) 4) l (m, 0)).2 = 0
    · exact h
    · rw [e8, q5_bad h] at h8; exact absurd h8 h
  have s6 : (q6 (fb (bN l n.toNat) 4) l (m, 0)).2 = 0 := by
    by_cases h : (q6 (fb (bN l n.toNat) 4) l (m, 0)).2 = 0
    · exact h
    · rw [e8, q6_bad h] at h8; exact absurd h8 h
  have s7 : (q7 (fb (bN l n.toNat) 4) (fb (bN l n.toNat) 128) l (m, 0)).2 = 0 := by
    by_cases h : (q7 (fb (bN l n.toNat) 4) (fb (bN l n.toNat) 128) l (m, 0)).2 = 0
    · exact h
    · rw [e8, q7_bad h] at h8; exact absurd h8 h
  have tv : ∀ (g : List UInt8 × Int × Int) (is : Bool) (s : Int × Int), s.2 = 0 → sOf (rTextV g is s) = if is = true then sOf g.1 else ⟨#[]⟩ := by
    intro g is s hs
    unfold rTextV
    cases is
    · rfl
    · rw [if_neg (by simp), if_neg (by simp [hs])]; rfl
  unfold kCon qCon
  simp only
  rw [hN, h3, e4, e5, e6, e7, hf, tv _ _ _ rfl, tv _ _ _ s4, tv _ _ _ s5, tv _ _ _ s6, tv _ _ _ s7]
  rw [if_pos rfl]
  cases hw : fb (bN l n.toNat) 4
  · obtain ⟨z1, z2⟩ := hno hw
    rw [z1, z2]
    rfl
  · rfl
end Go.Proofs.YtclicjokgfiegaaGreatDoor

/- The tables of utf8, out of a row's list. -/
namespace Go.Proofs.YtclicjokgfiegaaGreatDoor
open Go.RowKit

theorem u8extra : U8Extra Tryz.prog Tryz.laysValid_ren := {
  n3 := by kernel_rfl
  n4 := by kernel_rfl
  y3 := by kernel_rfl
  y4 := by kernel_rfl
  c5 := by kernel_rfl
  c119 := by kernel_rfl
  c138 := by kernel_rfl }

theorem envU_of {W : World} {l : List (String × DataW Unit)} (h : laidMetH Tryz.prog l W) (i j : Nat) (dF dA : DataW Unit)
    (hi : (l.filter fun x => x.2.handleName?.isNone)[i]? = some ("unicode/utf8.first", dF)) (hj : (l.filter fun x => x.2.handleName?.isNone)[j]? = some ("unicode/utf8.acceptRanges", dA))
    (hF : dF = Lib.firstData) (hA : dA = Lib.acceptData) : EnvU W := by
  subst hF hA
  obtain ⟨h1, _⟩ := laidMetH_iff.1 h
  obtain ⟨ps, hv, _⟩ := h1
  exact utf8Tabs_of_readsT (U8Types.of196 Tryz.laysValid) u8extra (laidVars_get _ ps hv i _ _ hi) (laidVars_get _ ps hv j _ _ hj)
theorem first_is : Go.Pinned.utf8First = Lib.firstData := by kernel_rfl
/-- The tables, laid into a heap. -/
def layFirst : Obj → Obj
  | .cells _ t frozen => .cells ((List.range 256).map fun c => Value.int .u8 (Lib.firstT c : Int)).toArray t frozen
  | o => o
def layAccept : Obj → Obj
  | .cells _ t frozen => .cells ((List.range 16).flatMap fun i => [Value.int .u8 (Lib.accLo i : Int), Value.int .u8 (Lib.accHi i : Int)]).toArray t frozen
  | o => o
def layU (h : Array Obj) : Array Obj := (h.modify 3 layFirst).modify 4 layAccept

end Go.Proofs.YtclicjokgfiegaaGreatDoor
