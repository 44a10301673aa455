/- A bundle of texts (merged for the limit on files): PacOpen, PacVars, PacLaw2. -/
import Derived.Test.YtclicjokgfiegaaDoorZa25
import Derived.Test.YtclicjokgfiegaaDoorZa12
import Derived.Test.YtclicjokgfiegaaDoorZa20
/- What packets that came in read as. Of no function of the program. -/
namespace Go.Proofs.YtclicjokgfiegaaDoor
open Go.ChangeShapes Go.WideShapes Go.ChangeAt Go.RowKit
set_option linter.unusedVariables false
set_option linter.unusedSimpArgs false
set_option maxRecDepth 100000

theorem cells_pac : Tryd.prog.cellsOf 29 = 24 := by kernel_rfl
theorem cells_wishes : Tryd.prog.cellsOf 26 = 1 := by kernel_rfl
theorem cells_nums : Tryd.prog.cellsOf 27 = 1 := by kernel_rfl
theorem bytes_filter : Tryd.prog.bytesOf 58 = 24 := by kernel_rfl
theorem bytes_int : Tryd.prog.bytesOf 3 = 8 := by kernel_rfl
theorem weights_len {H : Type} {P : Program} {t e : TypeId} (ht : P.underlying t = some (.slice e)) {es sp : List (DataW H)} (h : ((DataW.slice es sp).weights P t).all (· ≤ reachBytes) = true) : es.length * P.bytesOf e ≤ 140737488351232 := by
  simp only [DataW.weights, ht, List.all_cons, List.all_append, Bool.and_eq_true] at h
  have h1 : (es.length + sp.length) * P.bytesOf e ≤ reachBytes := by simpa using h.1
  have r : reachBytes = 140737488351232 := rfl
  rw [Nat.add_mul, r] at h1
  omega

section
variable {H : Type} {enc : TypeId × Value → H} {w : World}

theorem wishes_trod {n : Nat} {v : Value} {d : DataW H} {ps : List MemPlace}
    (hf' : DataW.trod enc Tryd.prog w 0 (fun _ => true) true n 26 [v] = some (d, ps)) (hz : (d.weights Tryd.prog 26).all (· ≤ reachBytes) = true) : ∃ l : List Wish, Ws w v l ∧ (∀ f ∈ l, f.1.size ≤ 140737488351232) ∧ l.length * 24 ≤ 140737488351232 := by
  rcases Go.Deep.open_slice_pairs Tryd.underlying26 Tryd.underlying58 (by kernel_rfl) rfl rfl (by kernel_rfl) (by kernel_rfl) hf' with ⟨hcs, hx⟩ | ⟨ad, len, cap, m, n, V0, V1, D0, D1, P0, P1, hcs, _, hl, hm, hmm, hx, hcell⟩
  · simp only [List.cons.injEq, and_true] at hcs
    subst hcs
    exact ⟨[], Rd.nil w, by simp, by simp⟩
  · simp only [List.cons.injEq, and_true] at hcs
    subst hcs
    simp only [if_true] at hmm
    subst hmm
    simp only [Prod.mk.injEq] at hx
    obtain ⟨rfl, _⟩ := hx
    have each : ∀ i, i < len → ∃ f : Wish, V0 i = .string f.1 ∧ V1 i = .int .i64 f.2 ∧ f.1.size ≤ 140737488351232 := by
      intro i hi
      obtain ⟨_, _, t0, t1⟩ := hcell i (by omega)
      obtain ⟨s, e0, hd0, _⟩ := DataW.trod_string Tryd.underlying9 t0
      obtain ⟨q, e1, hd1, _⟩ := DataW.trod_int Tryd.underlying3 t1
      simp only [List.cons.injEq, and_true] at e0 e1
      have hmem : (DataW.agg [D0 i, D1 i] : DataW H) ∈ (List.range len).map fun i => DataW.agg [D0 i, D1 i] := List.mem_map.2 ⟨i, List.mem_range.2 hi, rfl⟩
      have hw := weights_slice Tryd.underlying26 hz hmem
      refine ⟨(s, q), e0, e1, ?_⟩
      simp only [Prod.mk.injEq] at hd0
      have hw' : (DataW.weightsEach Tryd.prog [9, 3] [D0 i, D1 i]).all (· ≤ reachBytes) = true := by
        simpa [DataW.weights, Tryd.underlying58] using hw
      rw [hd0.1] at hw'
      exact sized_string hw' (j := 0) (t := 9) rfl rfl
    have hlw := weights_len Tryd.underlying26 hz
    rw [bytes_filter, List.length_map, List.length_range] at hlw
    obtain ⟨g, hg⟩ := Go.Deep.choose_lt each
    have hlen : ((List.range len).map g).length = len := by simp
    refine ⟨(List.range len).map g, ?_, ?_, by rw [hlen]; exact hlw⟩
    · unfold Ws
      rw [hlen]
      refine ⟨some ad, _, rfl, hl, hm, (fun e => by cases e), fun ad' e j u hu => ?_⟩
      cases e
      have hj : j < len * 2 := by
        have := (List.getElem?_eq_some_iff.1 hu).1
        rw [wCells_len, hlen] at this
        exact this
      have hi : j / 2 < len := by omega
      have hgi : ((List.range len).map g)[j / 2]? = some (g (j / 2)) := by simp [hi]
      have hwc := wCells_at _ _ _ hgi
      obtain ⟨c0, c1, _, _⟩ := hcell (j / 2) (by omega)
      obtain ⟨v0, v1, _⟩ := hg (j / 2) hi
      rcases Nat.mod_two_eq_zero_or_one j with hp | hp
      · have ej : j / 2 * 2 = j := by omega
        rw [ej] at c0 hwc
        rw [hwc.1] at hu
        cases hu
        rw [c0, v0]
      · have ej : j / 2 * 2 + 1 = j := by omega
        rw [ej] at c1 hwc
        rw [hwc.2] at hu
        cases hu
        rw [c1, v1]
    · intro f hf
      obtain ⟨i, hi, rfl⟩ := List.mem_map.1 hf
      exact (hg i (List.mem_range.1 hi)).2.2

theorem nums_trod {n : Nat} {v : Value} {d : DataW H} {ps : List MemPlace}
    (hf' : DataW.trod enc Tryd.prog w 0 (fun _ => true) true n 27 [v] = some (d, ps)) (hz : (d.weights Tryd.prog 27).all (· ≤ reachBytes) = true) : ∃ l : List Int, Is w v l ∧ l.length * 8 ≤ 140737488351232 := by
  rcases Go.Deep.open_slice Tryd.underlying27 hf' with ⟨hcs, hx⟩ | ⟨ad, len, cap, m, n, D, Pl, hcs, _, hl, hm, hmm, hx, hcell⟩
  · simp only [List.cons.injEq, and_true] at hcs
    subst hcs
    exact ⟨[], Rd.nil w, by simp⟩
  · simp only [List.cons.injEq, and_true] at hcs
    subst hcs
    simp only [if_true] at hmm
    subst hmm
    simp only [Prod.mk.injEq] at hx
    obtain ⟨rfl, _⟩ := hx
    have each : ∀ i, i < len → ∃ x : Int, w.cell? (ad.add i) = some (.int .i64 x) := by
      intro i hi
      obtain ⟨cs', h1, h2⟩ := hcell i (by omega)
      obtain ⟨x, rfl, _, _⟩ := DataW.trod_int Tryd.underlying3 h2
      rw [cells_int, Nat.mul_one] at h1
      obtain ⟨_, _, hcc⟩ := World.cells?_some h1
      have := hcc 0 (by decide)
      rw [Go.Deep.add_add] at this
      exact ⟨x, by simpa using this⟩
    have hlw := weights_len Tryd.underlying27 hz
    rw [bytes_int, List.length_map, List.length_range] at hlw
    obtain ⟨g, hg⟩ := Go.Deep.choose_lt each
    have hlen : ((List.range len).map g).length = len := by simp
    refine ⟨(List.range len).map g, ?_, by rw [hlen]; exact hlw⟩
    unfold Is
    rw [hlen]
    refine ⟨some ad, _, rfl, hl, hm, (fun e => by cases e), fun ad' e j u hu => ?_⟩
    cases e
    have hj : j < len := by
      have := (List.getElem?_eq_some_iff.1 hu).1
      simpa using this
    rw [hg j hj, ← hu]
    simp [hj, iV]

/-- A packet's cells that came in: what they are, and that the rows behind them read. -/
def PacIn (w : World) (p : Pac) (vf vc : Value) : Prop := Ws w vf p.fs ∧ Is w vc p.cs ∧ p.sized 140737488351232 ∧ p.fs.length * 24 ≤ 140737488351232 ∧ p.cs.length * 8 ≤ 140737488351232

theorem pac_cells {n : Nat} {cs : List Value} {d : DataW H} {p : List MemPlace} (h : DataW.trod enc Tryd.prog w 0 (fun _ => true) true n 29 cs = some (d, p)) (hz : (d.weights Tryd.prog 29).all (· ≤ reachBytes) = true) :
    ∃ (p : Pac) (vf vc : Value), cs = p.cells vf vc ∧ PacIn w p vf vc := by
  obtain ⟨xs, n', _, hx, hlen, hxl, hf⟩ := DataW.trod_struct Tryd.underlying29 h
  simp only [Prod.mk.injEq] at hx
  obtain ⟨rfl, rfl⟩ := hx
  rw [cells_pac] at hlen
  match cs, hlen, xs, hxl with
  | [c0, c1, c2, c3, c4, c5, c6, c7, c8, c9, c10, c11, c12, c13, c14, c15, c16, c17, c18, c19, c20, c21, c22, c23], _, [y0, y1, y2, y3, y4, y5, y6, y7, y8], _ =>
    have g0 : DataW.trod enc Tryd.prog w 0 (fun _ => true) true n' 3 [c0] = some y0 := by have := hf 0 _ rfl; simpa [cells_int] using this
    have g1 : DataW.trod enc Tryd.prog w 0 (fun _ => true) true n' 3 [c1] = some y1 := by have := hf 1 _ rfl; simpa [cells_int] using this
    have g2 : DataW.trod enc Tryd.prog w 0 (fun _ => true) true n' 4 [c2] = some y2 := by have := hf 2 _ rfl; simpa [cells_bool] using this
    have g3 : DataW.trod enc Tryd.prog w 0 (fun _ => true) true n' 23 [c3, c4, c5, c6] = some y3 := by have := hf 3 _ rfl; simpa [cells_msg] using this
    have g4 : DataW.trod enc Tryd.prog w 0 (fun _ => true) true n' 25 [c7, c8, c9, c10, c11, c12, c13, c14, c15, c16, c17, c18, c19] = some y4 := by have := hf 4 _ rfl; simpa [cells_con] using this
    have g5 : DataW.trod enc Tryd.prog w 0 (fun _ => true) true n' 4 [c20] = some y5 := by have := hf 5 _ rfl; simpa [cells_bool] using this
    have g6 : DataW.trod enc Tryd.prog w 0 (fun _ => true) true n' 3 [c21] = some y6 := by have := hf 6 _ rfl; simpa [cells_int] using this
    have g7 : DataW.trod enc Tryd.prog w 0 (fun _ => true) true n' 26 [c22] = some y7 := by have := hf 7 _ rfl; simpa [cells_wishes] using this
    have g8 : DataW.trod enc Tryd.prog w 0 (fun _ => true) true n' 27 [c23] = some y8 := by have := hf 8 _ rfl; simpa [cells_nums] using this
    obtain ⟨x0, e0, rfl, _⟩ := DataW.trod_int Tryd.underlying3 g0
    obtain ⟨x1, e1, rfl, _⟩ := DataW.trod_int Tryd.underlying3 g1
    obtain ⟨x2, e2, rfl⟩ := DataW.trod_bool Tryd.underlying4 g2
    obtain ⟨x5, e5, rfl⟩ := DataW.trod_bool Tryd.underlying4 g5
    obtain ⟨x6, e6, rfl, _⟩ := DataW.trod_int Tryd.underlying3 g6
    obtain ⟨d3, p3⟩ := y3
    obtain ⟨d4, p4⟩ := y4
    obtain ⟨d7, p7⟩ := y7
    obtain ⟨d8, p8⟩ := y8
    have hw : (DataW.weightsEach Tryd.prog [3, 3, 4, 23, 25, 4, 3, 26, 27] [DataW.lit (.int .i64 x0), DataW.lit (.int .i64 x1), DataW.lit (.bool x2), d3, d4, DataW.lit (.bool x5), DataW.lit (.int .i64 x6), d7, d8]).all (· ≤ reachBytes) = true := by
      simpa [DataW.weights, Tryd.underlying29] using hz
    obtain ⟨T, X, q, R, e3, hT, hX, _⟩ := msg_cells g3 (sized_at hw (j := 3) (t := 23) rfl rfl)
    obtain ⟨c, e4, hc⟩ := con_cells g4 (sized_at hw (j := 4) (t := 25) rfl rfl)
    obtain ⟨fs, hfs, hfz, hfl⟩ := wishes_trod g7 (sized_at hw (j := 7) (t := 26) rfl rfl)
    obtain ⟨ns, hns, hnl⟩ := nums_trod g8 (sized_at hw (j := 8) (t := 27) rfl rfl)
    simp only [List.cons.injEq, and_true, Con.cells] at e0 e1 e2 e3 e4 e5 e6
    obtain ⟨rfl, rfl, rfl, rfl⟩ := e3
    obtain ⟨rfl, rfl, rfl, rfl, rfl, rfl, rfl, rfl, rfl, rfl, rfl, rfl, rfl⟩ := e4
    subst e0 e1 e2 e5 e6
    exact ⟨⟨x0, x1, x2, T, X, q, R, c, x5, x6, fs, ns⟩, c22, c23, rfl, hfs, hns, ⟨hT, hX, hc, hfz⟩, hfl, hnl⟩

theorem open_pac {r : Reach} {b0 : Nat} {v : Value} {d : DataW H} {p : List MemPlace} (hv : Value.okWide Tryd.prog w r b0 29 v) (h : DataW.Trod enc Tryd.prog w 0 (fun _ => true) true 29 v d p) (hz : (d.weights Tryd.prog 29).all (· ≤ reachBytes) = true) :
    ∃ (p : Pac) (vf vc : Value), v = .agg (p.cells vf vc).toArray ∧ PacIn w p vf vc := by
  obtain ⟨cs, rfl, hsz⟩ := okWide_struct Tryd.underlying29 hv
  obtain ⟨fuel, hf⟩ := h
  obtain ⟨p, vf, vc, hc, h1⟩ := pac_cells hf hz
  refine ⟨p, vf, vc, ?_, h1⟩
  have : cs.toList = p.cells vf vc := by simpa [Value.cells] using hc
  rw [← Array.toArray_toList (xs := cs), this]

/-- A packet in a row, with the values of its slices. -/
abbrev PacV := Pac × Value × Value
def PacV.cells (x : PacV) : List Value := x.1.cells x.2.1 x.2.2
instance : Inhabited PacV := ⟨(Pac.zero, .slice none 0 0, .slice none 0 0)⟩
theorem open_pacs {r : Reach} {b0 : Nat} {v : Value} {d : DataW H} {ps : List MemPlace} (hval : Value.okWide Tryd.prog w r b0 80 v)
    (h : DataW.Trod enc Tryd.prog w 0 (fun _ => true) true 80 v d ps) (hz : (d.weights Tryd.prog 80).all (· ≤ reachBytes) = true) : ∃ l : List PacV, Rd w v l.length (l.flatMap PacV.cells) ∧ ∀ x ∈ l, PacIn w x.1 x.2.1 x.2.2 :=
  open_rows PacV.cells 24 (by decide) (fun _ => rfl) Tryd.underlying80 cells_pac (fun x => PacIn w x.1 x.2.1 x.2.2) (fun n cs d p h hz => by
    obtain ⟨p, vf, vc, h1, h2⟩ := pac_cells h hz
    exact ⟨(p, vf, vc), h1, h2⟩) hval h hz
end
end Go.Proofs.YtclicjokgfiegaaDoor

/- The tables of packets' laws, laid; a packet that came in is in hand. -/
namespace Go.Proofs.YtclicjokgfiegaaDoor
open Go.RowKit
theorem PacIn.ok {w : World} {p : Pac} {vf vc : Value} (h : PacIn w p vf vc) : PacOk w p vf vc := ⟨⟨h.1, h.2.1, h.2.2.2.1, h.2.2.2.2⟩, h.2.2.1⟩
def pkLitV : Lit → Value
  | .bool b => .bool b
  | _ => .bool false
def layMay : Obj → Obj
  | .cells _ t frozen => .cells (mayLits.map pkLitV).toArray t frozen
  | o => o
def layPk (h : Array Obj) : Array Obj := (layU h).modify 1 layMay
end Go.Proofs.YtclicjokgfiegaaDoor

/- Packets: part by part: the law's walk. -/
namespace Go.Proofs.YtclicjokgfiegaaDoor
open Go.RowKit
set_option linter.unusedVariables false
set_option linter.unusedSimpArgs false

theorem decide_comm {α : Type} [DecidableEq α] (a b : α) : decide (a = b) = decide (b = a) := by
  by_cases h : a = b
  · rw [decide_eq_true h, decide_eq_true h.symm]
  · rw [decide_eq_false h, decide_eq_false (fun e => h e.symm)]
theorem paClean_twice (p : Pac) : paClean (paClean p) = paClean p := by
  by_cases h1 : p.k = 1
  · rw [paClean_1 h1, paClean_1 rfl]
  by_cases h2 : p.k = 2
  · rw [paClean_2 h2, paClean_2 rfl]
  by_cases h3 : p.k = 3
  · by_cases hq : p.q ≠ 0
    · rw [paClean_3n h3 hq]
      exact paClean_3n (p := { zP 3 with tp := p.tp, tx := p.tx, q := p.q, rt := p.rt, dup := p.dup, id := p.id }) rfl hq
    · rw [paClean_3z h3 hq]
      exact paClean_3z (p := { zP 3 with tp := p.tp, tx := p.tx, q := p.q, rt := p.rt, dup := p.dup }) rfl hq
  by_cases h4 : p.k = 4
  · rw [paClean_I h4 (by decide), paClean_I (K := 4) rfl (by decide)]
  by_cases h5 : p.k = 5
  · rw [paClean_I h5 (by decide), paClean_I (K := 5) rfl (by decide)]
  by_cases h6 : p.k = 6
  · rw [paClean_I h6 (by decide), paClean_I (K := 6) rfl (by decide)]
  by_cases h7 : p.k = 7
  · rw [paClean_I h7 (by decide), paClean_I (K := 7) rfl (by decide)]
  by_cases h11 : p.k = 11
  · rw [paClean_I h11 (by decide), paClean_I (K := 11) rfl (by decide)]
  by_cases h8 : p.k = 8
  · rw [paClean_8 h8, paClean_8 rfl]
  by_cases h10 : p.k = 10
  · rw [paClean_10 h10, paClean_10 rfl]
    congr 1
    simp
  by_cases h9 : p.k = 9
  · rw [paClean_9 h9, paClean_9 rfl]
  have hne : ¬ (p.k = 1 ∨ p.k = 2 ∨ p.k = 3 ∨ (p.k = 4 ∨ p.k = 5 ∨ p.k = 6 ∨ p.k = 7 ∨ p.k = 11) ∨ p.k = 8 ∨ p.k = 10 ∨ p.k = 9) := by omega
  rw [paClean_O hne, paClean_O (p := zP p.k) hne]
  rfl
set_option maxRecDepth 100000 in
set_option maxHeartbeats 8000000 in
theorem PacketSame_s (p q : Pac) (vf1 vc1 vf2 vc2 : Value) (w : World) (hp : PacOk w p vf1 vc1) (hq : PacOk w q vf2 vc2) (hH : EnvH w) (hE : EnvU w) :
    Calls Tryd.prog 4 #[.agg (p.cells vf1 vc1).toArray, .agg (q.cells vf2 vc2).toArray] w fun e w' => e = .returned (.bool true) ∧ Below w.heap.size w w' := by
  have HE := hd hE; have HH := hd hH; have HP := hd hp; have HQ := hd hq
  clear hE hH hp hq
  obtain ⟨d, hd0⟩ : ∃ d, decide (p = q) = d := ⟨_, rfl⟩
  have HD := hd hd0
  clear hd0
  go_enter Tryd.func4, Tryd.ntmps4
  go_wp2_with (first
    | (with_reducible refine wpl_box (o := ⟨some 2, .box 29 (.tmp 0), _, _, _, _⟩) rfl _ _ rfl (p.cells vf1 vc1) rfl w.heap.size rfl ?_; intro w1 h1 f1 b1 z1)
    | (with_reducible refine wpl_box (o := ⟨some 3, .box 29 (.tmp 1), _, _, _, _⟩) rfl _ _ rfl (q.cells vf2 vc2) rfl _ z1 ?_; intro w2 h2 f2 b2 z2; replace h1 := h1.keep b2 (by omega); have B2 : Below w.heap.size w w2 := b1.trans (b2.mono (by omega)); clear f1 f2 b1 b2))
  have D1 := h1.drew
  have D2 := h2.drew
  have BD := B2.drew
  refine wp_region_M (fun W => At W w.heap.size (p.cells vf1 vc1) ∧ At W (w.heap.size + 1) (q.cells vf2 vc2)) 32 [(0, false), (1, false), (3, false), (4, false), (2, true), (5, true), (6, false), (7, false), (8, false), (9, false), (11, false), (12, false), (10, true), (13, true), (14, false), (15, false), (16, false), (17, false), (18, false), (19, true), (20, false), (21, false), (22, false), (25, false), (23, true), (24, true), (26, true), (27, true), (28, false), (29, false), (30, true), (31, false), (32, true)] (by kernel_rfl) (by kernel_rfl) (fun _ _ _ _ h => h) ⟨D1, D2⟩ ?_
  clear h1 h2 B2
  have zd : w2.drew.heap.size = w2.heap.size := rfl
  generalize w2.drew = w4 at *
  apply wpM_still (by rfl) (by rfl)
  · intro W hC
    exact still_loadAt _ _ rfl w.heap.size 0 rfl _ _ (At.range hC.1) Tryd.underlying29 rfl (Pac.info _ _ _)
  go_simp
  apply wpM_still (by rfl) (by rfl)
  · intro W hC
    exact still_loadAt _ _ rfl (w.heap.size + 1) 0 rfl _ _ (At.range hC.2) Tryd.underlying29 rfl (Pac.info _ _ _)
  go_simp
  apply wpM_still (by rfl) (by rfl)
  · intro W hC
    exact still_loadAt _ _ rfl w.heap.size 0 rfl _ _ (At.range hC.1) Tryd.underlying29 rfl (Pac.info _ _ _)
  go_simp
  apply wpM_still (by rfl) (by rfl)
  · intro W hC
    exact still_loadAt _ _ rfl (w.heap.size + 1) 0 rfl _ _ (At.range hC.2) Tryd.underlying29 rfl (Pac.info _ _ _)
  go_simp
  apply wpM_move (by rfl) (by rfl)
  intro K hK
  go_simp
  refine (Same_c p q vf1 vc1 vf2 vc2 _ (HP.out.rd.below BD (Nat.le_refl _)) (HQ.out.rd.below BD (Nat.le_refl _))).mono ?_
  rintro e x1 ⟨rfl, hb1⟩
  rw [HD.out]
  go_simp
  replace D1 := D1.keep hb1 D1.lt
  replace D2 := D2.keep hb1 D2.lt
  replace BD := BD.trans (hb1.mono BD.size)
  refine hK _ _ (fun _ => ⟨D1, D2⟩) ?_
  clear hK K hb1
  apply wpM_move (by rfl) (by rfl)
  intro K hK
  go_simp
  refine (refSame_c p q vf1 vc1 vf2 vc2 _ (HP.out.rd.below BD (Nat.le_refl _)) (HQ.out.rd.below BD (Nat.le_refl _))).mono ?_
  rintro e x2 ⟨rfl, hb2⟩
  rw [HD.out]
  go_simp
  replace D1 := D1.keep hb2 D1.lt
  replace D2 := D2.keep hb2 D2.lt
  replace BD := BD.trans (hb2.mono BD.size)
  refine hK _ _ (fun _ => ⟨D1, D2⟩) ?_
  clear hK K hb2
  apply wpM_still (by rfl) (by rfl)
  · intro W hC
    go_simp
    rfl
  go_simp
  apply wpM_still (by rfl) (by rfl)
  · intro W hC
    go_simp
    rfl
  go_simp
  apply wpM_still (by rfl) (by rfl)
  · intro W hC
    exact still_loadAt _ _ rfl (w.heap.size + 1) 0 rfl _ _ (At.range hC.2) Tryd.underlying29 rfl (Pac.info _ _ _)
  go_simp
  apply wpM_still (by rfl) (by rfl)
  · intro W hC
    exact still_loadAt _ _ rfl w.heap.size 0 rfl _ _ (At.range hC.1) Tryd.underlying29 rfl (Pac.info _ _ _)
  go_simp
  apply wpM_still (by rfl) (by rfl)
  · intro W hC
    exact still_loadAt _ _ rfl w.heap.size 0 rfl _ _ (At.range hC.1) Tryd.underlying29 rfl (Pac.info _ _ _)
  go_simp
  apply wpM_still (by rfl) (by rfl)
  · intro W hC
    exact still_loadAt _ _ rfl (w.heap.size + 1) 0 rfl _ _ (At.range hC.2) Tryd.underlying29 rfl (Pac.info _ _ _)
  go_simp
  apply wpM_move (by rfl) (by rfl)
  intro K hK
  go_simp
  refine (Same_c q p vf2 vc2 vf1 vc1 _ (HQ.out.rd.below BD (Nat.le_refl _)) (HP.out.rd.below BD (Nat.le_refl _))).mono ?_
  rintro e x3 ⟨rfl, hb3⟩
  rw [decide_comm q p, HD.out]
  go_simp
  replace D1 := D1.keep hb3 D1.lt
  replace D2 := D2.keep hb3 D2.lt
  replace BD := BD.trans (hb3.mono BD.size)
  refine hK _ _ (fun _ => ⟨D1, D2⟩) ?_
  clear hK K hb3
  apply wpM_move (by rfl) (by rfl)
  intro K hK
  go_simp
  refine (Same_c p q vf1 vc1 vf2 vc2 _ (HP.out.rd.below BD (Nat.le_refl _)) (HQ.out.rd.below BD (Nat.le_refl _))).mono ?_
  rintro e x4 ⟨rfl, hb4⟩
  rw [HD.out]
  go_simp
  replace D1 := D1.keep hb4 D1.lt
  replace D2 := D2.keep hb4 D2.lt
  replace BD := BD.trans (hb4.mono BD.size)
  refine hK _ _ (fun _ => ⟨D1, D2⟩) ?_
  clear hK K hb4
  apply wpM_still (by rfl) (by rfl)
  · intro W hC
    go_simp
    rfl
  go_simp
  apply wpM_still (by rfl) (by rfl)
  · intro W hC
    go_simp
    rfl
  go_simp
  apply wpM_still (by rfl) (by rfl)
  · intro W hC
    go_simp
    rfl
  go_simp
  apply wpM_still (by rfl) (by rfl)
  · intro W hC
    exact still_loadAt _ _ rfl w.heap.size 0 rfl _ _ (At.range hC.1) Tryd.underlying29 rfl (Pac.info _ _ _)
  go_simp
  apply wpM_still (by rfl) (by rfl)
  · intro W hC
    exact still_loadAt _ _ rfl w.heap.size 0 rfl _ _ (At.range hC.1) Tryd.underlying29 rfl (Pac.info _ _ _)
  go_simp
  apply wpM_move (by rfl) (by rfl)
  intro K hK
  go_simp
  refine (Same_c p p vf1 vc1 vf1 vc1 _ (HP.out.rd.below BD (Nat.le_refl _)) (HP.out.rd.below BD (Nat.le_refl _))).mono ?_
  rintro e x5 ⟨rfl, hb5⟩
  rw [decide_eq_true rfl]
  go_simp
  replace D1 := D1.keep hb5 D1.lt
  replace D2 := D2.keep hb5 D2.lt
  replace BD := BD.trans (hb5.mono BD.size)
  refine hK _ _ (fun _ => ⟨D1, D2⟩) ?_
  clear hK K hb5
  apply wpM_still (by rfl) (by rfl)
  · intro W hC
    go_simp
    rfl
  go_simp
  apply wpM_still (by rfl) (by rfl)
  · intro W hC
    go_simp
    rfl
  go_simp
  apply wpM_still (by rfl) (by rfl)
  · intro W hC
    exact still_loadAt _ _ rfl w.heap.size 0 rfl _ _ (At.range hC.1) Tryd.underlying29 rfl (Pac.info _ _ _)
  go_simp
  apply wpM_still (by rfl) (by rfl)
  · intro W hC
    exact still_loadAt _ _ rfl w.heap.size 0 rfl _ _ (At.range hC.1) Tryd.underlying29 rfl (Pac.info _ _ _)
  go_simp
  apply wpM_move (by rfl) (by rfl)
  intro K hK
  go_simp
  refine (Clean_c p vf1 vc1 _ (HP.out.rd.below BD (Nat.le_refl _))).mono ?_
  rintro e x6 ⟨fa, ca, rfl, hra, hb6⟩
  go_simp
  replace D1 := D1.keep hb6 D1.lt
  replace D2 := D2.keep hb6 D2.lt
  replace BD := BD.trans (hb6.mono BD.size)
  refine hK _ _ (fun _ => ⟨D1, D2⟩) ?_
  clear hK K hb6
  apply wpM_move (by rfl) (by rfl)
  intro K hK
  go_simp
  refine (Clean_c (paClean p) fa ca _ hra).mono ?_
  rintro e x7 ⟨fb, cb, rfl, hrb, hb7⟩
  go_simp
  replace D1 := D1.keep hb7 D1.lt
  replace D2 := D2.keep hb7 D2.lt
  replace BD := BD.trans (hb7.mono BD.size)
  refine hK _ _ (fun _ => ⟨D1, D2⟩) ?_
  clear hK K hb7
  apply wpM_move (by rfl) (by rfl)
  intro K hK
  go_simp
  refine (Clean_c p vf1 vc1 _ (HP.out.rd.below BD (Nat.le_refl _))).mono ?_
  rintro e x8 ⟨fc, cc, rfl, hrc, hb8⟩
  go_simp
  replace D1 := D1.keep hb8 D1.lt
  replace D2 := D2.keep hb8 D2.lt
  replace hrb := hrb.below hb8 (Nat.le_refl _)
  replace BD := BD.trans (hb8.mono BD.size)
  refine hK _ _ (fun _ => ⟨D1, D2⟩) ?_
  clear hK K hb8
  apply wpM_move (by rfl) (by rfl)
  intro K hK
  go_simp
  refine (Same_c (paClean (paClean p)) (paClean p) fb cb fc cc _ hrb hrc).mono ?_
  rintro e x9 ⟨rfl, hb9⟩
  rw [decide_eq_true (paClean_twice p)]
  go_simp
  replace D1 := D1.keep hb9 D1.lt
  replace D2 := D2.keep hb9 D2.lt
  replace BD := BD.trans (hb9.mono BD.size)
  refine hK _ _ (fun _ => ⟨D1, D2⟩) ?_
  clear hK K hb9
  apply wpM_still (by rfl) (by rfl)
  · intro W hC
    go_simp
    rfl
  go_simp
  apply wpM_still (by rfl) (by rfl)
  · intro W hC
    go_simp
    rfl
  go_simp
  apply wpM_move (by rfl) (by rfl)
  intro K hK
  go_simp
  refine (awake16_c _ (HH.out.below BD (Nat.le_refl _)) (HE.out.below BD)).mono ?_
  rintro e x10 ⟨rfl, hb10⟩
  go_simp
  replace D1 := D1.keep hb10 D1.lt
  replace D2 := D2.keep hb10 D2.lt
  replace BD := BD.trans (hb10.mono BD.size)
  refine hK _ _ (fun _ => ⟨D1, D2⟩) ?_
  clear hK K hb10
  apply wpM_still (by rfl) (by rfl)
  · intro W hC
    go_simp
    rfl
  go_simp
  apply wpM_move (by rfl) (by rfl)
  intro K hK
  go_simp
  refine hK _ _ (fun h => absurd h (by decide)) ?_
  clear hK K
  refine wpM_nil ?_
  go_wp2_with fail
  go_ret
  exact ⟨rfl, BD⟩
end Go.Proofs.YtclicjokgfiegaaDoor
