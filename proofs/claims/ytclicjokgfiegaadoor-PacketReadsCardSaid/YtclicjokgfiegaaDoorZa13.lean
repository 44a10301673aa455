/- A bundle of texts (merged for the limit on files): PacAt, PacWrap. -/
import Derived.Test.YtclicjokgfiegaaDoorZa12
import Derived.Deep.MidRow
/- Packets: whole structs out of and into memory: laws of the walk. -/
namespace Go.Proofs.YtclicjokgfiegaaDoor
open Go.RowKit
set_option linter.unusedVariables false
set_option linter.unusedSimpArgs false

theorem At.range {w : World} {b : Nat} {l : List Value} (h : At w b l) : w.rangeAt b 0 l := fun j v hv => by rw [Nat.zero_add]; exact h.2 j v hv
theorem At.part {w : World} {b : Nat} {l m : List Value} (h : At w b l) (o : Nat) (hm : ∀ j v, m[j]? = some v → l[o + j]? = some v) : w.rangeAt b o m := fun j v hv => h.2 _ _ (hm j v hv)
theorem At.there {w : World} {b : Nat} {l : List Value} (h : At w b l) (hf : Free w b) (o n : Nat) (hn : o + n ≤ l.length) : w.there b o n := fun j hj =>
  ⟨by rw [h.2 (o + j) _ (List.getElem?_eq_getElem (by omega))]; rfl, hf _⟩
theorem setCells_size (b : Nat) : ∀ (vs : List Value) (o : Nat) (w : World), (w.setCells b o vs).heap.size = w.heap.size
  | [], _, _ => rfl
  | v :: r, o, w => by rw [World.setCells, setCells_size b r]; simp [go_sem]
theorem keeps_setCells (b : Nat) : ∀ (vs : List Value) (o : Nat) (w a : World), Keeps [b] a w → Keeps [b] a (w.setCells b o vs)
  | [], _, _, _, h => h
  | v :: r, o, w, a, h => by rw [World.setCells]; exact keeps_setCells b r _ _ a (h.setCell (.inl (by simp)) v)
theorem free_setCells {b c : Nat} : ∀ (vs : List Value) (o : Nat) (w : World), Free w c → Free (w.setCells b o vs) c
  | [], _, _, h => h
  | v :: r, o, w, h => by rw [World.setCells]; exact free_setCells r _ _ (h.set _ v)

section
variable {w : World} {ops : Array Oper} {rest : List Oper} {o : Oper} {a : Act} {Q : Exit → Act → World → Prop}
/-- At this operation (a guard of an arm: with_reducible refine). -/
theorem wpl_at {P : Program} (h : wpList P ops Q (o :: rest) a w) : wpList P ops Q (o :: rest) a w := h
/-- A whole struct is stored at its block's start. -/
theorem wpl_storeAll (hgd : o.guard = none) (hdst : o.dst = none) (ty : TypeId) (x y : Operand) (ho : o.op = .store ty x y) (b : Nat) (cells l0 : List Value) (hx : a.eval x = .pointer (some ⟨b, 0, none⟩)) (hy : a.eval y = .agg cells.toArray)
    (hi : (Tryd.prog.info? ty).map (·.size) = some cells.length) (h1 : ∀ v ∈ cells, v.oneCell' = true) (hA : At w b l0) (hl : l0.length = cells.length) (hF : Free w b)
    (h : ∀ w', At w' b cells → Free w' b → Keeps [b] w w' → w'.heap.size = w.heap.size → wpList Tryd.prog ops Q rest a w') : wpList Tryd.prog ops Q (o :: rest) a w := by
  refine wpList_store_mid hgd ty x y ho b 0 cells.toArray hx hy (hA.there hF 0 _ (by simp; omega)) (by simpa using hi) (all_oneCell_toArray h1) ?_
  have hth := hA.there hF 0 cells.length (by omega)
  rw [hdst]
  refine h _ ⟨?_, fun j u hu => ?_⟩ (free_setCells _ _ _ hF) (keeps_setCells b _ _ _ _ (Keeps.refl _ _)) (setCells_size b _ _ _)
  · rw [setCells_size]; exact hA.1
  · have := World.rangeAt_setCells_same w b 0 cells hth j u hu
    simpa using this
/-- A struct is stored into a block's middle. -/
theorem wpl_storeMid (hgd : o.guard = none) (hdst : o.dst = none) (ty : TypeId) (x y : Operand) (ho : o.op = .store ty x y) (b k : Nat) (cells l0 l1 : List Value) (hx : a.eval x = .pointer (some ⟨b, k, none⟩)) (hy : a.eval y = .agg cells.toArray)
    (hi : (Tryd.prog.info? ty).map (·.size) = some cells.length) (h1 : ∀ v ∈ cells, v.oneCell' = true) (hA : At w b l0) (hl : l1 = l0.take k ++ cells ++ l0.drop (k + cells.length)) (hk : k + cells.length ≤ l0.length) (hF : Free w b)
    (h : ∀ w', At w' b l1 → Free w' b → Keeps [b] w w' → w'.heap.size = w.heap.size → wpList Tryd.prog ops Q rest a w') : wpList Tryd.prog ops Q (o :: rest) a w := by
  refine wpList_store_mid hgd ty x y ho b k cells.toArray hx hy (hA.there hF k _ (by simp; omega)) (by simpa using hi) (all_oneCell_toArray h1) ?_
  have hth := hA.there hF k cells.length (by omega)
  rw [hdst]
  refine h _ ⟨?_, fun j u hu => ?_⟩ (free_setCells _ _ _ hF) (keeps_setCells b _ _ _ _ (Keeps.refl _ _)) (setCells_size b _ _ _)
  · rw [setCells_size]; exact hA.1
  · subst hl
    have htl : (l0.take k).length = k := by simp; omega
    by_cases hj1 : j < k
    · rw [List.append_assoc, List.getElem?_append_left (by omega), List.getElem?_take_of_lt hj1] at hu
      rw [World.cell?_setCells_out b _ k w ⟨b, j, none⟩ (fun _ _ => .inl hj1)]
      exact hA.2 j u hu
    · by_cases hj2 : j < k + cells.length
      · rw [List.append_assoc, List.getElem?_append_right (by omega), List.getElem?_append_left (by omega), htl] at hu
        have := World.rangeAt_setCells_same w b k cells hth (j - k) u hu
        rwa [show k + (j - k) = j by omega] at this
      · rw [List.getElem?_append_right (by simp; omega), List.getElem?_drop] at hu
        rw [World.cell?_setCells_out b _ k w ⟨b, j, none⟩ (fun _ _ => .inr (by show k + cells.toArray.toList.length ≤ j; rw [List.toList_toArray]; omega))]
        refine hA.2 j u ?_
        rw [← hu]
        have e2 : k + cells.length + (j - (l0.take k ++ cells).length) = j := by rw [List.length_append, htl]; omega
        rw [e2]
/-- A whole struct is read. -/
theorem wpl_loadAt (hgd : o.guard = none) (ty : TypeId) (x : Operand) (ho : o.op = .load ty x) (b k : Nat) (hx : a.eval x = .pointer (some ⟨b, k, none⟩)) (cs : List Value) (d : TypeDesc) (hc : w.rangeAt b k cs)
    (hu : Tryd.prog.underlying ty = some d) (hd : d.isRow = true) (hi : (Tryd.prog.info? ty).map (·.size) = some cs.length)
    (h : wpList Tryd.prog ops Q rest (a.put o.dst (.agg cs.toArray)) w) : wpList Tryd.prog ops Q (o :: rest) a w :=
  wpList_load_mid hgd ty x ho b k hx cs d hc hu hd hi h
/-- The same behind a guard. -/
theorem wpl_loadAtG (hw : Region.wanted o (yielded ops a.tmps) = true) (ty : TypeId) (x : Operand) (ho : o.op = .load ty x) (b k : Nat) (hx : a.eval x = .pointer (some ⟨b, k, none⟩)) (cs : List Value) (d : TypeDesc) (hc : w.rangeAt b k cs)
    (hu : Tryd.prog.underlying ty = some d) (hd : d.isRow = true) (hi : (Tryd.prog.info? ty).map (·.size) = some cs.length)
    (h : wpList Tryd.prog ops Q rest (a.put o.dst (.agg cs.toArray)) w) : wpList Tryd.prog ops Q (o :: rest) a w :=
  wpList_step fun _ hK => by simp only [hw, if_true]; exact wp_load_mid ty x ho b k hx cs d hc hu hd hi (hK _ _ h)
end
section
variable {w : World} {ops : Array Oper} {rest : List Oper} {o : Oper} {a : Act} {Q : Exit → Act → World → Prop}
theorem wpl_box (hgd : o.guard = none) (ty : TypeId) (x : Operand) (ho : o.op = .box ty x) (L : List Value) (hx : a.eval x = .agg L.toArray) (g : Nat) (hg : w.heap.size = g)
    (h : ∀ w', At w' g L → Free w' g → Below g w w' → w'.heap.size = g + 1 → wpList Tryd.prog ops Q rest (a.put o.dst (.pointer (some ⟨g, 0, none⟩))) w') : wpList Tryd.prog ops Q (o :: rest) a w := by
  subst hg
  refine wpList_plain hgd fun K hK => ?_
  have hr : (Instr.box ty (.agg L.toArray)).run Tryd.prog w = .ok (.pointer (some ⟨w.heap.size, 0, none⟩)) (w.alloc (.cells L.toArray ty)) := by
    simp [Instr.box, newVar, go_sem]
  unfold Oper.wp execOp
  simp only [ho, hx, Sem.run_bind, Sem.run_pure, hr, Result.andThen_ok]
  exact hK _ _ (h _ (At.new _ _ _) (Free.new _ _ _) ((Below.refl _ _).alloc (Nat.le_refl _) _) (by simp [go_sem]))
theorem wpl_alloc (hgd : o.guard = none) (ty : TypeId) (ho : o.op = .alloc ty) (L : List Value) (hz : ∀ W : World, (Instr.alloc ty true (.tuple #[])).run Tryd.prog W = .ok (.pointer (some ⟨W.heap.size, 0, none⟩)) (W.alloc (.cells L.toArray ty))) (g : Nat) (hg : w.heap.size = g)
    (h : ∀ w', At w' g L → Free w' g → Below g w w' → w'.heap.size = g + 1 → wpList Tryd.prog ops Q rest (a.put o.dst (.pointer (some ⟨g, 0, none⟩))) w') : wpList Tryd.prog ops Q (o :: rest) a w := by
  subst hg
  refine wpList_plain hgd fun K hK => ?_
  unfold Oper.wp execOp
  simp only [ho, Sem.run_bind, Sem.run_pure, hz, Result.andThen_ok]
  exact hK _ _ (h _ (At.new _ _ _) (Free.new _ _ _) ((Below.refl _ _).alloc (Nat.le_refl _) _) (by simp [go_sem]))
end
/-- A struct is built: its run is given. -/
theorem wpl_build {P : Program} {w : World} {ops : Array Oper} {rest : List Oper} {o : Oper} {a : Act} {Q : Exit → Act → World → Prop} (hgd : o.guard = none) (ty : TypeId) (parts : Array (Nat × Operand)) (ho : o.op = .build ty parts) (vals : Array (Nat × Value))
    (hp : parts.map (fun (i, x) => (i, a.eval x)) = vals) (v : Value) (hr : ∀ W, (Instr.build ty vals).run P W = .ok v W) (h : wpList P ops Q rest (a.put o.dst v) w) : wpList P ops Q (o :: rest) a w := by
  refine wpList_plain hgd fun K hK => ?_
  unfold Oper.wp execOp
  simp only [ho, hp, Sem.run_bind, Sem.run_pure, hr, Result.andThen_ok]
  exact hK _ _ h
def zK (k : Int) : List Value := [.int .i64 k, .int .i64 0, .bool false, .string ⟨#[]⟩, .string ⟨#[]⟩, .int .i64 0, .bool false, .int .i64 0, .bool false, .int .i64 0, .string ⟨#[]⟩, .bool false, .string ⟨#[]⟩, .string ⟨#[]⟩, .int .i64 0, .bool false, .bool false, .string ⟨#[]⟩, .bool false, .string ⟨#[]⟩, .bool false, .int .i64 0, .slice none 0 0, .slice none 0 0]
theorem zK_one (k : Int) : ∀ v ∈ zK k, v.oneCell' = true := by
  intro v hv
  have : (zK k).all (·.oneCell') = true := rfl
  exact (List.all_eq_true.1 this) v hv
theorem info_pac : (Tryd.prog.info? 29).map (·.size) = some 24 := by kernel_rfl
set_option maxRecDepth 100000 in
theorem alloc_pac (W : World) : (Instr.alloc 29 true (.tuple #[])).run Tryd.prog W = .ok (.pointer (some ⟨W.heap.size, 0, none⟩)) (W.alloc (.cells (zK 0).toArray 29)) := by
  simp [Instr.alloc, newVar, go_sem, zK]
set_option maxRecDepth 100000 in
theorem build_pac (k : Int) (W : World) : (Instr.build 29 #[(0, .int .i64 k)]).run Tryd.prog W = .ok (.agg (zK k).toArray) W := by
  simp [Instr.build, go_sem, zK]

/-! ### The same at one operation (movers of a region that draws its order) -/
section
variable {w : World} {o : Oper} {a : Act} {K : Act → World → Prop} {Q : Exit → Act → World → Prop}
theorem wpo_storeMid (hdst : o.dst = none) (ty : TypeId) (x y : Operand) (ho : o.op = .store ty x y) (b k : Nat) (cells l0 l1 : List Value) (hx : a.eval x = .pointer (some ⟨b, k, none⟩)) (hy : a.eval y = .agg cells.toArray)
    (hi : (Tryd.prog.info? ty).map (·.size) = some cells.length) (h1 : ∀ v ∈ cells, v.oneCell' = true) (hA : At w b l0) (hl : l1 = l0.take k ++ cells ++ l0.drop (k + cells.length)) (hk : k + cells.length ≤ l0.length) (hF : Free w b)
    (h : ∀ w', At w' b l1 → Free w' b → Keeps [b] w w' → w'.heap.size = w.heap.size → K a w') : o.wp Tryd.prog a w K Q := by
  have hth := hA.there hF k cells.length (by omega)
  refine wp_store_mid ty x y ho b k cells.toArray hx hy (by simpa using hth) (by simpa using hi) (all_oneCell_toArray h1) ?_
  rw [hdst]
  refine h _ ⟨?_, fun j u hu => ?_⟩ (free_setCells _ _ _ hF) (keeps_setCells b _ _ _ _ (Keeps.refl _ _)) (setCells_size b _ _ _)
  · rw [setCells_size]; exact hA.1
  · subst hl
    have htl : (l0.take k).length = k := by simp; omega
    by_cases hj1 : j < k
    · rw [List.append_assoc, List.getElem?_append_left (by omega), List.getElem?_take_of_lt hj1] at hu
      rw [World.cell?_setCells_out b _ k w ⟨b, j, none⟩ (fun _ _ => .inl hj1)]
      exact hA.2 j u hu
    · by_cases hj2 : j < k + cells.length
      · rw [List.append_assoc, List.getElem?_append_right (by omega), List.getElem?_append_left (by omega), htl] at hu
        have := World.rangeAt_setCells_same w b k cells hth (j - k) u hu
        rwa [show k + (j - k) = j by omega] at this
      · rw [List.getElem?_append_right (by simp; omega), List.getElem?_drop] at hu
        rw [World.cell?_setCells_out b _ k w ⟨b, j, none⟩ (fun _ _ => .inr (by show k + cells.toArray.toList.length ≤ j; rw [List.toList_toArray]; omega))]
        refine hA.2 j u ?_
        rw [← hu]
        have e2 : k + cells.length + (j - (l0.take k ++ cells).length) = j := by rw [List.length_append, htl]; omega
        rw [e2]
theorem still_loadAt {W : World} (ty : TypeId) (x : Operand) (ho : o.op = .load ty x) (b k : Nat) (hx : a.eval x = .pointer (some ⟨b, k, none⟩)) (cs : List Value) (d : TypeDesc) (hc : W.rangeAt b k cs)
    (hu : Tryd.prog.underlying ty = some d) (hd : d.isRow = true) (hi : (Tryd.prog.info? ty).map (·.size) = some cs.length) : (execOp a.eval o).run Tryd.prog W = .ok (.value (.agg cs.toArray)) W := by
  unfold execOp
  simp only [ho, hx, Sem.run_bind, run_loadAt_mid W b k ty cs d hc hu hd hi, Result.andThen_ok, Sem.run_pure]
end

/-! ### The packet's cells -/
abbrev Nl : Value := .slice none 0 0
def zP (k : Int) : Pac := { Pac.zero with k := k }
theorem Con.one (c : Con) : ∀ v ∈ c.cells, v.oneCell' = true := by
  intro v hv
  have : (c.cells).all (·.oneCell') = true := rfl
  exact (List.all_eq_true.1 this) v hv
def Pac.msg (p : Pac) : List Value := [.string p.tp, .string p.tx, .int .i64 p.q, .bool p.rt]
theorem Pac.msg_one (p : Pac) : ∀ v ∈ p.msg, v.oneCell' = true := by
  intro v hv
  have : (p.msg).all (·.oneCell') = true := rfl
  exact (List.all_eq_true.1 this) v hv
theorem Pac.one (p : Pac) (vf vc : Value) (hf : vf.oneCell' = true) (hc : vc.oneCell' = true) : ∀ v ∈ p.cells vf vc, v.oneCell' = true := by
  intro v hv
  have : (p.cells vf vc).all (·.oneCell') = true := by simp only [Pac.cells, List.all_cons, List.all_nil, hf, hc]; rfl
  exact (List.all_eq_true.1 this) v hv
theorem Pac.cells_len (p : Pac) (vf vc : Value) : (p.cells vf vc).length = 24 := rfl
theorem Pac.con_in (p : Pac) (vf vc : Value) : ∀ j v, p.c.cells[j]? = some v → (p.cells vf vc)[7 + j]? = some v := by
  intro j v h
  have e : p.cells vf vc = [.int .i64 p.k, .int .i64 p.id, .bool p.dup, .string p.tp, .string p.tx, .int .i64 p.q, .bool p.rt] ++ (p.c.cells ++ [.bool p.pr, .int .i64 p.code, vf, vc]) := rfl
  rw [e, List.getElem?_append_right (by simp), List.getElem?_append_left (by have := (List.getElem?_eq_some_iff.1 h).1; simpa using this)]
  simpa using h
theorem Pac.msg_in (p : Pac) (vf vc : Value) : ∀ j v, p.msg[j]? = some v → (p.cells vf vc)[3 + j]? = some v := by
  intro j v h
  have e : p.cells vf vc = [.int .i64 p.k, .int .i64 p.id, .bool p.dup] ++ (p.msg ++ (p.c.cells ++ [.bool p.pr, .int .i64 p.code, vf, vc])) := rfl
  rw [e, List.getElem?_append_right (by simp), List.getElem?_append_left (by have := (List.getElem?_eq_some_iff.1 h).1; simpa using this)]
  simpa using h
theorem info_con : (Tryd.prog.info? 25).map (·.size) = some 13 := by kernel_rfl
theorem info_msg : (Tryd.prog.info? 23).map (·.size) = some 4 := by kernel_rfl
/-- One variable is handed back. -/
theorem results_cell {P : Program} {fn : Func} {tmps : Array Value} {a : Nat} {t : TypeId} {g : Nat} {v : Value} {w : World} (hf : fn.results = #[.cell a t]) (ha : tmps.getD a undef = .pointer (some ⟨g, 0, none⟩))
    (hl : (loadVar t ⟨g, 0, none⟩).run P w = .ok v w) : (results fn tmps).run P w = .ok v w := by
  have one : ∀ (f : ResultVar → Sem Value) (x : ResultVar), #[x].mapM f = (do let y ← f x; pure #[y]) := fun f x => by simp
  unfold results
  rw [hf, one]
  simp only [Sem.run_bind, Sem.run_pure, ha, asAddr, Result.andThen_ok, hl]
  rfl
/-- The result's variable is handed back. -/
theorem ret_pac {w : World} {b : Nat} {l : List Value} (h : At w b l) (hl : l.length = 24) : (loadVar 29 ⟨b, 0, none⟩).run Tryd.prog w = .ok (.agg l.toArray) w :=
  run_loadVar_mid w b 0 29 l _ h.range Tryd.underlying29 rfl (by rw [hl]; exact info_pac)
end Go.Proofs.YtclicjokgfiegaaDoor

/- Packets: a packet that is laid, or told: what lies in it; its bytes laid: the walk. -/
namespace Go.Proofs.YtclicjokgfiegaaDoor
open Go.RowKit
set_option linter.unusedVariables false
set_option linter.unusedSimpArgs false

def wrapL (L : List Value) (f : Int) (b : List UInt8) : List Value := L ++ [.int .i64 f, .string (sOf b)]
structure WrapAt (w : World) (g : Nat) (L : List Value) (f : Int) (b : List UInt8) : Prop where
  at' : At w g (wrapL L f b)
  len : L.length = 24
  free : Free w g
theorem wrapL_body {L : List Value} (h : L.length = 24) (f : Int) (b l : List UInt8) : (wrapL L f b).set 25 (.string (sOf l)) = wrapL L f l := by
  unfold wrapL
  rw [List.set_append_right _ _ (by omega), h]
  rfl
theorem wrapL_flags {L : List Value} (h : L.length = 24) (f k : Int) (b : List UInt8) : (wrapL L f b).set 24 (.int .i64 k) = wrapL L k b := by
  unfold wrapL
  rw [List.set_append_right _ _ (by omega), h]
  rfl
theorem wrapL_get {L : List Value} (h : L.length = 24) (f : Int) (b : List UInt8) {j : Nat} {u : Value} (hj : L[j]? = some u) : (wrapL L f b)[j]? = some u := by
  unfold wrapL
  rw [List.getElem?_append_left (List.getElem?_eq_some_iff.1 hj).1]
  exact hj
theorem wrapL_f {L : List Value} (h : L.length = 24) (f : Int) (b : List UInt8) : (wrapL L f b)[24]? = some (.int .i64 f) := by
  unfold wrapL
  rw [List.getElem?_append_right (by omega), h]
  rfl
theorem wrapL_b {L : List Value} (h : L.length = 24) (f : Int) (b : List UInt8) : (wrapL L f b)[25]? = some (.string (sOf b)) := by
  unfold wrapL
  rw [List.getElem?_append_right (by omega), h]
  rfl
theorem WrapAt.cell {w : World} {g : Nat} {L : List Value} {f : Int} {b : List UInt8} (h : WrapAt w g L f b) {j : Nat} {u : Value} (hj : L[j]? = some u) : w.cell? ⟨g, j, none⟩ = some u := h.at'.at j (wrapL_get h.len f b hj)
theorem WrapAt.cf {w : World} {g : Nat} {L : List Value} {f : Int} {b : List UInt8} (h : WrapAt w g L f b) : w.cell? ⟨g, 24, none⟩ = some (.int .i64 f) := h.at'.at 24 (wrapL_f h.len f b)
theorem WrapAt.cb {w : World} {g : Nat} {L : List Value} {f : Int} {b : List UInt8} (h : WrapAt w g L f b) : w.cell? ⟨g, 25, none⟩ = some (.string (sOf b)) := h.at'.at 25 (wrapL_b h.len f b)
theorem WrapAt.lt {w : World} {g : Nat} {L : List Value} {f : Int} {b : List UInt8} (h : WrapAt w g L f b) : g < w.heap.size := h.at'.lt
theorem WrapAt.keep {B : Nat} {w w' : World} {g : Nat} {L : List Value} {f : Int} {b : List UInt8} (h : WrapAt w g L f b) (hb : Below B w w') (hB : g < B) : WrapAt w' g L f b := ⟨h.at'.keep hb hB, h.len, h.free.keep hb hB⟩
theorem WrapAt.keeps {S : List Nat} {w w' : World} {g : Nat} {L : List Value} {f : Int} {b : List UInt8} (h : WrapAt w g L f b) (hk : Keeps S w w') (hn : g ∉ S) : WrapAt w' g L f b := ⟨h.at'.keeps hk hn, h.len, h.free.keeps hk h.at'.lt hn⟩
theorem WrapAt.setB {w : World} {g : Nat} {L : List Value} {f : Int} {b : List UInt8} (h : WrapAt w g L f b) (l : List UInt8) : WrapAt (w.setCell ⟨g, 25, none⟩ (.string (sOf l))) g L f l :=
  ⟨by rw [← wrapL_body h.len f b l]; exact h.at'.set 25 _ (by simp [wrapL, h.len]), h.len, h.free.set _ _⟩
theorem WrapAt.setF {w : World} {g : Nat} {L : List Value} {f : Int} {b : List UInt8} (h : WrapAt w g L f b) (k : Int) : WrapAt (w.setCell ⟨g, 24, none⟩ (.int .i64 k)) g L k b :=
  ⟨by rw [← wrapL_flags h.len f k b]; exact h.at'.set 24 _ (by simp [wrapL, h.len]), h.len, h.free.set _ _⟩

/-- What a way of laying leaves. -/
def GivesL (w : World) (g : Nat) (L : List Value) (f : Int) (b : List UInt8) (E : Int) (e : Ending) (w' : World) : Prop :=
  e = .returned (.int .i64 E) ∧ WrapAt w' g L f b ∧ Keeps [g] w w'
theorem ret_n {a b : Int} (h : a = b) : Ending.returned (.int .i64 a) = .returned (.int .i64 b) := by rw [h]

set_option maxRecDepth 100000 in
set_option maxHeartbeats 1000000 in
theorem lay_c (g : Nat) (L : List Value) (f : Int) (b : List UInt8) (v : Value) (l : List UInt8) (E : Int) (w : World) (hW : WrapAt w g L f b) (hv : Bs w v l) :
    Calls Tryd.prog 120 #[.pointer (some ⟨g, 0, none⟩), v, .int .i64 E] w (GivesL w g L f l E) := by
  have HV := hd hv
  obtain ⟨a, c, rfl⟩ := hv.slice
  have c25 := hW.cb
  have f25 := hW.free 25
  have hs := run_str HV.out
  go_enter Tryd.func120, Tryd.ntmps120
  go_wp2_with fail
  go_ret
  exact ⟨rfl, hW.setB l, (Keeps.refl _ _).setCell (.inl (by simp)) _⟩
end Go.Proofs.YtclicjokgfiegaaDoor
