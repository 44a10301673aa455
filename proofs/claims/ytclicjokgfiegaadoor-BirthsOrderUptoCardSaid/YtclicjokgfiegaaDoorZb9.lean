/- A bundle of texts (merged for the limit on files): SpOf2, Close, RowOpen, UtfVars, SpOpen. -/
import Derived.Test.YtclicjokgfiegaaDoorZb8
import Derived.Test.YtclicjokgfiegaaDoorZb1
import Derived.ProofKit
import Derived.OpenShut
import Derived.Deep.DeepHandedRow
import Derived.Lib.LaidTab
import Derived.LaidSub
import Derived.Lib.SmallJoins
import Derived.LaidLaws
import Derived.Deep.Slices
import Derived.Test.YtclicjokgfiegaaDoorZb3
import Derived.Lib.LaidU8T
import Derived.Test.YtclicjokgfiegaaDoorZb4
/- Spots and topics: the reference's spot of a topic; births; awake: the walks. -/
namespace Go.Proofs.YtclicjokgfiegaaDoor
open Go.RowKit
set_option linter.unusedVariables false
set_option linter.unusedSimpArgs false

set_option maxRecDepth 100000 in
set_option maxHeartbeats 4000000 in
theorem Births_c (s : SpS) (w : World) (hE : EnvU w) (hW : EnvW w) (hzg : s.g.length ≤ 9223372036854775000) (hzn : s.n.length ≤ 9223372036854775000) (hzd : s.d.length ≤ 9223372036854775000) :
    Calls Tryd.prog 25 #[spV s] w fun e w' => e = .returned (.tuple #[.string (sOf (sBirths s).1), .string (sOf (sBirths s).2)]) ∧ Below w.heap.size w w' := by
  obtain ⟨X, Y, hX⟩ : ∃ X Y, sBirths s = (X, Y) := ⟨_, _, rfl⟩
  rw [hX]
  obtain ⟨k, g, n, d⟩ := s
  unfold sBirths at hX
  simp only at hzg hzn hzd hX ⊢
  have htd := toList_sOf d
  have HE := hd hE; have HW := hd hW
  clear hE hW
  obtain ⟨t0, e0, hp0⟩ : ∃ t e, sPut ⟨k, g, n, d⟩ = (t, e) := ⟨_, _, rfl⟩
  obtain ⟨t1, e1, hp1⟩ : ∃ t e, sPut ⟨1, g, n, []⟩ = (t, e) := ⟨_, _, rfl⟩
  obtain ⟨t5, e5, hp5⟩ : ∃ t e, sPut ⟨5, g, n, d⟩ = (t, e) := ⟨_, _, rfl⟩
  rw [hp0, hp1, hp5] at hX
  simp only at hX
  have HX := hd hX; have HP0 := hd hp0; have HP1 := hd hp1; have HP5 := hd hp5
  clear hX hp0 hp1 hp5
  unfold spV
  have hb : Below w.heap.size w (w.alloc (.cells #[.int .i64 k, .string (sOf g), .string (sOf n), .string (sOf d)] 44)) := by go_grown
  have hS := SpAt.new w k g n d
  by_cases h9 : k = 9
  · have h9b : (k == 9) = true := by simpa using h9
    obtain ⟨rfl, rfl⟩ : X = [] ∧ Y = [] := by
      have h := HX.out
      rw [if_pos (.inr h9)] at h
      exact ⟨(Prod.mk.inj h).1.symm, (Prod.mk.inj h).2.symm⟩
    clear HX h9
    go_enter Tryd.func25, Tryd.ntmps25
    go_wp2_with fail
    refine (sPut_c ⟨k, g, n, d⟩ _ (HE.out.below hb) (HW.out.below hb (Nat.le_refl _)) (by simp only; first | omega | (rw [List.length_nil]; omega)) (by simp only; first | omega | (rw [List.length_nil]; omega)) (by simp only; first | omega | (rw [List.length_nil]; omega))).mono ?_
    rw [HP0.out]
    rintro e w1 ⟨rfl, hB⟩
    replace hS := hS.keep hB hS.2.2.2.2
    have HS := hd hS
    obtain ⟨d0, d1, d2, d3, d4⟩ := hS
    replace hb := Below.up hb hB
    clear hB
    by_cases he : e0 = 0
    · subst he
      go_wp2_with fail
      exact bodyPost_ret (v := .tuple #[.string ⟨#[]⟩, .string ⟨#[]⟩]) (by simp [results, Tryd.results25, go_sem]) rfl ⟨rfl, hb⟩
    · have he1 : (e0 != 0) = true := by simpa using he
      clear he
      go_wp2_with fail
      exact bodyPost_ret (v := .tuple #[.string ⟨#[]⟩, .string ⟨#[]⟩]) (by simp [results, Tryd.results25, go_sem]) rfl ⟨rfl, hb⟩
  have h9b : (k == 9) = false := by simpa using h9
  have H9 := hd h9
  clear h9
  go_enter Tryd.func25, Tryd.ntmps25
  go_wp2_with fail
  refine (sPut_c ⟨k, g, n, d⟩ _ (HE.out.below hb) (HW.out.below hb (Nat.le_refl _)) (by simp only; first | omega | (rw [List.length_nil]; omega)) (by simp only; first | omega | (rw [List.length_nil]; omega)) (by simp only; first | omega | (rw [List.length_nil]; omega))).mono ?_
  rw [HP0.out]
  rintro e w1 ⟨rfl, hB⟩
  replace hS := hS.keep hB hS.2.2.2.2
  have HS := hd hS
  obtain ⟨d0, d1, d2, d3, d4⟩ := hS
  replace hb := Below.up hb hB
  clear hB
  by_cases he : e0 = 0
  rotate_left
  · have he1 : (e0 != 0) = true := by simpa using he
    obtain ⟨rfl, rfl⟩ : X = [] ∧ Y = [] := by
      have h := HX.out
      rw [if_pos (.inl he)] at h
      exact ⟨(Prod.mk.inj h).1.symm, (Prod.mk.inj h).2.symm⟩
    clear HX he
    go_wp2_with fail
    exact bodyPost_ret (v := .tuple #[.string ⟨#[]⟩, .string ⟨#[]⟩]) (by simp [results, Tryd.results25, go_sem]) rfl ⟨rfl, hb⟩
  subst he
  have HX2 := hd (show (if e1 ≠ 0 then ([], []) else if d = [] then (t1, []) else if e5 ≠ 0 then ([], []) else (t1, t5)) = (X, Y) by have h := HX.out; rw [if_neg (by have := H9.out; simpa using this)] at h; exact h)
  clear HX
  go_wp2_with fail
  have hS := HS.out
  clear HS d0 d1 d2 d3 d4
  refine (sPut_c ⟨1, g, n, []⟩ _ (HE.out.below hb) (HW.out.below hb (Nat.le_refl _)) (by simp only; first | omega | (rw [List.length_nil]; omega)) (by simp only; first | omega | (rw [List.length_nil]; omega)) (by simp only; first | omega | (rw [List.length_nil]; omega))).mono ?_
  rw [HP1.out]
  rintro e w2 ⟨rfl, hB⟩
  replace hS := hS.keep hB hS.2.2.2.2
  have HS := hd hS
  obtain ⟨d0, d1, d2, d3, d4⟩ := hS
  replace hb := Below.up hb hB
  clear hB
  by_cases he : e1 = 0
  rotate_left
  · have he1 : (e1 != 0) = true := by simpa using he
    obtain ⟨rfl, rfl⟩ : X = [] ∧ Y = [] := by
      have h := HX2.out
      rw [if_pos he] at h
      exact ⟨(Prod.mk.inj h).1.symm, (Prod.mk.inj h).2.symm⟩
    clear HX2 he
    go_wp2_with fail
    exact bodyPost_ret (v := .tuple #[.string ⟨#[]⟩, .string ⟨#[]⟩]) (by simp [results, Tryd.results25, go_sem]) rfl ⟨rfl, hb⟩
  subst he
  have HX := hd (show (if d = [] then (t1, []) else if e5 ≠ 0 then ([], []) else (t1, t5)) = (X, Y) by have h := HX2.out; rw [if_neg (by simp)] at h; exact h)
  clear HX2
  cases ed : d.isEmpty
  rotate_left
  · have hd0 : d = [] := by simpa using ed
    obtain ⟨rfl, rfl⟩ : X = t1 ∧ Y = [] := by
      have h := HX.out
      rw [if_pos hd0] at h
      exact ⟨(Prod.mk.inj h).1.symm, (Prod.mk.inj h).2.symm⟩
    clear HX hd0
    go_wp2_with fail
    exact bodyPost_ret (v := .tuple #[.string (sOf X), .string ⟨#[]⟩]) (by simp [results, Tryd.results25, go_sem]) rfl ⟨rfl, hb⟩
  have HX2 := hd (show (if e5 ≠ 0 then ([], []) else (t1, t5)) = (X, Y) by have h := HX.out; rw [if_neg (by intro e; rw [e] at ed; simp at ed)] at h; exact h)
  clear HX
  go_wp2_with fail
  have hS := HS.out
  clear HS d0 d1 d2 d3 d4
  refine (sPut_c ⟨5, g, n, d⟩ _ (HE.out.below hb) (HW.out.below hb (Nat.le_refl _)) (by simp only; first | omega | (rw [List.length_nil]; omega)) (by simp only; first | omega | (rw [List.length_nil]; omega)) (by simp only; first | omega | (rw [List.length_nil]; omega))).mono ?_
  rw [HP5.out]
  rintro e w3 ⟨rfl, hB⟩
  replace hS := hS.keep hB hS.2.2.2.2
  have HS := hd hS
  obtain ⟨d0, d1, d2, d3, d4⟩ := hS
  replace hb := Below.up hb hB
  clear hB
  by_cases he : e5 = 0
  rotate_left
  · have he1 : (e5 != 0) = true := by simpa using he
    obtain ⟨rfl, rfl⟩ : X = [] ∧ Y = [] := by
      have h := HX2.out
      rw [if_pos he] at h
      exact ⟨(Prod.mk.inj h).1.symm, (Prod.mk.inj h).2.symm⟩
    clear HX2 he
    go_wp2_with fail
    exact bodyPost_ret (v := .tuple #[.string ⟨#[]⟩, .string ⟨#[]⟩]) (by simp [results, Tryd.results25, go_sem]) rfl ⟨rfl, hb⟩
  subst he
  obtain ⟨rfl, rfl⟩ : X = t1 ∧ Y = t5 := by
    have h := HX2.out
    rw [if_neg (by simp)] at h
    exact ⟨(Prod.mk.inj h).1.symm, (Prod.mk.inj h).2.symm⟩
  clear HX2
  go_wp2_with fail
  exact bodyPost_ret (v := .tuple #[.string (sOf X), .string (sOf Y)]) (by simp [results, Tryd.results25, go_sem]) rfl ⟨rfl, hb⟩

theorem aw20a : sTell [115, 112, 66, 118, 49, 46, 48, 47, 103, 47, 78, 66, 73, 82, 84, 72, 47, 110] = ⟨1, [103], [110], []⟩ := by decide +kernel
end Go.Proofs.YtclicjokgfiegaaDoor

/- From a walk to a law's statement: what a law leaves behind, argument by argument; what a listed variable reads as. Of no function of the program. -/
namespace Go.Proofs.YtclicjokgfiegaaDoor
open Go.ChangeShapes Go.WideShapes Go.ChangeAt Go.RowKit

section
variable {H : Type} {enc : TypeId × Value → H} {P : Program}

/-- Every argument reads behind the call as it did, if nothing that was there has turned. -/
theorem trodAll_below (hl : laidOutB P = true) {W W' : World} (hb : Below W.heap.size W W') :
    ∀ (ts : List TypeId) (vs : List Value) (ds : List (DataW H)) (p : List MemPlace), (ts.all fun t => P.readableRec t && decide (t < P.types.size)) = true →
      DataW.TrodAll enc P W 0 (fun _ => true) true ts vs ds p → (∀ x ∈ p, x.block < W.heap.size) → DataW.TrodAll enc P W' 0 (fun b => decide (b < W.heap.size)) true ts vs ds p
  | [], [], [], _, _, h, _ => h
  | t :: ts, v :: vs, d :: ds, p, hr, h, hp => by
    obtain ⟨p1, q, h1, h2, rfl⟩ := h
    simp only [List.all_cons, Bool.and_eq_true, decide_eq_true_eq] at hr
    exact ⟨p1, q, Below.trod hl hr.1.1 hr.1.2 h1 hb (fun x hx => hp x (by simp [hx])),
      trodAll_below hl hb ts vs ds q (by simpa using hr.2) h2 (fun x hx => hp x (by simp [hx])), rfl⟩
  | [], _ :: _, _, _, _, h, _ => by cases h
  | [], [], _ :: _, _, _, h, _ => by cases h
  | _ :: _, [], _, _, _, h, _ => by cases h
  | _ :: _, _ :: _, [], _, _, h, _ => by cases h

/-- A LAW's END: it returns true; nothing that was there has turned. -/
theorem post_law {f : Func} {s : ChangeSpec} {W W' : World} {args : Array Value} {ds gs : List (DataW H)} {before : List MemPlace} {T : TypeId}
    (hl : laidOutB P = true) (hT : P.underlying T = some .bool) (hres : f.resultTypes = #[T]) (hvars : s.vars = [])
    (hread : (f.params.toList.all fun t => P.readableRec t && decide (t < P.types.size)) = true)
    (hW : DataW.Whole enc P f.params.toList s.vars false W args.toList ds gs before) (hfn : s.fn H (ds ++ gs) = { results := [.lit (.bool true)], args := ds })
    (hb : Below W.heap.size W W') : s.post enc P f false true false false W args (.bool true) W' := by
  have hW' := hW
  obtain ⟨p, q, hA, hV, rfl, hfz, hnd⟩ := hW
  rw [hvars] at hV
  obtain ⟨rfl, rfl⟩ := trodVars_none hV
  have hlt : ∀ x ∈ p, x.block < W.heap.size := fun x hx => by simpa using hW'.lt x (by simpa using hx)
  refine ⟨ds, [], p ++ [], [], p, [], hW', ?_, ?_, ?_, hb.frame _, fun h => by cases h⟩
  · rw [hfn, hres]
    exact trodAll_cons_mk (shut_bool hT _) trodAll_mk0
  · rw [hfn]
    exact trodAll_below hl hb _ _ _ _ hread hA hlt
  · rw [hvars, hfn]
    rfl

/-! ### A listed variable that is an array of plain literals -/
theorem bytes_eta (s : ByteArray) : (⟨s.data.toList.toArray⟩ : ByteArray) = s := by cases s; simp
def litV : Lit → Value
  | .bool b => .bool b
  | .int k n => .int k n
  | .float k b => .float k b
  | .string l => .string ⟨l.toArray⟩
  | .nil => undef

theorem cell_of_lit {w : World} {base : Nat} {sp : Nat → Bool} {held : Bool} {fuel : Nat} {e : TypeId} {cs : List Value} {l : Lit} {p : List MemPlace} (he : P.underlying e = some .bool ∨ (∃ k, P.underlying e = some (.int k)) ∨ P.underlying e = some .string)
    (h : DataW.trod enc P w base sp held fuel e cs = some (.lit l, p)) : cs = [litV l] := by
  cases fuel with
  | zero => simp [DataW.trod] at h
  | succ n =>
    rcases he with he | ⟨k, he⟩ | he
    · unfold DataW.trod at h
      rw [he] at h
      split at h <;> simp_all
      obtain ⟨h1, _⟩ := h
      rw [← h1]; rfl
    · unfold DataW.trod at h
      rw [he] at h
      split at h <;> simp_all
      obtain ⟨⟨h1, h2⟩, h3, h4⟩ := h
      subst h1 h3
      rfl
    · unfold DataW.trod at h
      rw [he] at h
      split at h <;> simp_all
      obtain ⟨h1, h3, h4⟩ := h
      subst h3
      exact congrArg Value.string (bytes_eta _).symm

theorem cells_of_lits {w : World} {base : Nat} {sp : Nat → Bool} {held : Bool} {fuel : Nat} {t e : TypeId} {n : Nat} {cs : List Value} {ls : List Lit} {p : List MemPlace}
    (ht : P.underlying t = some (.array n e)) (he : P.underlying e = some .bool ∨ (∃ k, P.underlying e = some (.int k)) ∨ P.underlying e = some .string) (hce : P.cellsOf e = 1) (hct : P.cellsOf t = n)
    (h : DataW.trod enc P w base sp held fuel t cs = some (.agg (ls.map DataW.lit), p)) : cs = ls.map litV := by
  obtain ⟨xs, m, rfl, hx, hl, hxl, hel⟩ := DataW.trod_array ht h
  simp only [Prod.mk.injEq, DataW.agg.injEq] at hx
  obtain ⟨hx, _⟩ := hx
  have hln : ls.length = n := by have := congrArg List.length hx; simp at this; omega
  rw [hce] at hel
  apply List.ext_getElem?
  intro i
  by_cases hi : i < n
  · have h1 := hel i hi
    have hxi : xs[i]? = some (xs[i]'(by omega)) := List.getElem?_eq_getElem _
    rw [hxi, Nat.mul_one] at h1
    have h2 : (xs[i]'(by omega)).1 = .lit (ls[i]'(by omega)) := by
      have := congrArg (·[i]?) hx
      simp [hi, hxl, hln] at this
      exact this.symm
    have h3 : xs[i]'(by omega) = (.lit (ls[i]'(by omega)), (xs[i]'(by omega)).2) := by rw [← h2]
    rw [h3] at h1
    have h4 := cell_of_lit he h1
    have h5 := congrArg (·[0]?) h4
    simp [List.getElem?_drop] at h5
    rw [h5]
    simp [hln, hi]
  · rw [List.getElem?_eq_none (by omega), List.getElem?_eq_none (by simp; omega)]

/-- What a list says of its variable number i. -/
theorem laidVars_get {w : World} : ∀ (l : List (String × DataW Unit)) (ps : List MemPlace), DataW.LaidVars P w l ps → ∀ (i : Nat) (n : String) (d : DataW Unit), l[i]? = some (n, d) →
    ∃ g t cs fuel p, P.globalNamed n = some g ∧ (P.globals[g]?).map (·.type) = some t ∧ w.var? P n = some cs ∧ DataW.trod (fun _ => ()) P w 0 (fun _ => true) false fuel t cs.toList = some (d, p)
  | [], _, _, i, n, d, hi => by simp at hi
  | (n0, d0) :: r, ps, h, i, n, d, hi => by
    obtain ⟨g, t, cs, fuel, p, q, h1, h2, h3, h4, h5, _⟩ := h
    cases i with
    | zero => cases hi; exact ⟨g, t, cs, fuel, p, h1, h2, h3, h4⟩
    | succ i => exact laidVars_get r q h5 i n d (by simpa using hi)

/-- The cells of a listed array of plain literals. -/
theorem laid_lits {W : World} {l : List (String × DataW Unit)} (h : laidMetH P l W) (i : Nat) {n : String} {ls : List Lit} {g : Nat} {t e : TypeId} {k : Nat}
    (hi : (l.filter fun x => x.2.handleName?.isNone)[i]? = some (n, .agg (ls.map DataW.lit)))
    (hg : P.globalNamed n = some g) (hty : (P.globals[g]?).map (·.type) = some t) (ht : P.underlying t = some (.array k e))
    (he : P.underlying e = some .bool ∨ (∃ k, P.underlying e = some (.int k)) ∨ P.underlying e = some .string) (hce : P.cellsOf e = 1) (hct : P.cellsOf t = k) :
    g < W.heap.size ∧ ∀ j, j < ls.length → W.cell? ⟨g, j, none⟩ = (ls[j]?).map litV := by
  obtain ⟨h1, _⟩ := laidMetH_iff.1 h
  obtain ⟨ps, hv, _⟩ := h1
  obtain ⟨g', t', cs, fuel, p, a1, a2, a3, a4⟩ := laidVars_get _ ps hv i n _ hi
  obtain rfl := Option.some.inj (hg.symm.trans a1)
  obtain rfl := Option.some.inj (hty.symm.trans a2)
  have hc := cells_of_lits ht he hce hct a4
  have hlt : g < W.heap.size := by
    unfold World.var? at a3
    rw [hg] at a3
    simp only [Option.bind_some] at a3
    rcases Nat.lt_or_ge g W.heap.size with h' | h'
    · exact h'
    · rw [Array.getElem?_eq_none h'] at a3; cases a3
  refine ⟨hlt, fun j hj => ?_⟩
  rw [World.var?_cell hg a3 j]
  have h6 : cs.toList[j]? = (ls.map litV)[j]? := by rw [hc]
  simpa using h6
end

/-! ### What the bound of the second form gives -/
theorem bulk_one {H : Type} (d : DataW H) : 1 ≤ Rows.uptoBulk d := by
  cases d with
  | lit l => cases l <;> simp [Rows.uptoBulk]
  | nil => simp [Rows.uptoBulk]
  | ptr d => simp [Rows.uptoBulk]
  | slice elems spare => simp [Rows.uptoBulk]
  | agg parts => simp [Rows.uptoBulk]
  | iface t d => simp [Rows.uptoBulk]
  | map entries => simp [Rows.uptoBulk]
  | held h => simp [Rows.uptoBulk]
theorem bulk_part {H : Type} {d : DataW H} {l : List (DataW H)} (h : d ∈ l) : Rows.uptoBulk d ≤ Rows.uptoBulkAll l := by
  induction l with
  | nil => cases h
  | cons x r ih =>
    simp only [Rows.uptoBulkAll]
    cases List.mem_cons.1 h with
    | inl e => subst e; omega
    | inr e => have := ih e; omega
theorem bulk_length {H : Type} (l : List (DataW H)) : l.length ≤ Rows.uptoBulkAll l := by
  induction l with
  | nil => simp [Rows.uptoBulkAll]
  | cons x r ih => have := bulk_one x; simp only [Rows.uptoBulkAll, List.length_cons]; omega
theorem bulk_bound {H : Type} {l : List (DataW H)} (hk : Rows.uptoSmall H l = true) : Rows.uptoBulkAll l ≤ 1048576 := of_decide_eq_true hk

/-! ### What the reach gives: a string takes at most so many bytes -/
theorem sized_at {H : Type} {P : Program} : ∀ {ts : List TypeId} {ds : List (DataW H)}, (DataW.weightsEach P ts ds).all (· ≤ reachBytes) = true → ∀ {j : Nat} {t : TypeId} {d : DataW H}, ts[j]? = some t → ds[j]? = some d → (d.weights P t).all (· ≤ reachBytes) = true
  | t0 :: ts, d0 :: ds, h, j, t, d, ht, hd => by
    rw [DataW.weightsEach, List.all_append, Bool.and_eq_true] at h
    cases j with
    | zero =>
      simp only [List.getElem?_cons_zero, Option.some.injEq] at ht hd
      subst ht hd
      exact h.1
    | succ j => exact sized_at h.2 (by simpa using ht) (by simpa using hd)
  | [], _, _, j, t, d, ht, _ => by simp at ht
  | _ :: _, [], _, j, t, d, _, hd => by simp at hd
theorem sized_string {H : Type} {P : Program} {ts : List TypeId} {ds : List (DataW H)} (h : (DataW.weightsEach P ts ds).all (· ≤ reachBytes) = true) {j : Nat} {t : TypeId} {s : ByteArray} (ht : ts[j]? = some t) (hd : ds[j]? = some (.lit (.string s.data.toList))) : s.size ≤ 140737488351232 := by
  have := sized_at h ht hd
  simp only [DataW.weights, List.all_cons, List.all_nil, Bool.and_true, decide_eq_true_eq] at this
  have e : s.data.toList.length = s.size := Array.length_toList
  rw [e] at this
  have r : reachBytes = 140737488351232 := rfl
  omega

/-! ### Opening arguments -/
set_option maxRecDepth 100000 in
/-- []byte -/
theorem open_bytes {H : Type} {enc : TypeId × Value → H} {W : World} {r : Reach} {b0 : Nat} {v : Value} {d : DataW H} {ps : List MemPlace} (hval : Value.okWide Tryd.prog W r b0 30 v)
    (h : DataW.Trod enc Tryd.prog W 0 (fun _ => true) true 30 v d ps) : ∃ l : List UInt8, Bs W v l ∧ l.length ≤ Rows.uptoBulk d := by
  obtain ⟨a, len, cap, rfl⟩ := okWide_slice Tryd.underlying30 hval
  obtain ⟨fuel, hf⟩ := h
  have hf' : DataW.trod enc Tryd.prog W 0 (fun _ => true) true fuel 30 [.slice a len cap] = some (d, ps) := by simpa [Value.cells] using hf
  rcases open_ints Tryd.underlying30 Tryd.underlying5 (by kernel_rfl) hf' with ⟨hcs, hx⟩ | ⟨ad, len', cap', zs, hcs, _, hl, hm, hz, hx, hcell, hwz⟩
  · simp only [List.cons.injEq, Value.slice.injEq, and_true] at hcs
    obtain ⟨rfl, rfl, rfl⟩ := hcs
    exact ⟨[], Rd.nil W, by simp⟩
  · simp only [List.cons.injEq, Value.slice.injEq, and_true] at hcs
    obtain ⟨rfl, rfl, rfl⟩ := hcs
    simp only [if_true] at hz
    simp only [Prod.mk.injEq] at hx
    obtain ⟨rfl, _⟩ := hx
    have hlen : ((zs.take len).map fun z => B8 z.toNat).length = len := by simp; omega
    refine ⟨(zs.take len).map fun z => B8 z.toNat, ?_, ?_⟩
    · unfold Bs
      rw [hlen]
      refine ⟨some ad, cap, rfl, hl, hm, (fun e => by cases e), fun ad' e j u hu => ?_⟩
      cases e
      have hj : j < len := by
        have := (List.getElem?_eq_some_iff.1 hu).1
        simp at this; omega
      have hjz : j < zs.length := by omega
      rw [hcell j hjz, ← hu]
      have hw := hwz (zs[j]'hjz) (List.getElem_mem _)
      have hb : 0 ≤ zs[j]'hjz ∧ zs[j]'hjz ≤ 255 := by simpa [Lit.wf, IntKind.min, IntKind.max, IntKind.signed, IntKind.bits] using hw
      have e2 : (((zs.take len).map fun z => B8 z.toNat).map byteV)[j]? = some (byteV (B8 (zs[j]'hjz).toNat)) := by
        simp [hj, List.getElem?_eq_getElem hjz]
      rw [e2, byteV_B8 (show (zs[j]'hjz).toNat < 256 by omega) (show zs[j]'hjz = ((zs[j]'hjz).toNat : Int) by omega)]
      simp [List.getD, hjz]
    · rw [hlen]
      have := bulk_length (lits .u8 (zs.take len) : List (DataW H))
      have h2 : (lits .u8 (zs.take len) : List (DataW H)).length = len := by simp [lits]; omega
      simp only [Rows.uptoBulk]
      omega

theorem laidOut : laidOutB Tryd.prog = true := by kernel_rfl
theorem own : ownKnob Tryd.prog.godebug = none := by kernel_rfl

end Go.Proofs.YtclicjokgfiegaaDoor

/- What rows of structs that came in read as: for whatever struct. Of no function of the program. -/
namespace Go.Proofs.YtclicjokgfiegaaDoor
open Go.ChangeShapes Go.WideShapes Go.ChangeAt Go.RowKit
set_option linter.unusedVariables false
set_option linter.unusedSimpArgs false

theorem flat_at {α : Type} (cells : α → List Value) (K : Nat) (hK0 : 0 < K) (hK : ∀ x, (cells x).length = K) : ∀ (l : List α) (j : Nat) (u : Value), (l.flatMap cells)[j]? = some u → ∃ x, l[j / K]? = some x ∧ (cells x)[j % K]? = some u
  | [], j, u, h => by simp at h
  | y :: t, j, u, h => by
    rw [List.flatMap_cons] at h
    by_cases hj : j < K
    · rw [List.getElem?_append_left (by rw [hK]; exact hj)] at h
      exact ⟨y, by rw [Nat.div_eq_of_lt hj]; rfl, by rw [Nat.mod_eq_of_lt hj]; exact h⟩
    · rw [List.getElem?_append_right (by rw [hK]; omega), hK] at h
      obtain ⟨x, h1, h2⟩ := flat_at cells K hK0 hK t (j - K) u h
      refine ⟨x, ?_, ?_⟩
      · have e : j / K = (j - K) / K + 1 := by
          have := Nat.add_div_right (j - K) hK0
          rw [Nat.sub_add_cancel (by omega)] at this
          exact this
        rw [e]; simpa using h1
      · have e : j % K = (j - K) % K := by rw [Nat.mod_eq_sub_mod (by omega)]
        rw [e]; exact h2

theorem rows_weights_mem {H : Type} {P : Program} {e : TypeId} : ∀ {ds : List (DataW H)} {d : DataW H}, (DataW.weightsAll P e ds).all (· ≤ reachBytes) = true → d ∈ ds → (d.weights P e).all (· ≤ reachBytes) = true
  | d0 :: ds, d, h, hm => by
    rw [DataW.weightsAll, List.all_append, Bool.and_eq_true] at h
    rcases List.mem_cons.1 hm with rfl | hm
    · exact h.1
    · exact rows_weights_mem h.2 hm
theorem rows_weights {H : Type} {P : Program} {t e : TypeId} (ht : P.underlying t = some (.slice e)) {es sp : List (DataW H)} {d : DataW H} (h : ((DataW.slice es sp).weights P t).all (· ≤ reachBytes) = true) (hm : d ∈ es) : (d.weights P e).all (· ≤ reachBytes) = true := by
  simp only [DataW.weights, ht, List.all_cons, List.all_append, Bool.and_eq_true] at h
  exact rows_weights_mem h.2.1 hm

section
variable {H : Type} {enc : TypeId × Value → H} {w : World}
set_option maxRecDepth 100000 in
theorem open_rows {α : Type} [Inhabited α] (cells : α → List Value) (K : Nat) (hK0 : 0 < K) (hK : ∀ x, (cells x).length = K) {t e : TypeId} (ht : Tryd.prog.underlying t = some (.slice e)) (hc : Tryd.prog.cellsOf e = K) (Good : α → Prop)
    (one : ∀ n cs d p, DataW.trod enc Tryd.prog w 0 (fun _ => true) true n e cs = some (d, p) → (d.weights Tryd.prog e).all (· ≤ reachBytes) = true → ∃ x, cs = cells x ∧ Good x)
    {r : Reach} {b0 : Nat} {v : Value} {d : DataW H} {ps : List MemPlace} (hval : Value.okWide Tryd.prog w r b0 t v)
    (h : DataW.Trod enc Tryd.prog w 0 (fun _ => true) true t v d ps) (hz : (d.weights Tryd.prog t).all (· ≤ reachBytes) = true) : ∃ l : List α, Rd w v l.length (l.flatMap cells) ∧ ∀ x ∈ l, Good x := by
  obtain ⟨a, len, cap, rfl⟩ := okWide_slice ht hval
  obtain ⟨fuel, hf⟩ := h
  have hf' : DataW.trod enc Tryd.prog w 0 (fun _ => true) true fuel t [.slice a len cap] = some (d, ps) := by simpa [Value.cells] using hf
  rcases Go.Deep.open_slice ht hf' with ⟨hcs, hx⟩ | ⟨ad, len', cap', m, n, D, Pl, hcs, _, hl, hm, hmm, hx, hcell⟩
  · simp only [List.cons.injEq, Value.slice.injEq, and_true] at hcs
    obtain ⟨rfl, rfl, rfl⟩ := hcs
    exact ⟨[], Rd.nil w, by simp⟩
  · simp only [List.cons.injEq, Value.slice.injEq, and_true] at hcs
    obtain ⟨rfl, rfl, rfl⟩ := hcs
    simp only [if_true] at hmm
    subst hmm
    simp only [Prod.mk.injEq] at hx
    obtain ⟨rfl, _⟩ := hx
    have each : ∀ i, i < len → ∃ x : α, w.cells? 0 (ad.add (i * K)) K = some (cells x) ∧ Good x := by
      intro i hi
      obtain ⟨cs', h1, h2⟩ := hcell i (by omega)
      have hmem : D i ∈ (List.range len).map D := List.mem_map.2 ⟨i, List.mem_range.2 hi, rfl⟩
      obtain ⟨x, rfl, hg⟩ := one _ _ _ _ h2 (rows_weights ht hz hmem)
      rw [hc] at h1
      exact ⟨x, h1, hg⟩
    obtain ⟨g, hg⟩ := Go.Deep.choose_lt each
    have hlen : ((List.range len).map g).length = len := by simp
    refine ⟨(List.range len).map g, ?_, ?_⟩
    · rw [hlen]
      refine ⟨some ad, _, rfl, hl, hm, (fun e => by cases e), fun ad' e j u hu => ?_⟩
      cases e
      obtain ⟨x, h1, h2⟩ := flat_at cells K hK0 hK _ j u hu
      have hi : j / K < len := by
        have := (List.getElem?_eq_some_iff.1 h1).1
        simpa using this
      have hgx : g (j / K) = x := by
        have : ((List.range len).map g)[j / K]? = some (g (j / K)) := by simp [hi]
        rw [this] at h1; exact Option.some.inj h1
      obtain ⟨_, _, hcc⟩ := World.cells?_some (hg (j / K) hi).1
      have hcj := hcc (j % K) (Nat.mod_lt _ hK0)
      rw [Go.Deep.add_add, hgx, h2, Nat.mul_comm, Nat.div_add_mod] at hcj
      exact hcj
    · intro f hf
      obtain ⟨i, hi, rfl⟩ := List.mem_map.1 hf
      exact (hg i (List.mem_range.1 hi)).2
end
end Go.Proofs.YtclicjokgfiegaaDoor

/- The tables of utf8, out of a row's list. -/
namespace Go.Proofs.YtclicjokgfiegaaDoor
open Go.RowKit

theorem u8extra : U8Extra Tryd.prog Tryd.laysValid_ren := {
  n3 := by kernel_rfl
  n4 := by kernel_rfl
  y3 := by kernel_rfl
  y4 := by kernel_rfl
  c5 := by kernel_rfl
  c119 := by kernel_rfl
  c138 := by kernel_rfl }

theorem envU_of {W : World} {l : List (String × DataW Unit)} (h : laidMetH Tryd.prog l W) (i j : Nat) (dF dA : DataW Unit)
    (hi : (l.filter fun x => x.2.handleName?.isNone)[i]? = some ("unicode/utf8.first", dF)) (hj : (l.filter fun x => x.2.handleName?.isNone)[j]? = some ("unicode/utf8.acceptRanges", dA))
    (hF : dF = Lib.firstData) (hA : dA = Lib.acceptData) : EnvU W := by
  subst hF hA
  obtain ⟨h1, _⟩ := laidMetH_iff.1 h
  obtain ⟨ps, hv, _⟩ := h1
  exact utf8Tabs_of_readsT (U8Types.of196 Tryd.laysValid) u8extra (laidVars_get _ ps hv i _ _ hi) (laidVars_get _ ps hv j _ _ hj)
theorem first_is : Go.Pinned.utf8First = Lib.firstData := by kernel_rfl
/-- The tables, laid into a heap. -/
def layFirst : Obj → Obj
  | .cells _ t frozen => .cells ((List.range 256).map fun c => Value.int .u8 (Lib.firstT c : Int)).toArray t frozen
  | o => o
def layAccept : Obj → Obj
  | .cells _ t frozen => .cells ((List.range 16).flatMap fun i => [Value.int .u8 (Lib.accLo i : Int), Value.int .u8 (Lib.accHi i : Int)]).toArray t frozen
  | o => o
def layU (h : Array Obj) : Array Obj := (h.modify 3 layFirst).modify 4 layAccept

end Go.Proofs.YtclicjokgfiegaaDoor

/- What spots that came in read as; the words out of a row's list. Of no function of the program. -/
namespace Go.Proofs.YtclicjokgfiegaaDoor
open Go.ChangeShapes Go.WideShapes Go.ChangeAt Go.RowKit
set_option linter.unusedVariables false
set_option linter.unusedSimpArgs false

theorem cells_spot : Tryd.prog.cellsOf 44 = 4 := by kernel_rfl
theorem sp_cells_int : Tryd.prog.cellsOf 3 = 1 := by kernel_rfl
theorem sp_cells_string : Tryd.prog.cellsOf 9 = 1 := by kernel_rfl
section
variable {H : Type} {enc : TypeId × Value → H} {w : World} {base : Nat} {sp : Nat → Bool} {held : Bool}
set_option maxRecDepth 100000 in
theorem spot_cells {n : Nat} {cs : List Value} {d : DataW H} {p : List MemPlace} (h : DataW.trod enc Tryd.prog w base sp held n 44 cs = some (d, p)) (hz : (d.weights Tryd.prog 44).all (· ≤ reachBytes) = true) :
    ∃ (k : Int) (x1 x2 x3 : ByteArray), cs = [.int .i64 k, .string x1, .string x2, .string x3] ∧ x1.size ≤ 140737488351232 ∧ x2.size ≤ 140737488351232 ∧ x3.size ≤ 140737488351232 := by
  obtain ⟨xs, n', _, hx, hlen, hxl, hf⟩ := DataW.trod_struct Tryd.underlying44 h
  simp only [Prod.mk.injEq] at hx
  obtain ⟨rfl, rfl⟩ := hx
  rw [cells_spot] at hlen
  match cs, hlen, xs, hxl with
  | [c0, c1, c2, c3], _, [y0, y1, y2, y3], _ =>
    have g0 : DataW.trod enc Tryd.prog w base sp held n' 3 [c0] = some y0 := by have := hf 0 _ rfl; simpa [sp_cells_int] using this
    have g1 : DataW.trod enc Tryd.prog w base sp held n' 9 [c1] = some y1 := by have := hf 1 _ rfl; simpa [sp_cells_string] using this
    have g2 : DataW.trod enc Tryd.prog w base sp held n' 9 [c2] = some y2 := by have := hf 2 _ rfl; simpa [sp_cells_string] using this
    have g3 : DataW.trod enc Tryd.prog w base sp held n' 9 [c3] = some y3 := by have := hf 3 _ rfl; simpa [sp_cells_string] using this
    obtain ⟨x0, e0, rfl, _⟩ := DataW.trod_int Tryd.underlying3 g0
    obtain ⟨x1, e1, rfl, _⟩ := DataW.trod_string Tryd.underlying9 g1
    obtain ⟨x2, e2, rfl, _⟩ := DataW.trod_string Tryd.underlying9 g2
    obtain ⟨x3, e3, rfl, _⟩ := DataW.trod_string Tryd.underlying9 g3
    have hw : (DataW.weightsEach Tryd.prog [3, 9, 9, 9] [(DataW.lit (.int .i64 x0) : DataW H), DataW.lit (.string x1.data.toList), DataW.lit (.string x2.data.toList), DataW.lit (.string x3.data.toList)]).all (· ≤ reachBytes) = true := by
      simpa [DataW.weights, Tryd.underlying44] using hz
    simp only [List.cons.injEq, and_true] at e0 e1 e2 e3
    subst e0 e1 e2 e3
    exact ⟨x0, x1, x2, x3, rfl, sized_string hw (j := 1) (t := 9) rfl rfl, sized_string hw (j := 2) (t := 9) rfl rfl, sized_string hw (j := 3) (t := 9) rfl rfl⟩

/-- Sizes that a spot's parts keep to. -/
def SpS.sized (s : SpS) : Prop := s.g.length ≤ 140737488351232 ∧ s.n.length ≤ 140737488351232 ∧ s.d.length ≤ 140737488351232
set_option maxRecDepth 100000 in
theorem open_spot {r : Reach} {b0 : Nat} {v : Value} {d : DataW H} {p : List MemPlace} (hv : Value.okWide Tryd.prog w r b0 44 v) (h : DataW.Trod enc Tryd.prog w base sp held 44 v d p) (hz : (d.weights Tryd.prog 44).all (· ≤ reachBytes) = true) :
    ∃ s : SpS, v = spV s ∧ s.sized := by
  obtain ⟨cs, rfl, hsz⟩ := okWide_struct Tryd.underlying44 hv
  obtain ⟨fuel, hf⟩ := h
  obtain ⟨k, x1, x2, x3, hc, h1, h2, h3⟩ := spot_cells hf hz
  refine ⟨⟨k, sB x1, sB x2, sB x3⟩, ?_, by unfold SpS.sized; simp only [sB_len]; exact ⟨h1, h2, h3⟩⟩
  have : cs.toList = [.int .i64 k, .string x1, .string x2, .string x3] := by simpa [Value.cells] using hc
  unfold spV
  simp only [sOf_sBL]
  rw [← Array.toArray_toList (xs := cs), this]
end

/-- The words, as a row's list says them. -/
def wordLits : List Lit := wordT.map Lit.string
set_option maxRecDepth 100000 in
theorem envW_of {W : World} {l : List (String × DataW Unit)} (h : laidMetH Tryd.prog l W) (i : Nat) (hi : (l.filter fun x => x.2.handleName?.isNone)[i]? = some ("crier/space.words", .agg (wordLits.map DataW.lit))) : EnvW W := by
  obtain ⟨h1, h2⟩ := laid_lits h i hi (g := 0) (t := 172) (e := 9) (k := 10) (by kernel_rfl) (by kernel_rfl) Tryd.underlying172 (.inr (.inr Tryd.underlying9)) (by kernel_rfl) (by kernel_rfl)
  refine ⟨h1, fun i hi => ?_⟩
  rw [h2 i (by simpa [wordLits, wordT] using hi)]
  match i, hi with
  | 0, _ => rfl
  | 1, _ => rfl
  | 2, _ => rfl
  | 3, _ => rfl
  | 4, _ => rfl
  | 5, _ => rfl
  | 6, _ => rfl
  | 7, _ => rfl
  | 8, _ => rfl
  | 9, _ => rfl
  | n + 10, h => exact absurd h (by omega)
/-- The variables of these laws, laid. -/
def layWords : Obj → Obj
  | .cells _ t frozen => .cells (wordT.map fun x => Value.string (sOf x)).toArray t frozen
  | o => o
def laySp (h : Array Obj) : Array Obj := (layU h).modify 0 layWords
end Go.Proofs.YtclicjokgfiegaaDoor
