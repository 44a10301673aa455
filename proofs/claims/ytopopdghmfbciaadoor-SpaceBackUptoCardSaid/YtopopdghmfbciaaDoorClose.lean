/- From a walk to a law's statement: what a law leaves behind, argument by argument; what a listed variable reads as. Of no function of the program. -/
import Derived.Test.YtopopdghmfbciaaDoorBase
import Derived.ProofKit
import Derived.OpenShut
import Derived.Deep.DeepHandedRow
import Derived.Lib.LaidTab
import Derived.LaidSub
import Derived.Lib.SmallJoins
import Derived.LaidLaws
namespace Go.Proofs.YtopopdghmfbciaaDoor
open Go.ChangeShapes Go.WideShapes Go.ChangeAt Go.RowKit

section
variable {H : Type} {enc : TypeId × Value → H} {P : Program}

/-- Every argument reads behind the call as it did, if nothing that was there has turned. -/
theorem trodAll_below (hl : laidOutB P = true) {W W' : World} (hb : Below W.heap.size W W') :
    ∀ (ts : List TypeId) (vs : List Value) (ds : List (DataW H)) (p : List MemPlace), (ts.all fun t => P.readableRec t && decide (t < P.types.size)) = true →
      DataW.TrodAll enc P W 0 (fun _ => true) true ts vs ds p → (∀ x ∈ p, x.block < W.heap.size) → DataW.TrodAll enc P W' 0 (fun b => decide (b < W.heap.size)) true ts vs ds p
  | [], [], [], _, _, h, _ => h
  | t :: ts, v :: vs, d :: ds, p, hr, h, hp => by
    obtain ⟨p1, q, h1, h2, rfl⟩ := h
    simp only [List.all_cons, Bool.and_eq_true, decide_eq_true_eq] at hr
    exact ⟨p1, q, Below.trod hl hr.1.1 hr.1.2 h1 hb (fun x hx => hp x (by simp [hx])),
      trodAll_below hl hb ts vs ds q (by simpa using hr.2) h2 (fun x hx => hp x (by simp [hx])), rfl⟩
  | [], _ :: _, _, _, _, h, _ => by cases h
  | [], [], _ :: _, _, _, h, _ => by cases h
  | _ :: _, [], _, _, _, h, _ => by cases h
  | _ :: _, _ :: _, [], _, _, h, _ => by cases h

/-- A LAW's END: it returns true; nothing that was there has turned. -/
theorem post_law {f : Func} {s : ChangeSpec} {W W' : World} {args : Array Value} {ds gs : List (DataW H)} {before : List MemPlace} {T : TypeId}
    (hl : laidOutB P = true) (hT : P.underlying T = some .bool) (hres : f.resultTypes = #[T]) (hvars : s.vars = [])
    (hread : (f.params.toList.all fun t => P.readableRec t && decide (t < P.types.size)) = true)
    (hW : DataW.Whole enc P f.params.toList s.vars false W args.toList ds gs before) (hfn : s.fn H (ds ++ gs) = { results := [.lit (.bool true)], args := ds })
    (hb : Below W.heap.size W W') : s.post enc P f false true false false W args (.bool true) W' := by
  have hW' := hW
  obtain ⟨p, q, hA, hV, rfl, hfz, hnd⟩ := hW
  rw [hvars] at hV
  obtain ⟨rfl, rfl⟩ := trodVars_none hV
  have hlt : ∀ x ∈ p, x.block < W.heap.size := fun x hx => by simpa using hW'.lt x (by simpa using hx)
  refine ⟨ds, [], p ++ [], [], p, [], hW', ?_, ?_, ?_, hb.frame _, fun h => by cases h⟩
  · rw [hfn, hres]
    exact trodAll_cons_mk (shut_bool hT _) trodAll_mk0
  · rw [hfn]
    exact trodAll_below hl hb _ _ _ _ hread hA hlt
  · rw [hvars, hfn]
    rfl

/-! ### A listed variable that is an array of plain literals -/
theorem bytes_eta (s : ByteArray) : (⟨s.data.toList.toArray⟩ : ByteArray) = s := by cases s; simp
def litV : Lit → Value
  | .bool b => .bool b
  | .int k n => .int k n
  | .float k b => .float k b
  | .string l => .string ⟨l.toArray⟩
  | .nil => undef

theorem cell_of_lit {w : World} {base : Nat} {sp : Nat → Bool} {held : Bool} {fuel : Nat} {e : TypeId} {cs : List Value} {l : Lit} {p : List MemPlace} (he : P.underlying e = some .bool ∨ (∃ k, P.underlying e = some (.int k)) ∨ P.underlying e = some .string)
    (h : DataW.trod enc P w base sp held fuel e cs = some (.lit l, p)) : cs = [litV l] := by
  cases fuel with
  | zero => simp [DataW.trod] at h
  | succ n =>
    rcases he with he | ⟨k, he⟩ | he
    · unfold DataW.trod at h
      rw [he] at h
      split at h <;> simp_all
      obtain ⟨h1, _⟩ := h
      rw [← h1]; rfl
    · unfold DataW.trod at h
      rw [he] at h
      split at h <;> simp_all
      obtain ⟨⟨h1, h2⟩, h3, h4⟩ := h
      subst h1 h3
      rfl
    · unfold DataW.trod at h
      rw [he] at h
      split at h <;> simp_all
      obtain ⟨h1, h3, h4⟩ := h
      subst h3
      exact congrArg Value.string (bytes_eta _).symm

theorem cells_of_lits {w : World} {base : Nat} {sp : Nat → Bool} {held : Bool} {fuel : Nat} {t e : TypeId} {n : Nat} {cs : List Value} {ls : List Lit} {p : List MemPlace}
    (ht : P.underlying t = some (.array n e)) (he : P.underlying e = some .bool ∨ (∃ k, P.underlying e = some (.int k)) ∨ P.underlying e = some .string) (hce : P.cellsOf e = 1) (hct : P.cellsOf t = n)
    (h : DataW.trod enc P w base sp held fuel t cs = some (.agg (ls.map DataW.lit), p)) : cs = ls.map litV := by
  obtain ⟨xs, m, rfl, hx, hl, hxl, hel⟩ := DataW.trod_array ht h
  simp only [Prod.mk.injEq, DataW.agg.injEq] at hx
  obtain ⟨hx, _⟩ := hx
  have hln : ls.length = n := by have := congrArg List.length hx; simp at this; omega
  rw [hce] at hel
  apply List.ext_getElem?
  intro i
  by_cases hi : i < n
  · have h1 := hel i hi
    have hxi : xs[i]? = some (xs[i]'(by omega)) := List.getElem?_eq_getElem _
    rw [hxi, Nat.mul_one] at h1
    have h2 : (xs[i]'(by omega)).1 = .lit (ls[i]'(by omega)) := by
      have := congrArg (·[i]?) hx
      simp [hi, hxl, hln] at this
      exact this.symm
    have h3 : xs[i]'(by omega) = (.lit (ls[i]'(by omega)), (xs[i]'(by omega)).2) := by rw [← h2]
    rw [h3] at h1
    have h4 := cell_of_lit he h1
    have h5 := congrArg (·[0]?) h4
    simp [List.getElem?_drop] at h5
    rw [h5]
    simp [hln, hi]
  · rw [List.getElem?_eq_none (by omega), List.getElem?_eq_none (by simp; omega)]

/-- What a list says of its variable number i. -/
theorem laidVars_get {w : World} : ∀ (l : List (String × DataW Unit)) (ps : List MemPlace), DataW.LaidVars P w l ps → ∀ (i : Nat) (n : String) (d : DataW Unit), l[i]? = some (n, d) →
    ∃ g t cs fuel p, P.globalNamed n = some g ∧ (P.globals[g]?).map (·.type) = some t ∧ w.var? P n = some cs ∧ DataW.trod (fun _ => ()) P w 0 (fun _ => true) false fuel t cs.toList = some (d, p)
  | [], _, _, i, n, d, hi => by simp at hi
  | (n0, d0) :: r, ps, h, i, n, d, hi => by
    obtain ⟨g, t, cs, fuel, p, q, h1, h2, h3, h4, h5, _⟩ := h
    cases i with
    | zero => cases hi; exact ⟨g, t, cs, fuel, p, h1, h2, h3, h4⟩
    | succ i => exact laidVars_get r q h5 i n d (by simpa using hi)

/-- The cells of a listed array of plain literals. -/
theorem laid_lits {W : World} {l : List (String × DataW Unit)} (h : laidMetH P l W) (i : Nat) {n : String} {ls : List Lit} {g : Nat} {t e : TypeId} {k : Nat}
    (hi : (l.filter fun x => x.2.handleName?.isNone)[i]? = some (n, .agg (ls.map DataW.lit)))
    (hg : P.globalNamed n = some g) (hty : (P.globals[g]?).map (·.type) = some t) (ht : P.underlying t = some (.array k e))
    (he : P.underlying e = some .bool ∨ (∃ k, P.underlying e = some (.int k)) ∨ P.underlying e = some .string) (hce : P.cellsOf e = 1) (hct : P.cellsOf t = k) :
    g < W.heap.size ∧ ∀ j, j < ls.length → W.cell? ⟨g, j, none⟩ = (ls[j]?).map litV := by
  obtain ⟨h1, _⟩ := laidMetH_iff.1 h
  obtain ⟨ps, hv, _⟩ := h1
  obtain ⟨g', t', cs, fuel, p, a1, a2, a3, a4⟩ := laidVars_get _ ps hv i n _ hi
  obtain rfl := Option.some.inj (hg.symm.trans a1)
  obtain rfl := Option.some.inj (hty.symm.trans a2)
  have hc := cells_of_lits ht he hce hct a4
  have hlt : g < W.heap.size := by
    unfold World.var? at a3
    rw [hg] at a3
    simp only [Option.bind_some] at a3
    rcases Nat.lt_or_ge g W.heap.size with h' | h'
    · exact h'
    · rw [Array.getElem?_eq_none h'] at a3; cases a3
  refine ⟨hlt, fun j hj => ?_⟩
  rw [World.var?_cell hg a3 j]
  have h6 : cs.toList[j]? = (ls.map litV)[j]? := by rw [hc]
  simpa using h6
end

/-! ### What the bound of the second form gives -/
theorem bulk_one {H : Type} (d : DataW H) : 1 ≤ Rows.uptoBulk d := by
  cases d with
  | lit l => cases l <;> simp [Rows.uptoBulk]
  | nil => simp [Rows.uptoBulk]
  | ptr d => simp [Rows.uptoBulk]
  | slice elems spare => simp [Rows.uptoBulk]
  | agg parts => simp [Rows.uptoBulk]
  | iface t d => simp [Rows.uptoBulk]
  | map entries => simp [Rows.uptoBulk]
  | held h => simp [Rows.uptoBulk]
theorem bulk_part {H : Type} {d : DataW H} {l : List (DataW H)} (h : d ∈ l) : Rows.uptoBulk d ≤ Rows.uptoBulkAll l := by
  induction l with
  | nil => cases h
  | cons x r ih =>
    simp only [Rows.uptoBulkAll]
    cases List.mem_cons.1 h with
    | inl e => subst e; omega
    | inr e => have := ih e; omega
theorem bulk_length {H : Type} (l : List (DataW H)) : l.length ≤ Rows.uptoBulkAll l := by
  induction l with
  | nil => simp [Rows.uptoBulkAll]
  | cons x r ih => have := bulk_one x; simp only [Rows.uptoBulkAll, List.length_cons]; omega
theorem bulk_bound {H : Type} {l : List (DataW H)} (hk : Rows.uptoSmall H l = true) : Rows.uptoBulkAll l ≤ 1048576 := of_decide_eq_true hk

/-! ### What the reach gives: a string takes at most so many bytes -/
theorem sized_at {H : Type} {P : Program} : ∀ {ts : List TypeId} {ds : List (DataW H)}, (DataW.weightsEach P ts ds).all (· ≤ reachBytes) = true → ∀ {j : Nat} {t : TypeId} {d : DataW H}, ts[j]? = some t → ds[j]? = some d → (d.weights P t).all (· ≤ reachBytes) = true
  | t0 :: ts, d0 :: ds, h, j, t, d, ht, hd => by
    rw [DataW.weightsEach, List.all_append, Bool.and_eq_true] at h
    cases j with
    | zero =>
      simp only [List.getElem?_cons_zero, Option.some.injEq] at ht hd
      subst ht hd
      exact h.1
    | succ j => exact sized_at h.2 (by simpa using ht) (by simpa using hd)
  | [], _, _, j, t, d, ht, _ => by simp at ht
  | _ :: _, [], _, j, t, d, _, hd => by simp at hd
theorem sized_string {H : Type} {P : Program} {ts : List TypeId} {ds : List (DataW H)} (h : (DataW.weightsEach P ts ds).all (· ≤ reachBytes) = true) {j : Nat} {t : TypeId} {s : ByteArray} (ht : ts[j]? = some t) (hd : ds[j]? = some (.lit (.string s.data.toList))) : s.size ≤ 140737488351232 := by
  have := sized_at h ht hd
  simp only [DataW.weights, List.all_cons, List.all_nil, Bool.and_true, decide_eq_true_eq] at this
  have e : s.data.toList.length = s.size := Array.length_toList
  rw [e] at this
  have r : reachBytes = 140737488351232 := rfl
  omega

/-! ### Opening arguments -/
set_option maxRecDepth 100000 in
/-- []byte -/
theorem open_bytes {H : Type} {enc : TypeId × Value → H} {W : World} {r : Reach} {b0 : Nat} {v : Value} {d : DataW H} {ps : List MemPlace} (hval : Value.okWide Tryd.prog W r b0 63 v)
    (h : DataW.Trod enc Tryd.prog W 0 (fun _ => true) true 63 v d ps) : ∃ l : List UInt8, Bs W v l ∧ l.length ≤ Rows.uptoBulk d := by
  obtain ⟨a, len, cap, rfl⟩ := okWide_slice Tryd.underlying63 hval
  obtain ⟨fuel, hf⟩ := h
  have hf' : DataW.trod enc Tryd.prog W 0 (fun _ => true) true fuel 63 [.slice a len cap] = some (d, ps) := by simpa [Value.cells] using hf
  rcases open_ints Tryd.underlying63 Tryd.underlying5 (by kernel_rfl) hf' with ⟨hcs, hx⟩ | ⟨ad, len', cap', zs, hcs, _, hl, hm, hz, hx, hcell, hwz⟩
  · simp only [List.cons.injEq, Value.slice.injEq, and_true] at hcs
    obtain ⟨rfl, rfl, rfl⟩ := hcs
    exact ⟨[], Rd.nil W, by simp⟩
  · simp only [List.cons.injEq, Value.slice.injEq, and_true] at hcs
    obtain ⟨rfl, rfl, rfl⟩ := hcs
    simp only [if_true] at hz
    simp only [Prod.mk.injEq] at hx
    obtain ⟨rfl, _⟩ := hx
    have hlen : ((zs.take len).map fun z => B8 z.toNat).length = len := by simp; omega
    refine ⟨(zs.take len).map fun z => B8 z.toNat, ?_, ?_⟩
    · unfold Bs
      rw [hlen]
      refine ⟨some ad, cap, rfl, hl, hm, (fun e => by cases e), fun ad' e j u hu => ?_⟩
      cases e
      have hj : j < len := by
        have := (List.getElem?_eq_some_iff.1 hu).1
        simp at this; omega
      have hjz : j < zs.length := by omega
      rw [hcell j hjz, ← hu]
      have hw := hwz (zs[j]'hjz) (List.getElem_mem _)
      have hb : 0 ≤ zs[j]'hjz ∧ zs[j]'hjz ≤ 255 := by simpa [Lit.wf, IntKind.min, IntKind.max, IntKind.signed, IntKind.bits] using hw
      have e2 : (((zs.take len).map fun z => B8 z.toNat).map byteV)[j]? = some (byteV (B8 (zs[j]'hjz).toNat)) := by
        simp [hj, List.getElem?_eq_getElem hjz]
      rw [e2, byteV_B8 (show (zs[j]'hjz).toNat < 256 by omega) (show zs[j]'hjz = ((zs[j]'hjz).toNat : Int) by omega)]
      simp [List.getD, hjz]
    · rw [hlen]
      have := bulk_length (lits .u8 (zs.take len) : List (DataW H))
      have h2 : (lits .u8 (zs.take len) : List (DataW H)).length = len := by simp [lits]; omega
      simp only [Rows.uptoBulk]
      omega

theorem laidOut : laidOutB Tryd.prog = true := by kernel_rfl
theorem own : ownKnob Tryd.prog.godebug = none := by kernel_rfl

end Go.Proofs.YtopopdghmfbciaaDoor
