/- A bundle of texts (merged for the limit on files): FrLaws, Close, HeadVars, FrVars, Blk, FrPk, FrChunkPlain, HeadFlags, ConPlain. -/
import Derived.Test.YtjlnlgemngpelaaGreatDoorZa4
import Derived.Test.YtjlnlgemngpelaaGreatDoorZa1
import Derived.ProofKit
import Derived.OpenShut
import Derived.Deep.DeepHandedRow
import Derived.Lib.LaidTab
import Derived.LaidSub
import Derived.Lib.SmallJoins
import Derived.LaidLaws
import Derived.Test.YtjlnlgemngpelaaGreatDoorZa3
import Derived.LaidHandle
/- The laws of packets out of chunks: awake, Zero: the walks. -/
namespace Go.Proofs.YtjlnlgemngpelaaGreatDoor
open Go.RowKit
set_option linter.unusedVariables false
set_option linter.unusedSimpArgs false

def EnvF (w : World) : Prop := EnvH w ∧ EnvR w
theorem EnvF.below {w w' : World} (h : EnvF w) (hb : Below w.heap.size w w') : EnvF w' := ⟨h.1.below hb (Nat.le_refl _), h.2.below hb⟩

theorem next_c (g : Nat) (s : FrS) {S : List Nat} (w : World) (hE : EnvF w) (h : FrAt w g s.1 s.2.1 s.2.2 S) (hlm : s.1.length ≤ 140737488355328) (ht : 0 ≤ s.2.1 ∧ s.2.1 ≤ 140737488355328) :
    Calls Tryz.prog 40 #[.pointer (some ⟨g, 0, none⟩)] w (fun e w' => GivesNext w g (frNext s) e w' S) := by
  obtain ⟨l, t, d⟩ := s
  by_cases hd0 : d = 0
  · subst hd0
    exact nextLive_c g l t w hE.1 hE.2 h hlm ht
  · have e : frNext (l, t, d) = ((pk0, false, d), (l, t, d)) := by rw [frNext, if_pos hd0]
    rw [e]
    exact nextDead_c g l t d w h hd0

theorem sOf_nil : sOf [] = ⟨#[]⟩ := rfl

set_option maxRecDepth 100000 in
set_option maxHeartbeats 2000000 in
theorem feedNil_c (s : ByteArray) (w : World) : Calls Tryz.prog 28 #[.pointer none, .string s] w fun e w' => e = .returned (.int .i64 8) ∧ w = w' := by
  go_enter Tryz.func28, Tryz.ntmps28
  go_wp2_with fail
  refine (noneN_c _).mono ?_
  rintro e w' ⟨rfl, rfl⟩
  go_wp2_with fail
  go_ret
  exact ⟨rfl, rfl⟩
set_option maxRecDepth 100000 in
set_option maxHeartbeats 2000000 in
theorem feedZ_c (g : Nat) (s : ByteArray) (w : World) (h3 : w.cell? ⟨g, 3, none⟩ = some (.bool false)) : Calls Tryz.prog 28 #[.pointer (some ⟨g, 0, none⟩), .string s] w fun e w' => e = .returned (.int .i64 8) ∧ w = w' := by
  go_enter Tryz.func28, Tryz.ntmps28
  go_wp2_with fail
  refine (noneZ_c _ _ h3).mono ?_
  rintro e w' ⟨rfl, rfl⟩
  go_wp2_with fail
  go_ret
  exact ⟨rfl, rfl⟩
set_option maxRecDepth 100000 in
set_option maxHeartbeats 2000000 in
theorem nextNil_c (w : World) : Calls Tryz.prog 40 #[.pointer none] w fun e w' => e = .returned (.tuple #[.agg #[.int .i64 0, .int .i64 0, .int .i64 0, .string ⟨#[]⟩], .bool false, .int .i64 8]) ∧ Below w.heap.size w w' := by
  go_enter Tryz.func40, Tryz.ntmps40
  go_wp2_with fail
  refine (noneN_c _).mono ?_
  rintro e w' ⟨rfl, rfl⟩
  go_wp2_with fail
  refine bodyPost_ret (nextRead (a := 0) (b := 0) (c := 0) (x := 8) (s := ⟨#[]⟩) (ok := false) rfl rfl rfl (by simp [go_sem]) (by simp [go_sem]) (by simp [go_sem]) (by simp [go_sem])) rfl ⟨rfl, by go_grown⟩
set_option maxRecDepth 100000 in
set_option maxHeartbeats 2000000 in
theorem nextZ_c (g : Nat) (w : World) (hg : g < w.heap.size) (h3 : w.cell? ⟨g, 3, none⟩ = some (.bool false)) : Calls Tryz.prog 40 #[.pointer (some ⟨g, 0, none⟩)] w fun e w' => e = .returned (.tuple #[.agg #[.int .i64 0, .int .i64 0, .int .i64 0, .string ⟨#[]⟩], .bool false, .int .i64 8]) ∧ Below w.heap.size w w' := by
  go_enter Tryz.func40, Tryz.ntmps40
  go_wp2_with fail
  refine (noneZ_c g _ (by simp [go_sem, h3, hg])).mono ?_
  rintro e w' ⟨rfl, rfl⟩
  go_wp2_with fail
  refine bodyPost_ret (nextRead (a := 0) (b := 0) (c := 0) (x := 8) (s := ⟨#[]⟩) (ok := false) rfl rfl rfl (by simp [go_sem]) (by simp [go_sem]) (by simp [go_sem]) (by simp [go_sem])) rfl ⟨rfl, by go_grown⟩
set_option maxRecDepth 100000 in
theorem waitsNil_c (w : World) : Calls Tryz.prog 32 #[.pointer none] w fun e w' => e = .returned (.int .i64 0) ∧ w = w' := by
  go_enter Tryz.func32, Tryz.ntmps32
  go_wp2_with fail
  refine (noneN_c _).mono ?_
  rintro e w' ⟨rfl, rfl⟩
  go_wp2_with fail
  go_ret
  exact ⟨rfl, rfl⟩
end Go.Proofs.YtjlnlgemngpelaaGreatDoor

/- From a walk to a law's statement: what a law leaves behind, argument by argument; what a listed variable reads as. Of no function of the program. -/
namespace Go.Proofs.YtjlnlgemngpelaaGreatDoor
open Go.ChangeShapes Go.WideShapes Go.ChangeAt Go.RowKit

section
variable {H : Type} {enc : TypeId × Value → H} {P : Program}

/-- Every argument reads behind the call as it did, if nothing that was there has turned. -/
theorem trodAll_below (hl : laidOutB P = true) {W W' : World} (hb : Below W.heap.size W W') :
    ∀ (ts : List TypeId) (vs : List Value) (ds : List (DataW H)) (p : List MemPlace), (ts.all fun t => P.readableRec t && decide (t < P.types.size)) = true →
      DataW.TrodAll enc P W 0 (fun _ => true) true ts vs ds p → (∀ x ∈ p, x.block < W.heap.size) → DataW.TrodAll enc P W' 0 (fun b => decide (b < W.heap.size)) true ts vs ds p
  | [], [], [], _, _, h, _ => h
  | t :: ts, v :: vs, d :: ds, p, hr, h, hp => by
    obtain ⟨p1, q, h1, h2, rfl⟩ := h
    simp only [List.all_cons, Bool.and_eq_true, decide_eq_true_eq] at hr
    exact ⟨p1, q, Below.trod hl hr.1.1 hr.1.2 h1 hb (fun x hx => hp x (by simp [hx])),
      trodAll_below hl hb ts vs ds q (by simpa using hr.2) h2 (fun x hx => hp x (by simp [hx])), rfl⟩
  | [], _ :: _, _, _, _, h, _ => by cases h
  | [], [], _ :: _, _, _, h, _ => by cases h
  | _ :: _, [], _, _, _, h, _ => by cases h
  | _ :: _, _ :: _, [], _, _, h, _ => by cases h

/-- A LAW's END: it returns true; nothing that was there has turned. -/
theorem post_law {f : Func} {s : ChangeSpec} {W W' : World} {args : Array Value} {ds gs : List (DataW H)} {before : List MemPlace} {T : TypeId}
    (hl : laidOutB P = true) (hT : P.underlying T = some .bool) (hres : f.resultTypes = #[T]) (hvars : s.vars = [])
    (hread : (f.params.toList.all fun t => P.readableRec t && decide (t < P.types.size)) = true)
    (hW : DataW.Whole enc P f.params.toList s.vars false W args.toList ds gs before) (hfn : s.fn H (ds ++ gs) = { results := [.lit (.bool true)], args := ds })
    (hb : Below W.heap.size W W') : s.post enc P f false true false false W args (.bool true) W' := by
  have hW' := hW
  obtain ⟨p, q, hA, hV, rfl, hfz, hnd⟩ := hW
  rw [hvars] at hV
  obtain ⟨rfl, rfl⟩ := trodVars_none hV
  have hlt : ∀ x ∈ p, x.block < W.heap.size := fun x hx => by simpa using hW'.lt x (by simpa using hx)
  refine ⟨ds, [], p ++ [], [], p, [], hW', ?_, ?_, ?_, hb.frame _, fun h => by cases h⟩
  · rw [hfn, hres]
    exact trodAll_cons_mk (shut_bool hT _) trodAll_mk0
  · rw [hfn]
    exact trodAll_below hl hb _ _ _ _ hread hA hlt
  · rw [hvars, hfn]
    rfl

/-! ### A listed variable that is an array of plain literals -/
theorem bytes_eta (s : ByteArray) : (⟨s.data.toList.toArray⟩ : ByteArray) = s := by cases s; simp
def litV : Lit → Value
  | .bool b => .bool b
  | .int k n => .int k n
  | .float k b => .float k b
  | .string l => .string ⟨l.toArray⟩
  | .nil => undef

theorem cell_of_lit {w : World} {base : Nat} {sp : Nat → Bool} {held : Bool} {fuel : Nat} {e : TypeId} {cs : List Value} {l : Lit} {p : List MemPlace} (he : P.underlying e = some .bool ∨ (∃ k, P.underlying e = some (.int k)) ∨ P.underlying e = some .string)
    (h : DataW.trod enc P w base sp held fuel e cs = some (.lit l, p)) : cs = [litV l] := by
  cases fuel with
  | zero => simp [DataW.trod] at h
  | succ n =>
    rcases he with he | ⟨k, he⟩ | he
    · unfold DataW.trod at h
      rw [he] at h
      split at h <;> simp_all
      obtain ⟨h1, _⟩ := h
      rw [← h1]; rfl
    · unfold DataW.trod at h
      rw [he] at h
      split at h <;> simp_all
      obtain ⟨⟨h1, h2⟩, h3, h4⟩ := h
      subst h1 h3
      rfl
    · unfold DataW.trod at h
      rw [he] at h
      split at h <;> simp_all
      obtain ⟨h1, h3, h4⟩ := h
      subst h3
      exact congrArg Value.string (bytes_eta _).symm

theorem cells_of_lits {w : World} {base : Nat} {sp : Nat → Bool} {held : Bool} {fuel : Nat} {t e : TypeId} {n : Nat} {cs : List Value} {ls : List Lit} {p : List MemPlace}
    (ht : P.underlying t = some (.array n e)) (he : P.underlying e = some .bool ∨ (∃ k, P.underlying e = some (.int k)) ∨ P.underlying e = some .string) (hce : P.cellsOf e = 1) (hct : P.cellsOf t = n)
    (h : DataW.trod enc P w base sp held fuel t cs = some (.agg (ls.map DataW.lit), p)) : cs = ls.map litV := by
  obtain ⟨xs, m, rfl, hx, hl, hxl, hel⟩ := DataW.trod_array ht h
  simp only [Prod.mk.injEq, DataW.agg.injEq] at hx
  obtain ⟨hx, _⟩ := hx
  have hln : ls.length = n := by have := congrArg List.length hx; simp at this; omega
  rw [hce] at hel
  apply List.ext_getElem?
  intro i
  by_cases hi : i < n
  · have h1 := hel i hi
    have hxi : xs[i]? = some (xs[i]'(by omega)) := List.getElem?_eq_getElem _
    rw [hxi, Nat.mul_one] at h1
    have h2 : (xs[i]'(by omega)).1 = .lit (ls[i]'(by omega)) := by
      have := congrArg (·[i]?) hx
      simp [hi, hxl, hln] at this
      exact this.symm
    have h3 : xs[i]'(by omega) = (.lit (ls[i]'(by omega)), (xs[i]'(by omega)).2) := by rw [← h2]
    rw [h3] at h1
    have h4 := cell_of_lit he h1
    have h5 := congrArg (·[0]?) h4
    simp [List.getElem?_drop] at h5
    rw [h5]
    simp [hln, hi]
  · rw [List.getElem?_eq_none (by omega), List.getElem?_eq_none (by simp; omega)]

/-- What a list says of its variable number i. -/
theorem laidVars_get {w : World} : ∀ (l : List (String × DataW Unit)) (ps : List MemPlace), DataW.LaidVars P w l ps → ∀ (i : Nat) (n : String) (d : DataW Unit), l[i]? = some (n, d) →
    ∃ g t cs fuel p, P.globalNamed n = some g ∧ (P.globals[g]?).map (·.type) = some t ∧ w.var? P n = some cs ∧ DataW.trod (fun _ => ()) P w 0 (fun _ => true) false fuel t cs.toList = some (d, p)
  | [], _, _, i, n, d, hi => by simp at hi
  | (n0, d0) :: r, ps, h, i, n, d, hi => by
    obtain ⟨g, t, cs, fuel, p, q, h1, h2, h3, h4, h5, _⟩ := h
    cases i with
    | zero => cases hi; exact ⟨g, t, cs, fuel, p, h1, h2, h3, h4⟩
    | succ i => exact laidVars_get r q h5 i n d (by simpa using hi)

/-- The cells of a listed array of plain literals. -/
theorem laid_lits {W : World} {l : List (String × DataW Unit)} (h : laidMetH P l W) (i : Nat) {n : String} {ls : List Lit} {g : Nat} {t e : TypeId} {k : Nat}
    (hi : (l.filter fun x => x.2.handleName?.isNone)[i]? = some (n, .agg (ls.map DataW.lit)))
    (hg : P.globalNamed n = some g) (hty : (P.globals[g]?).map (·.type) = some t) (ht : P.underlying t = some (.array k e))
    (he : P.underlying e = some .bool ∨ (∃ k, P.underlying e = some (.int k)) ∨ P.underlying e = some .string) (hce : P.cellsOf e = 1) (hct : P.cellsOf t = k) :
    g < W.heap.size ∧ ∀ j, j < ls.length → W.cell? ⟨g, j, none⟩ = (ls[j]?).map litV := by
  obtain ⟨h1, _⟩ := laidMetH_iff.1 h
  obtain ⟨ps, hv, _⟩ := h1
  obtain ⟨g', t', cs, fuel, p, a1, a2, a3, a4⟩ := laidVars_get _ ps hv i n _ hi
  obtain rfl := Option.some.inj (hg.symm.trans a1)
  obtain rfl := Option.some.inj (hty.symm.trans a2)
  have hc := cells_of_lits ht he hce hct a4
  have hlt : g < W.heap.size := by
    unfold World.var? at a3
    rw [hg] at a3
    simp only [Option.bind_some] at a3
    rcases Nat.lt_or_ge g W.heap.size with h' | h'
    · exact h'
    · rw [Array.getElem?_eq_none h'] at a3; cases a3
  refine ⟨hlt, fun j hj => ?_⟩
  rw [World.var?_cell hg a3 j]
  have h6 : cs.toList[j]? = (ls.map litV)[j]? := by rw [hc]
  simpa using h6
end

/-! ### What the bound of the second form gives -/
theorem bulk_one {H : Type} (d : DataW H) : 1 ≤ Rows.uptoBulk d := by
  cases d with
  | lit l => cases l <;> simp [Rows.uptoBulk]
  | nil => simp [Rows.uptoBulk]
  | ptr d => simp [Rows.uptoBulk]
  | slice elems spare => simp [Rows.uptoBulk]
  | agg parts => simp [Rows.uptoBulk]
  | iface t d => simp [Rows.uptoBulk]
  | map entries => simp [Rows.uptoBulk]
  | held h => simp [Rows.uptoBulk]
theorem bulk_part {H : Type} {d : DataW H} {l : List (DataW H)} (h : d ∈ l) : Rows.uptoBulk d ≤ Rows.uptoBulkAll l := by
  induction l with
  | nil => cases h
  | cons x r ih =>
    simp only [Rows.uptoBulkAll]
    cases List.mem_cons.1 h with
    | inl e => subst e; omega
    | inr e => have := ih e; omega
theorem bulk_length {H : Type} (l : List (DataW H)) : l.length ≤ Rows.uptoBulkAll l := by
  induction l with
  | nil => simp [Rows.uptoBulkAll]
  | cons x r ih => have := bulk_one x; simp only [Rows.uptoBulkAll, List.length_cons]; omega
theorem bulk_bound {H : Type} {l : List (DataW H)} (hk : Rows.uptoSmall H l = true) : Rows.uptoBulkAll l ≤ 1048576 := of_decide_eq_true hk

/-! ### What the reach gives: a string takes at most so many bytes -/
theorem sized_at {H : Type} {P : Program} : ∀ {ts : List TypeId} {ds : List (DataW H)}, (DataW.weightsEach P ts ds).all (· ≤ reachBytes) = true → ∀ {j : Nat} {t : TypeId} {d : DataW H}, ts[j]? = some t → ds[j]? = some d → (d.weights P t).all (· ≤ reachBytes) = true
  | t0 :: ts, d0 :: ds, h, j, t, d, ht, hd => by
    rw [DataW.weightsEach, List.all_append, Bool.and_eq_true] at h
    cases j with
    | zero =>
      simp only [List.getElem?_cons_zero, Option.some.injEq] at ht hd
      subst ht hd
      exact h.1
    | succ j => exact sized_at h.2 (by simpa using ht) (by simpa using hd)
  | [], _, _, j, t, d, ht, _ => by simp at ht
  | _ :: _, [], _, j, t, d, _, hd => by simp at hd
theorem sized_string {H : Type} {P : Program} {ts : List TypeId} {ds : List (DataW H)} (h : (DataW.weightsEach P ts ds).all (· ≤ reachBytes) = true) {j : Nat} {t : TypeId} {s : ByteArray} (ht : ts[j]? = some t) (hd : ds[j]? = some (.lit (.string s.data.toList))) : s.size ≤ 140737488351232 := by
  have := sized_at h ht hd
  simp only [DataW.weights, List.all_cons, List.all_nil, Bool.and_true, decide_eq_true_eq] at this
  have e : s.data.toList.length = s.size := Array.length_toList
  rw [e] at this
  have r : reachBytes = 140737488351232 := rfl
  omega

/-! ### Opening arguments -/
set_option maxRecDepth 100000 in
/-- []byte -/
theorem open_bytes {H : Type} {enc : TypeId × Value → H} {W : World} {r : Reach} {b0 : Nat} {v : Value} {d : DataW H} {ps : List MemPlace} (hval : Value.okWide Tryz.prog W r b0 23 v)
    (h : DataW.Trod enc Tryz.prog W 0 (fun _ => true) true 23 v d ps) : ∃ l : List UInt8, Bs W v l ∧ l.length ≤ Rows.uptoBulk d := by
  obtain ⟨a, len, cap, rfl⟩ := okWide_slice Tryz.underlying23 hval
  obtain ⟨fuel, hf⟩ := h
  have hf' : DataW.trod enc Tryz.prog W 0 (fun _ => true) true fuel 23 [.slice a len cap] = some (d, ps) := by simpa [Value.cells] using hf
  rcases open_ints Tryz.underlying23 Tryz.underlying5 (by kernel_rfl) hf' with ⟨hcs, hx⟩ | ⟨ad, len', cap', zs, hcs, _, hl, hm, hz, hx, hcell, hwz⟩
  · simp only [List.cons.injEq, Value.slice.injEq, and_true] at hcs
    obtain ⟨rfl, rfl, rfl⟩ := hcs
    exact ⟨[], Rd.nil W, by simp⟩
  · simp only [List.cons.injEq, Value.slice.injEq, and_true] at hcs
    obtain ⟨rfl, rfl, rfl⟩ := hcs
    simp only [if_true] at hz
    simp only [Prod.mk.injEq] at hx
    obtain ⟨rfl, _⟩ := hx
    have hlen : ((zs.take len).map fun z => B8 z.toNat).length = len := by simp; omega
    refine ⟨(zs.take len).map fun z => B8 z.toNat, ?_, ?_⟩
    · unfold Bs
      rw [hlen]
      refine ⟨some ad, cap, rfl, hl, hm, (fun e => by cases e), fun ad' e j u hu => ?_⟩
      cases e
      have hj : j < len := by
        have := (List.getElem?_eq_some_iff.1 hu).1
        simp at this; omega
      have hjz : j < zs.length := by omega
      rw [hcell j hjz, ← hu]
      have hw := hwz (zs[j]'hjz) (List.getElem_mem _)
      have hb : 0 ≤ zs[j]'hjz ∧ zs[j]'hjz ≤ 255 := by simpa [Lit.wf, IntKind.min, IntKind.max, IntKind.signed, IntKind.bits] using hw
      have e2 : (((zs.take len).map fun z => B8 z.toNat).map byteV)[j]? = some (byteV (B8 (zs[j]'hjz).toNat)) := by
        simp [hj, List.getElem?_eq_getElem hjz]
      rw [e2, byteV_B8 (show (zs[j]'hjz).toNat < 256 by omega) (show zs[j]'hjz = ((zs[j]'hjz).toNat : Int) by omega)]
      simp [List.getD, hjz]
    · rw [hlen]
      have := bulk_length (lits .u8 (zs.take len) : List (DataW H))
      have h2 : (lits .u8 (zs.take len) : List (DataW H)).length = len := by simp [lits]; omega
      simp only [Rows.uptoBulk]
      omega

theorem laidOut : laidOutB Tryz.prog = true := by kernel_rfl
theorem own : ownKnob Tryz.prog.godebug = none := by kernel_rfl

end Go.Proofs.YtjlnlgemngpelaaGreatDoor

/- The table of flags, out of a row's list. -/
namespace Go.Proofs.YtjlnlgemngpelaaGreatDoor
open Go.RowKit

/-- The table of flags, as a row's list says it. -/
def mayLits : List Lit := [.bool true, .bool true, .bool true, .bool true, .bool true, .bool true, .bool false, .bool false, .bool false, .bool false, .bool true, .bool true, .bool true, .bool true, .bool false, .bool false]
theorem envH_of {W : World} {l : List (String × DataW Unit)} (h : laidMetH Tryz.prog l W) (i : Nat) (hi : (l.filter fun x => x.2.handleName?.isNone)[i]? = some ("crier/head.may", .agg (mayLits.map DataW.lit))) : EnvH W := by
  obtain ⟨h1, h2⟩ := laid_lits h i hi (g := 0) (t := 173) (e := 4) (k := 16) (by kernel_rfl) (by kernel_rfl) Tryz.underlying173 (.inl Tryz.underlying4) (by kernel_rfl) (by kernel_rfl)
  refine ⟨h1, fun i hi => ?_⟩
  rw [h2 i (by simpa [mayLits] using hi)]
  match i, hi with
  | 0, _ => rfl
  | 1, _ => rfl
  | 2, _ => rfl
  | 3, _ => rfl
  | 4, _ => rfl
  | 5, _ => rfl
  | 6, _ => rfl
  | 7, _ => rfl
  | 8, _ => rfl
  | 9, _ => rfl
  | 10, _ => rfl
  | 11, _ => rfl
  | 12, _ => rfl
  | 13, _ => rfl
  | 14, _ => rfl
  | 15, _ => rfl
  | n + 16, h => exact absurd h (by omega)

end Go.Proofs.YtjlnlgemngpelaaGreatDoor

/- The handle of the type error, out of a row's list. -/
namespace Go.Proofs.YtjlnlgemngpelaaGreatDoor
open Go.RowKit

theorem errGlobal : Tryz.prog.globalNamed "errors.errorType" = some 1 := by kernel_rfl
theorem errRt : (Tryz.prog.cutTypes.find? (·.1 == "internal/reflectlite.rtype")).map (·.2) = some 175 := by kernel_rfl
theorem errRow : ((List.range Tryz.prog.types.size).filter fun t => Tryz.prog.rowNamed t [101, 114, 114, 111, 114]) = [87] := by kernel_rfl
theorem envR_of {W : World} {l : List (String × DataW Unit)} (h : laidMetH Tryz.prog l W) (i : Nat) (hi : (l.filter fun x => x.2.handleName?.isSome)[i]? = some ("errors.errorType", .iface "internal/reflectlite.rtype" (.agg [.ptr (.lit (.string [101, 114, 114, 111, 114]))]))) : EnvR W := by
  obtain ⟨-, h2⟩ := laidMetH_iff.1 h
  obtain ⟨name, u, ty, e1, e2, e3, e4, e5⟩ := h2 _ (List.mem_of_getElem? hi)
  have en : name = [101, 114, 114, 111, 114] := (Option.some.inj e1).symm
  subst en
  obtain rfl := Option.some.inj (errRt.symm.trans e2)
  have hm : ty ∈ (List.range Tryz.prog.types.size).filter fun t => Tryz.prog.rowNamed t [101, 114, 114, 111, 114] := List.mem_filter.2 ⟨List.mem_range.2 e3, e4⟩
  rw [errRow] at hm
  obtain rfl := List.mem_singleton.1 hm
  have hh : typeHandle Tryz.prog 87 = .pointer (some ⟨5, 87, none⟩) := by kernel_rfl
  rw [hh] at e5
  unfold EnvR
  simpa using World.var?_cell errGlobal e5 0

/-- The variables of the framer's laws, laid. -/
def layMay : Obj → Obj
  | .cells _ t frozen => .cells #[.bool true, .bool true, .bool true, .bool true, .bool true, .bool true, .bool false, .bool false, .bool false, .bool false, .bool true, .bool true, .bool true, .bool true, .bool false, .bool false] t frozen
  | o => o
def layErr : Obj → Obj
  | .cells _ t frozen => .cells #[.iface 175 (.agg #[.pointer (some ⟨5, 87, none⟩)])] t frozen
  | o => o
def layF (h : Array Obj) : Array Obj := (h.modify 0 layMay).modify 1 layErr
end Go.Proofs.YtjlnlgemngpelaaGreatDoor

/- Rows that may grow: which block they lie in. Of no function of the program. -/
namespace Go.Proofs.YtjlnlgemngpelaaGreatDoor
open Go.RowKit
set_option linter.unusedVariables false
set_option linter.unusedSimpArgs false

/-! ### Rows that may grow: which block they lie in -/
def blk (v : Value) : List Nat := v.ownBlock.toList
theorem Keeps.next {S T : List Nat} {a b c : World} (h : Keeps S a b) (k : Keeps T b c) (hT : ∀ i, i ∈ T → i ∈ S ∨ a.heap.size ≤ i) : Keeps S a c :=
  ⟨k.os.trans h.os, k.tape.trans h.tape, k.output.trans h.output, Nat.le_trans h.size k.size, fun i hi hn => (k.block i (Nat.lt_of_lt_of_le hi h.size) (fun hm => by
    rcases hT i hm with h1 | h1
    · exact hn h1
    · omega)).trans (h.block i hi hn)⟩
theorem Keeps.row {S : List Nat} {w w' : World} {e size n : Nat} {v : Value} {xs : List Value} (hk : Keeps S w w') (h : w.ownsRow 0 e size v n xs) (ho : ∀ k, k ∈ blk v → k ∉ S) : w'.ownsRow 0 e size v n xs := by
  refine ⟨h.1, ?_⟩
  rcases h.2 with h0 | ⟨g, cap, cur, rfl, h1, h2, h3⟩
  · exact .inl h0
  · exact .inr ⟨g, cap, cur, rfl, h1, by rw [hk.block g (Array.getElem?_eq_some_iff.1 h2).1 (ho g (by simp [blk, Value.ownBlock]))]; exact h2, h3⟩
theorem blk_lt {w : World} {B e size n : Nat} {v : Value} {xs : List Value} (h : w.ownsRow B e size v n xs) {k : Nat} (hk : k ∈ blk v) : k < w.heap.size := (h.lt k (by simpa [blk] using hk)).2

theorem app_block {P : Program} (w : World) (t ty e : TypeId) (i : TypeInfo) (z : Value) (size bytes : Nat) (ht : P.underlying t = some (.slice e)) (hi : P.info? e = some i) (hz : i.zero = some z)
    (hsize : i.size = size) (hby : i.bytes = bytes) (hzs : z.cells.size = size) (hsz : 0 < size)
    (v : Value) (n : Nat) (xs : List Value) (hown : w.ownsRow 0 e size v n xs)
    (a : Addr) (m c : Nat) (news : List Value) (hl : news.length = m * size) (hnews : ∀ j u, news[j]? = some u → w.cell? (a.add j) = some u) (h1 : ∀ u ∈ news, u.oneCell' = true)
    (h63 : n + m ≤ maxLen) (hbytes : (n + m) * bytes ≤ 140737488355328) :
    ∃ v' w', (Builtin.append_ #[t, t] ty #[v, .slice (some a) m c]).run P w = .ok v' w' ∧ w'.ownsRow 0 e size v' (n + m) (xs ++ news) ∧ Keeps (blk v) w w' ∧ (∀ k, k ∈ blk v' → k ∈ blk v ∨ w.heap.size ≤ k) := by
  obtain ⟨v', w', hr, h2, h3, -⟩ := run_append_own (P := P) w 0 t ty e i z size bytes ht hi hz hsize hby hzs hsz v n xs hown a m c news hl hnews h1 h63 hbytes (Nat.zero_le _)
  refine ⟨v', w', hr, h2, ⟨h3.os, h3.tape, h3.output, h3.size, fun k hk hn => h3.block k hk (fun e => hn (by unfold blk; rw [← e]; simp))⟩, ?_⟩
  intro k hk
  have hk' : v'.ownBlock = some k := by simpa [blk] using hk
  rcases hown.2 with ⟨rfl, rfl⟩ | ⟨g, cap, cur, rfl, hbg, hg, hnc, hcm, hcs, htake⟩
  · right
    have hx : xs = [] := List.eq_nil_of_length_eq_zero (by simpa using hown.1)
    subst hx
    obtain ⟨v2, w2, hr2, h22, -⟩ := run_append_own (P := P) w w.heap.size t ty e i z size bytes ht hi hz hsize hby hzs hsz (.slice none 0 0) 0 [] (World.ownsRow_nil _ _ _ _) a m c news hl hnews h1 h63 hbytes (Nat.le_refl _)
    rw [hr] at hr2
    cases hr2
    exact (h22.lt k hk').1
  · subst hsize
    have hsmall : n + m ≤ 9223372036854775807 := by simp only [maxLen] at h63; omega
    by_cases hroom : n + m ≤ cap
    · left
      have hfit : n * i.size + news.length ≤ cur.size := by rw [hl, hcs, ← Nat.add_mul]; exact Nat.mul_le_mul_right _ hroom
      have hr2 := run_append_room (P := P) w t ty e i ht hi g n cap cur hg a m c news hl hnews h1 hroom hfit
      rw [hr] at hr2
      cases hr2
      simpa [blk, Value.ownBlock] using hk'.symm
    · right
      have holds : ∀ j u, xs[j]? = some u → w.cell? ((⟨g, 0, none⟩ : Addr).add j) = some u := hown.cells (g := g) rfl
      subst hby
      have hr2 := run_append_grow (P := P) w t ty e i z ht hi hz ⟨g, 0, none⟩ n cap xs hown.1 holds a m c news hl hnews (by omega) (by omega) (growslice_fits (by omega) hbytes)
      rw [hr] at hr2
      cases hr2
      simp only [Value.ownBlock, Option.some.injEq] at hk'
      omega
end Go.Proofs.YtjlnlgemngpelaaGreatDoor

/- Packets out of chunks: rows of packets; all and same of the law: the walks. -/
namespace Go.Proofs.YtjlnlgemngpelaaGreatDoor
open Go.RowKit
set_option linter.unusedVariables false
set_option linter.unusedSimpArgs false

/-! ### Rows of packets -/
def pkCells (x : Pk) : List Value := [.int .i64 x.1.1, .int .i64 x.1.2.1, .int .i64 x.1.2.2, .string (sOf x.2)]
def pCells : List Pk → List Value
  | [] => []
  | x :: t => pkCells x ++ pCells t
theorem pCells_len : ∀ l : List Pk, (pCells l).length = l.length * 4
  | [] => rfl
  | x :: t => by simp [pCells, pkCells, pCells_len t]; omega
theorem pCells_append : ∀ a b : List Pk, pCells (a ++ b) = pCells a ++ pCells b
  | [], b => rfl
  | x :: t, b => by simp [pCells, pCells_append t b]
theorem pCells_at : ∀ (l : List Pk) (k : Nat) (x : Pk), l[k]? = some x → (pCells l)[k * 4]? = some (.int .i64 x.1.1) ∧ (pCells l)[k * 4 + 1]? = some (.int .i64 x.1.2.1) ∧ (pCells l)[k * 4 + 2]? = some (.int .i64 x.1.2.2) ∧ (pCells l)[k * 4 + 3]? = some (.string (sOf x.2))
  | [], k, x, h => by simp at h
  | y :: t, 0, x, h => by simp at h; subst h; simp [pCells, pkCells]
  | y :: t, k + 1, x, h => by
    have ih := pCells_at t k x (by simpa using h)
    have e : (k + 1) * 4 = k * 4 + 4 := by omega
    rw [e]
    simpa [pCells, pkCells] using ih

/-- Packets that a slice reads as. -/
def Ps (w : World) (v : Value) (l : List Pk) : Prop := Rd w v l.length (pCells l)
theorem Ps.slice {w : World} {v : Value} {l : List Pk} (h : Ps w v l) : ∃ a c, v = .slice a l.length c := by
  obtain ⟨a, c, rfl, _⟩ := h; exact ⟨a, c, rfl⟩
theorem Ps.below' {B : Nat} {w w' : World} {v : Value} {l : List Pk} (h : Ps w v l) (hb : Below B w w') (hB : w.heap.size ≤ B) : Ps w' v l := Rd.below' h hb hB
theorem Ps.len {w : World} {v : Value} {l : List Pk} (h : Ps w v l) : l.length ≤ maxLen := Rd.len h
theorem Ps.at {w : World} {a : Option Addr} {n c : Nat} {l : List Pk} (h : Ps w (.slice a n c) l) {k : Nat} {x : Pk} (hk : l[k]? = some x) :
    ∃ b o, a = some ⟨b, o, none⟩ ∧ b < w.heap.size ∧ w.cell? ⟨b, o + k * 4, none⟩ = some (.int .i64 x.1.1) ∧ w.cell? ⟨b, o + k * 4 + 1, none⟩ = some (.int .i64 x.1.2.1) ∧ w.cell? ⟨b, o + k * 4 + 2, none⟩ = some (.int .i64 x.1.2.2) ∧ w.cell? ⟨b, o + k * 4 + 3, none⟩ = some (.string (sOf x.2)) := by
  obtain ⟨h0, h1, h2, h3⟩ := pCells_at l k x hk
  have hw := @Rd.split w (.slice a n c) l.length (pCells l) h
  rcases hw with ⟨hn, _⟩ | ⟨_, b, o, c', hv, _, _, hlt, hcell⟩
  · have : l = [] := by
      have := pCells_len l
      rw [hn] at this
      simp at this
      exact List.eq_nil_of_length_eq_zero (by omega)
    subst this
    simp at hk
  · simp only [Value.slice.injEq] at hv
    refine ⟨b, o, hv.1, hlt, hcell _ _ h0, ?_, ?_, ?_⟩
    · have := hcell _ _ h1; rwa [← Nat.add_assoc] at this
    · have := hcell _ _ h2; rwa [← Nat.add_assoc] at this
    · have := hcell _ _ h3; rwa [← Nat.add_assoc] at this
def OwnP (w : World) (v : Value) (l : List Pk) : Prop := w.ownsRow 0 95 4 v l.length (pCells l)
theorem OwnP.ps {w : World} {v : Value} {l : List Pk} (h : OwnP w v l) : Ps w v l := Owns.rd h
theorem OwnP.keeps {S : List Nat} {w w' : World} {v : Value} {l : List Pk} (h : OwnP w v l) (hk : Keeps S w w') (ho : ∀ k, k ∈ blk v → k ∉ S) : OwnP w' v l := hk.row h ho
theorem OwnP.nil (w : World) : OwnP w (.slice none 0 0) [] := ⟨rfl, .inl ⟨rfl, rfl⟩⟩
theorem OwnP.lt {w : World} {v : Value} {l : List Pk} (h : OwnP w v l) {k : Nat} (hk : k ∈ blk v) : k < w.heap.size := blk_lt h hk
theorem info_raw : (Tryz.prog.info? 95).map (fun i => (i.zero, i.size, i.bytes)) = some (some (.agg #[.int .i64 0, .int .i64 0, .int .i64 0, .string ⟨#[]⟩]), 4, 40) := by kernel_rfl
/-! ### All packets that are taken -/
def frAll : Nat → FrS → List Pk × Int × FrS
  | 0, s => ([], 0, s)
  | n + 1, s => if (frNext s).1.2.1 = true then ((frNext s).1.1 :: (frAll n (frNext s).2).1, (frAll n (frNext s).2).2) else ([], (frNext s).1.2.2, (frNext s).2)
theorem frNext_rng (s : FrS) : (frNext s).2.1.length ≤ s.1.length ∧ s.2.1 ≤ (frNext s).2.2.1 ∧ (frNext s).2.2.1 ≤ s.2.1 + 1 := by
  unfold frNext
  repeat' split
  all_goals (simp; try omega)
def GivesAll (w : World) (g : Nat) (S : List Nat) (r : List Pk × Int × FrS) (e : Ending) (w' : World) : Prop :=
  ∃ v, e = .returned (.tuple #[v, .int .i64 r.2.1]) ∧ OwnP w' v r.1 ∧ FrAt w' g r.2.2.1 r.2.2.2.1 r.2.2.2.2 (blk v ++ S) ∧ Keeps [g] w w' ∧ ∀ k, k ∈ blk v → w.heap.size ≤ k
structure AllI (w : World) (g : Nat) (S : List Nat) (s : FrS) (n k : Nat) (p : List Pk) (s' : FrS) (v : Value) (w' : World) : Prop where
  own : OwnP w' v p
  new : ∀ k, k ∈ blk v → w.heap.size ≤ k
  len : p.length = k
  fr : FrAt w' g s'.1 s'.2.1 s'.2.2 (blk v ++ S)
  eq : frAll n s = (p ++ (frAll (n - k) s').1, (frAll (n - k) s').2)
  keeps : Keeps [g] w w'
  bl : s'.1.length ≤ 140737488355328
  bt : 0 ≤ s'.2.1 ∧ s'.2.1 ≤ 1000000 + k
def leftN (n : Nat) : Value → Nat
  | .int _ k => ((n : Int) - k).toNat
  | _ => 0

/-! ### Are two lists of packets one? -/
end Go.Proofs.YtjlnlgemngpelaaGreatDoor

/- Chunks play no part: the plain law. -/
namespace Go.Proofs.YtjlnlgemngpelaaGreatDoor
open Go.RowKit
set_option linter.unusedVariables false
set_option linter.unusedSimpArgs false

theorem bN_left {l B : List UInt8} {j : Nat} (h : j < l.length) : bN (l ++ B) j = bN l j := by
  unfold bN; simp [List.getD, List.getElem?_append_left h]
theorem hLen_mono {l B : List UInt8} (h : (hLen l).2.2 ≠ 2) : hLen (l ++ B) = hLen l := by
  have k : ∀ j, j < l.length → bN (l ++ B) j = bN l j := fun j hj => bN_left hj
  unfold hLen at h ⊢
  rw [List.length_append]
  by_cases h0 : l.length = 0
  · rw [if_pos h0] at h; exact absurd rfl h
  have z0 : ¬ l.length + B.length = 0 := by omega
  simp only [if_neg h0, if_neg z0, k 0 (by omega)] at h ⊢
  by_cases a0 : (bN l 0 : Int) < 128
  · simp only [if_pos a0]
  simp only [if_neg a0] at h ⊢
  by_cases h1 : l.length = 1
  · rw [if_pos h1] at h; exact absurd rfl h
  have z1 : ¬ l.length + B.length = 1 := by omega
  simp only [if_neg h1, if_neg z1, k 1 (by omega)] at h ⊢
  by_cases a1 : (bN l 1 : Int) < 128
  · simp only [if_pos a1]
  simp only [if_neg a1] at h ⊢
  by_cases h2 : l.length = 2
  · rw [if_pos h2] at h; exact absurd rfl h
  have z2 : ¬ l.length + B.length = 2 := by omega
  simp only [if_neg h2, if_neg z2, k 2 (by omega)] at h ⊢
  by_cases a2 : (bN l 2 : Int) < 128
  · simp only [if_pos a2]
  simp only [if_neg a2] at h ⊢
  by_cases h3 : l.length = 3
  · rw [if_pos h3] at h; exact absurd rfl h
  have z3 : ¬ l.length + B.length = 3 := by omega
  simp only [if_neg h3, if_neg z3, k 3 (by omega)] at h ⊢
theorem hLen_pos {l : List UInt8} (h : (hLen l).2.2 = 0) : 1 ≤ (hLen l).2.1 := by
  unfold hLen at h ⊢
  repeat' split at h
  all_goals first
    | (simp at h; done)
    | (simp only [*, if_true, if_false]; done)
    | (simp [*])
theorem hGet_mono {l B : List UInt8} (h : (hGet l 0).2.2 ≠ 2) : hGet (l ++ B) 0 = hGet l 0 := by
  unfold hGet at h ⊢
  rw [List.length_append]
  have y0 : ¬ ((0 : Int) < 0 ∨ (l.length : Int) < 0) := by omega
  have y1 : ¬ ((0 : Int) < 0 ∨ ((l.length + B.length : Nat) : Int) < 0) := by omega
  rw [if_neg y0] at h ⊢
  rw [if_neg y1]
  by_cases h0 : (0 : Int) = l.length
  · rw [if_pos h0] at h; exact absurd rfl h
  have z0 : ¬ (0 : Int) = ((l.length + B.length : Nat) : Int) := by omega
  rw [if_neg h0] at h ⊢
  rw [if_neg z0]
  simp only [Int.toNat_zero, Nat.zero_add] at h ⊢
  have e1 : bN (l ++ B) 0 = bN l 0 := bN_left (by omega)
  have e2 : (l ++ B).drop 1 = l.drop 1 ++ B := by rw [List.drop_append_of_le_length (by omega)]
  rw [e1, e2]
  by_cases hr : hRight ((bN l 0 : Int) / 16) ((bN l 0 : Int) % 16) = 0
  · have hr' : ¬ (hRight ((bN l 0 : Int) / 16) ((bN l 0 : Int) % 16) ≠ 0) := by simpa using hr
    rw [if_neg hr'] at h ⊢
    rw [if_neg hr']
    by_cases h2 : (hLen (l.drop 1)).2.2 = 2
    · have h2' : (hLen (l.drop 1)).2.2 ≠ 0 := by omega
      rw [if_pos h2'] at h
      exact absurd h2 h
    · rw [hLen_mono h2]
  · rw [if_pos hr, if_pos hr]
theorem hGet_two {l : List UInt8} (h : (hGet l 0).2.2 = 0) : 2 ≤ (hGet l 0).2.1 := by
  unfold hGet at h ⊢
  repeat' split at h
  all_goals try (simp at h; done)
  all_goals try (simp only at h; omega)
  rename_i h1 h2 h3 h4 h5
  rw [if_neg h1, if_neg h2, if_neg h3, if_neg h4, if_neg h5]
  have := hLen_pos (Decidable.not_not.1 h4)
  simp only
  omega

def feedS (s : FrS) (B : List UInt8) : FrS := (if s.2.2 = 0 then s.1 ++ B else s.1, s.2.1, s.2.2)
theorem feedS_feed (s : FrS) (A B : List UInt8) : feedS (feedS s A) B = feedS s (A ++ B) := by
  unfold feedS; split <;> simp [*]
theorem feedS_nil (s : FrS) : feedS s [] = s := by unfold feedS; obtain ⟨l, t, d⟩ := s; simp

/-- what taking does, and that more bytes behind do not turn it -/
theorem frNext_feed (s : FrS) (B : List UInt8) :
    ((frNext s).1.2.1 = true → frNext (feedS s B) = ((frNext s).1, feedS (frNext s).2 B) ∧ (frNext s).2.1.length + 2 ≤ s.1.length ∧ (frNext s).2.2.1 = s.2.1 + 1) ∧
    ((frNext s).1.2.1 = false → (frNext s).2.2.1 = s.2.1 ∧ (frNext s).2.1.length ≤ s.1.length ∧ ((frNext s).2 = s ∨ (frNext (feedS s B) = frNext s ∧ (frNext s).1 = (pk0, false, (frNext s).2.2.2) ∧ (frNext s).2.2.2 ≠ 0))) := by
  obtain ⟨l, t, d⟩ := s
  by_cases hd : d = 0
  rotate_left
  · have e : frNext (l, t, d) = ((pk0, false, d), (l, t, d)) := by rw [frNext, if_pos hd]
    rw [e]
    exact ⟨fun h => (by simp at h), fun _ => ⟨rfl, Nat.le_refl _, .inl rfl⟩⟩
  subst hd
  have ef : feedS (l, t, 0) B = (l ++ B, t, 0) := rfl
  rw [ef]
  by_cases h2 : (hGet l 0).2.2 = 2
  · have e : frNext (l, t, 0) = ((pk0, false, 0), (l, t, 0)) := by rw [frNext, if_neg (by simp), if_pos h2]
    rw [e]
    exact ⟨fun h => (by simp at h), fun _ => ⟨rfl, Nat.le_refl _, .inl rfl⟩⟩
  have hm := hGet_mono (B := B) h2
  by_cases h0 : (hGet l 0).2.2 = 0
  rotate_left
  · have e : frNext (l, t, 0) = ((pk0, false, (hGet l 0).2.2), ([], t, (hGet l 0).2.2)) := by rw [frNext, if_neg (by simp), if_neg h2, if_pos h0]
    have e2 : frNext (l ++ B, t, 0) = ((pk0, false, (hGet l 0).2.2), ([], t, (hGet l 0).2.2)) := by
      rw [frNext, if_neg (by simp)]
      simp only [hm]
      rw [if_neg h2, if_pos h0]
    rw [e, e2]
    exact ⟨fun h => (by simp at h), fun _ => ⟨rfl, by simp, .inr ⟨rfl, rfl, h0⟩⟩⟩
  · have hp := hGet_two h0
    by_cases hs : (l.length : Int) - (hGet l 0).2.1 < (hGet l 0).1.2.2
    · have e : frNext (l, t, 0) = ((pk0, false, 0), (l, t, 0)) := by
        rw [frNext, if_neg (by simp), if_neg h2, if_neg (by simpa using h0)]
        simp only
        rw [if_pos hs]
      rw [e]
      exact ⟨fun h => (by simp at h), fun _ => ⟨rfl, Nat.le_refl _, .inl rfl⟩⟩
    · have e : frNext (l, t, 0) = ((((hGet l 0).1, (l.drop (hGet l 0).2.1.toNat).take (hGet l 0).1.2.2.toNat), true, 0), (l.drop ((hGet l 0).2.1 + (hGet l 0).1.2.2).toNat, t + 1, 0)) := by
        rw [frNext, if_neg (by simp), if_neg h2, if_neg (by simpa using h0)]
        simp only
        rw [if_neg hs]
      have e2 : frNext (l ++ B, t, 0) = ((((hGet l 0).1, ((l ++ B).drop (hGet l 0).2.1.toNat).take (hGet l 0).1.2.2.toNat), true, 0), ((l ++ B).drop ((hGet l 0).2.1 + (hGet l 0).1.2.2).toNat, t + 1, 0)) := by
        rw [frNext, if_neg (by simp)]
        simp only [hm]
        rw [if_neg h2, if_neg (by simpa using h0), if_neg (by simp only [List.length_append]; omega)]
      obtain ⟨r1, r2, r3, r4⟩ := hGet_rng h0
      rw [e, e2]
      refine ⟨fun _ => ⟨?_, ?_, rfl⟩, fun h => (by simp at h)⟩
      · have q1 : (l ++ B).drop ((hGet l 0).2.1 + (hGet l 0).1.2.2).toNat = l.drop ((hGet l 0).2.1 + (hGet l 0).1.2.2).toNat ++ B := by rw [List.drop_append_of_le_length (by omega)]
        have q2 : ((l ++ B).drop (hGet l 0).2.1.toNat).take (hGet l 0).1.2.2.toNat = (l.drop (hGet l 0).2.1.toNat).take (hGet l 0).1.2.2.toNat := by
          rw [List.drop_append_of_le_length (by omega), List.take_append_of_le_length (by simp; omega)]
        rw [q1, q2]
        simp [feedS]
      · simp only [List.length_drop]; omega

theorem frAll_len : ∀ (n : Nat) (s : FrS), 2 * (frAll n s).1.length + (frAll n s).2.2.1.length ≤ s.1.length ∧ (frAll n s).2.2.2.1 = s.2.1 + (frAll n s).1.length ∧ (frAll n s).1.length ≤ n
  | 0, s => by simp [frAll]
  | n + 1, s => by
    obtain ⟨h1, h2⟩ := frNext_feed s []
    rw [frAll]
    by_cases hb : (frNext s).1.2.1 = true
    · obtain ⟨h3, h4, h5⟩ := h1 hb
      obtain ⟨i1, i2, i3⟩ := frAll_len n (frNext s).2
      rw [if_pos hb]
      simp only [List.length_cons]
      exact ⟨by omega, by push_cast; omega, by omega⟩
    · obtain ⟨h3, h4, h5⟩ := h2 (by simpa using hb)
      rw [if_neg hb]
      exact ⟨by simp; omega, by simp; omega, by simp⟩
theorem frAll_more : ∀ (m n : Nat) (s : FrS), (frAll m s).1.length < m → m ≤ n → frAll n s = frAll m s
  | 0, n, s, h, _ => by simp at h
  | m + 1, n + 1, s, h, hmn => by
    rw [frAll] at h ⊢
    rw [frAll]
    by_cases hb : (frNext s).1.2.1 = true
    · rw [if_pos hb] at h ⊢
      rw [if_pos hb]
      simp only [List.length_cons] at h
      rw [frAll_more m n _ (by omega) (by omega)]
    · rw [if_neg hb, if_neg hb]

/-- what is found so far, with what is still to come: one and the same -/
structure ChI (S0 : FrS) (i : Nat) (m : List Pk) (T : FrS) (R : List UInt8) : Prop where
  eq : frAll 1100 S0 = (m ++ (frAll (1100 - m.length) (feedS T R)).1, (frAll (1100 - m.length) (feedS T R)).2)
  len : m.length ≤ i
  bl : T.1.length + R.length ≤ 2000
  t : T.2.1 = m.length
theorem ChI.next {S0 : FrS} {i : Nat} {m : List Pk} {T : FrS} {R : List UInt8} (h : ChI S0 i m T R) (hi : i < 60) (n : Nat) (hn : n ≤ R.length) :
    ChI S0 (i + 1) (m ++ (if (frNext (feedS T (R.take n))).1.2.1 = true then [(frNext (feedS T (R.take n))).1.1] else [])) (frNext (feedS T (R.take n))).2 (R.drop n) := by
  have e0 : feedS T R = feedS (feedS T (R.take n)) (R.drop n) := by rw [feedS_feed, List.take_append_drop]
  have hb0 : (feedS T (R.take n)).1.length + (R.drop n).length ≤ 2000 := by
    have := h.bl
    unfold feedS
    simp only
    split <;> simp <;> omega
  have ht0 : (feedS T (R.take n)).2.1 = m.length := h.t
  have heq := h.eq
  rw [e0] at heq
  generalize feedS T (R.take n) = T1 at *
  obtain ⟨h1, h2⟩ := frNext_feed T1 (R.drop n)
  have hl := h.len
  have ek : 1100 - m.length = (1100 - (m.length + 1)) + 1 := by omega
  by_cases hb : (frNext T1).1.2.1 = true
  · obtain ⟨h3, h4, h5⟩ := h1 hb
    rw [if_pos hb]
    refine ⟨?_, by simp; omega, by omega, by simp; omega⟩
    rw [heq, ek, frAll, h3, if_pos hb, List.length_append]
    simp
  · obtain ⟨h3, h4, h5⟩ := h2 (by simpa using hb)
    rw [if_neg hb, List.append_nil]
    refine ⟨?_, by omega, by omega, by omega⟩
    rw [heq]
    rcases h5 with h5 | ⟨h5, h6, h7⟩
    · rw [h5]
    · have e1 : frAll (1100 - m.length) (feedS T1 (R.drop n)) = ([], (frNext T1).2.2.2, (frNext T1).2) := by
        rw [ek, frAll, h5, if_neg hb, h6]
      have e2 : feedS (frNext T1).2 (R.drop n) = (frNext T1).2 := by
        unfold feedS; rw [if_neg h7]
      have e3 : frNext (frNext T1).2 = ((pk0, false, (frNext T1).2.2.2), (frNext T1).2) := by
        generalize (frNext T1).2 = U at *
        obtain ⟨u1, u2, u3⟩ := U
        rw [frNext, if_pos h7]
      have e4 : frAll (1100 - m.length) (feedS (frNext T1).2 (R.drop n)) = ([], (frNext T1).2.2.2, (frNext T1).2) := by
        rw [e2, ek, frAll, e3, if_neg (by simp)]
      rw [e1, e4]
theorem ChI.done {S0 : FrS} {i : Nat} {m : List Pk} {T : FrS} {R : List UInt8} (h : ChI S0 i m T R) (hi : i ≤ 60) : frAll 1100 S0 = (m ++ (frAll 1100 (feedS T R)).1, (frAll 1100 (feedS T R)).2) := by
  have hl := h.len
  have hb : (feedS T R).1.length ≤ 2000 := by
    have := h.bl
    unfold feedS; simp only
    split <;> simp <;> omega
  obtain ⟨i1, i2, i3⟩ := frAll_len (1100 - m.length) (feedS T R)
  rw [h.eq, frAll_more (1100 - m.length) 1100 (feedS T R) (by omega) (by omega)]
end Go.Proofs.YtjlnlgemngpelaaGreatDoor

/- Heads: a message's flags made and told. -/
namespace Go.Proofs.YtjlnlgemngpelaaGreatDoor
open Go.RowKit
set_option linter.unusedVariables false

def hPub (dup : Bool) (qos : Int) (retain : Bool) : Int :=
  if qos < 0 ∨ 2 < qos ∨ (dup = true ∧ qos = 0) then -1 else 2 * qos + (if dup then 8 else 0) + (if retain then 1 else 0)

set_option maxHeartbeats 1000000 in
theorem Publish_c (dup retain : Bool) (qos : Int) (w : World) (hE : EnvH w) :
    Calls Tryz.prog 75 #[.bool dup, .int .i64 qos, .bool retain] w fun e w' => e = .returned (.int .i64 (hPub dup qos retain)) ∧ w = w' := by
  have HE := hd hE; clear hE
  have o1 : bits .or .i64 0 8 = 8 := by decide
  have o2 : bits .or .i64 2 8 = 10 := by decide
  have o3 : bits .or .i64 4 8 = 12 := by decide
  have o4 : bits .or .i64 6 8 = 14 := by decide
  have p0 : bits .or .i64 0 1 = 1 := by decide
  have p1 : bits .or .i64 2 1 = 3 := by decide
  have p2 : bits .or .i64 4 1 = 5 := by decide
  have p3 : bits .or .i64 6 1 = 7 := by decide
  have q0 : bits .or .i64 8 1 = 9 := by decide
  have q1 : bits .or .i64 10 1 = 11 := by decide
  have q2 : bits .or .i64 12 1 = 13 := by decide
  have q3 : bits .or .i64 14 1 = 15 := by decide
  have m0 : hMsg 0 = true := by decide
  have m1 : hMsg 1 = true := by decide
  have m2 : hMsg 2 = true := by decide
  have m3 : hMsg 3 = true := by decide
  have m4 : hMsg 4 = true := by decide
  have m5 : hMsg 5 = true := by decide
  have m6 : hMsg 6 = false := by decide
  have m7 : hMsg 7 = false := by decide
  have m8 : hMsg 8 = false := by decide
  have m9 : hMsg 9 = false := by decide
  have m10 : hMsg 10 = true := by decide
  have m11 : hMsg 11 = true := by decide
  have m12 : hMsg 12 = true := by decide
  have m13 : hMsg 13 = true := by decide
  have m14 : hMsg 14 = false := by decide
  have m15 : hMsg 15 = false := by decide
  by_cases h : qos < 0 ∨ 3 < qos
  · have hr : hPub dup qos retain = -1 := by unfold hPub; rw [if_pos (by omega)]
    rw [hr]
    rcases h with h | h
    all_goals
      go_enter Tryz.func75, Tryz.ntmps75
      go_wp2
      go_ret
      exact ⟨rfl, rfl⟩
  · have h4 : qos = 0 ∨ qos = 1 ∨ qos = 2 ∨ qos = 3 := by omega
    clear h
    rcases h4 with rfl | rfl | rfl | rfl
    all_goals
      cases dup <;> cases retain
      all_goals
        go_enter Tryz.func75, Tryz.ntmps75
        go_wp2_with fail
        refine (message_c _ _ HE.out).mono ?_
        rintro e w' ⟨rfl, rfl⟩
        go_wp2
        go_ret
        exact ⟨ret_int (by decide), rfl⟩

def hDup (f : Int) : Bool := hMsg f && decide (8 ≤ f)
def hQos (f : Int) : Int := if hMsg f then f / 2 % 4 else 0
def hRet (f : Int) : Bool := hMsg f && decide (f % 2 = 1)
theorem hMsg_iff (f : Int) : hMsg f = true ↔ 0 ≤ f ∧ f ≤ 15 ∧ (f < 6 ∨ (10 ≤ f ∧ f < 14)) := by
  unfold hMsg mayB
  simp
  omega

theorem and8 : ∀ n : Fin 16, bits .and .i64 ((n.val : Nat) : Int) 8 = (n.val : Int) / 8 * 8 := by decide +kernel
theorem and1 : ∀ n : Fin 16, bits .and .i64 ((n.val : Nat) : Int) 1 = (n.val : Int) % 2 := by decide +kernel
theorem and3 : ∀ n : Fin 16, bits .and .i64 ((n.val : Nat) : Int) 3 = (n.val : Int) % 4 := by decide +kernel

set_option maxHeartbeats 1000000 in
theorem Told_c (f : Int) (w : World) (hE : EnvH w) :
    Calls Tryz.prog 126 #[.int .i64 f] w fun e w' => e = .returned (.tuple #[.bool (hDup f), .int .i64 (hQos f), .bool (hRet f)]) ∧ w = w' := by
  have HE := hd hE; clear hE
  obtain ⟨d, hdd⟩ : ∃ d, hDup f = d := ⟨_, rfl⟩
  obtain ⟨q, hq⟩ : ∃ d, hQos f = d := ⟨_, rfl⟩
  obtain ⟨r, hr⟩ : ∃ d, hRet f = d := ⟨_, rfl⟩
  rw [hdd, hq, hr]
  unfold hDup at hdd; unfold hQos at hq; unfold hRet at hr
  cases hm : hMsg f
  · rw [hm] at hdd hq hr
    simp at hdd hq hr
    subst hdd hq hr
    go_enter Tryz.func126, Tryz.ntmps126
    go_wp2_with fail
    refine (message_c _ _ HE.out).mono ?_
    rintro e w' ⟨rfl, rfl⟩
    go_wp2
    go_ret3
    exact ⟨rfl, rfl⟩
  · rw [hm] at hdd hq hr
    have hb := (hMsg_iff f).1 hm
    obtain ⟨n, rfl⟩ := Int.eq_ofNat_of_zero_le hb.1
    have a8 : bits .and .i64 (n : Int) 8 = (n : Int) / 8 * 8 := and8 ⟨n, by omega⟩
    have a1 : bits .and .i64 (n : Int) 1 = (n : Int) % 2 := and1 ⟨n, by omega⟩
    have a3 : bits .and .i64 ((n : Int) / 2) 3 = (n : Int) / 2 % 4 := and3 ⟨n / 2, by omega⟩
    have Hd1 := hd hdd; have Hq := hd hq; have Hr := hd hr
    clear hdd hq hr
    have hb2 := hb.2.1
    clear hb
    go_enter Tryz.func126, Tryz.ntmps126
    go_wp2_with fail
    refine (message_c _ _ HE.out).mono ?_
    rintro e w' ⟨rfl, rfl⟩
    go_wp2
    go_ret3
    clear HE
    refine ⟨ret3 (vb ?_) (vi ?_) (vb ?_), rfl⟩
    · rw [← Hd1.out]; clear Hd1 Hq Hr a8 a1 a3 hm
      simp only [Bool.true_and]
      rw [Bool.eq_iff_iff]; simp; omega
    · rw [← Hq.out]; simp
    · rw [← Hr.out]; clear Hd1 Hq Hr a8 a1 a3 hm
      simp only [Bool.true_and]
      rw [Bool.eq_iff_iff]; simp; omega

set_option maxHeartbeats 1000000 in
theorem refTold_c (f : Int) (w : World) :
    Calls Tryz.prog 98 #[.int .i64 f] w fun e w' => e = .returned (.tuple #[.bool (hDup f), .int .i64 (hQos f), .bool (hRet f)]) ∧ w = w' := by
  obtain ⟨d, hdd⟩ : ∃ d, hDup f = d := ⟨_, rfl⟩
  obtain ⟨q, hq⟩ : ∃ d, hQos f = d := ⟨_, rfl⟩
  obtain ⟨r, hr⟩ : ∃ d, hRet f = d := ⟨_, rfl⟩
  rw [hdd, hq, hr]
  unfold hDup at hdd; unfold hQos at hq; unfold hRet at hr
  cases hm : hMsg f
  · rw [hm] at hdd hq hr
    simp at hdd hq hr
    subst hdd hq hr
    have hx : hRight 3 f = 10 := by unfold hRight; rw [hm]; rfl
    have Hx := hd hx; clear hx hm
    go_enter Tryz.func98, Tryz.ntmps98
    go_wp2_with fail
    refine (refHRight_c _ _ _).mono ?_
    rintro e w' ⟨rfl, rfl⟩
    rw [Hx.out]
    go_wp2
    go_ret3
    exact ⟨rfl, rfl⟩
  · rw [hm] at hdd hq hr
    have hb := (hMsg_iff f).1 hm
    obtain ⟨n, rfl⟩ := Int.eq_ofNat_of_zero_le hb.1
    have Hd1 := hd hdd; have Hq := hd hq; have Hr := hd hr
    clear hdd hq hr
    have hb2 := hb.2.1
    clear hb
    have hx : hRight 3 n = 0 := by unfold hRight; rw [hm]; rfl
    have Hx := hd hx; clear hx hm
    go_enter Tryz.func98, Tryz.ntmps98
    go_wp2_with fail
    refine (refHRight_c _ _ _).mono ?_
    rintro e w' ⟨rfl, rfl⟩
    rw [Hx.out]
    go_wp2
    go_ret3
    refine ⟨ret3 (vb ?_) (vi ?_) (vb ?_), rfl⟩
    · rw [← Hd1.out]; clear Hd1 Hq Hr Hx
      simp only [Bool.true_and]
    · rw [← Hq.out]; simp
    · rw [← Hr.out]; clear Hd1 Hq Hr Hx
      simp only [Bool.true_and]
      rw [Bool.eq_iff_iff]; simp

/-! ### The law -/
theorem hPub_neg {dup retain : Bool} {qos : Int} (h : hPub dup qos retain < 0) : hDup (hPub dup qos retain) = false ∧ hQos (hPub dup qos retain) = 0 ∧ hRet (hPub dup qos retain) = false := by
  have : hPub dup qos retain = -1 := by
    unfold hPub at h ⊢
    by_cases hc : qos < 0 ∨ 2 < qos ∨ (dup = true ∧ qos = 0)
    · rw [if_pos hc]
    · rw [if_neg hc] at h
      exfalso
      revert h
      cases dup <;> cases retain <;> simp <;> omega
  rw [this]
  decide
theorem hPub_pos {dup retain : Bool} {qos : Int} (h : ¬ hPub dup qos retain < 0) : hDup (hPub dup qos retain) = dup ∧ hQos (hPub dup qos retain) = qos ∧ hRet (hPub dup qos retain) = retain ∧ hRight 3 (hPub dup qos retain) = 0 := by
  by_cases hc : qos < 0 ∨ 2 < qos ∨ (dup = true ∧ qos = 0)
  · exfalso
    apply h
    unfold hPub
    rw [if_pos hc]
    omega
  · have h4 : qos = 0 ∨ qos = 1 ∨ qos = 2 := by omega
    clear h
    rcases h4 with rfl | rfl | rfl
    all_goals
      cases dup <;> cases retain
      all_goals first | decide | (exfalso; apply hc; simp)
theorem hPub_told {f : Int} (h : hRight 3 f = 0) : hPub (hDup f) (hQos f) (hRet f) = f := by
  have hm : hMsg f = true := by
    unfold hRight at h
    cases hm : hMsg f
    · rw [hm] at h; simp at h
    · rfl
  have hb := (hMsg_iff f).1 hm
  have h16 : f = 0 ∨ f = 1 ∨ f = 2 ∨ f = 3 ∨ f = 4 ∨ f = 5 ∨ f = 10 ∨ f = 11 ∨ f = 12 ∨ f = 13 := by omega
  rcases h16 with rfl | rfl | rfl | rfl | rfl | rfl | rfl | rfl | rfl | rfl <;> decide

end Go.Proofs.YtjlnlgemngpelaaGreatDoor

/- Who comes: plain laws: what is laid and told. No program. -/
namespace Go.Proofs.YtjlnlgemngpelaaGreatDoor
open Go.RowKit
set_option linter.unusedVariables false

/-- Who comes. -/
structure Con where
  level : Int
  clean : Bool
  keep : Int
  client : ByteArray
  hasWill : Bool
  topic : ByteArray
  text : ByteArray
  qos : Int
  retain : Bool
  hasUser : Bool
  user : ByteArray
  hasPass : Bool
  pass : ByteArray

def Con.zero : Con := ⟨0, false, 0, ⟨#[]⟩, false, ⟨#[]⟩, ⟨#[]⟩, 0, false, false, ⟨#[]⟩, false, ⟨#[]⟩⟩
def Con.cells (c : Con) : List Value := [.int .i64 c.level, .bool c.clean, .int .i64 c.keep, .string c.client, .bool c.hasWill, .string c.topic, .string c.text, .int .i64 c.qos, .bool c.retain, .bool c.hasUser, .string c.user, .bool c.hasPass, .string c.pass]
def Con.sized (c : Con) (n : Nat) : Prop := c.client.size ≤ n ∧ c.topic.size ≤ n ∧ c.text.size ≤ n ∧ c.user.size ≤ n ∧ c.pass.size ≤ n

def emB (s : ByteArray) : Bool := (sB s).isEmpty
def Con.noWill (c : Con) : Bool := emB c.topic && emB c.text && (c.qos == 0) && !c.retain
/-- why one may not come so -/
def cErr (c : Con) : Int :=
  if c.level ≠ 4 then 15
  else if c.keep < 0 ∨ 65535 < c.keep then 1
  else if c.qos < 0 ∨ 2 < c.qos then 10
  else if (c.hasPass && !c.hasUser) = true then 10
  else if (!c.hasWill && !c.noWill) = true then 4
  else if (!c.hasUser && !emB c.user) = true then 4
  else if (!c.hasPass && !emB c.pass) = true then 4 else 0

def bI (b : Bool) (n : Int) : Int := if b = true then n else 0
def cFlags (c : Con) : Int := bI c.clean 2 + bI c.hasWill 4 + bI c.retain 32 + bI c.hasPass 64 + bI c.hasUser 128 + c.qos * 8
theorem bI_rng (b : Bool) (n : Int) (h : 0 ≤ n) : 0 ≤ bI b n ∧ bI b n ≤ n := by unfold bI; split <;> omega
theorem cFlags_rng {c : Con} (h : 0 ≤ c.qos ∧ c.qos ≤ 2) : 0 ≤ cFlags c ∧ cFlags c ≤ 255 := by
  unfold cFlags
  have := bI_rng c.clean 2 (by omega); have := bI_rng c.hasWill 4 (by omega); have := bI_rng c.retain 32 (by omega); have := bI_rng c.hasPass 64 (by omega); have := bI_rng c.hasUser 128 (by omega)
  omega

/-- the flags, by the bits -/
def cBits (c : Con) : Int := bits .or .i64 (bits .or .i64 (bits .or .i64 (bits .or .i64 (bits .or .i64 (bI c.clean 2) (bI c.hasWill 4)) (bI c.retain 32)) (bI c.hasPass 64)) (bI c.hasUser 128)) (c.qos * 8)
theorem cBits_eq {c : Con} (h : 0 ≤ c.qos ∧ c.qos ≤ 2) : cBits c = cFlags c := by
  have hq : c.qos = 0 ∨ c.qos = 1 ∨ c.qos = 2 := by omega
  unfold cBits cFlags
  generalize c.clean = a at *
  generalize c.hasWill = b at *
  generalize c.retain = d at *
  generalize c.hasPass = e at *
  generalize c.hasUser = f at *
  rcases hq with hq | hq | hq <;> rw [hq] <;> cases a <;> cases b <;> cases d <;> cases e <;> cases f <;> decide

/-- a text more, if it is there; the first error stays -/
def cStep (st : List UInt8 × Int) (is : Bool) (fe : Int) (fb : List UInt8) : List UInt8 × Int :=
  if is = false then st else if st.2 ≠ 0 then st else if fe = 0 then (st.1 ++ fb, 0) else (st.1, fe)
theorem cStep_bad {st : List UInt8 × Int} (h : st.2 ≠ 0) (is : Bool) (fe : Int) (fb : List UInt8) : cStep st is fe fb = st := by
  unfold cStep; split
  · rfl
  · simp
theorem cStep_no (st : List UInt8 × Int) (fe : Int) (fb : List UInt8) : cStep st false fe fb = st := by unfold cStep; rw [if_pos rfl]
theorem cStep_ok (l : List UInt8) (fb : List UInt8) : cStep (l, 0) true 0 fb = (l ++ fb, 0) := by unfold cStep; simp
theorem cStep_err (l : List UInt8) {fe : Int} (fb : List UInt8) (h : fe ≠ 0) : cStep (l, 0) true fe fb = (l, fe) := by unfold cStep; simp [h]
theorem cStep_len (st : List UInt8 × Int) (is : Bool) (fe : Int) (fb : List UInt8) : (cStep st is fe fb).1.length ≤ st.1.length + fb.length := by
  unfold cStep; repeat' split
  all_goals simp

def cHead (c : Con) : List UInt8 := [0, 4, 77, 81, 84, 84, 4, B8 (cFlags c).toNat, B8 (c.keep.toNat / 256), B8 (c.keep.toNat % 256)]
def cS1 (c : Con) : List UInt8 × Int := cStep (cHead c, 0) true (uPutE (sB c.client)) (uPutB (sB c.client))
def cS2 (c : Con) : List UInt8 × Int := cStep (cS1 c) c.hasWill (uPutE (sB c.topic)) (uPutB (sB c.topic))
def cS3 (c : Con) : List UInt8 × Int := cStep (cS2 c) c.hasWill (uPutRawE (sB c.text)) (uPutRawB (sB c.text))
def cS4 (c : Con) : List UInt8 × Int := cStep (cS3 c) c.hasUser (uPutE (sB c.user)) (uPutB (sB c.user))
def cS5 (c : Con) : List UInt8 × Int := cStep (cS4 c) c.hasPass (uPutRawE (sB c.pass)) (uPutRawB (sB c.pass))
def cPutE (c : Con) : Int := if cErr c ≠ 0 then cErr c else if (cS5 c).2 ≠ 0 then (cS5 c).2 else if 4096 < (cS5 c).1.length then 3 else 0
def cPutB (c : Con) : List UInt8 := if cPutE c = 0 then (cS5 c).1 else []
theorem cS1_bad {c : Con} (h : (cS1 c).2 ≠ 0) : cS5 c = cS1 c := by
  rw [cS5, cS4, cS3, cS2, cStep_bad h, cStep_bad h, cStep_bad h, cStep_bad h]
theorem cS2_bad {c : Con} (h : (cS2 c).2 ≠ 0) : cS5 c = cS2 c := by
  rw [cS5, cS4, cS3, cStep_bad h, cStep_bad h, cStep_bad h]
theorem cS3_bad {c : Con} (h : (cS3 c).2 ≠ 0) : cS5 c = cS3 c := by
  rw [cS5, cS4, cStep_bad h, cStep_bad h]
theorem cS4_bad {c : Con} (h : (cS4 c).2 ≠ 0) : cS5 c = cS4 c := by
  rw [cS5, cStep_bad h]

/-! ### What is answered -/
def aPutE (p : Bool) (k : Int) : Int := if k < 0 ∨ 5 < k then 1 else if p = true ∧ k ≠ 0 then 4 else 0
def aPutB (p : Bool) (k : Int) : List UInt8 := if aPutE p k = 0 then [B8 (bI p 1).toNat, B8 k.toNat] else []
def aOf (l : List UInt8) : Bool × Int × Int :=
  if l.length ≠ 2 ∨ 1 < bN l 0 then (false, 0, 4)
  else if aPutE (decide (bN l 0 = 1)) (bN l 1) ≠ 0 then (false, 0, aPutE (decide (bN l 0 = 1)) (bN l 1))
  else (decide (bN l 0 = 1), bN l 1, 0)
theorem aBack {p : Bool} {k : Int} (h : aPutE p k = 0) : aOf (aPutB p k) = (p, k, 0) := by
  have hk : 0 ≤ k ∧ k ≤ 5 := by
    unfold aPutE at h
    by_cases c : k < 0 ∨ 5 < k
    · rw [if_pos c] at h; simp at h
    · omega
  have e0 : bN (aPutB p k) 0 = (bI p 1).toNat := by
    rw [aPutB, if_pos h]
    have := bI_rng p 1 (by omega)
    exact B8_toNat (by omega)
  have e1 : bN (aPutB p k) 1 = k.toNat := by
    rw [aPutB, if_pos h]
    exact B8_toNat (by omega)
  have e2 : (aPutB p k).length = 2 := by rw [aPutB, if_pos h]; rfl
  have ep : decide ((bI p 1).toNat = 1) = p := by cases p <;> rfl
  have h1 : (bI p 1).toNat ≤ 1 := by cases p <;> decide
  have ek : ((k.toNat : Nat) : Int) = k := by omega
  unfold aOf
  rw [e0, e1, e2, if_neg (by omega), ep, ek, if_neg (by omega)]
end Go.Proofs.YtjlnlgemngpelaaGreatDoor
