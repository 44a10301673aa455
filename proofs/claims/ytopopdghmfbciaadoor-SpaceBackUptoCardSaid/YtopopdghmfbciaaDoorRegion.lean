/- A region that draws its order, whose operations part into still ones (each yields one value in every world of a class, and leaves the world) and movers, whose order among themselves is forced: one walk in a given order serves every order. Of no program. -/
import Derived.StillTail
import Derived.Deep.Quiet
import Derived.KernelRfl
namespace Go.Proofs.YtopopdghmfbciaaDoor

section
variable {P : Program} {ops : Array Oper} {md : Region.Mode} {Q : Exit → Act → World → Prop} {C : World → Prop} {n : Nat}

def wpAnyC (P : Program) (md : Region.Mode) (ops : Array Oper) (n : Nat) (C : World → Prop) (Q : Exit → Act → World → Prop) : Nat → Array Bool → Act → World → Prop
  | 0, listed, a, w => Region.ready md ops listed = [] ∧ Q .normal a w
  | f + 1, listed, a, w => (Region.ready md ops listed = [] → Q .normal a w) ∧
      ∀ i ∈ Region.ready md ops listed, wpOp P ops Q i (fun a' w' => (i < n → C w') ∧ wpAnyC P md ops n C Q f (listed.setIfInBounds i true) a' w') a w

theorem wpAny_of_C : ∀ (f : Nat) (listed : Array Bool) (a : Act) (w : World), wpAnyC P md ops n C Q f listed a w → wpAny P md ops Q f listed a w
  | 0, _, _, _, h => h
  | f + 1, _, _, _, h => ⟨h.1, fun i hi => wpOp_mono (fun a' w' h' => wpAny_of_C f _ a' w' h'.2) (h.2 i hi)⟩

def YieldsC (P : Program) (ops : Array Oper) (C : World → Prop) (o : Oper) (v : Value) (a : Act) : Prop :=
  (Region.wanted o (yielded ops a.tmps) = true ∧ ∀ w, C w → (execOp a.eval o).run P w = .ok (.value v) w) ∨
  (Region.wanted o (yielded ops a.tmps) = false ∧ v = undef)

theorem YieldsC.wpOp {i : Nat} {o : Oper} {v : Value} {a : Act} (hi : ops[i]? = some o) (hy : YieldsC P ops C o v a)
    {K : Act → World → Prop} {w : World} (hC : C w) (h : K (a.put o.dst v) w) : wpOp P ops Q i K a w := by
  unfold Go.wpOp
  simp only [hi]
  rcases hy with ⟨hw, hv⟩ | ⟨hw, rfl⟩
  · simp only [hw, if_true, Oper.wp, hv w hC, Oper.upon]; exact .inl h
  · simp only [hw, Bool.false_eq_true, if_false]; exact h

theorem YieldsC.of_same {o : Oper} {v : Value} {a a' : Act} (hy : YieldsC P ops C o v a) (he : execOp a'.eval o = execOp a.eval o)
    (hw : Region.wanted o (yielded ops a'.tmps) = Region.wanted o (yielded ops a.tmps)) : YieldsC P ops C o v a' := by
  unfold YieldsC at *
  rw [he, hw]
  exact hy

theorem wpOp_putC {j : Nat} {oi oj : Oper} {v : Value} (hj : ops[j]? = some oj) (hap : oi.apart ops oj = true)
    (hsi : ∀ cs b, oi.op ≠ .select cs b) (hsj : ∀ cs b, oj.op ≠ .select cs b)
    (hQ : ∀ c a w, Q (.panic c) (a.put oi.dst v) w → Q (.panic c) a w) {K : Act → World → Prop} {a : Act} {w : World}
    (hy : YieldsC P ops C oi v a) (h : wpOp P ops Q j K (a.put oi.dst v) w) :
    wpOp P ops Q j (fun a' w' => YieldsC P ops C oi v a' ∧ K (a'.put oi.dst v) w') a w := by
  obtain ⟨h1, h2, h3⟩ := Oper.apart_spec hap
  have keep : ∀ (a : Act), YieldsC P ops C oi v a → ∀ u, YieldsC P ops C oi v (a.put oj.dst u) := fun a hy u =>
    hy.of_same (execOp_put oi hsi a oj.dst u h3) (wanted_put oi a oj.dst u h3)
  have keepD : ∀ d, YieldsC P ops C oi v { a with defers := d :: a.defers } := fun d => hy.of_same rfl rfl
  unfold Go.wpOp at *
  simp only [hj] at *
  rw [wanted_put oj a oi.dst v h1] at h
  split
  · rename_i hw
    simp only [hw, if_true] at h
    rcases h with h | ⟨hasks, hlets⟩
    case inr => exact .inr ⟨by unfold Oper.asks at *; rw [execOp_put oj hsj a oi.dst v h1] at hasks; exact hasks, hlets⟩
    refine .inl ?_
    unfold Oper.wp at *
    rw [execOp_put oj hsj a oi.dst v h1] at h
    generalize (execOp a.eval oj).run P w = r at *
    cases r with
    | ok n w' =>
      cases n <;> simp only [Oper.upon] at h ⊢
      case value u => exact ⟨keep a hy u, by rw [← Act.put_comm a v u h2]; exact h⟩
      case skip => exact ⟨keep a hy _, by rw [← Act.put_comm a v undef h2]; exact h⟩
      case defer d =>
        refine ⟨keep _ (keepD d) _, ?_⟩
        rw [← Act.put_comm _ v undef h2, ← Act.put_defers]
        exact h
      case enter f args =>
        refine Calls.mono h fun e w'' he => ?_
        cases e with
        | returned u => exact ⟨keep a hy u, by rw [← Act.put_comm a v u h2]; exact he⟩
        | panicked c => exact hQ _ _ _ he
        | outgrown => exact he
      case row row args => exact Rows.mono h fun u w'' he => ⟨keep a hy u, by rw [← Act.put_comm a v u h2]; exact he⟩
    | halt x w' =>
      cases x <;> simp only [Oper.upon] at h ⊢
      case panic u => exact hQ _ _ _ h
  · rename_i hw
    simp only [hw] at h
    exact ⟨keep a hy _, by rw [← Act.put_comm a v undef h2]; exact h⟩

theorem first_C {i : Nat} {oi : Oper} {v : Value} (hi : ops[i]? = some oi) (hsel : ∀ (j : Nat) (o : Oper) cs b, ops[j]? = some o → o.op ≠ .select cs b)
    (hQ : ∀ c a w, Q (.panic c) (a.put oi.dst v) w → Q (.panic c) a w) (hs : Region.sinkB md ops n = true) (hc : Region.chainB md ops n = true) (hn : n < ops.size) (hin : i < n) :
    ∀ (fuel : Nat) (listed : Array Bool) (a : Act) (w : World), HeadInv md ops n listed →
      (∀ j oj, ops[j]? = some oj → j ≠ i → listed.getD j true = false → (∀ e ∈ oj.after, Region.binds md e = true → e.on ≠ i) → oi.apart ops oj = true) →
      i ∈ Region.ready md ops listed → YieldsC P ops C oi v a → C w →
      wpAnyC P md ops n C Q fuel (listed.setIfInBounds i true) (a.put oi.dst v) w → wpAnyC P md ops n C Q (fuel + 1) listed a w := by
  intro fuel
  induction fuel with
  | zero =>
    intro listed a w _ _ hr hy hC H
    refine ⟨fun h => (by rw [h] at hr; cases hr), fun j hj => ?_⟩
    by_cases hji : j = i
    · subst hji; exact hy.wpOp hi hC ⟨fun _ => hC, H⟩
    · have := ready_mono hj hji
      rw [H.1] at this
      cases this
  | succ f ih =>
    intro listed a w inv hfree hr hy hC H
    have hun := (mem_ready.1 hr).1
    refine ⟨fun h => (by rw [h] at hr; cases hr), fun j hj => ?_⟩
    by_cases hji : j = i
    · subst hji; exact hy.wpOp hi hC ⟨fun _ => hC, H⟩
    · have hjn : j < n := by
        rcases Nat.lt_or_ge j n with h | h
        · exact h
        · exact absurd hj (tail_waits hs hc hn inv _ i rfl hin hun j h)
      have h1 := H.2 j (ready_mono hj hji)
      obtain ⟨hjun, oj, hoj, hall⟩ := mem_ready.1 hj
      have hnot : ∀ e ∈ oj.after, Region.binds md e = true → e.on ≠ i := fun e he hb heq => by
        have h1 := hall e he hb
        rw [heq, getD_both hun] at h1
        cases h1
      have h2 := wpOp_putC hoj (hfree j oj hoj hji hjun hnot) (fun cs b => hsel i oi cs b hi) (fun cs b => hsel j oj cs b hoj) hQ hy h1
      have hfree' : ∀ k ok, ops[k]? = some ok → k ≠ i → (listed.setIfInBounds j true).getD k true = false →
          (∀ e ∈ ok.after, Region.binds md e = true → e.on ≠ i) → oi.apart ops ok = true := fun k ok hk hki hun' hno => by
        refine hfree k ok hk hki ?_ hno
        by_cases hjk : j = k
        · subst hjk; exact hjun
        · rw [getD_set_ne true hjk] at hun'; exact hun'
      refine wpOp_mono (fun a' w' h3 => ⟨fun _ => h3.2.1 hjn, ih (listed.setIfInBounds j true) a' w' (inv.set hj hjn) hfree' (ready_mono hr (Ne.symm hji)) h3.1 (h3.2.1 hjn) ?_⟩) h2
      rw [Array.setIfInBounds_comm _ _ hji]
      exact h3.2.2

/-- The order in which the walk goes: (number, is it a mover?). -/
def okM (md : Region.Mode) (ops : Array Oper) (n : Nat) : List (Nat × Bool) → Array Bool → Bool
  | [], listed => (Region.ready md ops listed).isEmpty
  | (k, false) :: r, listed => (Region.ready md ops listed).contains k && (Region.free md ops listed k && (decide (k < n) && okM md ops n r (listed.setIfInBounds k true)))
  | (k, true) :: r, listed => (Region.ready md ops listed == [k]) && ((decide (k < n) || r.all (·.2)) && okM md ops n r (listed.setIfInBounds k true))

def wpM (P : Program) (ops : Array Oper) (n : Nat) (C : World → Prop) (Q : Exit → Act → World → Prop) : List (Nat × Bool) → Act → World → Prop
  | [], a, w => Q .normal a w
  | (k, false) :: r, a, w => ∃ o, ops[k]? = some o ∧ ∃ v, YieldsC P ops C o v a ∧ wpM P ops n C Q r (a.put o.dst v) w
  | (k, true) :: r, a, w => wpOp P ops Q k (fun a' w' => (k < n → C w') ∧ wpM P ops n C Q r a' w') a w

theorem movers_C : ∀ (σ : List (Nat × Bool)) (listed : Array Bool) (a : Act) (w : World), σ.all (·.2) = true → okM md ops n σ listed = true → wpM P ops n C Q σ a w → wpAnyC P md ops n C Q σ.length listed a w
  | [], listed, a, w, _, hok, h => ⟨by simpa [okM] using hok, h⟩
  | (k, false) :: r, listed, a, w, hall, _, _ => by simp at hall
  | (k, true) :: r, listed, a, w, hall, hok, h => by
    simp only [okM, Bool.and_eq_true, beq_iff_eq] at hok
    obtain ⟨hr, _, hok'⟩ := hok
    have hall' : r.all (·.2) = true := by simpa using hall
    refine ⟨fun h0 => (by rw [hr] at h0; cases h0), fun i hi => ?_⟩
    rw [hr] at hi
    obtain rfl : i = k := by simpa using hi
    exact wpOp_mono (fun a' w' h' => ⟨h'.1, movers_C r _ a' w' hall' hok' h'.2⟩) h

theorem hQ_put (hQ : ∀ c (a : Act) (T : Array Value) w, Q (.panic c) { a with tmps := T } w → Q (.panic c) a w) {c} {a : Act} {d : Option Tmp} {v : Value} {w : World} (h : Q (.panic c) (a.put d v) w) : Q (.panic c) a w := by
  cases d with
  | none => exact h
  | some d => exact hQ c a _ w h

theorem walk_C (hsel : ∀ (j : Nat) (o : Oper) cs b, ops[j]? = some o → o.op ≠ .select cs b) (hQ : ∀ c (a : Act) (T : Array Value) w, Q (.panic c) { a with tmps := T } w → Q (.panic c) a w)
    (hs : Region.sinkB md ops n = true) (hc : Region.chainB md ops n = true) (hn : n < ops.size) :
    ∀ (σ : List (Nat × Bool)) (listed : Array Bool) (a : Act) (w : World), HeadInv md ops n listed → C w → okM md ops n σ listed = true → wpM P ops n C Q σ a w → wpAnyC P md ops n C Q σ.length listed a w
  | [], listed, a, w, _, _, hok, h => ⟨by simpa [okM] using hok, h⟩
  | (k, false) :: r, listed, a, w, inv, hC, hok, h => by
    simp only [okM, Bool.and_eq_true, decide_eq_true_eq] at hok
    obtain ⟨hr, hf, hk, hok'⟩ := hok
    obtain ⟨o, ho, v, hy, hK⟩ := h
    have hr' : k ∈ Region.ready md ops listed := by simpa using hr
    exact first_C ho hsel (fun c a w h => hQ_put hQ h) hs hc hn hk r.length listed a w inv (Region.free_spec ho hf) hr' hy hC
      (walk_C hsel hQ hs hc hn r _ _ w (inv.set hr' hk) hC hok' hK)
  | (k, true) :: r, listed, a, w, inv, hC, hok, h => by
    by_cases hk : k < n
    · simp only [okM, Bool.and_eq_true, beq_iff_eq] at hok
      obtain ⟨hr, _, hok'⟩ := hok
      refine ⟨fun h0 => (by rw [hr] at h0; cases h0), fun i hi => ?_⟩
      have hi' := hi
      rw [hr] at hi
      obtain rfl : i = k := by simpa using hi
      exact wpOp_mono (fun a' w' h' => ⟨h'.1, walk_C hsel hQ hs hc hn r _ a' w' (inv.set hi' hk) (h'.1 hk) hok' h'.2⟩) h
    · have hall : ((k, true) :: r).all (·.2) = true := by
        simp only [okM, Bool.and_eq_true, decide_eq_false hk, Bool.false_or] at hok
        simpa using hok.2.1
      exact movers_C _ listed a w hall hok h

theorem headInv_start : HeadInv md ops n (Array.replicate ops.size false) :=
  ⟨by simp, (fun j oj _ hl => by rw [getD_replicate_false] at hl; cases hl), (fun t _ ht => by simp [ht])⟩

/-- The whole: a region that draws its order. -/
theorem wp_region_M {id : Nat} {a : Act} {w : World} (C : World → Prop) (n : Nat) (σ : List (Nat × Bool)) (hm : P.follows .mixedOrders = true)
    (hB : (Region.noSelect ops && (Region.sinkB .any ops n && (Region.chainB .any ops n && (decide (n < ops.size) && (okM .any ops n σ (Array.replicate ops.size false) && (σ.length == ops.size)))))) = true)
    (hQ : ∀ c (a : Act) (T : Array Value) w, Q (.panic c) { a with tmps := T } w → Q (.panic c) a w) (hC : C w.drew)
    (h : wpM P ops n C Q σ a w.drew) : (Code.region id ops true).wp P Q a w := by
  simp only [Bool.and_eq_true, decide_eq_true_eq, beq_iff_eq] at hB
  obtain ⟨h1, h2, h3, h4, h5, h6⟩ := hB
  refine wp_region_any hm (wpAny_of_C _ _ _ _ (n := n) (C := C) ?_)
  have := walk_C (P := P) (Q := Q) (C := C) (Region.noSelect_spec h1) hQ h2 h3 h4 σ _ a w.drew headInv_start hC h5 h
  rw [h6] at this
  exact this

theorem wpM_still {k : Nat} {r : List (Nat × Bool)} {o : Oper} {v : Value} {a : Act} {w : World} (ho : ops[k]? = some o) (hw : Region.wanted o (yielded ops a.tmps) = true)
    (h : ∀ w', C w' → (execOp a.eval o).run P w' = .ok (.value v) w') (hr : wpM P ops n C Q r (a.put o.dst v) w) : wpM P ops n C Q ((k, false) :: r) a w :=
  ⟨o, ho, v, .inl ⟨hw, h⟩, hr⟩
theorem wpM_skip {k : Nat} {r : List (Nat × Bool)} {o : Oper} {a : Act} {w : World} (ho : ops[k]? = some o) (hw : Region.wanted o (yielded ops a.tmps) = false)
    (hr : wpM P ops n C Q r (a.put o.dst undef) w) : wpM P ops n C Q ((k, false) :: r) a w :=
  ⟨o, ho, undef, .inr ⟨hw, rfl⟩, hr⟩
theorem wpM_move {k : Nat} {r : List (Nat × Bool)} {o : Oper} {a : Act} {w : World} (ho : ops[k]? = some o) (hw : Region.wanted o (yielded ops a.tmps) = true)
    (h : ∀ K : Act → World → Prop, (∀ a' w', (k < n → C w') → wpM P ops n C Q r a' w' → K a' w') → o.wp P a w K Q) : wpM P ops n C Q ((k, true) :: r) a w := by
  show wpOp P ops Q k _ a w
  unfold Go.wpOp
  simp only [ho, hw, if_true]
  exact .inl (h _ fun a' w' h1 h2 => ⟨h1, h2⟩)
theorem wpM_nil {a : Act} {w : World} (h : Q .normal a w) : wpM P ops n C Q [] a w := h
end
end Go.Proofs.YtopopdghmfbciaaDoor
