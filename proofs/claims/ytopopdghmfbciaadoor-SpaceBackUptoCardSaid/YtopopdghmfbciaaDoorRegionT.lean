/- A region that draws its order, with movers whose order is free among two of them: the walk forks there. Of no program. -/
import Derived.Test.YtopopdghmfbciaaDoorRegion
namespace Go.Proofs.YtopopdghmfbciaaDoor

inductive Tr where
  | done
  | still (k : Nat) (r : Tr)
  | move (k : Nat) (r : Tr)
  | fork (k1 : Nat) (r1 : Tr) (k2 : Nat) (r2 : Tr)
def Tr.len : Tr → Nat
  | .done => 0
  | .still _ r => r.len + 1
  | .move _ r => r.len + 1
  | .fork _ r1 _ _ => r1.len + 1
def Tr.isDone : Tr → Bool
  | .done => true
  | _ => false

section
variable {P : Program} {ops : Array Oper} {md : Region.Mode} {Q : Exit → Act → World → Prop} {C : World → Prop} {n : Nat}

def okT (md : Region.Mode) (ops : Array Oper) (n : Nat) : Tr → Array Bool → Bool
  | .done, listed => (Region.ready md ops listed).isEmpty
  | .still k r, listed => (Region.ready md ops listed).contains k && (Region.free md ops listed k && (decide (k < n) && okT md ops n r (listed.setIfInBounds k true)))
  | .move k r, listed => (Region.ready md ops listed == [k]) && ((decide (k < n) || r.isDone) && okT md ops n r (listed.setIfInBounds k true))
  | .fork k1 r1 k2 r2, listed => (Region.ready md ops listed == [k1, k2]) && (decide (k1 < n) && (decide (k2 < n) && (r1.len == r2.len && (okT md ops n r1 (listed.setIfInBounds k1 true) && okT md ops n r2 (listed.setIfInBounds k2 true)))))

def wpT (P : Program) (ops : Array Oper) (n : Nat) (C : World → Prop) (Q : Exit → Act → World → Prop) : Tr → Act → World → Prop
  | .done, a, w => Q .normal a w
  | .still k r, a, w => ∃ o, ops[k]? = some o ∧ ∃ v, YieldsC P ops C o v a ∧ wpT P ops n C Q r (a.put o.dst v) w
  | .move k r, a, w => wpOp P ops Q k (fun a' w' => (k < n → C w') ∧ wpT P ops n C Q r a' w') a w
  | .fork k1 r1 k2 r2, a, w => wpOp P ops Q k1 (fun a' w' => (k1 < n → C w') ∧ wpT P ops n C Q r1 a' w') a w ∧ wpOp P ops Q k2 (fun a' w' => (k2 < n → C w') ∧ wpT P ops n C Q r2 a' w') a w

theorem walk_T (hsel : ∀ (j : Nat) (o : Oper) cs b, ops[j]? = some o → o.op ≠ .select cs b) (hQ : ∀ c (a : Act) (T : Array Value) w, Q (.panic c) { a with tmps := T } w → Q (.panic c) a w)
    (hs : Region.sinkB md ops n = true) (hc : Region.chainB md ops n = true) (hn : n < ops.size) :
    ∀ (σ : Tr) (listed : Array Bool) (a : Act) (w : World), HeadInv md ops n listed → C w → okT md ops n σ listed = true → wpT P ops n C Q σ a w → wpAnyC P md ops n C Q σ.len listed a w
  | .done, listed, a, w, _, _, hok, h => ⟨by simpa [okT] using hok, h⟩
  | .still k r, listed, a, w, inv, hC, hok, h => by
    simp only [okT, Bool.and_eq_true, decide_eq_true_eq] at hok
    obtain ⟨hr, hf, hk, hok'⟩ := hok
    obtain ⟨o, ho, v, hy, hK⟩ := h
    have hr' : k ∈ Region.ready md ops listed := by simpa using hr
    exact first_C ho hsel (fun c a w h => hQ_put hQ h) hs hc hn hk r.len listed a w inv (Region.free_spec ho hf) hr' hy hC
      (walk_T hsel hQ hs hc hn r _ _ w (inv.set hr' hk) hC hok' hK)
  | .move k r, listed, a, w, inv, hC, hok, h => by
    simp only [okT, Bool.and_eq_true, beq_iff_eq] at hok
    obtain ⟨hr, hd, hok'⟩ := hok
    refine ⟨fun h0 => (by rw [hr] at h0; cases h0), fun i hi => ?_⟩
    have hi' := hi
    rw [hr] at hi
    obtain rfl : i = k := by simpa using hi
    by_cases hk : i < n
    · exact wpOp_mono (fun a' w' h' => ⟨h'.1, walk_T hsel hQ hs hc hn r _ a' w' (inv.set hi' hk) (h'.1 hk) hok' h'.2⟩) h
    · have hdone : r.isDone = true := by simpa [hk] using hd
      cases r with
      | done => exact wpOp_mono (fun a' w' h' => ⟨h'.1, by simpa [okT] using hok', h'.2⟩) h
      | still _ _ => cases hdone
      | move _ _ => cases hdone
      | fork _ _ _ _ => cases hdone
  | .fork k1 r1 k2 r2, listed, a, w, inv, hC, hok, h => by
    simp only [okT, Bool.and_eq_true, beq_iff_eq, decide_eq_true_eq] at hok
    obtain ⟨hr, hk1, hk2, hl, hok1, hok2⟩ := hok
    refine ⟨fun h0 => (by rw [hr] at h0; cases h0), fun i hi => ?_⟩
    have hi' := hi
    rw [hr] at hi
    have : i = k1 ∨ i = k2 := by simpa using hi
    rcases this with rfl | rfl
    · exact wpOp_mono (fun a' w' h' => ⟨h'.1, walk_T hsel hQ hs hc hn r1 _ a' w' (inv.set hi' hk1) (h'.1 hk1) hok1 h'.2⟩) h.1
    · have hl' : (Tr.fork k1 r1 i r2).len = r2.len + 1 := by simp [Tr.len, hl]
      exact wpOp_mono (fun a' w' h' => ⟨h'.1, by rw [hl]; exact walk_T hsel hQ hs hc hn r2 _ a' w' (inv.set hi' hk2) (h'.1 hk2) hok2 h'.2⟩) h.2

theorem wp_region_T {id : Nat} {a : Act} {w : World} (C : World → Prop) (n : Nat) (σ : Tr) (hm : P.follows .mixedOrders = true)
    (hB : (Region.noSelect ops && (Region.sinkB .any ops n && (Region.chainB .any ops n && (decide (n < ops.size) && (okT .any ops n σ (Array.replicate ops.size false) && (σ.len == ops.size)))))) = true)
    (hQ : ∀ c (a : Act) (T : Array Value) w, Q (.panic c) { a with tmps := T } w → Q (.panic c) a w) (hC : C w.drew)
    (h : wpT P ops n C Q σ a w.drew) : (Code.region id ops true).wp P Q a w := by
  simp only [Bool.and_eq_true, decide_eq_true_eq, beq_iff_eq] at hB
  obtain ⟨h1, h2, h3, h4, h5, h6⟩ := hB
  refine wp_region_any hm (wpAny_of_C _ _ _ _ (n := n) (C := C) ?_)
  have := walk_T (P := P) (Q := Q) (C := C) (Region.noSelect_spec h1) hQ h2 h3 h4 σ _ a w.drew headInv_start hC h5 h
  rw [h6] at this
  exact this

theorem wpT_still {k : Nat} {r : Tr} {o : Oper} {v : Value} {a : Act} {w : World} (ho : ops[k]? = some o) (hw : Region.wanted o (yielded ops a.tmps) = true)
    (h : ∀ w', C w' → (execOp a.eval o).run P w' = .ok (.value v) w') (hr : wpT P ops n C Q r (a.put o.dst v) w) : wpT P ops n C Q (.still k r) a w :=
  ⟨o, ho, v, .inl ⟨hw, h⟩, hr⟩
theorem wpT_skip {k : Nat} {r : Tr} {o : Oper} {a : Act} {w : World} (ho : ops[k]? = some o) (hw : Region.wanted o (yielded ops a.tmps) = false)
    (hr : wpT P ops n C Q r (a.put o.dst undef) w) : wpT P ops n C Q (.still k r) a w :=
  ⟨o, ho, undef, .inr ⟨hw, rfl⟩, hr⟩
theorem wpOp_moved {k : Nat} {r : Tr} {o : Oper} {a : Act} {w : World} (ho : ops[k]? = some o) (hw : Region.wanted o (yielded ops a.tmps) = true)
    (h : ∀ K : Act → World → Prop, (∀ a' w', (k < n → C w') → wpT P ops n C Q r a' w' → K a' w') → o.wp P a w K Q) : wpOp P ops Q k (fun a' w' => (k < n → C w') ∧ wpT P ops n C Q r a' w') a w := by
  unfold Go.wpOp
  simp only [ho, hw, if_true]
  exact .inl (h _ fun a' w' h1 h2 => ⟨h1, h2⟩)
theorem wpT_move {k : Nat} {r : Tr} {o : Oper} {a : Act} {w : World} (ho : ops[k]? = some o) (hw : Region.wanted o (yielded ops a.tmps) = true)
    (h : ∀ K : Act → World → Prop, (∀ a' w', (k < n → C w') → wpT P ops n C Q r a' w' → K a' w') → o.wp P a w K Q) : wpT P ops n C Q (.move k r) a w :=
  wpOp_moved ho hw h
theorem wpT_fork {k1 k2 : Nat} {r1 r2 : Tr} {o1 o2 : Oper} {a : Act} {w : World} (ho1 : ops[k1]? = some o1) (hw1 : Region.wanted o1 (yielded ops a.tmps) = true) (ho2 : ops[k2]? = some o2) (hw2 : Region.wanted o2 (yielded ops a.tmps) = true)
    (h1 : ∀ K : Act → World → Prop, (∀ a' w', (k1 < n → C w') → wpT P ops n C Q r1 a' w' → K a' w') → o1.wp P a w K Q)
    (h2 : ∀ K : Act → World → Prop, (∀ a' w', (k2 < n → C w') → wpT P ops n C Q r2 a' w' → K a' w') → o2.wp P a w K Q) : wpT P ops n C Q (.fork k1 r1 k2 r2) a w :=
  ⟨wpOp_moved ho1 hw1 h1, wpOp_moved ho2 hw2 h2⟩
theorem wpT_done {a : Act} {w : World} (h : Q .normal a w) : wpT P ops n C Q .done a w := h
end
end Go.Proofs.YtopopdghmfbciaaDoor
