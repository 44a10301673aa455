/- A bundle of texts (merged for the limit on files): Mat, Mat2. -/
import Derived.Test.YtclicjokgfiegaaGreatDoorZa3
import Derived.BigQuiet
import Derived.Laws.EntriesVeiled
/- What a filter wants: the walks of the program. -/
namespace Go.Proofs.YtclicjokgfiegaaGreatDoor
open Go.RowKit
set_option linter.unusedVariables false
set_option linter.unusedSimpArgs false

/-- level by level -/
def alongL (hold : List UInt8 → List UInt8 → Bool) : List (List UInt8) → List (List UInt8) → Bool
  | [], b => b.isEmpty
  | x :: r, b => if x = [35] then true else match b with
    | [] => false
    | y :: t => hold x y && alongL hold r t
def holdM (x y : List UInt8) : Bool := x == [43] || x == y
def holdC (x y : List UInt8) : Bool := x == y || (x == [43] && !(y == [35]))
def begW (f : List UInt8) : Bool := f.take 1 == [43] || f.take 1 == [35]
def mMatch (f n : List UInt8) : Bool := lFilter f && (lName n && (!(begW f && lHidden n) && alongL holdM (lSplit f) (lSplit n)))
def mCovers (a b : List UInt8) : Bool := lFilter a && (lFilter b && (!(begW a && lHidden b) && alongL holdC (lSplit a) (lSplit b)))
def mWide (f : List UInt8) : Bool := lFilter f && !lName f

theorem quiet_leftM {P : Program} {f : FuncId} {args : Array Value} {w : World} {n : Nat} {v : Value} (h : Calls P f args (w.drewN n) fun e w' => e = .returned v ∧ w.drewN n = w') : Calls P f args (w.drewN n) fun e w' => e = .returned v ∧ ∃ m, w' = w.drewN m :=
  h.mono fun e w' h => ⟨h.1, n, h.2.symm⟩
theorem quiet_moreM {P : Program} {f : FuncId} {args : Array Value} {w : World} {n : Nat} {v : Value} (h : Calls P f args (w.drewN n) fun e w' => e = .returned v ∧ ∃ m, w' = (w.drewN n).drewN m) : Calls P f args (w.drewN n) fun e w' => e = .returned v ∧ ∃ m, w' = w.drewN m :=
  h.mono fun e w' h => ⟨h.1, by obtain ⟨m, rfl⟩ := h.2; exact ⟨n + m, by simp [World.drewN, Nat.add_assoc]⟩⟩

set_option maxRecDepth 100000 in
theorem holdM_c (x y : List UInt8) (w : World) : Calls Tryz.prog 60 #[.string (sOf x), .string (sOf y)] w fun e w' => e = .returned (.bool (holdM x y)) ∧ w = w' := by
  have h1 := toList_sOf x
  have h2 := toList_sOf y
  obtain ⟨r, hr⟩ : ∃ r, holdM x y = r := ⟨_, rfl⟩
  rw [hr]
  unfold holdM at hr
  go_enter Tryz.func60, Tryz.ntmps60
  cases e1 : (x == [43])
  · rw [e1, Bool.false_or] at hr
    subst hr
    go_wp2_with fail
    go_ret
    exact ⟨rfl, rfl⟩
  · rw [e1, Bool.true_or] at hr
    subst hr
    go_wp2_with fail
    go_ret
    exact ⟨rfl, rfl⟩

structure AlongE (f : FuncId) (p q : List (List UInt8)) (va vb : Value) (ga gb gh gf : Nat) (w : World) : Prop where
  a : w.cell? ⟨ga, 0, none⟩ = some va
  b : w.cell? ⟨gb, 0, none⟩ = some vb
  h : w.cell? ⟨gh, 0, none⟩ = some (.func (.func f) #[] #[])
  f : w.cell? ⟨gf, 0, none⟩ = some (.func (.func 84) #[] #[.pointer (some ⟨ga, 0, none⟩), .pointer (some ⟨gb, 0, none⟩), .pointer (some ⟨gh, 0, none⟩), .pointer (some ⟨gf, 0, none⟩)])
  la : Ls w va p
  lb : Ls w vb q
theorem AlongE.drewN {f : FuncId} {p q : List (List UInt8)} {va vb : Value} {ga gb gh gf : Nat} {w : World} (h : AlongE f p q va vb ga gb gh gf w) (n : Nat) : AlongE f p q va vb ga gb gh gf (w.drewN n) :=
  ⟨h.a, h.b, h.h, h.f, h.la.below' (below_dn (Below.refl _ _) n) (Nat.le_refl _), h.lb.below' (below_dn (Below.refl _ _) n) (Nat.le_refl _)⟩
theorem alongL_at {hold : List UInt8 → List UInt8 → Bool} {p q : List (List UInt8)} {i : Nat} {x : List UInt8} (hx : p[i]? = some x) :
    alongL hold (p.drop i) (q.drop i) = if x = [35] then true else match q[i]? with
      | none => false
      | some y => hold x y && alongL hold (p.drop (i + 1)) (q.drop (i + 1)) := by
  have hlt : i < p.length := (List.getElem?_eq_some_iff.1 hx).1
  have hpx : p[i] = x := (List.getElem?_eq_some_iff.1 hx).2
  rw [List.drop_eq_getElem_cons hlt, hpx]
  by_cases hq : i < q.length
  · rw [List.drop_eq_getElem_cons hq, List.getElem?_eq_getElem hq, alongL]
  · rw [List.drop_of_length_le (l := q) (by omega), List.getElem?_eq_none (by omega), alongL]

set_option maxRecDepth 100000 in
set_option maxHeartbeats 4000000 in
theorem along1M_c
    (p q : List (List UInt8)) (va vb : Value) (ga gb gh gf : Nat) (hpl : p.length ≤ 100000000) (hql : q.length ≤ 100000000) : ∀ (n i : Nat) (w : World), p.length - i ≤ n → i ≤ p.length → i ≤ q.length → AlongE 60 p q va vb ga gb gh gf w →
    Calls Tryz.prog 84 #[.int .i64 i, .pointer (some ⟨ga, 0, none⟩), .pointer (some ⟨gb, 0, none⟩), .pointer (some ⟨gh, 0, none⟩), .pointer (some ⟨gf, 0, none⟩)] w fun e w' => e = .returned (.bool (alongL holdM (p.drop i) (q.drop i))) ∧ ∃ m, w' = w.drewN m := by
  have fin : ∀ (w : World), p.length ≤ q.length → AlongE 60 p q va vb ga gb gh gf w →
      Calls Tryz.prog 84 #[.int .i64 p.length, .pointer (some ⟨ga, 0, none⟩), .pointer (some ⟨gb, 0, none⟩), .pointer (some ⟨gh, 0, none⟩), .pointer (some ⟨gf, 0, none⟩)] w fun e w' => e = .returned (.bool (alongL holdM (p.drop p.length) (q.drop p.length))) ∧ ∃ m, w' = w.drewN m := by
    intro w hj E
    have hs : alongL holdM (p.drop p.length) (q.drop p.length) = ((p.length : Int) == (q.length : Int)) := by
      rw [List.drop_of_length_le (Nat.le_refl _), alongL]
      rw [Bool.eq_iff_iff]; simp; omega
    rw [hs]
    obtain ⟨a, b, h, f0, la, lb⟩ := E
    obtain ⟨aa, ac, rfl⟩ := la.slice
    obtain ⟨ba, bc, rfl⟩ := lb.slice
    clear la lb hs
    go_enter Tryz.func84, Tryz.ntmps84
    go_wp2_with fail
    go_ret
    exact ⟨rfl, 0, rfl⟩
  intro n
  induction n with
  | zero =>
    intro i w hn hi hj E
    have hie : i = p.length := by omega
    subst hie
    exact fin w hj E
  | succ n ih =>
    intro i w hn hi hj E
    by_cases hip : i = p.length
    · subst hip
      exact fin w hj E
    have hil : i < p.length := by omega
    have hipb : ((i : Int) == (p.length : Int)) = false := by simp; omega
    obtain ⟨x, hx⟩ : ∃ x, p[i]? = some x := ⟨_, List.getElem?_eq_getElem hil⟩
    obtain ⟨r, hr⟩ : ∃ r, alongL holdM (p.drop i) (q.drop i) = r := ⟨_, rfl⟩
    rw [hr]
    rw [alongL_at hx] at hr
    have IH := hd ih; clear ih
    have HE := hd E
    obtain ⟨a, b, h, f0, la, lb⟩ := E
    obtain ⟨aa, ac, rfl⟩ := la.slice
    obtain ⟨ba, bc, rfl⟩ := lb.slice
    obtain ⟨bx, ox, rfl, hbx, hcx⟩ := la.at hx
    have htx := toList_sOf x
    cases e35 : (x == [35])
    rotate_left
    · have hx35 : x = [35] := by simpa using e35
      rw [if_pos hx35] at hr
      have hr2 := hd hr
      clear la lb hr hx35
      go_enter Tryz.func84, Tryz.ntmps84
      go_wp2_with fail
      go_ret
      exact ⟨ret_bool hr2.out, 0, rfl⟩
    have hx35 : ¬ x = [35] := by simpa using e35
    rw [if_neg hx35] at hr
    by_cases hiq : i = q.length
    · have hiqb : ((i : Int) == (q.length : Int)) = true := by simp; omega
      rw [List.getElem?_eq_none (by omega)] at hr
      have hr2 := hd hr
      clear la lb hr hx35 hiq hx
      go_enter Tryz.func84, Tryz.ntmps84
      go_wp2_with fail
      go_ret
      exact ⟨ret_bool hr2.out, 0, rfl⟩
    have hiqb : ((i : Int) == (q.length : Int)) = false := by simp; omega
    have hiq2 : i < q.length := by omega
    obtain ⟨y, hy⟩ : ∃ y, q[i]? = some y := ⟨_, List.getElem?_eq_getElem hiq2⟩
    rw [hy] at hr
    simp only at hr
    obtain ⟨by', oy, rfl, hby, hcy⟩ := lb.at hy
    have hwr : IntKind.i64.wrap ((i : Int) + 1) = (i : Int) + 1 := IntWalk.i64_in _ (by omega)
    have hH1 := fun W => holdM_c x y W
    have hI := fun W m (h : W = w.drewN m) => IH.out (i + 1) W (by omega) (by omega) (by omega) (by rw [h]; exact HE.out.drewN m)
    have HH := hd hH1; have HI := hd hI
    clear la lb hx35 hx hy hH1 hI HE IH
    cases hxy : holdM x y
    · rw [hxy, Bool.false_and] at hr
      have hr2 := hd hr
      have HXY := hd hxy
      have hh2 := HH.out
      rw [hxy] at hh2
      have HH2 := hd hh2
      clear hr hxy hh2 HH
      go_enter Tryz.func84, Tryz.ntmps84
      go_wp2_with fail
      go_quiet (first | exact quiet_leftM (HH2.out _))
      go_wp2_with fail
      go_ret
      exact ⟨ret_bool hr2.out, _, rfl⟩
    · rw [hxy, Bool.true_and] at hr
      have hr2 := hd hr
      have HXY := hd hxy
      have hh2 := HH.out
      rw [hxy] at hh2
      have HH2 := hd hh2
      clear hr hxy hh2 HH
      rw [hr2.out] at HI
      push_cast at HI
      go_enter Tryz.func84, Tryz.ntmps84
      go_wp2_with fail
      go_quiet (first | exact quiet_leftM (HH2.out _) | exact quiet_moreM (HI.out _ _ rfl))
      go_wp2_with fail
      go_ret
      exact ⟨rfl, _, rfl⟩
end Go.Proofs.YtclicjokgfiegaaGreatDoor

/- What a filter wants: Match, Wide, Covers: the walks of the program. -/
namespace Go.Proofs.YtclicjokgfiegaaGreatDoor
open Go.RowKit
set_option linter.unusedVariables false
set_option linter.unusedSimpArgs false

set_option maxRecDepth 100000 in
set_option maxHeartbeats 4000000 in
theorem alongM_c (p q : List (List UInt8)) (va vb : Value) (w : World) (hpl : p.length ≤ 100000000) (hql : q.length ≤ 100000000) (ha : Ls w va p) (hb : Ls w vb q) :
    Calls Tryz.prog 58 #[va, vb, .func (.func 60) #[] #[]] w fun e w' => e = .returned (.bool (alongL holdM p q)) ∧ Below w.heap.size w w' := by
  have hF : ∀ W : World, AlongE 60 p q va vb w.heap.size (w.heap.size + 1) (w.heap.size + 1 + 1) (w.heap.size + 1 + 1 + 1) W →
      Calls Tryz.prog 84 #[.int .i64 0, .pointer (some ⟨w.heap.size, 0, none⟩), .pointer (some ⟨w.heap.size + 1, 0, none⟩), .pointer (some ⟨w.heap.size + 1 + 1, 0, none⟩), .pointer (some ⟨w.heap.size + 1 + 1 + 1, 0, none⟩)] W fun e w' => e = .returned (.bool (alongL holdM p q)) ∧ ∃ m, w' = W.drewN m := fun W hW => by
    have h := along1M_c p q va vb w.heap.size (w.heap.size + 1) (w.heap.size + 1 + 1) (w.heap.size + 1 + 1 + 1) hpl hql p.length 0 W (by omega) (by omega) (by omega) hW
    simpa using h
  obtain ⟨aa, ac, rfl⟩ := ha.slice
  obtain ⟨ba, bc, rfl⟩ := hb.slice
  have HF := hd hF; have HA := hd ha; have HB := hd hb
  clear hF ha hb
  go_enter Tryz.func58, Tryz.ntmps58
  go_wp2_with fail
  refine (HF.out _ ⟨by simp [go_sem], by simp [go_sem], by simp [go_sem], by simp [go_sem], HA.out.below' (by go_grown) (Nat.le_refl _), HB.out.below' (by go_grown) (Nat.le_refl _)⟩).mono ?_
  rintro e w' ⟨rfl, m, rfl⟩
  go_wp2_with fail
  go_ret
  exact ⟨rfl, below_dn (by go_grown) m⟩

set_option maxRecDepth 100000 in
set_option maxHeartbeats 4000000 in
theorem begin_c (f o : List UInt8) (w : World) (hf : f ≠ []) (hl : f.length ≤ 9223372036854775000) : Calls Tryz.prog 57 #[.string (sOf f), .string (sOf o)] w fun e w' => e = .returned (.agg #[.bool (begW f), .bool (lHidden o)]) ∧ Below w.heap.size w w' := by
  have hl1 : 1 ≤ f.length := List.length_pos_iff.2 hf
  have hsl : ∀ W : World, (Instr.slice 9 (.string (sOf f)) none (some (.int .i64 1)) none).run Tryz.prog W = .ok (.string (sOf (f.take 1))) W := fun W => sl_to f 1 hl1 hl W
  have htl := toList_sOf (f.take 1)
  obtain ⟨r, hr⟩ : ∃ r, begW f = r := ⟨_, rfl⟩
  rw [hr]
  unfold begW at hr
  generalize f.take 1 = g at *
  have Hr := hd hr; clear hr
  cases e43 : (g == [43])
  · have hr := Hr.out; rw [e43, Bool.false_or] at hr
    clear Hr
    go_enter Tryz.func57, Tryz.ntmps57
    go_wp2_with fail
    refine wp_region_M (fun _ => True) 11 [(0, false), (1, false), (2, false), (3, false), (4, false), (5, false), (6, false), (7, false), (8, false), (9, true), (10, false), (11, true)] (by kernel_rfl) (by kernel_rfl) (fun _ _ _ _ h => h) trivial ?_
    iterate 9
      apply wpM_still (by rfl) (by rfl)
      · intro W hC
        go_simp
        rfl
      go_simp
    apply wpM_move (by rfl) (by rfl)
    intro K hK
    go_simp
    refine (Hidden_c o _).mono ?_
    rintro e w' ⟨rfl, rfl⟩
    refine hK _ _ (fun _ => trivial) ?_
    clear hK K
    go_simp
    apply wpM_still (by rfl) (by rfl)
    · intro W hC
      go_simp
      rfl
    go_simp
    apply wpM_move (by rfl) (by rfl)
    intro K hK
    go_simp
    refine hK _ _ (fun h => absurd h (by decide)) ?_
    clear hK K
    refine wpM_nil ?_
    go_wp2_with fail
    exact bodyPost_ret (v := .agg #[.bool r, .bool (lHidden o)]) (by simp [results, Tryz.results57, go_sem]) rfl ⟨rfl, by go_grown⟩
  · have hr := Hr.out; rw [e43, Bool.true_or] at hr
    subst hr
    clear Hr
    go_enter Tryz.func57, Tryz.ntmps57
    go_wp2_with fail
    refine wp_region_M (fun _ => True) 11 [(0, false), (1, false), (2, false), (3, false), (4, false), (5, false), (6, false), (7, false), (8, false), (9, true), (10, false), (11, true)] (by kernel_rfl) (by kernel_rfl) (fun _ _ _ _ h => h) trivial ?_
    iterate 4
      apply wpM_still (by rfl) (by rfl)
      · intro W hC
        go_simp
        rfl
      go_simp
    iterate 3
      apply wpM_skip (by rfl) (by rfl)
      go_simp
    iterate 2
      apply wpM_still (by rfl) (by rfl)
      · intro W hC
        go_simp
        rfl
      go_simp
    apply wpM_move (by rfl) (by rfl)
    intro K hK
    go_simp
    refine (Hidden_c o _).mono ?_
    rintro e w' ⟨rfl, rfl⟩
    refine hK _ _ (fun _ => trivial) ?_
    clear hK K
    go_simp
    apply wpM_still (by rfl) (by rfl)
    · intro W hC
      go_simp
      rfl
    go_simp
    apply wpM_move (by rfl) (by rfl)
    intro K hK
    go_simp
    refine hK _ _ (fun h => absurd h (by decide)) ?_
    clear hK K
    refine wpM_nil ?_
    go_wp2_with fail
    exact bodyPost_ret (v := .agg #[.bool true, .bool (lHidden o)]) (by simp [results, Tryz.results57, go_sem]) rfl ⟨rfl, by go_grown⟩

set_option maxRecDepth 100000 in
set_option maxHeartbeats 4000000 in
theorem Match_c (f n : List UInt8) (w : World) (hE : EnvU w) (hf : f.length ≤ 9223372036854775000) (hn : n.length ≤ 9223372036854775000) :
    Calls Tryz.prog 34 #[.string (sOf f), .string (sOf n)] w fun e w' => e = .returned (.bool (mMatch f n)) ∧ Below w.heap.size w w' := by
  have HE := hd hE; clear hE
  obtain ⟨r, hr⟩ : ∃ r, mMatch f n = r := ⟨_, rfl⟩
  rw [hr]
  unfold mMatch at hr
  have Hr := hd hr; clear hr
  go_enter Tryz.func34, Tryz.ntmps34
  go_wp2_with fail
  refine (Filter_c f _ HE.out hf).mono ?_
  rintro e w1 ⟨rfl, hb1⟩
  cases hu : lFilter f
  · have hr := Hr.out; rw [hu, Bool.false_and] at hr; subst hr; clear Hr
    go_wp2_with fail
    go_ret
    exact ⟨rfl, hb1⟩
  have hfs : lSized f = true := by unfold lFilter at hu; exact (Bool.and_eq_true _ _ ▸ hu).1
  obtain ⟨f0, f96, f12⟩ := lSized_len hfs
  have H1 := hd (show (lName n && (!(begW f && lHidden n) && alongL holdM (lSplit f) (lSplit n))) = r by have hr := Hr.out; rw [hu, Bool.true_and] at hr; exact hr)
  clear Hr hu hfs
  go_wp2_with fail
  refine (Name_c n _ (HE.out.below hb1) hn).mono ?_
  rintro e w2 ⟨rfl, hb2⟩
  replace hb1 := Below.up hb1 hb2
  clear hb2
  cases hu : lName n
  · have hr := H1.out; rw [hu, Bool.false_and] at hr; subst hr; clear H1
    go_wp2_with fail
    go_ret
    exact ⟨rfl, hb1⟩
  have hns : lSized n = true := by unfold lName at hu; exact (Bool.and_eq_true _ _ ▸ hu).1
  obtain ⟨n0, n96, n12⟩ := lSized_len hns
  have H2 := hd (show (!(begW f && lHidden n) && alongL holdM (lSplit f) (lSplit n)) = r by have hr := H1.out; rw [hu, Bool.true_and] at hr; exact hr)
  clear H1 hu hns
  go_wp2_with fail
  refine (begin_c f n _ f0 hf).mono ?_
  rintro e w3 ⟨rfl, hb2⟩
  replace hb1 := Below.up hb1 hb2
  clear hb2
  cases hbw : (begW f && lHidden n)
  rotate_left
  · have hr := H2.out; rw [hbw] at hr
    have hr2 : false = r := hr
    subst hr2; clear H2 hr
    have h9 : begW f = true ∧ lHidden n = true := by simpa using hbw
    obtain ⟨h8, h9⟩ := h9
    clear hbw
    go_wp2_with fail
    go_ret
    exact ⟨rfl, hb1⟩
  have H3 := hd (show alongL holdM (lSplit f) (lSplit n) = r by have hr := H2.out; rw [hbw] at hr; simpa using hr)
  have HBW := hd hbw
  clear H2 hbw
  have key : (begW f = false ∧ True) ∨ (begW f = true ∧ lHidden n = false) := by
    have := HBW.out
    cases h : begW f
    · exact .inl ⟨rfl, trivial⟩
    · rw [h] at this; exact .inr ⟨rfl, by simpa using this⟩
  rcases key with ⟨h8, -⟩ | ⟨h8, h9⟩
  · go_wp2_with fail
    refine (Split_c f _ (by omega)).mono ?_
    rintro e w4 ⟨v4, rfl, ho4, hb2⟩
    replace hb1 := Below.up hb1 hb2
    have L4 := ho4.ls
    have HL4 := hd L4
    clear hb2 ho4 L4
    go_wp2_with fail
    refine (Split_c n _ (by omega)).mono ?_
    rintro e w5 ⟨v5, rfl, ho5, hb2⟩
    have L4 := HL4.out.below' hb2 (Nat.le_refl _)
    replace hb1 := Below.up hb1 hb2
    have L5 := ho5.ls
    have HL4 := hd L4; have HL5 := hd L5
    clear hb2 ho5 L4 L5
    go_wp2_with fail
    refine (alongM_c _ _ _ _ _ (by omega) (by omega) HL4.out HL5.out).mono ?_
    rintro e w6 ⟨rfl, hb2⟩
    replace hb1 := Below.up hb1 hb2
    rw [H3.out]
    go_wp2_with fail
    go_ret
    exact ⟨rfl, hb1⟩
  · go_wp2_with fail
    refine (Split_c f _ (by omega)).mono ?_
    rintro e w4 ⟨v4, rfl, ho4, hb2⟩
    replace hb1 := Below.up hb1 hb2
    have L4 := ho4.ls
    have HL4 := hd L4
    clear hb2 ho4 L4
    go_wp2_with fail
    refine (Split_c n _ (by omega)).mono ?_
    rintro e w5 ⟨v5, rfl, ho5, hb2⟩
    have L4 := HL4.out.below' hb2 (Nat.le_refl _)
    replace hb1 := Below.up hb1 hb2
    have L5 := ho5.ls
    have HL4 := hd L4; have HL5 := hd L5
    clear hb2 ho5 L4 L5
    go_wp2_with fail
    refine (alongM_c _ _ _ _ _ (by omega) (by omega) HL4.out HL5.out).mono ?_
    rintro e w6 ⟨rfl, hb2⟩
    replace hb1 := Below.up hb1 hb2
    rw [H3.out]
    go_wp2_with fail
    go_ret
    exact ⟨rfl, hb1⟩

theorem awm1 : mMatch [97, 47, 35] [97] = true := by decide +kernel
theorem awm2 : mMatch [97, 47, 43] [97, 47, 98] = true := by decide +kernel
theorem awm3 : mMatch [97, 47, 43] [97] = false := by decide +kernel
theorem awm4 : mMatch [35] [36, 83, 89, 83] = false := by decide +kernel
theorem awm5 : mWide [43] = true := by decide +kernel
end Go.Proofs.YtclicjokgfiegaaGreatDoor
