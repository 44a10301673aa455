/- What a filter wants: the walks of the program. -/
import Derived.Test.YtopopdghmfbciaaDoorLevFilter
import Derived.BigQuiet
namespace Go.Proofs.YtopopdghmfbciaaDoor
open Go.RowKit
set_option linter.unusedVariables false
set_option linter.unusedSimpArgs false

/-- level by level -/
def alongL (hold : List UInt8 → List UInt8 → Bool) : List (List UInt8) → List (List UInt8) → Bool
  | [], b => b.isEmpty
  | x :: r, b => if x = [35] then true else match b with
    | [] => false
    | y :: t => hold x y && alongL hold r t
def holdM (x y : List UInt8) : Bool := x == [43] || x == y
def holdC (x y : List UInt8) : Bool := x == y || (x == [43] && !(y == [35]))
def begW (f : List UInt8) : Bool := f.take 1 == [43] || f.take 1 == [35]
def mMatch (f n : List UInt8) : Bool := lFilter f && (lName n && (!(begW f && lHidden n) && alongL holdM (lSplit f) (lSplit n)))
def mCovers (a b : List UInt8) : Bool := lFilter a && (lFilter b && (!(begW a && lHidden b) && alongL holdC (lSplit a) (lSplit b)))
def mWide (f : List UInt8) : Bool := lFilter f && !lName f

theorem quiet_leftM {P : Program} {f : FuncId} {args : Array Value} {w : World} {n : Nat} {v : Value} (h : Calls P f args (w.drewN n) fun e w' => e = .returned v ∧ w.drewN n = w') : Calls P f args (w.drewN n) fun e w' => e = .returned v ∧ ∃ m, w' = w.drewN m :=
  h.mono fun e w' h => ⟨h.1, n, h.2.symm⟩
theorem quiet_moreM {P : Program} {f : FuncId} {args : Array Value} {w : World} {n : Nat} {v : Value} (h : Calls P f args (w.drewN n) fun e w' => e = .returned v ∧ ∃ m, w' = (w.drewN n).drewN m) : Calls P f args (w.drewN n) fun e w' => e = .returned v ∧ ∃ m, w' = w.drewN m :=
  h.mono fun e w' h => ⟨h.1, by obtain ⟨m, rfl⟩ := h.2; exact ⟨n + m, by simp [World.drewN, Nat.add_assoc]⟩⟩

set_option maxRecDepth 100000 in
theorem holdM_c (x y : List UInt8) (w : World) : Calls Tryd.prog 49 #[.string (sOf x), .string (sOf y)] w fun e w' => e = .returned (.bool (holdM x y)) ∧ w = w' := by
  have h1 := toList_sOf x
  have h2 := toList_sOf y
  obtain ⟨r, hr⟩ : ∃ r, holdM x y = r := ⟨_, rfl⟩
  rw [hr]
  unfold holdM at hr
  go_enter Tryd.func49, Tryd.ntmps49
  cases e1 : (x == [43])
  · rw [e1, Bool.false_or] at hr
    subst hr
    go_wp2_with fail
    go_ret
    exact ⟨rfl, rfl⟩
  · rw [e1, Bool.true_or] at hr
    subst hr
    go_wp2_with fail
    go_ret
    exact ⟨rfl, rfl⟩

set_option maxRecDepth 100000 in
theorem holdC_c (x y : List UInt8) (w : World) : Calls Tryd.prog 54 #[.string (sOf x), .string (sOf y)] w fun e w' => e = .returned (.bool (holdC x y)) ∧ w = w' := by
  have h1 := toList_sOf x
  have h2 := toList_sOf y
  obtain ⟨r, hr⟩ : ∃ r, holdC x y = r := ⟨_, rfl⟩
  rw [hr]
  unfold holdC at hr
  go_enter Tryd.func54, Tryd.ntmps54
  cases e0 : (x == y)
  · rw [e0, Bool.false_or] at hr
    cases e1 : (x == [43])
    · rw [e1, Bool.false_and] at hr
      subst hr
      go_wp2_with fail
      go_ret
      exact ⟨rfl, rfl⟩
    · rw [e1, Bool.true_and] at hr
      have Hr := hd hr; clear hr
      cases e2 : (y == [35])
      · go_wp2_with fail
        go_ret
        exact ⟨ret_bool (by rw [← Hr.out, e2]; simp [bne, e2]), rfl⟩
      · go_wp2_with fail
        go_ret
        exact ⟨ret_bool (by rw [← Hr.out, e2]; simp [bne, e2]), rfl⟩
  · rw [e0, Bool.true_or] at hr
    subst hr
    go_wp2_with fail
    go_ret
    exact ⟨rfl, rfl⟩

structure AlongE (f : FuncId) (p q : List (List UInt8)) (va vb : Value) (ga gb gh gf : Nat) (w : World) : Prop where
  a : w.cell? ⟨ga, 0, none⟩ = some va
  b : w.cell? ⟨gb, 0, none⟩ = some vb
  h : w.cell? ⟨gh, 0, none⟩ = some (.func (.func f) #[] #[])
  f : w.cell? ⟨gf, 0, none⟩ = some (.func (.func 66) #[] #[.pointer (some ⟨ga, 0, none⟩), .pointer (some ⟨gb, 0, none⟩), .pointer (some ⟨gh, 0, none⟩), .pointer (some ⟨gf, 0, none⟩)])
  la : Ls w va p
  lb : Ls w vb q
theorem AlongE.drewN {f : FuncId} {p q : List (List UInt8)} {va vb : Value} {ga gb gh gf : Nat} {w : World} (h : AlongE f p q va vb ga gb gh gf w) (n : Nat) : AlongE f p q va vb ga gb gh gf (w.drewN n) :=
  ⟨h.a, h.b, h.h, h.f, h.la.below' (below_dn (Below.refl _ _) n) (Nat.le_refl _), h.lb.below' (below_dn (Below.refl _ _) n) (Nat.le_refl _)⟩
theorem alongL_at {hold : List UInt8 → List UInt8 → Bool} {p q : List (List UInt8)} {i : Nat} {x : List UInt8} (hx : p[i]? = some x) :
    alongL hold (p.drop i) (q.drop i) = if x = [35] then true else match q[i]? with
      | none => false
      | some y => hold x y && alongL hold (p.drop (i + 1)) (q.drop (i + 1)) := by
  have hlt : i < p.length := (List.getElem?_eq_some_iff.1 hx).1
  have hpx : p[i] = x := (List.getElem?_eq_some_iff.1 hx).2
  rw [List.drop_eq_getElem_cons hlt, hpx]
  by_cases hq : i < q.length
  · rw [List.drop_eq_getElem_cons hq, List.getElem?_eq_getElem hq, alongL]
  · rw [List.drop_of_length_le (l := q) (by omega), List.getElem?_eq_none (by omega), alongL]

set_option maxRecDepth 100000 in
set_option maxHeartbeats 4000000 in
theorem along1M_c
    (p q : List (List UInt8)) (va vb : Value) (ga gb gh gf : Nat) (hpl : p.length ≤ 100000000) (hql : q.length ≤ 100000000) : ∀ (n i : Nat) (w : World), p.length - i ≤ n → i ≤ p.length → i ≤ q.length → AlongE 49 p q va vb ga gb gh gf w →
    Calls Tryd.prog 66 #[.int .i64 i, .pointer (some ⟨ga, 0, none⟩), .pointer (some ⟨gb, 0, none⟩), .pointer (some ⟨gh, 0, none⟩), .pointer (some ⟨gf, 0, none⟩)] w fun e w' => e = .returned (.bool (alongL holdM (p.drop i) (q.drop i))) ∧ ∃ m, w' = w.drewN m := by
  have fin : ∀ (w : World), p.length ≤ q.length → AlongE 49 p q va vb ga gb gh gf w →
      Calls Tryd.prog 66 #[.int .i64 p.length, .pointer (some ⟨ga, 0, none⟩), .pointer (some ⟨gb, 0, none⟩), .pointer (some ⟨gh, 0, none⟩), .pointer (some ⟨gf, 0, none⟩)] w fun e w' => e = .returned (.bool (alongL holdM (p.drop p.length) (q.drop p.length))) ∧ ∃ m, w' = w.drewN m := by
    intro w hj E
    have hs : alongL holdM (p.drop p.length) (q.drop p.length) = ((p.length : Int) == (q.length : Int)) := by
      rw [List.drop_of_length_le (Nat.le_refl _), alongL]
      rw [Bool.eq_iff_iff]; simp; omega
    rw [hs]
    obtain ⟨a, b, h, f0, la, lb⟩ := E
    obtain ⟨aa, ac, rfl⟩ := la.slice
    obtain ⟨ba, bc, rfl⟩ := lb.slice
    clear la lb hs
    go_enter Tryd.func66, Tryd.ntmps66
    go_wp2_with fail
    go_ret
    exact ⟨rfl, 0, rfl⟩
  intro n
  induction n with
  | zero =>
    intro i w hn hi hj E
    have hie : i = p.length := by omega
    subst hie
    exact fin w hj E
  | succ n ih =>
    intro i w hn hi hj E
    by_cases hip : i = p.length
    · subst hip
      exact fin w hj E
    have hil : i < p.length := by omega
    have hipb : ((i : Int) == (p.length : Int)) = false := by simp; omega
    obtain ⟨x, hx⟩ : ∃ x, p[i]? = some x := ⟨_, List.getElem?_eq_getElem hil⟩
    obtain ⟨r, hr⟩ : ∃ r, alongL holdM (p.drop i) (q.drop i) = r := ⟨_, rfl⟩
    rw [hr]
    rw [alongL_at hx] at hr
    have IH := hd ih; clear ih
    have HE := hd E
    obtain ⟨a, b, h, f0, la, lb⟩ := E
    obtain ⟨aa, ac, rfl⟩ := la.slice
    obtain ⟨ba, bc, rfl⟩ := lb.slice
    obtain ⟨bx, ox, rfl, hbx, hcx⟩ := la.at hx
    have htx := toList_sOf x
    cases e35 : (x == [35])
    rotate_left
    · have hx35 : x = [35] := by simpa using e35
      rw [if_pos hx35] at hr
      have hr2 := hd hr
      clear la lb hr hx35
      go_enter Tryd.func66, Tryd.ntmps66
      go_wp2_with fail
      go_ret
      exact ⟨ret_bool hr2.out, 0, rfl⟩
    have hx35 : ¬ x = [35] := by simpa using e35
    rw [if_neg hx35] at hr
    by_cases hiq : i = q.length
    · have hiqb : ((i : Int) == (q.length : Int)) = true := by simp; omega
      rw [List.getElem?_eq_none (by omega)] at hr
      have hr2 := hd hr
      clear la lb hr hx35 hiq hx
      go_enter Tryd.func66, Tryd.ntmps66
      go_wp2_with fail
      go_ret
      exact ⟨ret_bool hr2.out, 0, rfl⟩
    have hiqb : ((i : Int) == (q.length : Int)) = false := by simp; omega
    have hiq2 : i < q.length := by omega
    obtain ⟨y, hy⟩ : ∃ y, q[i]? = some y := ⟨_, List.getElem?_eq_getElem hiq2⟩
    rw [hy] at hr
    simp only at hr
    obtain ⟨by', oy, rfl, hby, hcy⟩ := lb.at hy
    have hwr : IntKind.i64.wrap ((i : Int) + 1) = (i : Int) + 1 := IntWalk.i64_in _ (by omega)
    have hH1 := fun W => holdM_c x y W
    have hI := fun W m (h : W = w.drewN m) => IH.out (i + 1) W (by omega) (by omega) (by omega) (by rw [h]; exact HE.out.drewN m)
    have HH := hd hH1; have HI := hd hI
    clear la lb hx35 hx hy hH1 hI HE IH
    cases hxy : holdM x y
    · rw [hxy, Bool.false_and] at hr
      have hr2 := hd hr
      have HXY := hd hxy
      have hh2 := HH.out
      rw [hxy] at hh2
      have HH2 := hd hh2
      clear hr hxy hh2 HH
      go_enter Tryd.func66, Tryd.ntmps66
      go_wp2_with fail
      go_quiet (first | exact quiet_leftM (HH2.out _))
      go_wp2_with fail
      go_ret
      exact ⟨ret_bool hr2.out, _, rfl⟩
    · rw [hxy, Bool.true_and] at hr
      have hr2 := hd hr
      have HXY := hd hxy
      have hh2 := HH.out
      rw [hxy] at hh2
      have HH2 := hd hh2
      clear hr hxy hh2 HH
      rw [hr2.out] at HI
      push_cast at HI
      go_enter Tryd.func66, Tryd.ntmps66
      go_wp2_with fail
      go_quiet (first | exact quiet_leftM (HH2.out _) | exact quiet_moreM (HI.out _ _ rfl))
      go_wp2_with fail
      go_ret
      exact ⟨rfl, _, rfl⟩
set_option maxRecDepth 100000 in
set_option maxHeartbeats 4000000 in
theorem along1C_c
    (p q : List (List UInt8)) (va vb : Value) (ga gb gh gf : Nat) (hpl : p.length ≤ 100000000) (hql : q.length ≤ 100000000) : ∀ (n i : Nat) (w : World), p.length - i ≤ n → i ≤ p.length → i ≤ q.length → AlongE 54 p q va vb ga gb gh gf w →
    Calls Tryd.prog 66 #[.int .i64 i, .pointer (some ⟨ga, 0, none⟩), .pointer (some ⟨gb, 0, none⟩), .pointer (some ⟨gh, 0, none⟩), .pointer (some ⟨gf, 0, none⟩)] w fun e w' => e = .returned (.bool (alongL holdC (p.drop i) (q.drop i))) ∧ ∃ m, w' = w.drewN m := by
  have fin : ∀ (w : World), p.length ≤ q.length → AlongE 54 p q va vb ga gb gh gf w →
      Calls Tryd.prog 66 #[.int .i64 p.length, .pointer (some ⟨ga, 0, none⟩), .pointer (some ⟨gb, 0, none⟩), .pointer (some ⟨gh, 0, none⟩), .pointer (some ⟨gf, 0, none⟩)] w fun e w' => e = .returned (.bool (alongL holdC (p.drop p.length) (q.drop p.length))) ∧ ∃ m, w' = w.drewN m := by
    intro w hj E
    have hs : alongL holdC (p.drop p.length) (q.drop p.length) = ((p.length : Int) == (q.length : Int)) := by
      rw [List.drop_of_length_le (Nat.le_refl _), alongL]
      rw [Bool.eq_iff_iff]; simp; omega
    rw [hs]
    obtain ⟨a, b, h, f0, la, lb⟩ := E
    obtain ⟨aa, ac, rfl⟩ := la.slice
    obtain ⟨ba, bc, rfl⟩ := lb.slice
    clear la lb hs
    go_enter Tryd.func66, Tryd.ntmps66
    go_wp2_with fail
    go_ret
    exact ⟨rfl, 0, rfl⟩
  intro n
  induction n with
  | zero =>
    intro i w hn hi hj E
    have hie : i = p.length := by omega
    subst hie
    exact fin w hj E
  | succ n ih =>
    intro i w hn hi hj E
    by_cases hip : i = p.length
    · subst hip
      exact fin w hj E
    have hil : i < p.length := by omega
    have hipb : ((i : Int) == (p.length : Int)) = false := by simp; omega
    obtain ⟨x, hx⟩ : ∃ x, p[i]? = some x := ⟨_, List.getElem?_eq_getElem hil⟩
    obtain ⟨r, hr⟩ : ∃ r, alongL holdC (p.drop i) (q.drop i) = r := ⟨_, rfl⟩
    rw [hr]
    rw [alongL_at hx] at hr
    have IH := hd ih; clear ih
    have HE := hd E
    obtain ⟨a, b, h, f0, la, lb⟩ := E
    obtain ⟨aa, ac, rfl⟩ := la.slice
    obtain ⟨ba, bc, rfl⟩ := lb.slice
    obtain ⟨bx, ox, rfl, hbx, hcx⟩ := la.at hx
    have htx := toList_sOf x
    cases e35 : (x == [35])
    rotate_left
    · have hx35 : x = [35] := by simpa using e35
      rw [if_pos hx35] at hr
      have hr2 := hd hr
      clear la lb hr hx35
      go_enter Tryd.func66, Tryd.ntmps66
      go_wp2_with fail
      go_ret
      exact ⟨ret_bool hr2.out, 0, rfl⟩
    have hx35 : ¬ x = [35] := by simpa using e35
    rw [if_neg hx35] at hr
    by_cases hiq : i = q.length
    · have hiqb : ((i : Int) == (q.length : Int)) = true := by simp; omega
      rw [List.getElem?_eq_none (by omega)] at hr
      have hr2 := hd hr
      clear la lb hr hx35 hiq hx
      go_enter Tryd.func66, Tryd.ntmps66
      go_wp2_with fail
      go_ret
      exact ⟨ret_bool hr2.out, 0, rfl⟩
    have hiqb : ((i : Int) == (q.length : Int)) = false := by simp; omega
    have hiq2 : i < q.length := by omega
    obtain ⟨y, hy⟩ : ∃ y, q[i]? = some y := ⟨_, List.getElem?_eq_getElem hiq2⟩
    rw [hy] at hr
    simp only at hr
    obtain ⟨by', oy, rfl, hby, hcy⟩ := lb.at hy
    have hwr : IntKind.i64.wrap ((i : Int) + 1) = (i : Int) + 1 := IntWalk.i64_in _ (by omega)
    have hH1 := fun W => holdC_c x y W
    have hI := fun W m (h : W = w.drewN m) => IH.out (i + 1) W (by omega) (by omega) (by omega) (by rw [h]; exact HE.out.drewN m)
    have HH := hd hH1; have HI := hd hI
    clear la lb hx35 hx hy hH1 hI HE IH
    cases hxy : holdC x y
    · rw [hxy, Bool.false_and] at hr
      have hr2 := hd hr
      have HXY := hd hxy
      have hh2 := HH.out
      rw [hxy] at hh2
      have HH2 := hd hh2
      clear hr hxy hh2 HH
      go_enter Tryd.func66, Tryd.ntmps66
      go_wp2_with fail
      go_quiet (first | exact quiet_leftM (HH2.out _))
      go_wp2_with fail
      go_ret
      exact ⟨ret_bool hr2.out, _, rfl⟩
    · rw [hxy, Bool.true_and] at hr
      have hr2 := hd hr
      have HXY := hd hxy
      have hh2 := HH.out
      rw [hxy] at hh2
      have HH2 := hd hh2
      clear hr hxy hh2 HH
      rw [hr2.out] at HI
      push_cast at HI
      go_enter Tryd.func66, Tryd.ntmps66
      go_wp2_with fail
      go_quiet (first | exact quiet_leftM (HH2.out _) | exact quiet_moreM (HI.out _ _ rfl))
      go_wp2_with fail
      go_ret
      exact ⟨rfl, _, rfl⟩
end Go.Proofs.YtopopdghmfbciaaDoor
