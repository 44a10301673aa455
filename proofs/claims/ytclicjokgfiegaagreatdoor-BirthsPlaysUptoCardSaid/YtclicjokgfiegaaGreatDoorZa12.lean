/- A bundle of texts (merged for the limit on files): Bir2, Bir3, Bir4. -/
import Derived.Test.YtclicjokgfiegaaGreatDoorZa11
/- Births: ranks of topics; what goes with one is lost: the walks. -/
namespace Go.Proofs.YtclicjokgfiegaaGreatDoor
open Go.RowKit
set_option linter.unusedVariables false
set_option linter.unusedSimpArgs false

def leftB (n : Nat) : Value → Nat
  | .int _ k => ((n : Int) - k).toNat
  | _ => 0
theorem sOf_nilB : sOf [] = ⟨#[]⟩ := rfl
theorem rkRead {w' : World} {gr : Nat} {tmps : Array Value} {k : Rk} {b : Bool} (h2 : tmps[2]?.getD undef = .pointer (some ⟨gr, 0, none⟩)) (h3 : tmps[3]?.getD undef = .bool b) (c0 : w'.cell? ⟨gr, 0, none⟩ = some (.string (sOf k.1))) (c1 : w'.cell? ⟨gr, 1, none⟩ = some (.string (sOf k.2))) :
    (results Tryz.f23 tmps).run Tryz.prog w' = .ok (.tuple #[rkV k, .bool b]) w' := by
  simp [results, Tryz.results23, go_sem, h2, h3, c0, c1, rkV]
set_option maxRecDepth 100000 in
set_option maxHeartbeats 4000000 in
theorem rankOf_c (l : List UInt8) (w : World) (hE : EnvU w) (hW : EnvW w) (hs : l.length ≤ 100000000) :
    Calls Tryz.prog 23 #[.string (sOf l)] w fun e w' => ∃ k, e = .returned (.tuple #[rkV k, .bool (bRank l).isSome]) ∧ (∀ k', bRank l = some k' → k = k') ∧ Below w.heap.size w w' := by
  have HE := hd hE; have HW := hd hW
  clear hE hW
  have hof := fun W h1 h2 => Of_c l W h1 h2 hs
  have hR1 : (sTell l).k = 1 → bRank l = some (l, []) := bRank_one
  have hR5 : (sTell l).k = 5 → bRank l = if (sBirths (sTell l)).1 = [] then none else some ((sBirths (sTell l)).1, l) := bRank_five
  have hR0 : (sTell l).k ≠ 1 → (sTell l).k ≠ 5 → bRank l = none := bRank_other
  have hsz : (sTell l).g.length ≤ 9223372036854775000 ∧ (sTell l).n.length ≤ 9223372036854775000 ∧ (sTell l).d.length ≤ 9223372036854775000 := by
    have := guess_len (M := l.length) (p := lSplit l) (fun x hx => (lSplit_parts l x hx).2)
    unfold sTell
    split
    · simp [SpS.zero]
    · omega
  generalize sTell l = X at *
  obtain ⟨K, g, n, d⟩ := X
  obtain ⟨r, hr⟩ : ∃ r, bRank l = r := ⟨_, rfl⟩
  rw [hr] at hR1 hR5 hR0 ⊢
  clear hr
  have HOF := hd hof; have H1 := hd hR1; have H5 := hd hR5; have H0 := hd hR0; have HZ := hd hsz
  clear hof hR1 hR5 hR0 hsz
  have hnil : (sOf []).toList = [] := toList_sOf _
  go_enter Tryz.func23, Tryz.ntmps23
  go_wp2_with fail
  have hb : Below w.heap.size w (w.alloc (.cells #[.string ⟨#[]⟩, .string ⟨#[]⟩] 62)) := by go_grown
  refine (HOF.out _ (HE.out.below hb) (HW.out.below hb (Nat.le_refl _))).mono ?_
  simp only [spV]
  rintro e w1 ⟨rfl, hB⟩
  have q0 := bcell hB w.heap.size 0 (by simp [go_sem])
  have q1 := bcell hB w.heap.size 1 (by simp [go_sem])
  have f0 := bfree hB w.heap.size 0 (by simp [go_sem])
  have f1 := bfree hB w.heap.size 1 (by simp [go_sem])
  have hlt : w.heap.size < w1.heap.size := Nat.lt_of_lt_of_le (by simp [go_sem]) hB.size
  simp [go_sem] at q0 q1 f0 f1
  replace hb := Below.up hb hB
  clear hB
  by_cases h1 : K = 1
  · subst h1
    have hr := H1.out rfl
    subst hr
    clear H1 H5 H0 HOF
    go_wp2_with fail
    refine bodyPost_ret (v := .tuple #[rkV (l, []), .bool true]) (rkRead (by rfl) (by rfl) (by simp [go_sem, sOf_nilB, *]) (by simp [go_sem, sOf_nilB, *])) rfl ?_
    exact ⟨(l, []), rfl, fun k' h => Option.some.inj h, by go_grown⟩
  have h1b : (K == 1) = false := by simpa using h1
  by_cases h5 : K = 5
  · subst h5
    have hr := H5.out rfl
    obtain ⟨z1, z2, z3⟩ := HZ.out
    have hA := SpAt.new w1 5 g n d
    have hal : Below w1.heap.size w1 (w1.alloc (.cells #[.int .i64 5, .string (sOf g), .string (sOf n), .string (sOf d)] 93)) := by go_grown
    have hbr := fun W h1 h2 => Births_c ⟨5, g, n, d⟩ W h1 h2 z1 z2 z3
    generalize sBirths ⟨5, g, n, d⟩ = B at *
    obtain ⟨u, v⟩ := B
    simp only at hr hbr
    have HR := hd hr; have HBR := hd hbr
    clear hr hbr H1 H5 H0 HOF HZ z1 z2 z3 h1
    have hte : u.isEmpty = decide (u = []) := by cases u <;> simp
    have htu := toList_sOf u
    go_wp2_with fail
    refine (HBR.out _ (HE.out.below (Below.up hb hal)) (HW.out.below (Below.up hb hal) (Nat.le_refl _))).mono ?_
    rintro e w2 ⟨rfl, hB⟩
    have hal2 := Below.up hal hB
    have g0 := (bcell hal2 _ _ hlt).trans q0
    have g1 := (bcell hal2 _ _ hlt).trans q1
    have k0 := (bfree hal2 _ _ hlt).trans f0
    have k1 := (bfree hal2 _ _ hlt).trans f1
    have hlt2 : w.heap.size < w2.heap.size := Nat.lt_of_lt_of_le hlt hal2.size
    have hb2 := Below.up (Below.up hb hal) hB
    clear q0 q1 f0 f1 hA hal hal2 hB
    go_wp2_with fail
    refine bodyPost_ret (v := .tuple #[rkV (u, l), .bool (!decide (u = []))]) (rkRead (by rfl) (by simp [htu]) (by simp [go_sem, sOf_nilB, *]) (by simp [go_sem, sOf_nilB, *])) rfl ?_
    refine ⟨(u, l), ?_, ?_, by go_grown⟩
    · rw [HR.out]; by_cases hu : u = [] <;> simp [hu]
    · intro k' hk'
      rw [HR.out] at hk'
      split at hk'
      · cases hk'
      · exact Option.some.inj hk'
  · have h5b : (K == 5) = false := by simpa using h5
    have hr := H0.out h1 h5
    subst hr
    clear H1 H5 H0 HOF
    go_wp2_with fail
    refine bodyPost_ret (v := .tuple #[rkV ([], []), .bool false]) (rkRead (by rfl) (by rfl) (by simp [go_sem, sOf_nilB, *]) (by simp [go_sem, sOf_nilB, *])) rfl ?_
    exact ⟨([], []), rfl, (fun k' h => nomatch h), by go_grown⟩

/-! ### The first that goes -/
def RdB (w : World) (v : Value) (l : List Bir) : Prop := Rd w v l.length (birs l)
theorem OwnB.rd {w : World} {v : Value} {l : List Bir} (h : OwnB w v l) : RdB w v l := Owns.rd h
theorem RdB.below' {B : Nat} {w w' : World} {v : Value} {l : List Bir} (h : RdB w v l) (hb : Below B w w') (hB : w.heap.size ≤ B) : RdB w' v l := Rd.below' h hb hB
theorem RdB.slice {w : World} {v : Value} {l : List Bir} (h : RdB w v l) : ∃ a c, v = .slice a l.length c := by
  obtain ⟨a, c, hv, _⟩ := h; exact ⟨a, c, hv⟩
theorem RdB.len {w : World} {v : Value} {l : List Bir} (h : RdB w v l) : l.length ≤ maxLen := Rd.len h
theorem RdB.at {w : World} {a : Option Addr} {n c : Nat} {l : List Bir} (h : RdB w (.slice a n c) l) {k : Nat} {x : Bir} (hk : l[k]? = some x) :
    ∃ b o, a = some ⟨b, o, none⟩ ∧ b < w.heap.size ∧ w.cell? ⟨b, o + k * 3, none⟩ = some (.string (sOf x.1.1)) ∧ w.cell? ⟨b, o + k * 3 + 1, none⟩ = some (.string (sOf x.1.2)) ∧ w.cell? ⟨b, o + k * 3 + 2, none⟩ = some (.string x.2) := by
  have hx := birs_at l k x hk
  rcases Rd.split h with ⟨hn, _⟩ | ⟨_, b, o, c', hv, _, _, hlt, hcell⟩
  · have := hx 0 _ rfl
    rw [hn] at this
    simp at this
  · simp only [Value.slice.injEq] at hv
    refine ⟨b, o, hv.1, hlt, ?_, ?_, ?_⟩
    · have := hcell _ _ (hx 0 _ rfl); rwa [Nat.add_zero] at this
    · have := hcell _ _ (hx 1 _ rfl); rwa [← Nat.add_assoc] at this
    · have := hcell _ _ (hx 2 _ rfl); rwa [← Nat.add_assoc] at this
def bIdx (k : Rk) : List Bir → Nat → Int
  | [], _ => -1
  | x :: t, j => if covers k x.1 then j else bIdx k t (j + 1)
theorem drop_at {α : Type} {l : List α} {j : Nat} {x : α} (h : l[j]? = some x) : l.drop j = x :: l.drop (j + 1) := by
  obtain ⟨hj, rfl⟩ := List.getElem?_eq_some_iff.1 h
  exact List.drop_eq_getElem_cons hj
set_option maxRecDepth 100000 in
set_option maxHeartbeats 4000000 in
theorem indexF_c (k : Rk) (l : List Bir) (v : Value) (c : Nat) (w : World) (hv : RdB w v l) (hc : RkIn w c k) :
    Calls Tryz.prog 75 #[v, .func (.func 43) #[] #[.pointer (some ⟨c, 0, none⟩)]] w fun e w' => e = .returned (.int .i64 (bIdx k l 0)) ∧ Below w.heap.size w w' := by
  obtain ⟨a, cp, rfl⟩ := hv.slice
  have hm := hv.len
  unfold maxLen at hm
  have HV := hd hv; have HC := hd hc; clear hv hc
  obtain ⟨r, hr⟩ : ∃ r, bIdx k l 0 = r := ⟨_, rfl⟩
  rw [hr]
  go_enter Tryz.func75, Tryz.ntmps75
  go_wp2_with fail
  go_loopw [8] (fun i w' => ∃ j : Nat, i = .int .i64 j ∧ j ≤ l.length ∧ bIdx k (l.drop j) j = r ∧ Below w.heap.size w w') (fun i _ => leftB l.length i)
  case atStart => exact ⟨0, rfl, by omega, by simpa using hr, Below.refl _ _⟩
  case round =>
    obtain ⟨j, rfl, hj, hf, hB⟩ := hrel
    by_cases hjl : j < l.length
    · obtain ⟨x, hx⟩ : ∃ x, l[j]? = some x := ⟨_, List.getElem?_eq_getElem hjl⟩
      obtain ⟨b, o, rfl, hl1, p1, q1, r1⟩ := HV.out.at hx
      replace p1 := (bcell hB _ _ hl1).trans p1
      replace q1 := (bcell hB _ _ hl1).trans q1
      replace r1 := (bcell hB _ _ hl1).trans r1
      rw [drop_at hx, bIdx] at hf
      have hcl := lose1_c k x c wr (HC.out.below hB HC.out.1)
      cases hcv : covers k x.1
      · rw [hcv, if_neg (by simp)] at hf
        rw [hcv] at hcl
        have HF := hd hf; have HCL := hd hcl
        clear hf hcl hr
        go_wp2_with (first | (go_at_call 43; refine HCL.out.mono ?_; rintro e w1 ⟨rfl, hb⟩))
        go_roundw
        case rel => exact ⟨j + 1, by congr 1, by omega, HF.out, hB.trans (hb.mono hB.size)⟩
        case measure => simp [leftB]; omega
      · rw [hcv, if_pos rfl] at hf
        rw [hcv] at hcl
        have HF := hd hf; have HCL := hd hcl
        clear hf hcl hr
        go_wp2_with (first | (go_at_call 43; refine HCL.out.mono ?_; rintro e w1 ⟨rfl, hb⟩))
        go_ret
        exact ⟨ret_int HF.out, hB.trans (hb.mono hB.size)⟩
    · have hke : j = l.length := by omega
      subst hke
      rw [List.drop_of_length_le (Nat.le_refl _), bIdx] at hf
      have HF := hd hf
      clear hf hr
      go_wp2_with fail
      go_ret
      exact ⟨ret_int HF.out, hB⟩
end Go.Proofs.YtclicjokgfiegaaGreatDoor

/- Births: those that go with one are lost: the walks. -/
namespace Go.Proofs.YtclicjokgfiegaaGreatDoor
open Go.RowKit
set_option linter.unusedVariables false
set_option linter.unusedSimpArgs false

theorem bIdx_spec (k : Rk) : ∀ (l : List Bir) (s : Nat), (bIdx k l s = -1 ∧ ∀ x ∈ l, covers k x.1 = false) ∨
    ∃ i x, bIdx k l s = ((s + i : Nat) : Int) ∧ l[i]? = some x ∧ covers k x.1 = true ∧ ∀ y ∈ l.take i, covers k y.1 = false
  | [], s => .inl ⟨rfl, by simp⟩
  | x :: t, s => by
    cases hc : covers k x.1
    · rcases bIdx_spec k t (s + 1) with ⟨h1, h2⟩ | ⟨i, y, h1, h2, h3, h4⟩
      · refine .inl ⟨by rw [bIdx, hc, if_neg (by simp)]; exact h1, fun z hz => ?_⟩
        rcases List.mem_cons.1 hz with rfl | hz
        · exact hc
        · exact h2 z hz
      · refine .inr ⟨i + 1, y, by rw [bIdx, hc, if_neg (by simp), h1]; congr 1; omega, by simpa using h2, h3, fun z hz => ?_⟩
        rw [List.take_succ_cons] at hz
        rcases List.mem_cons.1 hz with rfl | hz
        · exact hc
        · exact h4 z hz
    · exact .inr ⟨0, x, by rw [bIdx, hc, if_pos rfl]; simp, rfl, hc, by simp⟩
theorem lose_append (a b : List Bir) (k : Rk) : bLose (a ++ b) k = bLose a k ++ bLose b k := by unfold bLose; rw [List.filter_append]
theorem take_snocB {l : List Bir} {j : Nat} {x : Bir} (h : l[j]? = some x) : l.take (j + 1) = l.take j ++ [x] := by rw [List.take_add_one, h]; rfl
theorem lose_one (x : Bir) (k : Rk) : bLose [x] k = if covers k x.1 = true then [] else [x] := by
  unfold bLose
  cases h : covers k x.1 <;> simp [h]

structure DelI (w : World) (k : Rk) (l : List Bir) (g o tot i j : Nat) (w' : World) : Prop where
  row : RowIn w' g 70 tot
  one : w'.rangeAt g o (birs (bLose (l.take j) k))
  two : w'.rangeAt g (o + j * 3) (birs (l.drop j))
  len : (bLose (l.take j) k).length = i
  lt : i < j
  le : j ≤ l.length
  keeps : Keeps [g] w w'
theorem DelI.on {w w1 w2 : World} {k : Rk} {l : List Bir} {g o tot i j : Nat} (h : DelI w k l g o tot i j w1) (hb : Below w1.heap.size w1 w2) : DelI w k l g o tot i j w2 :=
  ⟨h.row.below hb h.row.lt, rangeB h.one hb h.row.lt, rangeB h.two hb h.row.lt, h.len, h.lt, h.le, h.keeps.trans (Keeps.below hb)⟩
theorem DelI.skip {w w1 : World} {k : Rk} {l : List Bir} {g o tot i j : Nat} (h : DelI w k l g o tot i j w1) {x : Bir} (hx : l[j]? = some x) (hc : covers k x.1 = true) : DelI w k l g o tot i (j + 1) w1 := by
  have hj := (List.getElem?_eq_some_iff.1 hx).1
  have e : bLose (l.take (j + 1)) k = bLose (l.take j) k := by rw [take_snocB hx, lose_append, lose_one, if_pos hc, List.append_nil]
  refine ⟨h.row, by rw [e]; exact h.one, ?_, by rw [e]; exact h.len, by have := h.lt; omega, hj, h.keeps⟩
  have := range_drop h.two 1
  rwa [List.drop_drop, show o + j * 3 + 1 * 3 = o + (j + 1) * 3 by omega] at this
theorem DelI.keep {w w1 : World} {k : Rk} {l : List Bir} {g o tot i j : Nat} (h : DelI w k l g o tot i j w1) {x : Bir} (hx : l[j]? = some x) (hc : covers k x.1 = false) (htot : o + l.length * 3 ≤ tot) :
    w1.there g (o + i * 3) 3 ∧ DelI w k l g o tot (i + 1) (j + 1) (w1.setCells g (o + i * 3) (birV x)) := by
  have hj := (List.getElem?_eq_some_iff.1 hx).1
  have hlt := h.lt
  have hth : w1.there g (o + i * 3) 3 := h.row.there (by omega)
  have e : bLose (l.take (j + 1)) k = bLose (l.take j) k ++ [x] := by rw [take_snocB hx, lose_append, lose_one, if_neg (by simp [hc])]
  refine ⟨hth, h.row.setCells _ _ _, ?_, ?_, by rw [e, List.length_append, h.len]; rfl, by omega, hj, h.keeps.trans (keeps_scells1 _ _ _ _)⟩
  · rw [e]
    refine range_snoc (World.rangeAt_setCells_apart h.one _ _ _ (.inr (.inl (by rw [birs_len, h.len]; omega)))) ?_
    rw [h.len]
    exact World.rangeAt_setCells_same _ _ _ _ hth
  · have := range_drop h.two 1
    rw [List.drop_drop, show o + j * 3 + 1 * 3 = o + (j + 1) * 3 by omega] at this
    exact World.rangeAt_setCells_apart this _ _ _ (.inr (.inr (by rw [birV_len]; omega)))
theorem DelI.start {w w1 : World} {k : Rk} {l : List Bir} {g o tot i : Nat} {x : Bir} (hx : l[i]? = some x) (hc : covers k x.1 = true) (hn : ∀ y ∈ l.take i, covers k y.1 = false) (hr : RowIn w1 g 70 tot) (hl : w1.rangeAt g o (birs l)) (hk : Keeps [g] w w1) :
    DelI w k l g o tot i (i + 1) w1 := by
  have hi := (List.getElem?_eq_some_iff.1 hx).1
  have e : bLose (l.take (i + 1)) k = l.take i := by rw [take_snocB hx, lose_append, lose_one, if_pos hc, List.append_nil, lose_same hn]
  exact ⟨hr, by rw [e]; exact range_take hl i, range_drop hl (i + 1), by rw [e, List.length_take]; omega, by omega, hi, hk⟩

theorem elem_birs : Tryz.prog.elem 58 = 70 := by kernel_rfl
theorem run_fromB (g o n c : Nat) (I : Int) (i : Nat) (hI : I = i) (hi : i ≤ n) (hc : i < c) (W : World) :
    (Instr.slice 58 (.slice (some ⟨g, o, none⟩) n c) (some (.int .i64 I)) none none).run Tryz.prog W = .ok (.slice (some ⟨g, o + i * 3, none⟩) (n - i) (c - i)) W := by
  subst hI
  rw [run_slice_l W 58 _ n c (by kernel_rfl) .i64 (i : Int) (by omega) (by omega)]
  obtain ⟨i0, hi0, hz0, hz1, hz2⟩ := info_parts info_bir
  have hne : ¬ c = i := by omega
  simp [sizeOf, typeInfo, elem_birs, hi0, hz1, sliced, Result.andThen, hne, Addr.add_mid]
theorem run_toB (g o n c : Nat) (J : Int) (j : Nat) (hJ : J = j) (hj : j ≤ c) (hc : 0 < c) (W : World) :
    (Instr.slice 58 (.slice (some ⟨g, o, none⟩) n c) none (some (.int .i64 J)) none).run Tryz.prog W = .ok (.slice (some ⟨g, o, none⟩) j c) W := by
  subst hJ
  rw [run_slice_h W 58 _ n c (by kernel_rfl) .i64 (j : Int) (by omega) (by omega)]
  obtain ⟨i0, hi0, hz0, hz1, hz2⟩ := info_parts info_bir
  have hne : ¬ c = 0 := by omega
  simp [sizeOf, typeInfo, elem_birs, hi0, hz1, sliced, Result.andThen, hne, Addr.add_mid]
theorem zB_one : ∀ v ∈ (Value.agg #[.string ⟨#[]⟩, .string ⟨#[]⟩, .string ⟨#[]⟩]).cells.toList, v.oneCell' = true := by
  intro v hv
  have : ((Value.agg #[.string ⟨#[]⟩, .string ⟨#[]⟩, .string ⟨#[]⟩]).cells.toList).all (·.oneCell') = true := rfl
  exact (List.all_eq_true.1 this) v hv
theorem wpl_atB {P : Program} {w : World} {ops : Array Oper} {rest : List Oper} {o : Oper} {a : Act} {Q : Exit → Act → World → Prop} (h : wpList P ops Q (o :: rest) a w) : wpList P ops Q (o :: rest) a w := h
set_option maxRecDepth 100000 in
set_option maxHeartbeats 8000000 in
theorem deleteF_g (k : Rk) (l : List Bir) (g o cap tot c : Nat) (w : World) (hr : RowIn w g 70 tot) (hl : w.rangeAt g o (birs l)) (hle : l.length ≤ cap) (hcm : cap ≤ maxLen) (htot : o + l.length * 3 ≤ tot) (hc : RkIn w c k) (hcg : c ≠ g) :
    Calls Tryz.prog 42 #[.slice (some ⟨g, o, none⟩) l.length cap, .func (.func 43) #[] #[.pointer (some ⟨c, 0, none⟩)]] w
      fun e w' => e = .returned (.slice (some ⟨g, o, none⟩) (bLose l k).length cap) ∧ RowIn w' g 70 tot ∧ w'.rangeAt g o (birs (bLose l k)) ∧ Keeps [g] w w' := by
  have hv : RdB w (.slice (some ⟨g, o, none⟩) l.length cap) l := ⟨_, _, rfl, hle, hcm, (fun h => by cases h), fun ad had j u hu => by cases had; rw [Addr.add_mid]; exact hl j u hu⟩
  have hix := indexF_c k l _ c w hv hc
  have hll := lose_len l k
  unfold maxLen at hcm
  have hspec := bIdx_spec k l 0
  generalize bIdx k l 0 = ix at *
  have HIX := hd hix; have HS := hd hspec; have HR := hd hr; have HL := hd hl; have HC := hd hc
  clear hix hspec hr hl hc hv
  go_enter Tryz.func42, Tryz.ntmps42
  go_wp2_with fail
  refine HIX.out.mono ?_
  rintro e w1 ⟨rfl, hb⟩
  rcases HS.out with ⟨rfl, hn⟩ | ⟨i, x, rfl, hx, hcx, hn⟩
  · have e1 := lose_same hn
    go_wp2_with fail
    go_ret
    exact ⟨by rw [e1]; rfl, HR.out.below hb HR.out.lt, by rw [e1]; exact rangeB HL.out hb HR.out.lt, Keeps.below hb⟩
  · rw [Nat.zero_add]
    have hi := (List.getElem?_eq_some_iff.1 hx).1
    have hne1 : ((i : Int) == -1) = false := by simp
    have hi63 : IntKind.i64.wrap ((i : Int) + 1) = (i : Int) + 1 := IntWalk.i64_in _ (by omega)
    have I0 := DelI.start (w := w) hx hcx hn (HR.out.below hb HR.out.lt) (rangeB HL.out hb HR.out.lt) (Keeps.below hb)
    clear HIX HS
    go_wp2_with fail
    go_loopw [5, 6] (fun a b w' => ∃ i j : Nat, a = .int .i64 i ∧ b = .int .i64 j ∧ DelI w k l g o tot i j w') (fun _ b _ => leftB l.length b)
    case atStart => exact ⟨i, i + 1, rfl, rfl, I0⟩
    case round =>
      obtain ⟨i, j, rfl, rfl, I⟩ := hrel
      clear I0 hi63 hne1 hx hcx hn hi
      have hle := I.le; have hlt := I.lt
      by_cases hj : j < l.length
      · obtain ⟨x, hx⟩ : ∃ x, l[j]? = some x := ⟨_, List.getElem?_eq_getElem hj⟩
        have hx0 : (l.drop j)[0]? = some x := by rw [List.getElem?_drop]; exact hx
        obtain ⟨p1, q1, r1⟩ := bir_cells I.two hx0
        rw [Nat.zero_mul, Nat.add_zero] at p1 q1 r1
        have hgw := I.row.lt
        have hcw : c < wr.heap.size := Nat.lt_of_lt_of_le HC.out.1 I.keeps.size
        have hcl := fun W => lose1_c k x c W
        have HI := hd I
        have hrk := HC.out.keeps I.keeps (by simp; omega)
        have HRK := hd hrk
        have hj63 : IntKind.i64.wrap ((j : Int) + 1) = (j : Int) + 1 := IntWalk.i64_in _ (by omega)
        clear I hrk
        cases hcx : covers k x.1
        · rw [hcx] at hcl
          have HCL := hd hcl
          clear hcl
          go_wp2_with fail
          refine (HCL.out _ (HRK.out.below (B := wr.heap.size) (by go_grown) hcw)).mono ?_
          rintro e w2 ⟨rfl, hb2⟩
          have c0 := bcell hb2 wr.heap.size 0 (by simp [go_sem])
          have c1 := bcell hb2 wr.heap.size 1 (by simp [go_sem])
          have c2 := bcell hb2 wr.heap.size 2 (by simp [go_sem])
          simp [go_sem] at c0 c1 c2
          have B2 : Below wr.heap.size wr w2 := Below.up (by go_grown) hb2
          obtain ⟨hth, I3⟩ := (HI.out.on B2).keep hx hcx htot
          have HI3 := hd I3
          have hi63 : IntKind.i64.wrap ((i : Int) + 1) = (i : Int) + 1 := IntWalk.i64_in _ (by omega)
          clear I3 HCL HRK HI hb2 p1 q1 r1
          go_wp2_with (first | ((with_reducible refine wpl_atB (o := ⟨none, .store 70 (.tmp 33) (.tmp 32), _, _, _, _⟩) ?_); refine wpList_store_mid rfl _ _ _ rfl g (o + i * 3) (birV x).toArray rfl rfl hth info_bir3 (all_oneCell_toArray (birV_one x)) ?_))
          go_roundw
          case rel => exact ⟨i + 1, j + 1, rfl, rfl, HI3.out⟩
          case measure => simp [leftB]; omega
        · rw [hcx] at hcl
          have HCL := hd hcl
          clear hcl
          go_wp2_with fail
          refine (HCL.out _ (HRK.out.below (B := wr.heap.size) (by go_grown) hcw)).mono ?_
          rintro e w2 ⟨rfl, hb2⟩
          have B2 : Below wr.heap.size wr w2 := Below.up (by go_grown) hb2
          have HI3 := hd ((HI.out.on B2).skip hx hcx)
          clear HCL HRK HI hb2 p1 q1 r1
          go_wp2_with fail
          go_roundw
          case rel => exact ⟨i, j + 1, rfl, rfl, HI3.out⟩
          case measure => simp [leftB]; omega
      · have hje : j = l.length := by omega
        subst hje
        have h1 := I.one; have h2 := I.len
        rw [List.take_length] at h1 h2
        have hth : wr.there g (o + i * 3) ((l.length - i) * 3) := I.row.there (by omega)
        obtain ⟨zs, hzl, hclr⟩ := run_clearK (P := Tryz.prog) wr 58 70 0 (.agg #[.string ⟨#[]⟩, .string ⟨#[]⟩, .string ⟨#[]⟩]) Tryz.underlying58 Tryz.zeroValue70 3 rfl zB_one g (o + i * 3) (l.length - i) (cap - i) hth
        have hs1 := run_fromB g o l.length cap i i rfl (by omega) (by omega)
        have hs2 := run_toB g o l.length cap i i rfl (by omega) (by omega)
        have HI := hd I; have H1 := hd h1
        clear I h1
        go_wp2_with fail
        go_ret
        refine ⟨by rw [h2]; rfl, HI.out.row.setCells _ _ _, World.rangeAt_setCells_apart H1.out _ _ _ (.inr (.inl (by rw [birs_len, h2]; omega))), HI.out.keeps.trans (keeps_scells1 _ _ _ _)⟩
end Go.Proofs.YtclicjokgfiegaaGreatDoor

/- Births: losing; the object: the walks. -/
namespace Go.Proofs.YtclicjokgfiegaaGreatDoor
open Go.RowKit
set_option linter.unusedVariables false
set_option linter.unusedSimpArgs false

set_option maxRecDepth 100000 in
set_option maxHeartbeats 4000000 in
theorem deleteF_c (k : Rk) (l : List Bir) (v : Value) (c : Nat) (w : World) (ho : OwnB w v l) (hc : RkIn w c k) (hcv : c ∉ blk v) :
    Calls Tryz.prog 42 #[v, .func (.func 43) #[] #[.pointer (some ⟨c, 0, none⟩)]] w
      fun e w' => ∃ v', e = .returned v' ∧ OwnB w' v' (bLose l k) ∧ Keeps (blk v) w w' ∧ ∀ i, i ∈ blk v' → i ∈ blk v := by
  rcases ho.split with ⟨rfl, rfl⟩ | ⟨g, cap, rfl, hr, hl, hle, hcm, hblk⟩
  · have hix := indexF_c k [] _ c w ho.rd hc
    have HIX := hd hix
    clear hix ho hcv
    go_enter Tryz.func42, Tryz.ntmps42
    go_wp2_with fail
    refine HIX.out.mono ?_
    rintro e w1 ⟨rfl, hb⟩
    rw [show bIdx k [] 0 = -1 from rfl]
    go_wp2_with fail
    go_ret
    exact ⟨.slice none 0 0, rfl, OwnB.nil _, Keeps.below hb, fun i hi => hi⟩
  · rw [hblk] at hcv
    refine (deleteF_g k l g 0 cap (cap * 3) c w hr hl hle hcm (by omega) hc (by simpa using hcv)).mono ?_
    rintro e w' ⟨rfl, hr', hl', hk⟩
    refine ⟨_, rfl, OwnB.mk hr' hl' (Nat.le_trans (lose_len l k) hle) hcm, by rw [hblk]; exact hk, fun i hi => by rw [hblk]; simpa [blk, Value.ownBlock] using hi⟩
theorem BsAt.put {w w2 : World} {g : Nat} {v v' : Value} {l l' : List Bir} (h : BsAt w g v l) (hk : Keeps (blk v) w w2) (ho : OwnB w2 v' l') (hn : ∀ i, i ∈ blk v' → i ∈ blk v ∨ w.heap.size ≤ i) :
    Bd w g v v' l' (w2.setCell ⟨g, 0, none⟩ v') ∧ w2.cell? ⟨g, 0, none⟩ = some v ∧ w2.frozen? ⟨g, 0, none⟩ = false ∧ g < w2.heap.size := by
  have hg : g < w2.heap.size := Nat.lt_of_lt_of_le h.lt hk.size
  have c0 := (hk.cell (o := 0) h.lt h.ne).trans h.c0
  have c1 := (hk.cell (o := 1) h.lt h.ne).trans h.c1
  have f0 := (hk.free (o := 0) h.lt h.ne).trans h.f0
  have hne : g ∉ blk v' := fun hm => by
    rcases hn g hm with h1 | h1
    · exact h.ne h1
    · have := h.lt; omega
  have hkg : Keeps [g] w2 (w2.setCell ⟨g, 0, none⟩ v') := (Keeps.refl [g] w2).setCell (.inl (by simp)) v'
  refine ⟨⟨⟨by simp [go_sem, c0], by simp [go_sem, c1], by simp [go_sem, f0], ho.keeps hkg (fun i hi => by simp; intro e; exact hne (e ▸ hi)), hne, by simpa [go_sem] using hg⟩, ?_, hn⟩, c0, f0, hg⟩
  exact (hk.mono (fun i hi => by simp [hi])).setCell (.inl (by simp)) v'
set_option maxRecDepth 100000 in
set_option maxHeartbeats 4000000 in
theorem lose_c (g : Nat) (v : Value) (l : List Bir) (k : Rk) (w : World) (h : BsAt w g v l) (hm : l.length ≤ 1000000) :
    Calls Tryz.prog 24 #[.pointer (some ⟨g, 0, none⟩), rkV k] w fun e w' => e = .returned (.int .i64 ((l.length : Int) - (bLose l k).length)) ∧ ∃ v', Bd w g v v' (bLose l k) w' := by
  have hll := lose_len l k
  obtain ⟨a, cp, hv⟩ := h.own.slice
  have c0 := h.c0
  have hg := h.lt
  have HB := hd h
  have hdel := fun (w : World) c h1 h2 h3 => deleteF_c k l v c w h1 h2 h3
  generalize hL : bLose l k = L at *
  clear hL
  have HD := hd hdel
  clear h hdel
  subst hv
  have hwr : IntKind.i64.wrap ((l.length : Int) - (L.length : Int)) = (l.length : Int) - L.length := IntWalk.i64_in _ (by omega)
  unfold rkV
  go_enter Tryz.func24, Tryz.ntmps24
  go_wp2_with fail
  have hb : Below w.heap.size w (w.alloc (.cells #[.string (sOf k.1), .string (sOf k.2)] 62)) := by go_grown
  refine (HD.out _ w.heap.size (HB.out.below hb).own ⟨by simp [go_sem], by simp [go_sem], by simp [go_sem]⟩ (fun hm => by have := HB.out.own.lt hm; omega)).mono ?_
  rintro e w2 ⟨v', rfl, ho, hk, hn⟩
  obtain ⟨a', cp', rfl⟩ := ho.slice
  have hk2 := (Keeps.below (S := blk (.slice a l.length cp)) hb).trans hk
  obtain ⟨hbd, d0, df, dg⟩ := HB.out.put hk2 ho (fun i hi => .inl (hn i hi))
  have HBD := hd hbd
  clear hbd hk2 hk ho hb HD
  go_wp2_with fail
  go_ret
  exact ⟨rfl, _, HBD.out⟩
end Go.Proofs.YtclicjokgfiegaaGreatDoor
