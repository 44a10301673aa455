/- A bundle of texts (merged for the limit on files): BirRefPlain, BirRow, Bir12, Bir12b. -/
import Derived.Test.YtclicjokgfiegaaGreatDoorZa15
import Derived.Test.YtclicjokgfiegaaGreatDoorZa13
import Derived.Test.YtclicjokgfiegaaGreatDoorZa4
/- Births beside the document's answer: plain laws. No program. -/
namespace Go.Proofs.YtclicjokgfiegaaGreatDoor
open Go.RowKit
set_option linter.unusedVariables false
set_option linter.unusedSimpArgs false

theorem rank_nil {t : List UInt8} (h : bRank t = none) : (bNode t).1 = [] := by
  unfold bRank at h
  by_cases hn : (bNode t).1 = []
  · exact hn
  · rw [if_neg hn] at h; cases h
def rCount (R : List BTold) (t : List UInt8) : Nat := (R.filter fun y => rCov t y.1).length
theorem rCount_drop (R : List BTold) (t : List UInt8) : rCount R t + (rDrop R t).length = R.length := by
  unfold rCount rDrop
  induction R with
  | nil => rfl
  | cons y R ih =>
    cases h : rCov t y.1
    · rw [List.filter_cons_of_neg (by simp [h]), List.filter_cons_of_pos (by simp [h])]
      simp only [List.length_cons]; omega
    · rw [List.filter_cons_of_pos (by simp [h]), List.filter_cons_of_neg (by simp [h])]
      simp only [List.length_cons]; omega
def rPut (R : List BTold) (t : List UInt8) (u : ByteArray) : List BTold × Int :=
  if (bNode t).1 = [] then (R, 13)
  else if rCount R t = 0 ∧ 40 ≤ R.length then (R, 6)
  else ((rDrop R t).take (rAt (rDrop R t) t) ++ (t, u) :: (rDrop R t).drop (rAt (rDrop R t) t), 0)
def rDropP (R : List BTold) (t : List UInt8) : List BTold × Int :=
  if (bNode t).1 = [] then (R, 0) else (rDrop R t, (R.length : Int) - (rDrop R t).length)
theorem rPut_eq {l : List Bir} (hg : Good l) (t : List UInt8) (u : ByteArray) : rPut (l.map bTold) t u = ((bPutL l t u).map bTold, bPutE l t) := by
  unfold rPut bPutL bPutE
  cases h : bRank t with
  | none => rw [if_pos (rank_nil h)]
  | some k =>
    obtain ⟨h1, h2, h3, h4, h5⟩ := bRank_node h
    have hd := rDrop_eq hg h
    have hc := rCount_drop (l.map bTold) t
    rw [if_neg (by rw [h1]; exact h2), hd]
    rw [hd, List.length_map, List.length_map] at hc
    have ha := rAt_eq (lose_good hg k).2 h
    have he : (rCount (l.map bTold) t = 0 ∧ 40 ≤ (l.map bTold).length) ↔ bFull l k := by
      unfold bFull
      rw [List.length_map]
      omega
    by_cases hf : bFull l k
    · rw [if_pos (he.2 hf)]
      simp only [if_pos hf]
    · rw [if_neg (fun h => hf (he.1 h))]
      simp only [if_neg hf]
      rw [ha]
      unfold bPut bIns
      rw [List.map_append, List.map_cons, List.map_take, List.map_drop]
      have e : bTold (k, u) = (t, u) := by unfold bTold; rw [h3]
      rw [e]
theorem rDropP_eq {l : List Bir} (hg : Good l) (t : List UInt8) : rDropP (l.map bTold) t = ((bDropL l t).map bTold, bDropN l t) := by
  unfold rDropP bDropL bDropN
  cases h : bRank t with
  | none => rw [if_pos (rank_nil h)]
  | some k =>
    obtain ⟨h1, h2, h3, h4, h5⟩ := bRank_node h
    rw [if_neg (by rw [h1]; exact h2), rDrop_eq hg h]
    simp only [List.length_map]
theorem rGetP_eq {l : List Bir} (hg : Good l) (t : List UInt8) : rGet (l.map bTold) t = (bRank t).bind (bGet l) := by
  cases h : bRank t with
  | none => rw [rGet_none hg h]; rfl
  | some k => rw [rGet_eq hg h]; rfl
theorem dropL_good {l : List Bir} (h : Good l) (t : List UInt8) : Good (bDropL l t) := by
  unfold bDropL
  split
  · exact h
  · exact lose_good h _
theorem dropL_len (l : List Bir) (t : List UInt8) : (bDropL l t).length ≤ l.length := by
  unfold bDropL
  split
  · exact Nat.le_refl _
  · exact lose_len _ _
theorem those_all (l : List Bir) : thoseL l (fun _ => true) = l.map bTold := by unfold thoseL; simp
/-! ### Round by round -/
theorem dropT {R : List BTold} {k : Nat} {y : BTold} (h : R[k]? = some y) : R.drop k = y :: R.drop (k + 1) := by
  obtain ⟨h1, h2⟩ := List.getElem?_eq_some_iff.1 h
  rw [← h2]; exact List.drop_eq_getElem_cons h1
theorem takeT {R : List BTold} {k : Nat} {y : BTold} (h : R[k]? = some y) : R.take (k + 1) = R.take k ++ [y] := by rw [List.take_add_one, h]; rfl
theorem rGet_at {R : List BTold} {k : Nat} {y : BTold} (t : List UInt8) (h : R[k]? = some y) : rGet (R.drop k) t = if y.1 = t then some y.2 else rGet (R.drop (k + 1)) t := by
  unfold rGet
  rw [dropT h, List.find?_cons]
  by_cases e : y.1 = t
  · simp [e]
  · have e2 : (y.1 == t) = false := by simpa using e
    simp [e, e2]
theorem rDrop_snoc {R : List BTold} {k : Nat} {y : BTold} (t : List UInt8) (h : R[k]? = some y) : rDrop (R.take (k + 1)) t = rDrop (R.take k) t ++ if rCov t y.1 = true then [] else [y] := by
  unfold rDrop
  rw [takeT h, List.filter_append]
  congr 1
  cases hc : rCov t y.1 <;> simp [hc]
theorem rCount_snoc {R : List BTold} {k : Nat} {y : BTold} (t : List UInt8) (h : R[k]? = some y) : rCount (R.take (k + 1)) t = rCount (R.take k) t + if rCov t y.1 = true then 1 else 0 := by
  unfold rCount
  rw [takeT h, List.filter_append, List.length_append]
  congr 1
  cases hc : rCov t y.1 <;> simp [hc]
theorem rCount_le (R : List BTold) (t : List UInt8) (k : Nat) : rCount (R.take k) t ≤ k := by
  have := List.length_filter_le (fun y : BTold => rCov t y.1) (R.take k)
  unfold rCount
  rw [List.length_take] at this
  omega
theorem rAt_at {R : List BTold} {k : Nat} {y : BTold} (t : List UInt8) (h : R[k]? = some y) : rAt (R.drop k) t = if rAhead y.1 t = true then rAt (R.drop (k + 1)) t + 1 else 0 := by
  unfold rAt
  rw [dropT h, List.takeWhile_cons]
  cases hc : rAhead y.1 t <;> simp [hc]
def rFind (R : List BTold) (fl : List BFlt) : List BTold := R.filter fun y => bWant fl y.1
theorem rFind_snoc {R : List BTold} {k : Nat} {y : BTold} (fl : List BFlt) (h : R[k]? = some y) : rFind (R.take (k + 1)) fl = rFind (R.take k) fl ++ if bWant fl y.1 = true then [y] else [] := by
  unfold rFind
  rw [takeT h, List.filter_append]
  congr 1
  cases hc : bWant fl y.1 <;> simp [hc]
theorem bWant_snoc {fl : List BFlt} {k : Nat} {f : BFlt} (t : List UInt8) (h : fl[k]? = some f) : bWant (fl.take (k + 1)) t = (bWant (fl.take k) t || mMatch f.1 t) := by
  unfold bWant
  rw [List.take_add_one, h, List.any_append]
  simp
theorem those_find (l : List Bir) (fl : List BFlt) : thoseL l (bWant fl) = rFind (l.map bTold) fl := rfl
end Go.Proofs.YtclicjokgfiegaaGreatDoor

/- Births that are told: parts of rows of them; two of them compared. -/
namespace Go.Proofs.YtclicjokgfiegaaGreatDoor
open Go.RowKit
set_option linter.unusedVariables false
set_option linter.unusedSimpArgs false

theorem told_dropF (R : List BTold) (k : Nat) : (R.drop k).flatMap toldV = (R.flatMap toldV).drop (k * 2) := by
  induction R generalizing k with
  | nil => simp
  | cons x t ih =>
    cases k with
    | zero => simp
    | succ k =>
      rw [List.drop_succ_cons, ih, List.flatMap_cons, show (k + 1) * 2 = 2 + k * 2 by omega, ← List.drop_drop]
      rfl
theorem told_takeF (R : List BTold) (k : Nat) : (R.take k).flatMap toldV = (R.flatMap toldV).take (k * 2) := by
  induction R generalizing k with
  | nil => simp
  | cons x t ih =>
    cases k with
    | zero => simp
    | succ k =>
      rw [List.take_succ_cons, List.flatMap_cons, ih, List.flatMap_cons, show (k + 1) * 2 = 2 + k * 2 by omega, List.take_add]
      rfl
theorem told_lenF : ∀ R : List BTold, (R.flatMap toldV).length = R.length * 2
  | [] => rfl
  | x :: t => by rw [List.flatMap_cons, List.length_append, told_lenF t, List.length_cons]; simp [toldV]; omega
/-- A part of a slice of births that are told. -/
theorem RdT.part {w : World} {a : Option Addr} {n c : Nat} {R : List BTold} (h : Rd w (.slice a n c) R.length (R.flatMap toldV)) (i j : Nat) (hij : i ≤ j) (hj : j ≤ R.length) :
    Rd w (.slice (if c = i then a else a.map (·.add (i * 2))) (j - i) (c - i)) (j - i) (((R.drop i).take (j - i)).flatMap toldV) := by
  obtain ⟨a', c', hv, h1, h2, h3, h4⟩ := h
  cases hv
  refine ⟨_, _, rfl, by omega, by omega, fun e => ?_, fun ad had k u hu => ?_⟩
  · cases a with
    | none =>
      obtain ⟨e1, e2, e3⟩ := h3 rfl
      have : R = [] := List.eq_nil_of_length_eq_zero e1
      subst this
      simp at hj
      exact ⟨by omega, by omega, by simp⟩
    | some ad => split at e <;> simp at e
  · rw [told_takeF, told_dropF] at hu
    have hk : k < (j - i) * 2 := by
      have := (List.getElem?_eq_some_iff.1 hu).1
      rw [List.length_take] at this
      omega
    rw [List.getElem?_take_of_lt hk, List.getElem?_drop] at hu
    cases a with
    | none => split at had <;> simp at had
    | some a0 =>
      have hci : ¬ c = i := by omega
      rw [if_neg hci] at had
      simp only [Option.map_some, Option.some.injEq] at had
      subst had
      rw [Go.Deep.add_add]
      exact h4 a0 rfl (i * 2 + k) u hu
theorem elem_told : Tryz.prog.elem 27 = 72 := by kernel_rfl
theorem run_fromT {w : World} {a : Option Addr} {n c : Nat} {R : List BTold} (h : Rd w (.slice a n c) R.length (R.flatMap toldV)) (i : Nat) (hi : i ≤ R.length) :
    ∃ v', (∀ W : World, (Instr.slice 27 (.slice a n c) (some (.int .i64 (i : Int))) none none).run Tryz.prog W = .ok v' W) ∧ Rd w v' (R.drop i).length ((R.drop i).flatMap toldV) := by
  have hp := RdT.part h i R.length hi (Nat.le_refl _)
  rw [List.take_of_length_le (by simp)] at hp
  obtain ⟨a0, c0, hv, h1, h2, h3, h4⟩ := h
  cases hv
  rw [List.length_drop]
  refine ⟨_, fun W => ?_, hp⟩
  rw [run_slice_l W 27 a R.length c (by kernel_rfl) .i64 (i : Int) (by omega) (by omega)]
  obtain ⟨i0, hi, hz0, hz1, hz2⟩ := info_parts info_tol
  simp [sizeOf, typeInfo, elem_told, hi, hz1, sliced, Result.andThen]
theorem run_toT {w : World} {a : Option Addr} {n c : Nat} {R : List BTold} (h : Rd w (.slice a n c) R.length (R.flatMap toldV)) (j : Nat) (hj : j ≤ R.length) :
    ∃ v', (∀ W : World, (Instr.slice 27 (.slice a n c) none (some (.int .i64 (j : Int))) none).run Tryz.prog W = .ok v' W) ∧ Rd w v' (R.take j).length ((R.take j).flatMap toldV) := by
  have hp := RdT.part h 0 j (Nat.zero_le _) hj
  rw [List.drop_zero, Nat.sub_zero] at hp
  obtain ⟨a0, c0, hv, h1, h2, h3, h4⟩ := h
  cases hv
  rw [List.length_take, Nat.min_eq_left hj]
  refine ⟨_, fun W => ?_, hp⟩
  rw [run_slice_h W 27 a R.length c (by kernel_rfl) .i64 (j : Int) (by omega) (by omega)]
  obtain ⟨i0, hi, hz0, hz1, hz2⟩ := info_parts info_tol
  simp [sizeOf, typeInfo, elem_told, hi, hz1, sliced, Result.andThen]
set_option maxRecDepth 100000 in
theorem neq_told (x : BTold) (W : World) : (binOp .neq 72 (.agg #[.string (sOf x.1), .string x.2]) (.agg #[.string (sOf x.1), .string x.2])).run Tryz.prog W = .ok (.bool false) W := by
  simp [go_sem]
theorem told_one (R : List BTold) : ∀ u ∈ R.flatMap toldV, u.oneCell' = true := fun u hu => by
  obtain ⟨y, -, h⟩ := List.mem_flatMap.1 hu
  exact toldV_one y u h
/-- append(l, m...) of births that are told. -/
theorem wp_appTs {w : World} {ops : Array Oper} {rest : List Oper} {o : Oper} {a : Act} {Q : Exit → Act → World → Prop} (hgd : o.guard = none) (s x : Operand)
    (ho : o.op = .call { callee := .builtin .append, args := #[s, x], argTypes := #[27, 27] })
    (B : Nat) (v : Value) (m : List BTold) (hv : a.eval s = v) (hown : OwnT B w v m) (sv : Value) (N : List BTold) (hx : a.eval x = sv) (hs : Rd w sv N.length (N.flatMap toldV)) (hlen : m.length + N.length < 1000000) (hB : B ≤ w.heap.size)
    (h : ∀ v' w', OwnT B w' v' (m ++ N) → Below B w w' → wpList Tryz.prog ops Q rest (a.put o.dst v') w') : wpList Tryz.prog ops Q (o :: rest) a w := by
  obtain ⟨i0, hi, hz0, hz1, hz2⟩ := info_parts info_tol
  refine wp_app hgd s x 27 ho B 72 i0 _ 2 32 Tryz.underlying27 hi hz0 hz1 hz2 rfl (by decide) v m.length (m.flatMap toldV) hv hown sv N.length (N.flatMap toldV) hx hs (told_lenF N) (told_one N) (by omega) (by unfold maxLen; omega) hB ?_
  intro v' w' h1 h2 _
  refine h v' w' ?_ h2
  unfold OwnT
  rw [List.length_append, List.flatMap_append]
  exact h1
end Go.Proofs.YtclicjokgfiegaaGreatDoor

/- Births: the document's answer: the walks. -/
namespace Go.Proofs.YtclicjokgfiegaaGreatDoor
open Go.RowKit
set_option linter.unusedVariables false
set_option linter.unusedSimpArgs false

/-! ### The reference's births: one cell: a row -/
structure RfAt (w : World) (g : Nat) (v : Value) (R : List BTold) : Prop where
  c0 : w.cell? ⟨g, 0, none⟩ = some v
  f0 : w.frozen? ⟨g, 0, none⟩ = false
  own : OwnT 0 w v R
  ne : g ∉ blk v
  lt : g < w.heap.size
theorem OwnT.keepsN {S : List Nat} {B : Nat} {w w' : World} {v : Value} {m : List BTold} (h : OwnT B w v m) (hk : Keeps S w w') (hn : ∀ k, k ∈ blk v → k ∉ S) : OwnT B w' v m := by
  refine ⟨h.1, ?_⟩
  rcases h.2 with h0 | ⟨g, cap, cur, rfl, h1, h2, h3⟩
  · exact .inl h0
  · exact .inr ⟨g, cap, cur, rfl, h1, by rw [hk.block g (Array.getElem?_eq_some_iff.1 h2).1 (hn g (by simp [blk, Value.ownBlock]))]; exact h2, h3⟩
theorem RfAt.keeps {S : List Nat} {w w' : World} {g : Nat} {v : Value} {R : List BTold} (h : RfAt w g v R) (hk : Keeps S w w') (hg : g ∉ S) (hv : ∀ k, k ∈ blk v → k ∉ S) : RfAt w' g v R :=
  ⟨(hk.cell h.lt hg).trans h.c0, (hk.free h.lt hg).trans h.f0, h.own.keepsN hk hv, h.ne, Nat.lt_of_lt_of_le h.lt hk.size⟩
theorem RfAt.below {w w' : World} {g : Nat} {v : Value} {R : List BTold} (h : RfAt w g v R) (hb : Below w.heap.size w w') : RfAt w' g v R := h.keeps (S := []) (Keeps.below hb) (by simp) (fun _ _ => by simp)
/-- What a call leaves that may have turned the reference's births. -/
structure Rf (w : World) (g : Nat) (v v' : Value) (R' : List BTold) (w' : World) : Prop where
  at' : RfAt w' g v' R'
  keeps : Keeps [g] w w'
  new : ∀ k, k ∈ blk v' → k ∈ blk v ∨ w.heap.size ≤ k
theorem Rf.refl {w w1 : World} {g : Nat} {v : Value} {R : List BTold} (h : RfAt w g v R) (hb : Below w.heap.size w w1) : Rf w g v v R w1 := ⟨h.below hb, Keeps.below hb, fun i hi => .inl hi⟩
theorem Rf.trans {w w1 w2 : World} {g : Nat} {v v1 v2 : Value} {R1 R2 : List BTold} (h : Rf w g v v1 R1 w1) (k : Rf w1 g v1 v2 R2 w2) : Rf w g v v2 R2 w2 :=
  ⟨k.at', h.keeps.trans k.keeps, fun i hi => by
    rcases k.new i hi with h1 | h1
    · exact h.new i h1
    · have := h.keeps.size; exact .inr (by omega)⟩
/-- A new row is put into the object's cell. -/
theorem Rf.store {w w1 : World} {g : Nat} {v v' : Value} {R R' : List BTold} (h : RfAt w g v R) (hb : Below w.heap.size w w1) (ho : OwnT w.heap.size w1 v' R') : Rf w g v v' R' (w1.setCell ⟨g, 0, none⟩ v') := by
  have h1 := h.below hb
  have hgn : ∀ k, k ∈ blk v' → w.heap.size ≤ k := fun k hk => (ho.lt k (by simpa [blk] using hk)).1
  have hlt := h.lt
  have hne : g ∉ blk v' := fun hm => by have := hgn g hm; omega
  have hk : Keeps [g] w1 (w1.setCell ⟨g, 0, none⟩ v') := (Keeps.refl _ _).setCell (.inl (by simp)) _
  refine ⟨⟨by simp [go_sem, h1.c0], by simpa [go_sem] using h1.f0, OwnT.keepsN (B := 0) (v := v') (m := R') (Owns.le ho (Nat.zero_le _)) hk (fun k hk' hm => by simp at hm; exact hne (hm ▸ hk')), hne, by simp [go_sem]; exact h1.lt⟩, (Keeps.below hb).trans hk, fun k hk' => .inr (hgn k hk')⟩
set_option maxRecDepth 100000 in
set_option maxHeartbeats 4000000 in
theorem same36_c (va vb : Value) (R : List BTold) (w : World) (ha : Rd w va R.length (R.flatMap toldV)) (hb : Rd w vb R.length (R.flatMap toldV)) :
    Calls Tryz.prog 12 #[va, vb] w fun e w' => e = .returned (.bool true) ∧ Below w.heap.size w w' := by
  have hm := Rd.len ha
  unfold maxLen at hm
  have HA := hd ha; have HB := hd hb
  obtain ⟨a, ca, rfl, -⟩ := ha
  obtain ⟨b, cb, rfl, -⟩ := hb
  have hn := fun (x : BTold) W => neq_told x W
  have HN := hd hn
  clear hn
  go_enter Tryz.func12, Tryz.ntmps12
  go_wp2_with fail
  go_loopw [5] (fun i w' => ∃ k : Nat, i = .int .i64 k ∧ k ≤ R.length ∧ Below w.heap.size w w') (fun i _ => leftB R.length i)
  case atStart => exact ⟨0, rfl, by omega, Below.refl _ _⟩
  case round =>
    obtain ⟨k, rfl, hk, hB⟩ := hrel
    by_cases hk1 : k < R.length
    · obtain ⟨x, hx⟩ : ∃ x, R[k]? = some x := ⟨_, List.getElem?_eq_getElem hk1⟩
      obtain ⟨p, o, rfl, hpl, h3⟩ := rowC_at toldV 2 (by decide) (fun _ => rfl) HA.out hx
      obtain ⟨q, u, rfl, hql, h4⟩ := rowC_at toldV 2 (by decide) (fun _ => rfl) HB.out hx
      have c0 : wr.cell? ⟨p, o + k * 2, none⟩ = some (.string (sOf x.1)) := (bcell hB _ _ hpl).trans (h3 0 _ rfl)
      have c1 : wr.cell? ⟨p, o + k * 2 + 1, none⟩ = some (.string x.2) := (bcell hB _ _ hpl).trans (h3 1 _ rfl)
      have d0 : wr.cell? ⟨q, u + k * 2, none⟩ = some (.string (sOf x.1)) := (bcell hB _ _ hql).trans (h4 0 _ rfl)
      have d1 : wr.cell? ⟨q, u + k * 2 + 1, none⟩ = some (.string x.2) := (bcell hB _ _ hql).trans (h4 1 _ rfl)
      have hn := HN.out x
      clear h3 h4 hx
      go_wp2_with fail
      go_region
      go_wp2_with fail
      go_roundw
      case rel => exact ⟨k + 1, by congr 1, by omega, hB.trans ((below_dn (Below.refl wr.heap.size wr) _).mono hB.size)⟩
      case measure => simp [leftB]; omega
    · have hke : k = R.length := by omega
      subst hke
      go_wp2_with fail
      go_ret
      exact ⟨rfl, hB⟩
end Go.Proofs.YtclicjokgfiegaaGreatDoor

/- Births: the document's answer: Get, Drop, Find: the walks. -/
namespace Go.Proofs.YtclicjokgfiegaaGreatDoor
open Go.RowKit
set_option linter.unusedVariables false
set_option linter.unusedSimpArgs false

theorem rDrop_le (R : List BTold) (t : List UInt8) (k : Nat) : (rDrop (R.take k) t).length ≤ k := by
  unfold rDrop
  exact Nat.le_trans (List.length_filter_le _ _) (by rw [List.length_take]; omega)
theorem OwnT.below' {B B' : Nat} {w w' : World} {v : Value} {m : List BTold} (h : OwnT B w v m) (hb : Below B' w w') (hB : w.heap.size ≤ B') : OwnT B w' v m := Owns.kept h hb hB
set_option maxRecDepth 100000 in
set_option maxHeartbeats 4000000 in
theorem refGet36_c (g : Nat) (v : Value) (R : List BTold) (t : List UInt8) (w : World) (h : RfAt w g v R) (hm : R.length ≤ 1000) :
    Calls Tryz.prog 11 #[.pointer (some ⟨g, 0, none⟩), .string (sOf t)] w fun e w' => e = .returned (.tuple #[.string ((rGet R t).getD ⟨#[]⟩), .bool (rGet R t).isSome]) ∧ Below w.heap.size w w' := by
  obtain ⟨a, c, rfl⟩ := h.own.slice
  obtain ⟨r, hr⟩ : ∃ r, rGet R t = r := ⟨_, rfl⟩
  rw [hr]
  have HO := hd h.own; have c0 := h.c0; have hlt := h.lt
  have I0 : rGet R t = rGet (R.drop 0) t := rfl
  rw [hr] at I0
  have ht := toList_sOf t
  clear h hr
  go_enter Tryz.func11, Tryz.ntmps11
  go_wp2_with fail
  go_loopw [6] (fun i w' => ∃ k : Nat, i = .int .i64 k ∧ k ≤ R.length ∧ r = rGet (R.drop k) t ∧ Below w.heap.size w w') (fun i _ => leftB R.length i)
  case atStart => exact ⟨0, rfl, by omega, I0, Below.refl _ _⟩
  case round =>
    obtain ⟨k, rfl, hk, hr, hB⟩ := hrel
    clear I0
    have d0 := (bcell hB _ _ hlt).trans c0
    by_cases hk1 : k < R.length
    · obtain ⟨x, hx⟩ : ∃ x, R[k]? = some x := ⟨_, List.getElem?_eq_getElem hk1⟩
      rw [rGet_at t hx] at hr
      obtain ⟨p, o, rfl, hpl, x0, x1⟩ := HO.out.at hx
      replace x0 := (bcell hB _ _ hpl).trans x0
      replace x1 := (bcell hB _ _ hpl).trans x1
      have hxt := toList_sOf x.1
      by_cases he : x.1 = t
      · rw [if_pos he] at hr
        subst hr
        have heb : (x.1 == t) = true := by simpa using he
        clear hx c0 HO
        go_wp2_with fail
        go_ret2
        exact ⟨rfl, hB⟩
      · rw [if_neg he] at hr
        have HR := hd hr
        have heb : (x.1 == t) = false := by simpa using he
        clear hx hr c0
        go_wp2_with fail
        go_roundw
        case rel => exact ⟨k + 1, by congr 1, by omega, HR.out, hB⟩
        case measure => simp [leftB]; omega
    · have hke : k = R.length := by omega
      subst hke
      rw [List.drop_length] at hr
      have hr2 : r = none := hr
      subst hr2
      clear hr
      go_wp2_with fail
      go_ret2
      exact ⟨rfl, hB⟩
set_option maxRecDepth 100000 in
set_option maxHeartbeats 4000000 in
theorem refDrop36_c (g : Nat) (v : Value) (R : List BTold) (t : List UInt8) (w : World) (h : RfAt w g v R) (ht : t.length ≤ 100000000) (hR : ∀ y ∈ R, y.1.length ≤ 100000000) (hm : R.length ≤ 1000) :
    Calls Tryz.prog 9 #[.pointer (some ⟨g, 0, none⟩), .string (sOf t)] w fun e w' => e = .returned (.int .i64 (rDropP R t).2) ∧ ∃ v', Rf w g v v' (rDropP R t).1 w' := by
  have H := hd h
  obtain ⟨a, c, rfl⟩ := h.own.slice
  have hno := fun W => refNode_c t W ht
  obtain ⟨r, hr⟩ : ∃ r, rDropP R t = r := ⟨_, rfl⟩
  rw [hr]
  unfold rDropP at hr
  obtain ⟨⟨n, d⟩, hnd⟩ : ∃ n, bNode t = n := ⟨_, rfl⟩
  rw [hnd] at hr hno
  simp only at hr hno
  have hcov : ∀ u, rCov t u = (u == t || (!d && (bNode u).1 == n)) := fun u => by unfold rCov; rw [hnd]
  have HO := hd h.own; have c0 := h.c0; have hlt := h.lt
  have HNO := hd hno; have HR := hd hr; have HRT := hd hR; have HCV := hd hcov
  have tn := toList_sOf n; have tt := toList_sOf t
  have hf0 := h.f0
  clear hno hr hR hcov h hnd
  go_enter Tryz.func9, Tryz.ntmps9
  go_wp2_with fail
  refine (HNO.out _).mono ?_
  rintro e w1 ⟨rfl, b1⟩
  by_cases hn : n = []
  · subst hn
    have hr := HR.out
    rw [if_pos rfl] at hr
    subst hr
    go_wp2_with fail
    go_ret
    exact ⟨rfl, _, Rf.refl H.out b1⟩
  have hnb : (n == []) = false := by simpa using hn
  have hr := HR.out
  rw [if_neg hn] at hr
  subst hr
  clear HR
  have O0 : OwnT w.heap.size w1 (.slice none 0 0) (rDrop (R.take 0) t) := by simpa [rDrop] using OwnT.nil w.heap.size w1
  go_wp2_with fail
  go_loopw [7, 8] (fun vl i w' => ∃ k : Nat, i = .int .i64 k ∧ k ≤ R.length ∧ OwnT w.heap.size w' vl (rDrop (R.take k) t) ∧ Below w.heap.size w w') (fun _ i _ => leftB R.length i)
  case atStart => exact ⟨0, rfl, by omega, O0, b1⟩
  case round =>
    obtain ⟨k, rfl, hk, ho, hB⟩ := hrel
    clear O0
    have d0 := (bcell hB _ _ hlt).trans c0
    have hzB := hB.size
    by_cases hk1 : k < R.length
    · obtain ⟨x, hx⟩ : ∃ x, R[k]? = some x := ⟨_, List.getElem?_eq_getElem hk1⟩
      have hsn := rDrop_snoc t hx
      obtain ⟨p, q, rfl, hpl, x0, x1⟩ := HO.out.at hx
      have y0 := (bcell hB _ _ hpl).trans x0
      have hnx := fun W => refNode_c x.1 W (HRT.out x (List.mem_of_getElem? hx))
      have hcv := HCV.out x.1
      rw [hcv] at hsn
      obtain ⟨⟨m, md⟩, hmd⟩ : ∃ m, bNode x.1 = m := ⟨_, rfl⟩
      rw [hmd] at hnx hsn
      simp only at hnx hsn
      have HNX := hd hnx; have HSN := hd hsn; have HOL := hd ho
      have hml : (rDrop (R.take k) t).length ≤ k := rDrop_le R t k
      generalize hM : rDrop (R.take k) t = M at *
      have tx := toList_sOf x.1; have tm := toList_sOf m
      clear hnx hsn ho hx hcv hmd
      go_wp2_with fail
      refine (HNX.out _).mono ?_
      rintro e w2 ⟨rfl, b2⟩
      have B2 : Below w.heap.size w w2 := hB.trans (b2.mono hzB)
      have HO2 := hd (HOL.out.kept b2 (Nat.le_refl _))
      have e0 := (bcell b2 _ _ (show g < wr.heap.size by omega)).trans d0
      have z0 := (bcell (hB.trans (b2.mono hzB)) _ _ hpl).trans x0
      have z1 := (bcell (hB.trans (b2.mono hzB)) _ _ hpl).trans x1
      obtain ⟨xt, xu⟩ := x
      simp only at HSN tx z0 z1
      clear HNX HOL y0 x0 x1 d0
      by_cases he : xt = t
      · have heb : (xt == t) = true := by simpa using he
        have hsn := HSN.out
        rw [heb, Bool.true_or, if_pos rfl, List.append_nil] at hsn
        have HS2 := hd hsn
        clear hsn HSN
        go_wp2_with fail
        go_roundw
        case rel => exact ⟨k + 1, by congr 1, by omega, by rw [HS2.out]; exact HO2.out, B2⟩
        case measure => simp [leftB]; omega
      have heb : (xt == t) = false := by simpa using he
      have hsn := HSN.out
      rw [heb, Bool.false_or] at hsn
      cases d
      · by_cases hmn : m = n
        · have hmb : (m == n) = true := by simpa using hmn
          rw [hmb, Bool.not_false, Bool.true_and, if_pos rfl, List.append_nil] at hsn
          have HS2 := hd hsn
          clear hsn HSN
          go_wp2_with fail
          go_roundw
          case rel => exact ⟨k + 1, by congr 1, by omega, by rw [HS2.out]; exact HO2.out, B2⟩
          case measure => simp [leftB]; omega
        · have hmb : (m == n) = false := by simpa using hmn
          rw [hmb, Bool.not_false, Bool.true_and, if_neg (by simp)] at hsn
          have HS2 := hd hsn
          clear hsn HSN
          go_wp2_with (first | (at_builtin; refine wp_appT rfl _ _ rfl w.heap.size u7 M rfl HO2.out (xt, xu) rfl (by omega) B2.size ?_; intro v6 w6 ho6 hb6))
          have HO6 := hd ho6
          clear ho6
          go_roundw
          case rel => exact ⟨k + 1, by congr 1, by omega, by rw [HS2.out]; exact HO6.out, B2.trans hb6⟩
          case measure => simp [leftB]; omega
      · rw [Bool.not_true, Bool.false_and, if_neg (by simp)] at hsn
        have HS2 := hd hsn
        clear hsn HSN
        go_wp2_with (first | (at_builtin; refine wp_appT rfl _ _ rfl w.heap.size u7 M rfl HO2.out (xt, xu) rfl (by omega) B2.size ?_; intro v6 w6 ho6 hb6))
        have HO6 := hd ho6
        clear ho6
        go_roundw
        case rel => exact ⟨k + 1, by congr 1, by omega, by rw [HS2.out]; exact HO6.out, B2.trans hb6⟩
        case measure => simp [leftB]; omega
    · have hke : k = R.length := by omega
      subst hke
      rw [List.take_length] at ho
      have hml : (rDrop R t).length ≤ R.length := List.length_filter_le _ _
      have f0 := (bfree hB g 0 hlt).trans hf0
      obtain ⟨la, lc, rfl⟩ := ho.slice
      have HOL := hd ho
      have HB := hd hB
      have hgl : g < wr.heap.size := by omega
      clear ho hB HRT HCV HNO
      generalize hM : rDrop R t = M at *
      go_wp2_with fail
      go_ret
      exact ⟨rfl, _, Rf.store H.out HB.out HOL.out⟩
end Go.Proofs.YtclicjokgfiegaaGreatDoor
