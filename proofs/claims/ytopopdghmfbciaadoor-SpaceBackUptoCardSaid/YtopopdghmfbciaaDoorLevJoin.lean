/- Levels of texts: joined: plain facts and the walks. -/
import Derived.Test.YtopopdghmfbciaaDoorLevRef
import Derived.Test.YtopopdghmfbciaaDoorLevLimits
import Derived.Test.YtopopdghmfbciaaDoorShelfJ
import Derived.Lib.Join
namespace Go.Proofs.YtopopdghmfbciaaDoor
open Go.RowKit
set_option linter.unusedVariables false
set_option linter.unusedSimpArgs false

theorem lJoin_cons (x : List UInt8) (r : List (List UInt8)) : lJoin (x :: r) = x ++ Lib.joinTail [47] r := Lib.join_cons x r [47]
theorem lJoin_snoc {p : List (List UInt8)} {k : Nat} {y : List UInt8} (h : p[k]? = some y) : lJoin (p.take (k + 1)) = if k = 0 then y else lJoin (p.take k) ++ [47] ++ y := by
  cases p with
  | nil => simp at h
  | cons x r =>
    cases k with
    | zero =>
      have : x = y := by simpa using h
      subst this
      rw [if_pos rfl]
      simp [lJoin_one]
    | succ k =>
      have h' : r[k]? = some y := by simpa using h
      rw [if_neg (by omega), List.take_succ_cons, List.take_succ_cons, lJoin_cons, lJoin_cons, Lib.joinTail_take_succ _ _ _ _ h']
      simp
theorem lJoin_take_len (p : List (List UInt8)) (k : Nat) : (lJoin (p.take k)).length ≤ (lJoin p).length := by
  cases p with
  | nil => simp
  | cons x r =>
    cases k with
    | zero => simp [lJoin, Lib.join_nil]
    | succ k =>
      rw [List.take_succ_cons, lJoin_cons, lJoin_cons, List.length_append, List.length_append]
      have : (Lib.joinTail [47] r) = Lib.joinTail [47] (r.take k) ++ Lib.joinTail [47] (r.drop k) := by
        unfold Lib.joinTail
        rw [← List.flatten_append, ← List.map_append, List.take_append_drop]
      rw [this, List.length_append]
      omega

set_option maxRecDepth 100000 in
set_option maxHeartbeats 1000000 in
theorem Join_c (p : List (List UInt8)) (v : Value) (w : World) (hp : Ls w v p) (hn : p.length ≤ 140737488355328) (hl : (lJoin p).length ≤ 140737488355328) :
    Calls Tryd.prog 27 #[v] w fun e w' => e = .returned (.string (sOf (lJoin p))) ∧ Below w.heap.size w w' := by
  have hJ : Calls Tryd.prog 56 #[v, .string ⟨#[47]⟩] w fun e w' => e = .returned (.string (sOf (lJoin p))) ∧ Below w.heap.size w w' := by
    rcases @Rd.split w v p.length (p.map txV) hp with ⟨hx, a, c, rfl, h1, h2, h3⟩ | ⟨hx, b, o, c, rfl, h1, h2, h3, h4⟩
    · have : p = [] := by simpa using hx
      subst this
      exact (Tryd.strings_Join_none a c ⟨#[47]⟩ w).mono fun e w' h => ⟨h.1, h.2 ▸ Below.refl _ _⟩
    · have hm : (p.map sOf).map (·.data.toList) = p := by
        rw [List.map_map]
        exact (List.map_congr_left (fun x _ => rfl)).trans (List.map_id p)
      have h := Tryd.strings_Join b o c (p.map sOf) ⟨#[47]⟩ w (fun j x hj => by
        rw [List.getElem?_map] at hj
        cases hj2 : p[j]? with
        | none => rw [hj2] at hj; simp at hj
        | some y =>
          rw [hj2] at hj
          have : sOf y = x := by simpa using hj
          subst this
          exact h4 j _ (by simp [hj2, txV])) h3 (by simpa using hn) (by simpa using h1) (by rw [hm]; exact hl)
      rw [hm, List.length_map] at h
      exact h
  obtain ⟨a, c, rfl⟩ := hp.slice
  have HJ := hd hJ
  clear hJ hp
  go_enter Tryd.func27, Tryd.ntmps27
  go_wp2_with fail
  refine HJ.out.mono ?_
  rintro e w1 ⟨rfl, hb⟩
  go_wp2_with fail
  go_ret
  exact ⟨rfl, hb⟩

set_option maxRecDepth 100000 in
set_option maxHeartbeats 4000000 in
theorem refJoin_c (p : List (List UInt8)) (v : Value) (w : World) (hp : Ls w v p) (hn : p.length ≤ 100000000) (hl : (lJoin p).length ≤ 100000000) :
    Calls Tryd.prog 33 #[v] w fun e w' => e = .returned (.string (sOf (lJoin p))) ∧ w = w' := by
  have HP := hd hp
  have HM := hd (lJoin_take_len p)
  obtain ⟨aa, ac, rfl⟩ := hp.slice
  clear hp
  go_enter Tryd.func33, Tryd.ntmps33
  go_wp2_with fail
  go_loopw [3, 4] (fun s i w' => ∃ k : Nat, i = .int .i64 k ∧ k ≤ p.length ∧ s = .string (sOf (lJoin (p.take k))) ∧ w = w') (fun _ i _ => leftL p.length i)
  case atStart => exact ⟨0, rfl, by omega, rfl, rfl⟩
  case round =>
    obtain ⟨k, rfl, hk, rfl, rfl⟩ := hrel
    by_cases hkp : k < p.length
    · obtain ⟨y, hy⟩ : ∃ y, p[k]? = some y := ⟨_, List.getElem?_eq_getElem hkp⟩
      obtain ⟨b, o, rfl, hbl, hc⟩ := HP.out.at hy
      have hj := lJoin_snoc hy
      have hl2 := HM.out (k + 1)
      have hl1 := HM.out k
      have hsz := sOf_sizeL (lJoin (p.take k))
      have hsy := sOf_sizeL y
      by_cases hk0 : k = 0
      · have hk1 : ¬ (0 : Int) < (k : Int) := by omega
        rw [if_pos hk0] at hj
        rw [hj] at hl2
        have HJ := hd hj
        have e0 : sOf (lJoin (p.take k)) ++ sOf y = sOf y := by rw [sOf_add, hk0]; rfl
        have hz0 : (lJoin (p.take k)).length = 0 := by rw [hk0]; rfl
        clear hj hy hk0
        generalize lJoin (p.take k) = z at *
        go_wp2_with fail
        go_roundw
        case rel => exact ⟨k + 1, by congr 1, by omega, by rw [HJ.out], trivial⟩
        case measure => simp [leftL]; omega
      · have hk1 : (0 : Int) < (k : Int) := by omega
        rw [if_neg hk0] at hj
        rw [hj] at hl2
        simp only [List.length_append, List.length_cons, List.length_nil] at hl2
        have HJ := hd hj
        have e1 : sOf (lJoin (p.take k)) ++ ⟨#[47]⟩ = sOf (lJoin (p.take k) ++ [47]) := sOf_add _ [47]
        have hsz2 := sOf_sizeL (lJoin (p.take k) ++ [47])
        rw [List.length_append, List.length_cons, List.length_nil] at hsz2
        have e2 : sOf (lJoin (p.take k) ++ [47]) ++ sOf y = sOf (lJoin (p.take k) ++ [47] ++ y) := sOf_add _ _
        clear hj hy
        generalize lJoin (p.take k) = z at *
        go_wp2_with fail
        go_roundw
        case rel => exact ⟨k + 1, by congr 1, by omega, by rw [HJ.out]; simp, trivial⟩
        case measure => simp [leftL]; omega
    · have : k = p.length := by omega
      subst this
      rw [List.take_of_length_le (Nat.le_refl _)]
      go_wp2_with fail
      go_ret
      exact ⟨rfl, rfl⟩

set_option maxRecDepth 100000 in
set_option maxHeartbeats 4000000 in
theorem same17_c (p : List (List UInt8)) (va vb : Value) (w : World) (ha : Ls w va p) (hb : Ls w vb p) (hn : p.length ≤ 100000000) :
    Calls Tryd.prog 28 #[va, vb] w fun e w' => e = .returned (.bool true) ∧ ∃ m, w' = w.drewN m := by
  have HA := hd ha; have HB := hd hb
  obtain ⟨aa, ac, rfl⟩ := ha.slice
  obtain ⟨ba, bc, rfl⟩ := hb.slice
  clear ha hb
  go_enter Tryd.func28, Tryd.ntmps28
  go_wp2_with fail
  go_loopw [5] (fun i w' => ∃ k m : Nat, i = .int .i64 k ∧ k ≤ p.length ∧ w' = w.drewN m) (fun i _ => leftL p.length i)
  case atStart => exact ⟨0, 0, rfl, by omega, rfl⟩
  case round =>
    obtain ⟨k, m, rfl, hk, rfl⟩ := hrel
    by_cases hkp : k < p.length
    · obtain ⟨y, hy⟩ : ∃ y, p[k]? = some y := ⟨_, List.getElem?_eq_getElem hkp⟩
      obtain ⟨b, o, rfl, hbl, hc⟩ := HA.out.at hy
      obtain ⟨b2, o2, rfl, hbl2, hc2⟩ := HB.out.at hy
      have hty := toList_sOf y
      have hyy : (y == y) = true := by simp
      have hyn : (y != y) = false := by simp
      clear hy
      go_wp2_with fail
      go_quiet (fail)
      go_wp2_with fail
      go_roundw
      case rel => exact ⟨k + 1, _, by congr 1, by omega, rfl⟩
      case measure => simp [leftL]; omega
    · have : k = p.length := by omega
      subst this
      go_wp2_with fail
      go_ret
      exact ⟨rfl, _, rfl⟩
end Go.Proofs.YtopopdghmfbciaaDoor
