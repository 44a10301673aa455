/- Answers to wishes: what bytes tell: the walks of the program and of the reference (printed by wip/gen/suback2.py). -/
import Derived.Test.YtgafhnomkeiakaaDoorSubAck
namespace Go.Proofs.YtgafhnomkeiakaaDoor
open Go.RowKit
set_option linter.unusedVariables false
set_option linter.unusedSimpArgs false

/-- A number, numbers of one's own, an error. -/
def GivesI (w : World) (r : Int × List Int × Int) (e : Ending) (w' : World) : Prop :=
  ∃ v, e = .returned (.tuple #[.int .i64 r.1, v, .int .i64 r.2.2]) ∧ OwnI w.heap.size w' v r.2.1 ∧ Below w.heap.size w w'
theorem GivesI.nil {w w' : World} {r : Int × List Int × Int} (e : Int) (h : r = (0, [], e)) (hb : Below w.heap.size w w') : GivesI w r (.returned (.tuple #[.int .i64 0, .slice none 0 0, .int .i64 e])) w' := by
  subst h; exact ⟨_, rfl, OwnI.nil _ _, hb⟩
theorem sbCodes_at (a : List Int) {l : List UInt8} {k : Nat} (hk : k < l.length) :
    sbCodes a (l.drop k) = if sbCoded (bN l k : Int) = false then ([], 5) else sbCodes (a ++ [(bN l k : Int)]) (l.drop (k + 1)) := by
  have hb : (l[k]).toNat = bN l k := by unfold bN; rw [List.getD_eq_getElem?_getD, List.getElem?_eq_getElem hk]; rfl
  rw [List.drop_eq_getElem_cons hk, ← hb]
  rfl

set_option maxRecDepth 100000 in
set_option maxHeartbeats 8000000 in
theorem subOfAck_c (s : ByteArray) (w : World) (hs : s.size ≤ 140737488351232) :
    Calls Tryd.prog 17 #[.string s] w (GivesI w (sbOfAck (sB s))) := by
  have hsl : Hd ((sB s).length = s.size) := sB_len s
  have hbr := @sbBegin_rng (sB s)
  have hof : sbOfAck (sB s) = if (sbBegin (sB s)).2 ≠ 0 then (0, [], (sbBegin (sB s)).2) else if sbMany ((s.size : Int) - 2) ≠ 0 then (0, [], sbMany ((s.size : Int) - 2)) else if (sbCodes [] ((sB s).drop 2)).2 ≠ 0 then (0, [], (sbCodes [] ((sB s).drop 2)).2) else ((sbBegin (sB s)).1, (sbCodes [] ((sB s).drop 2)).1, 0) := by
    rw [sbOfAck, hsl.out]
  generalize sbOfAck (sB s) = R at hof ⊢
  have HO := hd hof; clear hof
  go_enter Tryd.func17, Tryd.ntmps17
  go_wp2_with fail
  refine (subBegin_c s _ hs).mono ?_
  generalize sbBegin (sB s) = g at hbr HO ⊢
  obtain ⟨id, e⟩ := g
  simp only at hbr HO ⊢
  rintro e' w1 ⟨rfl, hb⟩
  by_cases he : e = 0
  rotate_left
  · have heb : (e != 0) = true := by simpa using he
    go_wp2_with fail
    go_ret3
    exact GivesI.nil e (by rw [HO.out, if_pos he]) hb
  subst he
  have h2l := (hbr rfl).1
  rw [hsl.out] at h2l
  clear hbr
  go_wp2_with fail
  refine (many_c _ _).mono ?_
  by_cases h2 : sbMany ((s.size : Int) - 2) = 0
  rotate_left
  · have heb : (sbMany ((s.size : Int) - 2) != 0) = true := by simpa using h2
    rintro e w2 ⟨rfl, rfl⟩
    go_wp2_with fail
    go_ret3
    exact GivesI.nil _ (by rw [HO.out, if_neg (by simp), if_pos h2]) hb
  rw [h2]
  rintro e w2 ⟨rfl, rfl⟩
  have hl8 : 3 ≤ s.size ∧ s.size ≤ 10 := by
    unfold sbMany at h2
    split at h2
    · simp at h2
    · split at h2
      · simp at h2
      · omega
  have hm := h2
  have hR : R = if (sbCodes [] ((sB s).drop 2)).2 ≠ 0 then (0, [], (sbCodes [] ((sB s).drop 2)).2) else (id, (sbCodes [] ((sB s).drop 2)).1, 0) := by
    rw [HO.out, if_neg (by simp), if_neg (by simp [hm])]
  clear HO hm h2
  have HR := hd hR; clear hR
  go_wp2_with fail
  go_loopw [8, 9] (fun o n w' => ∃ (k : Nat) (a : List Int), n = .int .i64 k ∧ 2 ≤ k ∧ k ≤ s.size ∧ OwnI w.heap.size w' o a ∧ Below w.heap.size w w' ∧ a.length ≤ k ∧ sbCodes a ((sB s).drop k) = sbCodes [] ((sB s).drop 2)) (fun o n _ => leftTo s.size n)
  case atStart => exact ⟨2, [], rfl, by omega, by omega, OwnI.nil _ _, hb, by simp, rfl⟩
  case round =>
    obtain ⟨k, A, rfl, hk2, hk, hO, hB, hA, hF⟩ := hrel
    by_cases hkl : k < s.size
    · have hBs := hB.size
      have hst := sbCodes_at A (l := sB s) (k := k) (by rw [hsl.out]; exact hkl)
      have hat := run_at s (k : Int) k rfl hkl
      have hx0 : (0 : Int) ≤ (bN (sB s) k : Int) := by omega
      have hx1 : (bN (sB s) k : Int) ≤ 255 := by have := bN_lt (sB s) k; omega
      generalize (bN (sB s) k : Int) = x at *
      go_wp2_with fail
      refine (coded_c x _).mono ?_
      by_cases hcd : sbCoded x = false
      · rw [hcd]
        rintro e' w3 ⟨rfl, rfl⟩
        rw [if_pos hcd, hF] at hst
        go_wp2_with fail
        go_ret3
        exact GivesI.nil 5 (by rw [HR.out, hst]; rfl) (by go_grown)
      have hct : sbCoded x = true := by simpa using hcd
      rw [hct]
      rintro e' w3 ⟨rfl, rfl⟩
      rw [if_neg hcd, hF] at hst
      go_wp2_with (at_builtin; refine wp_appI1 rfl _ _ rfl w.heap.size _ A rfl hO x rfl (by omega) hBs ?_; intro v4 w4 ho4 hb4)
      go_roundw
      case rel => exact ⟨k + 1, A ++ [x], by congr 1, by omega, by omega, ho4, hB.trans hb4, by simp; omega, hst.symm⟩
      case measure => simp [leftTo]; omega
    · have hke : k = s.size := by omega
      subst hke
      rw [List.drop_of_length_le (by rw [hsl.out]; omega)] at hF
      have hF' : sbCodes [] ((sB s).drop 2) = (A, 0) := hF.symm
      rw [hF', if_neg (by simp)] at HR
      clear hF hF'
      go_wp2_with fail
      go_ret3
      rw [HR.out]
      exact ⟨_, rfl, hO, by go_grown⟩

set_option maxRecDepth 100000 in
set_option maxHeartbeats 8000000 in
theorem refOfAck15_c (s : ByteArray) (w : World) (hs : s.size ≤ 140737488351232) :
    Calls Tryd.prog 18 #[.string s] w (GivesI w (sbOfAck (sB s))) := by
  have hsl : Hd ((sB s).length = s.size) := sB_len s
  have hbr := @sbBegin_rng (sB s)
  have hof : sbOfAck (sB s) = if (sbBegin (sB s)).2 ≠ 0 then (0, [], (sbBegin (sB s)).2) else if sbMany ((s.size : Int) - 2) ≠ 0 then (0, [], sbMany ((s.size : Int) - 2)) else if (sbCodes [] ((sB s).drop 2)).2 ≠ 0 then (0, [], (sbCodes [] ((sB s).drop 2)).2) else ((sbBegin (sB s)).1, (sbCodes [] ((sB s).drop 2)).1, 0) := by
    rw [sbOfAck, hsl.out]
  generalize sbOfAck (sB s) = R at hof ⊢
  have HO := hd hof; clear hof
  go_enter Tryd.func18, Tryd.ntmps18
  go_wp2_with fail
  refine (refBegin_c s _ hs).mono ?_
  generalize sbBegin (sB s) = g at hbr HO ⊢
  obtain ⟨id, e⟩ := g
  simp only at hbr HO ⊢
  rintro e' w1 ⟨rfl, hb⟩
  by_cases he : e = 0
  rotate_left
  · have heb : (e != 0) = true := by simpa using he
    go_wp2_with fail
    go_ret3
    exact GivesI.nil e (by rw [HO.out, if_pos he]) hb
  subst he
  have h2l := (hbr rfl).1
  rw [hsl.out] at h2l
  clear hbr
  by_cases h2 : s.size = 2
  · have h2b : ((s.size : Int) == 2) = true := by simp; omega
    go_wp2_with fail
    go_ret3
    have hm : sbMany ((s.size : Int) - 2) = 4 := by unfold sbMany; rw [if_pos (by omega)]
    exact GivesI.nil 4 (by rw [HO.out, if_neg (by simp), hm]; rfl) hb
  have h2b : ((s.size : Int) == 2) = false := by simp; omega
  by_cases h3 : 8 < (s.size : Int) - 2
  · go_wp2_with fail
    go_ret3
    have hm : sbMany ((s.size : Int) - 2) = 6 := by unfold sbMany; rw [if_neg (by omega), if_pos (by omega)]
    exact GivesI.nil 6 (by rw [HO.out, if_neg (by simp), hm]; rfl) hb
  have hl8 : 3 ≤ s.size ∧ s.size ≤ 10 := by omega
  have hm : sbMany ((s.size : Int) - 2) = 0 := by unfold sbMany; rw [if_neg (by omega), if_neg (by omega)]
  have hR : R = if (sbCodes [] ((sB s).drop 2)).2 ≠ 0 then (0, [], (sbCodes [] ((sB s).drop 2)).2) else (id, (sbCodes [] ((sB s).drop 2)).1, 0) := by
    rw [HO.out, if_neg (by simp), if_neg (by simp [hm])]
  clear HO hm h2
  have HR := hd hR; clear hR
  go_wp2_with fail
  go_loopw [7, 8] (fun o n w' => ∃ (k : Nat) (a : List Int), n = .int .i64 k ∧ 2 ≤ k ∧ k ≤ s.size ∧ OwnI w.heap.size w' o a ∧ Below w.heap.size w w' ∧ a.length ≤ k ∧ sbCodes a ((sB s).drop k) = sbCodes [] ((sB s).drop 2)) (fun o n _ => leftTo s.size n)
  case atStart => exact ⟨2, [], rfl, by omega, by omega, OwnI.nil _ _, hb, by simp, rfl⟩
  case round =>
    obtain ⟨k, A, rfl, hk2, hk, hO, hB, hA, hF⟩ := hrel
    by_cases hkl : k < s.size
    · have hBs := hB.size
      have hst := sbCodes_at A (l := sB s) (k := k) (by rw [hsl.out]; exact hkl)
      have hat := run_at s (k : Int) k rfl hkl
      have hx0 : (0 : Int) ≤ (bN (sB s) k : Int) := by omega
      have hx1 : (bN (sB s) k : Int) ≤ 255 := by have := bN_lt (sB s) k; omega
      generalize (bN (sB s) k : Int) = x at *
      go_wp2_with fail
      refine (refCoded_c x _).mono ?_
      by_cases hcd : sbCoded x = false
      · rw [hcd]
        rintro e' w3 ⟨rfl, rfl⟩
        rw [if_pos hcd, hF] at hst
        go_wp2_with fail
        go_ret3
        exact GivesI.nil 5 (by rw [HR.out, hst]; rfl) (by go_grown)
      have hct : sbCoded x = true := by simpa using hcd
      rw [hct]
      rintro e' w3 ⟨rfl, rfl⟩
      rw [if_neg hcd, hF] at hst
      go_wp2_with (at_builtin; refine wp_appI1 rfl _ _ rfl w.heap.size _ A rfl hO x rfl (by omega) hBs ?_; intro v4 w4 ho4 hb4)
      go_roundw
      case rel => exact ⟨k + 1, A ++ [x], by congr 1, by omega, by omega, ho4, hB.trans hb4, by simp; omega, hst.symm⟩
      case measure => simp [leftTo]; omega
    · have hke : k = s.size := by omega
      subst hke
      rw [List.drop_of_length_le (by rw [hsl.out]; omega)] at hF
      have hF' : sbCodes [] ((sB s).drop 2) = (A, 0) := hF.symm
      rw [hF', if_neg (by simp)] at HR
      clear hF hF'
      go_wp2_with fail
      go_ret3
      rw [HR.out]
      exact ⟨_, rfl, hO, by go_grown⟩

theorem take_more {a b : List Int} {k : Nat} {x : Int} (h : a.take k = b.take k) (ha : a[k]? = some x) (hb : b[k]? = some x) : a.take (k + 1) = b.take (k + 1) := by
  rw [List.take_add_one, List.take_add_one, h, ha, hb]

set_option maxRecDepth 100000 in
set_option maxHeartbeats 4000000 in
theorem ints_c (v1 v2 : Value) (a b : List Int) (w : World) (h1 : Is w v1 a) (h2 : Is w v2 b) :
    Calls Tryd.prog 19 #[v1, v2] w fun e w' => e = .returned (.bool (decide (a = b))) ∧ Below w.heap.size w w' := by
  obtain ⟨a1, c1, rfl⟩ := h1.slice
  obtain ⟨a2, c2, rfl⟩ := h2.slice
  have hm1 := h1.len
  unfold maxLen at hm1
  have hmx : a.length ≤ 9223372036854775807 := by omega
  clear hm1
  by_cases hl : a.length = b.length
  rotate_left
  · have hlb : ((a.length : Int) != (b.length : Int)) = true := by simp; omega
    have hne : Hd (decide (a = b) = false) := decide_eq_false (fun e => hl (by rw [e]))
    clear hmx
    go_enter Tryd.func19, Tryd.ntmps19
    go_wp2_with fail
    go_ret
    exact ⟨ret_bool hne.out.symm, by go_grown⟩
  have HV1 := hd h1; have HV2 := hd h2; have Hl := hd hl; clear h1 h2
  rw [← hl] at HV2
  have HV2' : Hd (Is w (.slice a2 a.length c2) b) := HV2
  have hlb : ((a.length : Int) != (a.length : Int)) = false := by simp
  clear hl
  rw [← Hl.out]
  go_enter Tryd.func19, Tryd.ntmps19
  go_wp2_with fail
  go_loopw [5] (fun n w' => ∃ k : Nat, n = .int .i64 k ∧ k ≤ a.length ∧ Below w.heap.size w w' ∧ a.take k = b.take k) (fun n _ => leftTo a.length n)
  case atStart => exact ⟨0, rfl, by omega, by go_grown, rfl⟩
  case round =>
    obtain ⟨k, rfl, hk, hB, hT⟩ := hrel
    by_cases hkl : k < a.length
    · obtain ⟨x, hx⟩ : ∃ x, a[k]? = some x := ⟨_, List.getElem?_eq_getElem hkl⟩
      obtain ⟨y, hy⟩ : ∃ y, b[k]? = some y := ⟨_, List.getElem?_eq_getElem (by rw [← Hl.out]; exact hkl)⟩
      obtain ⟨b1, o1, rfl, hl1, hc1⟩ := HV1.out.at hx
      obtain ⟨b2, o2, rfl, hl2, hc2⟩ := HV2'.out.at hy
      replace hc1 := (bcell hB _ _ hl1).trans hc1
      replace hc2 := (bcell hB _ _ hl2).trans hc2
      by_cases hxy : x = y
      · subst hxy
        have hT2 := take_more hT hx hy
        go_wp2_with fail
        go_quiet (fail)
        go_wp2_with fail
        go_roundw
        case rel => exact ⟨k + 1, by congr 1, by omega, ⟨hB.os, hB.tape, hB.output, hB.size, hB.block⟩, hT2⟩
        case measure => simp [leftTo]; omega
      · have hxyb : (x != y) = true := by simpa using hxy
        have hne : Hd (decide (a = b) = false) := decide_eq_false (fun e => by subst e; rw [hx] at hy; exact hxy (Option.some.inj hy))
        go_wp2_with fail
        go_quiet (fail)
        go_wp2_with fail
        go_ret
        exact ⟨ret_bool hne.out.symm, ⟨hB.os, hB.tape, hB.output, hB.size, hB.block⟩⟩
    · have hke : k = a.length := by omega
      subst hke
      have he : Hd (decide (a = b) = true) := decide_eq_true (by rw [List.take_length, Hl.out, List.take_length] at hT; exact hT)
      go_wp2_with fail
      go_ret
      exact ⟨ret_bool he.out.symm, by go_grown⟩

end Go.Proofs.YtgafhnomkeiakaaDoor
