/- A bundle of texts (merged for the limit on files): SubAck2, PacMem, PacAt, PacWrap. -/
import Derived.Test.YtjlnlgemngpelaaGreatDoorZa11
import Derived.Test.YtjlnlgemngpelaaGreatDoorZa3
import Derived.Test.YtjlnlgemngpelaaGreatDoorZa4
import Derived.Test.YtjlnlgemngpelaaGreatDoorZa9
import Derived.Lib.BufferMore
import Derived.Deep.MidRow
/- Answers to wishes: what bytes tell: the walks of the program and of the reference (printed by wip/gen/suback2.py). -/
namespace Go.Proofs.YtjlnlgemngpelaaGreatDoor
open Go.RowKit
set_option linter.unusedVariables false
set_option linter.unusedSimpArgs false

/-- A number, numbers of one's own, an error. -/
def GivesI (w : World) (r : Int × List Int × Int) (e : Ending) (w' : World) : Prop :=
  ∃ v, e = .returned (.tuple #[.int .i64 r.1, v, .int .i64 r.2.2]) ∧ OwnI w.heap.size w' v r.2.1 ∧ Below w.heap.size w w'
theorem GivesI.nil {w w' : World} {r : Int × List Int × Int} (e : Int) (h : r = (0, [], e)) (hb : Below w.heap.size w w') : GivesI w r (.returned (.tuple #[.int .i64 0, .slice none 0 0, .int .i64 e])) w' := by
  subst h; exact ⟨_, rfl, OwnI.nil _ _, hb⟩
theorem sbCodes_at (a : List Int) {l : List UInt8} {k : Nat} (hk : k < l.length) :
    sbCodes a (l.drop k) = if sbCoded (bN l k : Int) = false then ([], 5) else sbCodes (a ++ [(bN l k : Int)]) (l.drop (k + 1)) := by
  have hb : (l[k]).toNat = bN l k := by unfold bN; rw [List.getD_eq_getElem?_getD, List.getElem?_eq_getElem hk]; rfl
  rw [List.drop_eq_getElem_cons hk, ← hb]
  rfl

set_option maxRecDepth 100000 in
set_option maxHeartbeats 8000000 in
theorem subOfAck_c (s : ByteArray) (w : World) (hs : s.size ≤ 140737488351232) :
    Calls Tryz.prog 130 #[.string s] w (GivesI w (sbOfAck (sB s))) := by
  have hsl : Hd ((sB s).length = s.size) := sB_len s
  have hbr := @sbBegin_rng (sB s)
  have hof : sbOfAck (sB s) = if (sbBegin (sB s)).2 ≠ 0 then (0, [], (sbBegin (sB s)).2) else if sbMany ((s.size : Int) - 2) ≠ 0 then (0, [], sbMany ((s.size : Int) - 2)) else if (sbCodes [] ((sB s).drop 2)).2 ≠ 0 then (0, [], (sbCodes [] ((sB s).drop 2)).2) else ((sbBegin (sB s)).1, (sbCodes [] ((sB s).drop 2)).1, 0) := by
    rw [sbOfAck, hsl.out]
  generalize sbOfAck (sB s) = R at hof ⊢
  have HO := hd hof; clear hof
  go_enter Tryz.func130, Tryz.ntmps130
  go_wp2_with fail
  refine (subBegin_c s _ hs).mono ?_
  generalize sbBegin (sB s) = g at hbr HO ⊢
  obtain ⟨id, e⟩ := g
  simp only at hbr HO ⊢
  rintro e' w1 ⟨rfl, hb⟩
  by_cases he : e = 0
  rotate_left
  · have heb : (e != 0) = true := by simpa using he
    go_wp2_with fail
    go_ret3
    exact GivesI.nil e (by rw [HO.out, if_pos he]) hb
  subst he
  have h2l := (hbr rfl).1
  rw [hsl.out] at h2l
  clear hbr
  go_wp2_with fail
  refine (many_c _ _).mono ?_
  by_cases h2 : sbMany ((s.size : Int) - 2) = 0
  rotate_left
  · have heb : (sbMany ((s.size : Int) - 2) != 0) = true := by simpa using h2
    rintro e w2 ⟨rfl, rfl⟩
    go_wp2_with fail
    go_ret3
    exact GivesI.nil _ (by rw [HO.out, if_neg (by simp), if_pos h2]) hb
  rw [h2]
  rintro e w2 ⟨rfl, rfl⟩
  have hl8 : 3 ≤ s.size ∧ s.size ≤ 10 := by
    unfold sbMany at h2
    split at h2
    · simp at h2
    · split at h2
      · simp at h2
      · omega
  have hm := h2
  have hR : R = if (sbCodes [] ((sB s).drop 2)).2 ≠ 0 then (0, [], (sbCodes [] ((sB s).drop 2)).2) else (id, (sbCodes [] ((sB s).drop 2)).1, 0) := by
    rw [HO.out, if_neg (by simp), if_neg (by simp [hm])]
  clear HO hm h2
  have HR := hd hR; clear hR
  go_wp2_with fail
  go_loopw [8, 9] (fun o n w' => ∃ (k : Nat) (a : List Int), n = .int .i64 k ∧ 2 ≤ k ∧ k ≤ s.size ∧ OwnI w.heap.size w' o a ∧ Below w.heap.size w w' ∧ a.length ≤ k ∧ sbCodes a ((sB s).drop k) = sbCodes [] ((sB s).drop 2)) (fun o n _ => leftTo s.size n)
  case atStart => exact ⟨2, [], rfl, by omega, by omega, OwnI.nil _ _, hb, by simp, rfl⟩
  case round =>
    obtain ⟨k, A, rfl, hk2, hk, hO, hB, hA, hF⟩ := hrel
    by_cases hkl : k < s.size
    · have hBs := hB.size
      have hst := sbCodes_at A (l := sB s) (k := k) (by rw [hsl.out]; exact hkl)
      have hat := run_at s (k : Int) k rfl hkl
      have hx0 : (0 : Int) ≤ (bN (sB s) k : Int) := by omega
      have hx1 : (bN (sB s) k : Int) ≤ 255 := by have := bN_lt (sB s) k; omega
      generalize (bN (sB s) k : Int) = x at *
      go_wp2_with fail
      refine (coded_c x _).mono ?_
      by_cases hcd : sbCoded x = false
      · rw [hcd]
        rintro e' w3 ⟨rfl, rfl⟩
        rw [if_pos hcd, hF] at hst
        go_wp2_with fail
        go_ret3
        exact GivesI.nil 5 (by rw [HR.out, hst]; rfl) (by go_grown)
      have hct : sbCoded x = true := by simpa using hcd
      rw [hct]
      rintro e' w3 ⟨rfl, rfl⟩
      rw [if_neg hcd, hF] at hst
      go_wp2_with (at_builtin; refine wp_appI1 rfl _ _ rfl w.heap.size _ A rfl hO x rfl (by omega) hBs ?_; intro v4 w4 ho4 hb4)
      go_roundw
      case rel => exact ⟨k + 1, A ++ [x], by congr 1, by omega, by omega, ho4, hB.trans hb4, by simp; omega, hst.symm⟩
      case measure => simp [leftTo]; omega
    · have hke : k = s.size := by omega
      subst hke
      rw [List.drop_of_length_le (by rw [hsl.out]; omega)] at hF
      have hF' : sbCodes [] ((sB s).drop 2) = (A, 0) := hF.symm
      rw [hF', if_neg (by simp)] at HR
      clear hF hF'
      go_wp2_with fail
      go_ret3
      rw [HR.out]
      exact ⟨_, rfl, hO, by go_grown⟩

set_option maxRecDepth 100000 in
set_option maxHeartbeats 8000000 in
theorem refOfAck15_c (s : ByteArray) (w : World) (hs : s.size ≤ 140737488351232) :
    Calls Tryz.prog 102 #[.string s] w (GivesI w (sbOfAck (sB s))) := by
  have hsl : Hd ((sB s).length = s.size) := sB_len s
  have hbr := @sbBegin_rng (sB s)
  have hof : sbOfAck (sB s) = if (sbBegin (sB s)).2 ≠ 0 then (0, [], (sbBegin (sB s)).2) else if sbMany ((s.size : Int) - 2) ≠ 0 then (0, [], sbMany ((s.size : Int) - 2)) else if (sbCodes [] ((sB s).drop 2)).2 ≠ 0 then (0, [], (sbCodes [] ((sB s).drop 2)).2) else ((sbBegin (sB s)).1, (sbCodes [] ((sB s).drop 2)).1, 0) := by
    rw [sbOfAck, hsl.out]
  generalize sbOfAck (sB s) = R at hof ⊢
  have HO := hd hof; clear hof
  go_enter Tryz.func102, Tryz.ntmps102
  go_wp2_with fail
  refine (refBegin_c s _ hs).mono ?_
  generalize sbBegin (sB s) = g at hbr HO ⊢
  obtain ⟨id, e⟩ := g
  simp only at hbr HO ⊢
  rintro e' w1 ⟨rfl, hb⟩
  by_cases he : e = 0
  rotate_left
  · have heb : (e != 0) = true := by simpa using he
    go_wp2_with fail
    go_ret3
    exact GivesI.nil e (by rw [HO.out, if_pos he]) hb
  subst he
  have h2l := (hbr rfl).1
  rw [hsl.out] at h2l
  clear hbr
  by_cases h2 : s.size = 2
  · have h2b : ((s.size : Int) == 2) = true := by simp; omega
    go_wp2_with fail
    go_ret3
    have hm : sbMany ((s.size : Int) - 2) = 4 := by unfold sbMany; rw [if_pos (by omega)]
    exact GivesI.nil 4 (by rw [HO.out, if_neg (by simp), hm]; rfl) hb
  have h2b : ((s.size : Int) == 2) = false := by simp; omega
  by_cases h3 : 8 < (s.size : Int) - 2
  · go_wp2_with fail
    go_ret3
    have hm : sbMany ((s.size : Int) - 2) = 6 := by unfold sbMany; rw [if_neg (by omega), if_pos (by omega)]
    exact GivesI.nil 6 (by rw [HO.out, if_neg (by simp), hm]; rfl) hb
  have hl8 : 3 ≤ s.size ∧ s.size ≤ 10 := by omega
  have hm : sbMany ((s.size : Int) - 2) = 0 := by unfold sbMany; rw [if_neg (by omega), if_neg (by omega)]
  have hR : R = if (sbCodes [] ((sB s).drop 2)).2 ≠ 0 then (0, [], (sbCodes [] ((sB s).drop 2)).2) else (id, (sbCodes [] ((sB s).drop 2)).1, 0) := by
    rw [HO.out, if_neg (by simp), if_neg (by simp [hm])]
  clear HO hm h2
  have HR := hd hR; clear hR
  go_wp2_with fail
  go_loopw [7, 8] (fun o n w' => ∃ (k : Nat) (a : List Int), n = .int .i64 k ∧ 2 ≤ k ∧ k ≤ s.size ∧ OwnI w.heap.size w' o a ∧ Below w.heap.size w w' ∧ a.length ≤ k ∧ sbCodes a ((sB s).drop k) = sbCodes [] ((sB s).drop 2)) (fun o n _ => leftTo s.size n)
  case atStart => exact ⟨2, [], rfl, by omega, by omega, OwnI.nil _ _, hb, by simp, rfl⟩
  case round =>
    obtain ⟨k, A, rfl, hk2, hk, hO, hB, hA, hF⟩ := hrel
    by_cases hkl : k < s.size
    · have hBs := hB.size
      have hst := sbCodes_at A (l := sB s) (k := k) (by rw [hsl.out]; exact hkl)
      have hat := run_at s (k : Int) k rfl hkl
      have hx0 : (0 : Int) ≤ (bN (sB s) k : Int) := by omega
      have hx1 : (bN (sB s) k : Int) ≤ 255 := by have := bN_lt (sB s) k; omega
      generalize (bN (sB s) k : Int) = x at *
      go_wp2_with fail
      refine (refCoded_c x _).mono ?_
      by_cases hcd : sbCoded x = false
      · rw [hcd]
        rintro e' w3 ⟨rfl, rfl⟩
        rw [if_pos hcd, hF] at hst
        go_wp2_with fail
        go_ret3
        exact GivesI.nil 5 (by rw [HR.out, hst]; rfl) (by go_grown)
      have hct : sbCoded x = true := by simpa using hcd
      rw [hct]
      rintro e' w3 ⟨rfl, rfl⟩
      rw [if_neg hcd, hF] at hst
      go_wp2_with (at_builtin; refine wp_appI1 rfl _ _ rfl w.heap.size _ A rfl hO x rfl (by omega) hBs ?_; intro v4 w4 ho4 hb4)
      go_roundw
      case rel => exact ⟨k + 1, A ++ [x], by congr 1, by omega, by omega, ho4, hB.trans hb4, by simp; omega, hst.symm⟩
      case measure => simp [leftTo]; omega
    · have hke : k = s.size := by omega
      subst hke
      rw [List.drop_of_length_le (by rw [hsl.out]; omega)] at hF
      have hF' : sbCodes [] ((sB s).drop 2) = (A, 0) := hF.symm
      rw [hF', if_neg (by simp)] at HR
      clear hF hF'
      go_wp2_with fail
      go_ret3
      rw [HR.out]
      exact ⟨_, rfl, hO, by go_grown⟩

theorem take_more {a b : List Int} {k : Nat} {x : Int} (h : a.take k = b.take k) (ha : a[k]? = some x) (hb : b[k]? = some x) : a.take (k + 1) = b.take (k + 1) := by
  rw [List.take_add_one, List.take_add_one, h, ha, hb]

end Go.Proofs.YtjlnlgemngpelaaGreatDoor

/- Packets: what lies in memory; rows cloned. -/
namespace Go.Proofs.YtjlnlgemngpelaaGreatDoor
open Go.RowKit
set_option linter.unusedVariables false
set_option linter.unusedSimpArgs false

/-- These cells lie in a block, from its start. -/
def At (w : World) (b : Nat) (l : List Value) : Prop := b < w.heap.size ∧ ∀ j u, l[j]? = some u → w.cell? ⟨b, j, none⟩ = some u
theorem At.lt {w : World} {b : Nat} {l : List Value} (h : At w b l) : b < w.heap.size := h.1
theorem At.at {w : World} {b : Nat} {l : List Value} (h : At w b l) (j : Nat) {u : Value} (hj : l[j]? = some u) : w.cell? ⟨b, j, none⟩ = some u := h.2 j u hj
theorem At.new (w : World) (t : TypeId) (l : List Value) : At (w.alloc (.cells l.toArray t)) w.heap.size l :=
  ⟨by simp, fun j u hu => by rw [World.cell?_alloc_new]; simpa using hu⟩
theorem At.keep {B : Nat} {w w' : World} {b : Nat} {l : List Value} (h : At w b l) (hb : Below B w w') (hB : b < B) : At w' b l :=
  ⟨Nat.lt_of_lt_of_le h.1 hb.size, fun j u hu => (bcell hb _ _ hB).trans (h.2 j u hu)⟩
theorem At.keeps {S : List Nat} {w w' : World} {b : Nat} {l : List Value} (h : At w b l) (hk : Keeps S w w') (hn : b ∉ S) : At w' b l :=
  ⟨Nat.lt_of_lt_of_le h.1 hk.size, fun j u hu => (hk.cell h.1 hn).trans (h.2 j u hu)⟩
theorem At.set {w : World} {b : Nat} {l : List Value} (h : At w b l) (i : Nat) (v : Value) (hi : i < l.length) : At (w.setCell ⟨b, i, none⟩ v) b (l.set i v) := by
  refine ⟨by simpa [go_sem] using h.1, fun j u hu => ?_⟩
  have hx := h.2 i _ (List.getElem?_eq_getElem hi)
  rw [List.getElem?_set] at hu
  by_cases e : i = j
  · subst e
    rw [if_pos rfl, if_pos hi] at hu
    obtain rfl := Option.some.inj hu
    simp [go_sem, hx]
  · rw [if_neg e] at hu
    have := h.2 j u hu
    have hne : j ≠ i := fun h => e h.symm
    simp [go_sem, this, hne]
theorem At.other {w : World} {b : Nat} {l : List Value} (h : At w b l) (c i : Nat) (v : Value) (hc : b ≠ c) : At (w.setCell ⟨c, i, none⟩ v) b l := by
  refine ⟨by simpa [go_sem] using h.1, fun j u hu => ?_⟩
  have := h.2 j u hu
  simp [go_sem, this, hc]
theorem At.drew {w : World} {b : Nat} {l : List Value} (h : At w b l) : At w.drew b l := ⟨h.1, fun j u hu => by have := h.2 j u hu; simpa [go_sem] using this⟩
theorem Free.drew {w : World} {b : Nat} (h : Free w b) : Free w.drew b := fun o => by have := h o; simpa [go_sem] using this
theorem Free.new (w : World) (t : TypeId) (l : List Value) : Free (w.alloc (.cells l.toArray t)) w.heap.size := fun o => by simp [go_sem]
theorem Free.keep {B : Nat} {w w' : World} {b : Nat} (h : Free w b) (hb : Below B w w') (hB : b < B) : Free w' b := fun o => (bfree hb _ _ hB).trans (h o)

theorem Owns.set {w : World} {B e size n : Nat} {v : Value} {xs : List Value} (h : w.ownsRow B e size v n xs) {p : Addr} (hp : p.block < B) (u : Value) : (w.setCell p u).ownsRow B e size v n xs := by
  refine ⟨h.1, ?_⟩
  rcases h.2 with h0 | ⟨g, cap, cur, rfl, h1, h2, h3⟩
  · exact .inl h0
  · exact .inr ⟨g, cap, cur, rfl, h1, by rw [Below.heap_setCell _ _ _ _ (by omega)]; exact h2, h3⟩
theorem Owns.keeps {S : List Nat} {w w' : World} {B e size n : Nat} {v : Value} {xs : List Value} (h : w.ownsRow B e size v n xs) (hk : Keeps S w w') (hS : ∀ k, k ∈ S → k < B) : w'.ownsRow B e size v n xs := by
  refine ⟨h.1, ?_⟩
  rcases h.2 with h0 | ⟨g, cap, cur, rfl, h1, h2, h3⟩
  · exact .inl h0
  · exact .inr ⟨g, cap, cur, rfl, h1, by rw [hk.block g (Array.getElem?_eq_some_iff.1 h2).1 (fun hm => by have := hS g hm; omega)]; exact h2, h3⟩

theorem isW_cells : ∀ l : List Wish, ∀ u ∈ wCells l, u.oneCell' = true
  | [], u, h => by simp [wCells] at h
  | f :: r, u, h => by
    simp only [wCells, Wish.cells, List.mem_append, List.mem_cons, List.not_mem_nil, or_false] at h
    rcases h with (rfl | rfl) | h
    · rfl
    · rfl
    · exact isW_cells r u h
set_option maxRecDepth 100000 in
set_option maxHeartbeats 1000000 in
theorem cloneW_c (v : Value) (l : List Wish) (w : World) (hv : Ws w v l) (hl : l.length * 24 ≤ 140737488351232) :
    Calls Tryz.prog 47 #[v] w fun e w' => ∃ v', e = .returned v' ∧ OwnW w.heap.size w' v' l ∧ Below w.heap.size w w' := by
  have hv0 := hv
  obtain ⟨a, c, rfl, h1, h2, h3, h4⟩ := hv
  have HV := hd hv0
  clear hv0
  cases a with
  | none =>
    obtain ⟨e1, e2, e3⟩ := h3 rfl
    have : l = [] := List.eq_nil_of_length_eq_zero e1
    subst this e2
    clear h1 h2 h3 h4 e1 e3
    rw [List.length_nil]
    have hnil : ∀ W, (binOp .eql 33 (.slice none 0 0) (.slice none 0 0)).run Tryz.prog W = .ok (.bool true) W := fun W => Lib.run_eql_slice_nil_nil W _ _ Tryz.underlying33
    go_enter Tryz.func47, Tryz.ntmps47
    go_wp2_with fail
    go_ret
    exact ⟨_, rfl, OwnW.nil _ _, Below.refl _ _⟩
  | some ad =>
    clear h3 h4
    obtain ⟨i0, hi, hz0, hz1, hz2⟩ := info_parts info_filter
    have hempty := owns_lit w.heap.size 76 w 2 0 [] w.heap.size rfl (Nat.le_refl _) (by unfold maxLen; simp) rfl
    have hal : Below w.heap.size w (w.alloc (.cells #[] 76)) := (Below.refl _ _).alloc (Nat.le_refl _) _
    have hlen : l.length ≤ maxLen := by unfold maxLen; omega
    have HE := hd hempty
    clear hempty
    have hnil : ∀ W, (binOp .eql 33 (.slice (some ad) l.length c) (.slice none 0 0)).run Tryz.prog W = .ok (.bool false) W := fun W => Lib.run_eql_slice_some_nil W _ _ _ Tryz.underlying33
    go_enter Tryz.func47, Tryz.ntmps47
    go_wp2_with (at_builtin; refine wp_app rfl _ _ 33 rfl w.heap.size 76 i0 (.agg #[.string ⟨#[]⟩, .int .i64 0]) 2 24 Tryz.underlying33 hi hz0 hz1 hz2 rfl (by decide) _ 0 [] rfl HE.out _ l.length (wCells l) rfl (Rd.below' HV.out hal (Nat.le_refl _)) (by rw [wCells_len]) (isW_cells l) (by omega) (by omega) (by simp [go_sem]) ?_; intro v4 w4 ho4 hb4 hn4)
    go_ret
    refine ⟨_, rfl, ?_, hal.trans hb4⟩
    unfold OwnW
    simpa using ho4

set_option maxRecDepth 100000 in
set_option maxHeartbeats 1000000 in
theorem cloneI_c (v : Value) (l : List Int) (w : World) (hv : Is w v l) (hl : l.length * 8 ≤ 140737488351232) :
    Calls Tryz.prog 49 #[v] w fun e w' => ∃ v', e = .returned v' ∧ OwnI w.heap.size w' v' l ∧ Below w.heap.size w w' := by
  have hv0 := hv
  obtain ⟨a, c, rfl, h1, h2, h3, h4⟩ := hv
  have HV := hd hv0
  clear hv0
  cases a with
  | none =>
    obtain ⟨e1, e2, e3⟩ := h3 rfl
    have : l = [] := List.eq_nil_of_length_eq_zero e1
    subst this e2
    clear h1 h2 h3 h4 e1 e3
    rw [List.length_nil]
    have hnil : ∀ W, (binOp .eql 34 (.slice none 0 0) (.slice none 0 0)).run Tryz.prog W = .ok (.bool true) W := fun W => Lib.run_eql_slice_nil_nil W _ _ Tryz.underlying34
    go_enter Tryz.func49, Tryz.ntmps49
    go_wp2_with fail
    go_ret
    exact ⟨_, rfl, OwnI.nil _ _, Below.refl _ _⟩
  | some ad =>
    clear h3 h4
    obtain ⟨i0, hi, hz0, hz1, hz2⟩ := info_parts info_i64
    have hempty := owns_lit w.heap.size 3 w 1 0 [] w.heap.size rfl (Nat.le_refl _) (by unfold maxLen; simp) rfl
    have hal : Below w.heap.size w (w.alloc (.cells #[] 3)) := (Below.refl _ _).alloc (Nat.le_refl _) _
    have hlen : l.length ≤ maxLen := by unfold maxLen; omega
    have HE := hd hempty
    clear hempty
    have hnil : ∀ W, (binOp .eql 34 (.slice (some ad) l.length c) (.slice none 0 0)).run Tryz.prog W = .ok (.bool false) W := fun W => Lib.run_eql_slice_some_nil W _ _ _ Tryz.underlying34
    go_enter Tryz.func49, Tryz.ntmps49
    go_wp2_with (at_builtin; refine wp_app rfl _ _ 34 rfl w.heap.size 3 i0 (.int .i64 0) 1 8 Tryz.underlying34 hi hz0 hz1 hz2 rfl (by decide) _ 0 [] rfl HE.out _ l.length (l.map iV) rfl (Rd.below' HV.out hal (Nat.le_refl _)) (by simp) (by intro u hu; obtain ⟨x, _, rfl⟩ := List.mem_map.1 hu; rfl) (by omega) (by omega) (by simp [go_sem]) ?_; intro v4 w4 ho4 hb4 hn4)
    go_ret
    refine ⟨_, rfl, ?_, hal.trans hb4⟩
    unfold OwnI
    simpa using ho4

/-- append(out, f) of one wish, to a row of whatever length: the walk has laid a block of its cells for it. -/
theorem wpo_appW1L {w : World} {o : Oper} {a : Act} {K : Act → World → Prop} {Q : Exit → Act → World → Prop} (s x : Operand)
    (ho : o.op = .call { callee := .builtin .append, args := #[s, x], argTypes := #[33, 33] })
    (B : Nat) (v : Value) (l : List Wish) (hv : a.eval s = v) (hown : OwnW B w v l) (T : ByteArray) (X : Int) (g : Nat) (hx : a.eval x = .slice (some ⟨g, 0, none⟩) 1 1) (hg : g = w.heap.size)
    (hlen : (l.length + 1) * 24 ≤ 140737488355328) (hbase : B ≤ w.heap.size)
    (h : ∀ v' w', OwnW B w' v' (l ++ [(T, X)]) → Below B w w' → K (a.put o.dst v') w') : Oper.wp Tryz.prog o a (w.alloc (.cells #[.string T, .int .i64 X] 76)) K Q := by
  subst hg
  obtain ⟨i0, hi, hz0, hz1, hz2⟩ := info_parts info_filter
  have hb : Below B w (w.alloc (.cells #[.string T, .int .i64 X] 76)) := (Below.refl B w).alloc hbase _
  have hb' : Below w.heap.size w (w.alloc (.cells #[.string T, .int .i64 X] 76)) := (Below.refl _ w).alloc (Nat.le_refl _) _
  have hone : Rd (w.alloc (.cells #[.string T, .int .i64 X] 76)) (.slice (some ⟨w.heap.size, 0, none⟩) 1 1) 1 [.string T, .int .i64 X] :=
    Owns.rd (owns_lit w.heap.size 76 w 2 1 [.string T, .int .i64 X] w.heap.size rfl (Nat.le_refl _) (by unfold maxLen; simp) rfl)
  obtain ⟨v', w', hr, h2, h3, h4⟩ := run_app (P := Tryz.prog) (w.alloc (.cells #[.string T, .int .i64 X] 76)) B 33 o.type 76 i0 (.agg #[.string ⟨#[]⟩, .int .i64 0]) 2 24 Tryz.underlying33 hi hz0 hz1 hz2 rfl (by decide) v l.length (wCells l) (hown.kept hb' (Nat.le_refl _)) _ 1 [.string T, .int .i64 X] hone rfl (by intro u hu; simp at hu; rcases hu with rfl | rfl <;> rfl) (by omega) (by unfold maxLen; omega) (by simp; omega)
  unfold Oper.wp execOp
  simp only [ho, resolve, invoke, builtin, Sem.run_bind, Sem.run_pure, Result.andThen_ok, List.map_toArray, List.map_cons, List.map_nil, hv, hx, hr]
  refine h v' w' ?_ (hb.trans h3)
  unfold OwnW
  rw [List.length_append, wCells_append]
  exact h2
theorem wp_appW1L {w : World} {ops : Array Oper} {rest : List Oper} {o : Oper} {a : Act} {Q : Exit → Act → World → Prop} (hgd : o.guard = none) (s x : Operand)
    (ho : o.op = .call { callee := .builtin .append, args := #[s, x], argTypes := #[33, 33] })
    (B : Nat) (v : Value) (l : List Wish) (hv : a.eval s = v) (hown : OwnW B w v l) (T : ByteArray) (X : Int) (g : Nat) (hx : a.eval x = .slice (some ⟨g, 0, none⟩) 1 1) (hg : g = w.heap.size)
    (hlen : (l.length + 1) * 24 ≤ 140737488355328) (hbase : B ≤ w.heap.size)
    (h : ∀ v' w', OwnW B w' v' (l ++ [(T, X)]) → Below B w w' → wpList Tryz.prog ops Q rest (a.put o.dst v') w') : wpList Tryz.prog ops Q (o :: rest) a (w.alloc (.cells #[.string T, .int .i64 X] 76)) :=
  wpList_plain hgd fun _ hK => wpo_appW1L s x ho B v l hv hown T X g hx hg hlen hbase fun v' w' h1 h2 => hK _ _ (h v' w' h1 h2)
set_option maxRecDepth 100000 in
set_option maxHeartbeats 4000000 in
theorem without_c (v : Value) (l : List Wish) (w : World) (hv : Ws w v l) (hl : l.length * 24 ≤ 140737488351232) :
    Calls Tryz.prog 48 #[v] w fun e w' => ∃ v', e = .returned v' ∧ OwnW w.heap.size w' v' (l.map fun f => (f.1, 0)) ∧ Below w.heap.size w w' := by
  have HV := hd hv
  obtain ⟨a, c, rfl, h1, h2, h3, h4⟩ := hv
  clear h3 h4
  obtain ⟨i0, hi, hz0, hz1, hz2⟩ := info_parts info_filter
  have hlen : l.length ≤ maxLen := by unfold maxLen; omega
  have hlm : l.length ≤ 9223372036854775000 := by omega
  go_enter Tryz.func48, Tryz.ntmps48
  go_wp2_with fail
  go_loopw [3, 8] (fun o i w' => ∃ k : Nat, i = .int .i64 k ∧ k ≤ l.length ∧ OwnW w.heap.size w' o ((l.take k).map fun f => (f.1, 0)) ∧ Below w.heap.size w w') (fun _ i _ => match i with | .int _ n => l.length - n.toNat | _ => 0)
  case atStart => exact ⟨0, rfl, by omega, OwnW.nil _ _, Below.refl _ _⟩
  case round =>
    obtain ⟨k, rfl, hk, hO, hB⟩ := hrel
    obtain ⟨oa, oc, rfl⟩ := Owns.slice hO
    by_cases hkl : k < l.length
    · obtain ⟨f, hf⟩ : ∃ f, l[k]? = some f := ⟨_, List.getElem?_eq_getElem hkl⟩
      obtain ⟨T, X⟩ := f
      have hW := HV.out.below' hB (Nat.le_refl _)
      obtain ⟨b, o, rfl, hbl, hc0, hc1⟩ := Ws.at hW hf
      have hfm := hd hf
      have hO' := OwnW.kept hO ((Below.refl _ wr).alloc (Nat.le_refl _) (.cells #[.string T, .int .i64 X] 76)) (Nat.le_refl _)
      have hll : ((l.take k).map fun f => (f.1, (0 : Int)) : List Wish).length = k := by simp; omega
      have hBs := hB.size
      have HO := hd hO'
      have HLL := hd hll
      clear hO' hll hO hW hf
      generalize hgm : ((l.take k).map fun f => (f.1, (0 : Int)) : List Wish) = m at *
      have HGM := hd hgm
      clear hgm
      go_wp2_with (at_builtin; refine wp_appW1L rfl _ _ rfl w.heap.size _ m rfl HO.out T 0 _ rfl (by simp [go_sem]) (by have := HLL.out; omega) (by simp [go_sem]; omega) ?_; intro v4 w4 ho4 hb4)
      go_roundw
      case rel =>
        refine ⟨k + 1, by congr 1, by omega, ?_, (hB.alloc hB.size _).trans hb4⟩
        rw [List.take_add_one, hfm.out, List.map_append, HGM.out]
        exact ho4
      case measure => simp; omega
    · have : k = l.length := by omega
      subst this
      rw [List.take_of_length_le (Nat.le_refl _)] at hO ⊢
      have HO := hd hO
      clear hO
      go_wp2_with fail
      go_ret
      exact ⟨_, rfl, HO.out, hB⟩
end Go.Proofs.YtjlnlgemngpelaaGreatDoor

/- Packets: whole structs out of and into memory: laws of the walk. -/
namespace Go.Proofs.YtjlnlgemngpelaaGreatDoor
open Go.RowKit
set_option linter.unusedVariables false
set_option linter.unusedSimpArgs false

theorem At.range {w : World} {b : Nat} {l : List Value} (h : At w b l) : w.rangeAt b 0 l := fun j v hv => by rw [Nat.zero_add]; exact h.2 j v hv
theorem At.part {w : World} {b : Nat} {l m : List Value} (h : At w b l) (o : Nat) (hm : ∀ j v, m[j]? = some v → l[o + j]? = some v) : w.rangeAt b o m := fun j v hv => h.2 _ _ (hm j v hv)
theorem At.there {w : World} {b : Nat} {l : List Value} (h : At w b l) (hf : Free w b) (o n : Nat) (hn : o + n ≤ l.length) : w.there b o n := fun j hj =>
  ⟨by rw [h.2 (o + j) _ (List.getElem?_eq_getElem (by omega))]; rfl, hf _⟩
theorem setCells_size (b : Nat) : ∀ (vs : List Value) (o : Nat) (w : World), (w.setCells b o vs).heap.size = w.heap.size
  | [], _, _ => rfl
  | v :: r, o, w => by rw [World.setCells, setCells_size b r]; simp [go_sem]
theorem keeps_setCells (b : Nat) : ∀ (vs : List Value) (o : Nat) (w a : World), Keeps [b] a w → Keeps [b] a (w.setCells b o vs)
  | [], _, _, _, h => h
  | v :: r, o, w, a, h => by rw [World.setCells]; exact keeps_setCells b r _ _ a (h.setCell (.inl (by simp)) v)
theorem free_setCells {b c : Nat} : ∀ (vs : List Value) (o : Nat) (w : World), Free w c → Free (w.setCells b o vs) c
  | [], _, _, h => h
  | v :: r, o, w, h => by rw [World.setCells]; exact free_setCells r _ _ (h.set _ v)

section
variable {w : World} {ops : Array Oper} {rest : List Oper} {o : Oper} {a : Act} {Q : Exit → Act → World → Prop}
/-- At this operation (a guard of an arm: with_reducible refine). -/
theorem wpl_at {P : Program} (h : wpList P ops Q (o :: rest) a w) : wpList P ops Q (o :: rest) a w := h
/-- A whole struct is stored at its block's start. -/
theorem wpl_storeAll (hgd : o.guard = none) (hdst : o.dst = none) (ty : TypeId) (x y : Operand) (ho : o.op = .store ty x y) (b : Nat) (cells l0 : List Value) (hx : a.eval x = .pointer (some ⟨b, 0, none⟩)) (hy : a.eval y = .agg cells.toArray)
    (hi : (Tryz.prog.info? ty).map (·.size) = some cells.length) (h1 : ∀ v ∈ cells, v.oneCell' = true) (hA : At w b l0) (hl : l0.length = cells.length) (hF : Free w b)
    (h : ∀ w', At w' b cells → Free w' b → Keeps [b] w w' → w'.heap.size = w.heap.size → wpList Tryz.prog ops Q rest a w') : wpList Tryz.prog ops Q (o :: rest) a w := by
  refine wpList_store_mid hgd ty x y ho b 0 cells.toArray hx hy (hA.there hF 0 _ (by simp; omega)) (by simpa using hi) (all_oneCell_toArray h1) ?_
  have hth := hA.there hF 0 cells.length (by omega)
  rw [hdst]
  refine h _ ⟨?_, fun j u hu => ?_⟩ (free_setCells _ _ _ hF) (keeps_setCells b _ _ _ _ (Keeps.refl _ _)) (setCells_size b _ _ _)
  · rw [setCells_size]; exact hA.1
  · have := World.rangeAt_setCells_same w b 0 cells hth j u hu
    simpa using this
/-- A struct is stored into a block's middle. -/
theorem wpl_storeMid (hgd : o.guard = none) (hdst : o.dst = none) (ty : TypeId) (x y : Operand) (ho : o.op = .store ty x y) (b k : Nat) (cells l0 l1 : List Value) (hx : a.eval x = .pointer (some ⟨b, k, none⟩)) (hy : a.eval y = .agg cells.toArray)
    (hi : (Tryz.prog.info? ty).map (·.size) = some cells.length) (h1 : ∀ v ∈ cells, v.oneCell' = true) (hA : At w b l0) (hl : l1 = l0.take k ++ cells ++ l0.drop (k + cells.length)) (hk : k + cells.length ≤ l0.length) (hF : Free w b)
    (h : ∀ w', At w' b l1 → Free w' b → Keeps [b] w w' → w'.heap.size = w.heap.size → wpList Tryz.prog ops Q rest a w') : wpList Tryz.prog ops Q (o :: rest) a w := by
  refine wpList_store_mid hgd ty x y ho b k cells.toArray hx hy (hA.there hF k _ (by simp; omega)) (by simpa using hi) (all_oneCell_toArray h1) ?_
  have hth := hA.there hF k cells.length (by omega)
  rw [hdst]
  refine h _ ⟨?_, fun j u hu => ?_⟩ (free_setCells _ _ _ hF) (keeps_setCells b _ _ _ _ (Keeps.refl _ _)) (setCells_size b _ _ _)
  · rw [setCells_size]; exact hA.1
  · subst hl
    have htl : (l0.take k).length = k := by simp; omega
    by_cases hj1 : j < k
    · rw [List.append_assoc, List.getElem?_append_left (by omega), List.getElem?_take_of_lt hj1] at hu
      rw [World.cell?_setCells_out b _ k w ⟨b, j, none⟩ (fun _ _ => .inl hj1)]
      exact hA.2 j u hu
    · by_cases hj2 : j < k + cells.length
      · rw [List.append_assoc, List.getElem?_append_right (by omega), List.getElem?_append_left (by omega), htl] at hu
        have := World.rangeAt_setCells_same w b k cells hth (j - k) u hu
        rwa [show k + (j - k) = j by omega] at this
      · rw [List.getElem?_append_right (by simp; omega), List.getElem?_drop] at hu
        rw [World.cell?_setCells_out b _ k w ⟨b, j, none⟩ (fun _ _ => .inr (by show k + cells.toArray.toList.length ≤ j; rw [List.toList_toArray]; omega))]
        refine hA.2 j u ?_
        rw [← hu]
        have e2 : k + cells.length + (j - (l0.take k ++ cells).length) = j := by rw [List.length_append, htl]; omega
        rw [e2]
/-- A whole struct is read. -/
theorem wpl_loadAt (hgd : o.guard = none) (ty : TypeId) (x : Operand) (ho : o.op = .load ty x) (b k : Nat) (hx : a.eval x = .pointer (some ⟨b, k, none⟩)) (cs : List Value) (d : TypeDesc) (hc : w.rangeAt b k cs)
    (hu : Tryz.prog.underlying ty = some d) (hd : d.isRow = true) (hi : (Tryz.prog.info? ty).map (·.size) = some cs.length)
    (h : wpList Tryz.prog ops Q rest (a.put o.dst (.agg cs.toArray)) w) : wpList Tryz.prog ops Q (o :: rest) a w :=
  wpList_load_mid hgd ty x ho b k hx cs d hc hu hd hi h
/-- The same behind a guard. -/
theorem wpl_loadAtG (hw : Region.wanted o (yielded ops a.tmps) = true) (ty : TypeId) (x : Operand) (ho : o.op = .load ty x) (b k : Nat) (hx : a.eval x = .pointer (some ⟨b, k, none⟩)) (cs : List Value) (d : TypeDesc) (hc : w.rangeAt b k cs)
    (hu : Tryz.prog.underlying ty = some d) (hd : d.isRow = true) (hi : (Tryz.prog.info? ty).map (·.size) = some cs.length)
    (h : wpList Tryz.prog ops Q rest (a.put o.dst (.agg cs.toArray)) w) : wpList Tryz.prog ops Q (o :: rest) a w :=
  wpList_step fun _ hK => by simp only [hw, if_true]; exact wp_load_mid ty x ho b k hx cs d hc hu hd hi (hK _ _ h)
end
section
variable {w : World} {ops : Array Oper} {rest : List Oper} {o : Oper} {a : Act} {Q : Exit → Act → World → Prop}
theorem wpl_box (hgd : o.guard = none) (ty : TypeId) (x : Operand) (ho : o.op = .box ty x) (L : List Value) (hx : a.eval x = .agg L.toArray) (g : Nat) (hg : w.heap.size = g)
    (h : ∀ w', At w' g L → Free w' g → Below g w w' → w'.heap.size = g + 1 → wpList Tryz.prog ops Q rest (a.put o.dst (.pointer (some ⟨g, 0, none⟩))) w') : wpList Tryz.prog ops Q (o :: rest) a w := by
  subst hg
  refine wpList_plain hgd fun K hK => ?_
  have hr : (Instr.box ty (.agg L.toArray)).run Tryz.prog w = .ok (.pointer (some ⟨w.heap.size, 0, none⟩)) (w.alloc (.cells L.toArray ty)) := by
    simp [Instr.box, newVar, go_sem]
  unfold Oper.wp execOp
  simp only [ho, hx, Sem.run_bind, Sem.run_pure, hr, Result.andThen_ok]
  exact hK _ _ (h _ (At.new _ _ _) (Free.new _ _ _) ((Below.refl _ _).alloc (Nat.le_refl _) _) (by simp [go_sem]))
theorem wpl_alloc (hgd : o.guard = none) (ty : TypeId) (ho : o.op = .alloc ty) (L : List Value) (hz : ∀ W : World, (Instr.alloc ty true (.tuple #[])).run Tryz.prog W = .ok (.pointer (some ⟨W.heap.size, 0, none⟩)) (W.alloc (.cells L.toArray ty))) (g : Nat) (hg : w.heap.size = g)
    (h : ∀ w', At w' g L → Free w' g → Below g w w' → w'.heap.size = g + 1 → wpList Tryz.prog ops Q rest (a.put o.dst (.pointer (some ⟨g, 0, none⟩))) w') : wpList Tryz.prog ops Q (o :: rest) a w := by
  subst hg
  refine wpList_plain hgd fun K hK => ?_
  unfold Oper.wp execOp
  simp only [ho, Sem.run_bind, Sem.run_pure, hz, Result.andThen_ok]
  exact hK _ _ (h _ (At.new _ _ _) (Free.new _ _ _) ((Below.refl _ _).alloc (Nat.le_refl _) _) (by simp [go_sem]))
end
/-- A struct is built: its run is given. -/
theorem wpl_build {P : Program} {w : World} {ops : Array Oper} {rest : List Oper} {o : Oper} {a : Act} {Q : Exit → Act → World → Prop} (hgd : o.guard = none) (ty : TypeId) (parts : Array (Nat × Operand)) (ho : o.op = .build ty parts) (vals : Array (Nat × Value))
    (hp : parts.map (fun (i, x) => (i, a.eval x)) = vals) (v : Value) (hr : ∀ W, (Instr.build ty vals).run P W = .ok v W) (h : wpList P ops Q rest (a.put o.dst v) w) : wpList P ops Q (o :: rest) a w := by
  refine wpList_plain hgd fun K hK => ?_
  unfold Oper.wp execOp
  simp only [ho, hp, Sem.run_bind, Sem.run_pure, hr, Result.andThen_ok]
  exact hK _ _ h
def zK (k : Int) : List Value := [.int .i64 k, .int .i64 0, .bool false, .string ⟨#[]⟩, .string ⟨#[]⟩, .int .i64 0, .bool false, .int .i64 0, .bool false, .int .i64 0, .string ⟨#[]⟩, .bool false, .string ⟨#[]⟩, .string ⟨#[]⟩, .int .i64 0, .bool false, .bool false, .string ⟨#[]⟩, .bool false, .string ⟨#[]⟩, .bool false, .int .i64 0, .slice none 0 0, .slice none 0 0]
theorem zK_one (k : Int) : ∀ v ∈ zK k, v.oneCell' = true := by
  intro v hv
  have : (zK k).all (·.oneCell') = true := rfl
  exact (List.all_eq_true.1 this) v hv
theorem info_pac : (Tryz.prog.info? 36).map (·.size) = some 24 := by kernel_rfl
set_option maxRecDepth 100000 in
theorem alloc_pac (W : World) : (Instr.alloc 36 true (.tuple #[])).run Tryz.prog W = .ok (.pointer (some ⟨W.heap.size, 0, none⟩)) (W.alloc (.cells (zK 0).toArray 36)) := by
  simp [Instr.alloc, newVar, go_sem, zK]
set_option maxRecDepth 100000 in
theorem build_pac (k : Int) (W : World) : (Instr.build 36 #[(0, .int .i64 k)]).run Tryz.prog W = .ok (.agg (zK k).toArray) W := by
  simp [Instr.build, go_sem, zK]

/-! ### The same at one operation (movers of a region that draws its order) -/
section
variable {w : World} {o : Oper} {a : Act} {K : Act → World → Prop} {Q : Exit → Act → World → Prop}
theorem wpo_storeMid (hdst : o.dst = none) (ty : TypeId) (x y : Operand) (ho : o.op = .store ty x y) (b k : Nat) (cells l0 l1 : List Value) (hx : a.eval x = .pointer (some ⟨b, k, none⟩)) (hy : a.eval y = .agg cells.toArray)
    (hi : (Tryz.prog.info? ty).map (·.size) = some cells.length) (h1 : ∀ v ∈ cells, v.oneCell' = true) (hA : At w b l0) (hl : l1 = l0.take k ++ cells ++ l0.drop (k + cells.length)) (hk : k + cells.length ≤ l0.length) (hF : Free w b)
    (h : ∀ w', At w' b l1 → Free w' b → Keeps [b] w w' → w'.heap.size = w.heap.size → K a w') : o.wp Tryz.prog a w K Q := by
  have hth := hA.there hF k cells.length (by omega)
  refine wp_store_mid ty x y ho b k cells.toArray hx hy (by simpa using hth) (by simpa using hi) (all_oneCell_toArray h1) ?_
  rw [hdst]
  refine h _ ⟨?_, fun j u hu => ?_⟩ (free_setCells _ _ _ hF) (keeps_setCells b _ _ _ _ (Keeps.refl _ _)) (setCells_size b _ _ _)
  · rw [setCells_size]; exact hA.1
  · subst hl
    have htl : (l0.take k).length = k := by simp; omega
    by_cases hj1 : j < k
    · rw [List.append_assoc, List.getElem?_append_left (by omega), List.getElem?_take_of_lt hj1] at hu
      rw [World.cell?_setCells_out b _ k w ⟨b, j, none⟩ (fun _ _ => .inl hj1)]
      exact hA.2 j u hu
    · by_cases hj2 : j < k + cells.length
      · rw [List.append_assoc, List.getElem?_append_right (by omega), List.getElem?_append_left (by omega), htl] at hu
        have := World.rangeAt_setCells_same w b k cells hth (j - k) u hu
        rwa [show k + (j - k) = j by omega] at this
      · rw [List.getElem?_append_right (by simp; omega), List.getElem?_drop] at hu
        rw [World.cell?_setCells_out b _ k w ⟨b, j, none⟩ (fun _ _ => .inr (by show k + cells.toArray.toList.length ≤ j; rw [List.toList_toArray]; omega))]
        refine hA.2 j u ?_
        rw [← hu]
        have e2 : k + cells.length + (j - (l0.take k ++ cells).length) = j := by rw [List.length_append, htl]; omega
        rw [e2]
theorem still_loadAt {W : World} (ty : TypeId) (x : Operand) (ho : o.op = .load ty x) (b k : Nat) (hx : a.eval x = .pointer (some ⟨b, k, none⟩)) (cs : List Value) (d : TypeDesc) (hc : W.rangeAt b k cs)
    (hu : Tryz.prog.underlying ty = some d) (hd : d.isRow = true) (hi : (Tryz.prog.info? ty).map (·.size) = some cs.length) : (execOp a.eval o).run Tryz.prog W = .ok (.value (.agg cs.toArray)) W := by
  unfold execOp
  simp only [ho, hx, Sem.run_bind, run_loadAt_mid W b k ty cs d hc hu hd hi, Result.andThen_ok, Sem.run_pure]
end

/-! ### The packet's cells -/
abbrev Nl : Value := .slice none 0 0
def zP (k : Int) : Pac := { Pac.zero with k := k }
theorem Con.one (c : Con) : ∀ v ∈ c.cells, v.oneCell' = true := by
  intro v hv
  have : (c.cells).all (·.oneCell') = true := rfl
  exact (List.all_eq_true.1 this) v hv
def Pac.msg (p : Pac) : List Value := [.string p.tp, .string p.tx, .int .i64 p.q, .bool p.rt]
theorem Pac.msg_one (p : Pac) : ∀ v ∈ p.msg, v.oneCell' = true := by
  intro v hv
  have : (p.msg).all (·.oneCell') = true := rfl
  exact (List.all_eq_true.1 this) v hv
theorem Pac.one (p : Pac) (vf vc : Value) (hf : vf.oneCell' = true) (hc : vc.oneCell' = true) : ∀ v ∈ p.cells vf vc, v.oneCell' = true := by
  intro v hv
  have : (p.cells vf vc).all (·.oneCell') = true := by simp only [Pac.cells, List.all_cons, List.all_nil, hf, hc]; rfl
  exact (List.all_eq_true.1 this) v hv
theorem Pac.cells_len (p : Pac) (vf vc : Value) : (p.cells vf vc).length = 24 := rfl
theorem Pac.con_in (p : Pac) (vf vc : Value) : ∀ j v, p.c.cells[j]? = some v → (p.cells vf vc)[7 + j]? = some v := by
  intro j v h
  have e : p.cells vf vc = [.int .i64 p.k, .int .i64 p.id, .bool p.dup, .string p.tp, .string p.tx, .int .i64 p.q, .bool p.rt] ++ (p.c.cells ++ [.bool p.pr, .int .i64 p.code, vf, vc]) := rfl
  rw [e, List.getElem?_append_right (by simp), List.getElem?_append_left (by have := (List.getElem?_eq_some_iff.1 h).1; simpa using this)]
  simpa using h
theorem Pac.msg_in (p : Pac) (vf vc : Value) : ∀ j v, p.msg[j]? = some v → (p.cells vf vc)[3 + j]? = some v := by
  intro j v h
  have e : p.cells vf vc = [.int .i64 p.k, .int .i64 p.id, .bool p.dup] ++ (p.msg ++ (p.c.cells ++ [.bool p.pr, .int .i64 p.code, vf, vc])) := rfl
  rw [e, List.getElem?_append_right (by simp), List.getElem?_append_left (by have := (List.getElem?_eq_some_iff.1 h).1; simpa using this)]
  simpa using h
theorem info_con : (Tryz.prog.info? 32).map (·.size) = some 13 := by kernel_rfl
theorem info_msg : (Tryz.prog.info? 30).map (·.size) = some 4 := by kernel_rfl
/-- One variable is handed back. -/
theorem results_cell {P : Program} {fn : Func} {tmps : Array Value} {a : Nat} {t : TypeId} {g : Nat} {v : Value} {w : World} (hf : fn.results = #[.cell a t]) (ha : tmps.getD a undef = .pointer (some ⟨g, 0, none⟩))
    (hl : (loadVar t ⟨g, 0, none⟩).run P w = .ok v w) : (results fn tmps).run P w = .ok v w := by
  have one : ∀ (f : ResultVar → Sem Value) (x : ResultVar), #[x].mapM f = (do let y ← f x; pure #[y]) := fun f x => by simp
  unfold results
  rw [hf, one]
  simp only [Sem.run_bind, Sem.run_pure, ha, asAddr, Result.andThen_ok, hl]
  rfl
/-- The result's variable is handed back. -/
theorem ret_pac {w : World} {b : Nat} {l : List Value} (h : At w b l) (hl : l.length = 24) : (loadVar 36 ⟨b, 0, none⟩).run Tryz.prog w = .ok (.agg l.toArray) w :=
  run_loadVar_mid w b 0 36 l _ h.range Tryz.underlying36 rfl (by rw [hl]; exact info_pac)
end Go.Proofs.YtjlnlgemngpelaaGreatDoor

/- Packets: a packet that is laid, or told: what lies in it; its bytes laid: the walk. -/
namespace Go.Proofs.YtjlnlgemngpelaaGreatDoor
open Go.RowKit
set_option linter.unusedVariables false
set_option linter.unusedSimpArgs false

def wrapL (L : List Value) (f : Int) (b : List UInt8) : List Value := L ++ [.int .i64 f, .string (sOf b)]
structure WrapAt (w : World) (g : Nat) (L : List Value) (f : Int) (b : List UInt8) : Prop where
  at' : At w g (wrapL L f b)
  len : L.length = 24
  free : Free w g
theorem wrapL_body {L : List Value} (h : L.length = 24) (f : Int) (b l : List UInt8) : (wrapL L f b).set 25 (.string (sOf l)) = wrapL L f l := by
  unfold wrapL
  rw [List.set_append_right _ _ (by omega), h]
  rfl
theorem wrapL_flags {L : List Value} (h : L.length = 24) (f k : Int) (b : List UInt8) : (wrapL L f b).set 24 (.int .i64 k) = wrapL L k b := by
  unfold wrapL
  rw [List.set_append_right _ _ (by omega), h]
  rfl
theorem wrapL_get {L : List Value} (h : L.length = 24) (f : Int) (b : List UInt8) {j : Nat} {u : Value} (hj : L[j]? = some u) : (wrapL L f b)[j]? = some u := by
  unfold wrapL
  rw [List.getElem?_append_left (List.getElem?_eq_some_iff.1 hj).1]
  exact hj
theorem wrapL_f {L : List Value} (h : L.length = 24) (f : Int) (b : List UInt8) : (wrapL L f b)[24]? = some (.int .i64 f) := by
  unfold wrapL
  rw [List.getElem?_append_right (by omega), h]
  rfl
theorem wrapL_b {L : List Value} (h : L.length = 24) (f : Int) (b : List UInt8) : (wrapL L f b)[25]? = some (.string (sOf b)) := by
  unfold wrapL
  rw [List.getElem?_append_right (by omega), h]
  rfl
theorem WrapAt.cell {w : World} {g : Nat} {L : List Value} {f : Int} {b : List UInt8} (h : WrapAt w g L f b) {j : Nat} {u : Value} (hj : L[j]? = some u) : w.cell? ⟨g, j, none⟩ = some u := h.at'.at j (wrapL_get h.len f b hj)
theorem WrapAt.cf {w : World} {g : Nat} {L : List Value} {f : Int} {b : List UInt8} (h : WrapAt w g L f b) : w.cell? ⟨g, 24, none⟩ = some (.int .i64 f) := h.at'.at 24 (wrapL_f h.len f b)
theorem WrapAt.cb {w : World} {g : Nat} {L : List Value} {f : Int} {b : List UInt8} (h : WrapAt w g L f b) : w.cell? ⟨g, 25, none⟩ = some (.string (sOf b)) := h.at'.at 25 (wrapL_b h.len f b)
theorem WrapAt.lt {w : World} {g : Nat} {L : List Value} {f : Int} {b : List UInt8} (h : WrapAt w g L f b) : g < w.heap.size := h.at'.lt
theorem WrapAt.keep {B : Nat} {w w' : World} {g : Nat} {L : List Value} {f : Int} {b : List UInt8} (h : WrapAt w g L f b) (hb : Below B w w') (hB : g < B) : WrapAt w' g L f b := ⟨h.at'.keep hb hB, h.len, h.free.keep hb hB⟩
theorem WrapAt.keeps {S : List Nat} {w w' : World} {g : Nat} {L : List Value} {f : Int} {b : List UInt8} (h : WrapAt w g L f b) (hk : Keeps S w w') (hn : g ∉ S) : WrapAt w' g L f b := ⟨h.at'.keeps hk hn, h.len, h.free.keeps hk h.at'.lt hn⟩
theorem WrapAt.setB {w : World} {g : Nat} {L : List Value} {f : Int} {b : List UInt8} (h : WrapAt w g L f b) (l : List UInt8) : WrapAt (w.setCell ⟨g, 25, none⟩ (.string (sOf l))) g L f l :=
  ⟨by rw [← wrapL_body h.len f b l]; exact h.at'.set 25 _ (by simp [wrapL, h.len]), h.len, h.free.set _ _⟩
theorem WrapAt.setF {w : World} {g : Nat} {L : List Value} {f : Int} {b : List UInt8} (h : WrapAt w g L f b) (k : Int) : WrapAt (w.setCell ⟨g, 24, none⟩ (.int .i64 k)) g L k b :=
  ⟨by rw [← wrapL_flags h.len f k b]; exact h.at'.set 24 _ (by simp [wrapL, h.len]), h.len, h.free.set _ _⟩

/-- What a way of laying leaves. -/
def GivesL (w : World) (g : Nat) (L : List Value) (f : Int) (b : List UInt8) (E : Int) (e : Ending) (w' : World) : Prop :=
  e = .returned (.int .i64 E) ∧ WrapAt w' g L f b ∧ Keeps [g] w w'
theorem ret_n {a b : Int} (h : a = b) : Ending.returned (.int .i64 a) = .returned (.int .i64 b) := by rw [h]

set_option maxRecDepth 100000 in
set_option maxHeartbeats 1000000 in
theorem lay_c (g : Nat) (L : List Value) (f : Int) (b : List UInt8) (v : Value) (l : List UInt8) (E : Int) (w : World) (hW : WrapAt w g L f b) (hv : Bs w v l) :
    Calls Tryz.prog 72 #[.pointer (some ⟨g, 0, none⟩), v, .int .i64 E] w (GivesL w g L f l E) := by
  have HV := hd hv
  obtain ⟨a, c, rfl⟩ := hv.slice
  have c25 := hW.cb
  have f25 := hW.free 25
  have hs := run_str HV.out
  go_enter Tryz.func72, Tryz.ntmps72
  go_wp2_with fail
  go_ret
  exact ⟨rfl, hW.setB l, (Keeps.refl _ _).setCell (.inl (by simp)) _⟩
end Go.Proofs.YtjlnlgemngpelaaGreatDoor
