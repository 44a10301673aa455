/- A bundle of texts (merged for the limit on files): PacTold, PacOf, UtfJoinPlain, ConBackPlain, UtfLaws. -/
import Derived.Test.YtjlnlgemngpelaaGreatDoorZa19
import Derived.Test.YtjlnlgemngpelaaGreatDoorZa5
import Derived.Test.YtjlnlgemngpelaaGreatDoorZa10
import Derived.Test.YtjlnlgemngpelaaGreatDoorZa4
import Derived.Test.YtjlnlgemngpelaaGreatDoorZa12
import Derived.Test.YtjlnlgemngpelaaGreatDoorZa1
import Derived.Lib.MapLaws
import Derived.Test.YtjlnlgemngpelaaGreatDoorZa3
/- Packets: told: the ways of telling: the walks. -/
namespace Go.Proofs.YtjlnlgemngpelaaGreatDoor
open Go.RowKit
set_option linter.unusedVariables false
set_option linter.unusedSimpArgs false

theorem WrapAt.setL {w : World} {g : Nat} {L : List Value} {f : Int} {b : List UInt8} (h : WrapAt w g L f b) (i : Nat) (v : Value) (hi : i < 24) : WrapAt (w.setCell ⟨g, i, none⟩ v) g (L.set i v) f b := by
  refine ⟨?_, by rw [List.length_set]; exact h.len, h.free.set _ _⟩
  have e : wrapL (L.set i v) f b = (wrapL L f b).set i v := by
    unfold wrapL
    rw [List.set_append_left _ _ (by rw [h.len]; exact hi)]
  rw [e]
  exact h.at'.set i v (by unfold wrapL; simp [h.len]; omega)
theorem sbAll_len (ends : Bool) (l : List UInt8) : ∀ (n : Nat) (a : List Wish) (at' : Int), (sbAll ends l n a at').1.length ≤ a.length + n
  | 0, a, _ => by simp [sbAll]
  | n + 1, a, at' => by
    unfold sbAll
    split
    · simp
    · split
      · simp
      · split
        · simp
        · have := sbAll_len ends l n (a ++ [(sbRead l at' ends).1]) (sbRead l at' ends).2.1
          simp at this
          omega
theorem sbOf_len (l : List UInt8) (ends : Bool) : (sbOf l ends).2.1.length ≤ 9 := by
  have := sbAll_len ends l 9 [] 2
  unfold sbOf
  split
  · simp
  · split
    · simp
    · split
      · simp
      · simpa using this
theorem sbCodes_len : ∀ (l : List UInt8) (a : List Int), (sbCodes a l).1.length ≤ a.length + l.length
  | [], a => by simp [sbCodes]
  | b :: t, a => by
    unfold sbCodes
    split
    · simp
    · have := sbCodes_len t (a ++ [(b.toNat : Int)])
      simp at this
      simp; omega
theorem sbOfAck_len (l : List UInt8) : (sbOfAck l).2.1.length ≤ 8 := by
  unfold sbOfAck
  split
  · simp
  · split
    · simp
    · rename_i h
      have hm : l.length ≤ 10 := by
        unfold sbMany at h
        by_cases h1 : (l.length : Int) - 2 < 1
        · rw [if_pos h1] at h; simp at h
        · rw [if_neg h1] at h
          by_cases h2 : 8 < (l.length : Int) - 2
          · rw [if_pos h2] at h; simp at h
          · omega
      split
      · simp
      · have := sbCodes_len (l.drop 2) []
        simp at this
        simp only
        omega
/-- What lies behind a packet's cells is the call's own. -/
structure PacOwn (B : Nat) (w : World) (p : Pac) (vf vc : Value) : Prop where
  f : OwnW B w vf p.fs
  c : OwnI B w vc p.cs
  lf : p.fs.length * 24 ≤ 140737488351232
  lc : p.cs.length * 8 ≤ 140737488351232
theorem PacOwn.rd {B : Nat} {w : World} {p : Pac} {vf vc : Value} (h : PacOwn B w p vf vc) : PacRd w p vf vc := ⟨Owns.rd h.f, Owns.rd h.c, h.lf, h.lc⟩
theorem PacOwn.le {B B' : Nat} {w : World} {p : Pac} {vf vc : Value} (h : PacOwn B w p vf vc) (hB : B' ≤ B) : PacOwn B' w p vf vc := ⟨Owns.le h.f hB, Owns.le h.c hB, h.lf, h.lc⟩
theorem PacOwn.kept {B B' : Nat} {w w' : World} {p : Pac} {vf vc : Value} (h : PacOwn B w p vf vc) (hb : Below B' w w') (hB : w.heap.size ≤ B') : PacOwn B w' p vf vc := ⟨Owns.kept h.f hb hB, Owns.kept h.c hb hB, h.lf, h.lc⟩
theorem PacOwn.keeps {S : List Nat} {B : Nat} {w w' : World} {p : Pac} {vf vc : Value} (h : PacOwn B w p vf vc) (hk : Keeps S w w') (hS : ∀ k, k ∈ S → k < B) : PacOwn B w' p vf vc := ⟨Owns.keeps h.f hk hS, Owns.keeps h.c hk hS, h.lf, h.lc⟩
theorem PacOwn.nil (B : Nat) (w : World) {p : Pac} (hf : p.fs = []) (hc : p.cs = []) : PacOwn B w p Nl Nl := ⟨by rw [hf]; exact OwnW.nil _ _, by rw [hc]; exact OwnI.nil _ _, by rw [hf]; simp, by rw [hc]; simp⟩
/-- What a way of telling leaves. -/
def TellsL (w : World) (g : Nat) (f : Int) (b : List UInt8) (r : Pac × Int) (e : Ending) (w' : World) : Prop :=
  ∃ vf vc, e = .returned (.int .i64 r.2) ∧ WrapAt w' g (r.1.cells vf vc) f b ∧ PacOwn w.heap.size w' r.1 vf vc ∧ Keeps [g] w w'
def zM : List Value := [.string ⟨#[]⟩, .string ⟨#[]⟩, .int .i64 0, .bool false]
set_option maxRecDepth 100000 in
theorem alloc_msg (W : World) : (Instr.alloc 30 true (.tuple #[])).run Tryz.prog W = .ok (.pointer (some ⟨W.heap.size, 0, none⟩)) (W.alloc (.cells zM.toArray 30)) := by
  simp [Instr.alloc, newVar, go_sem, zM]
set_option maxRecDepth 100000 in
set_option maxHeartbeats 8000000 in
theorem ofConnect_c (k : Int) (g : Nat) (f : Int) (b : List UInt8) (w : World) (hW : WrapAt w g ((zP k).cells Nl Nl) f b) (hb : b.length ≤ 140737488351232) (hE : EnvU w) :
    Calls Tryz.prog 87 #[.pointer (some ⟨g, 0, none⟩)] w (TellsL w g f b ({ zP k with c := (cOf b).1 }, (cOf b).2)) := by
  have HW := hd hW
  have hsz : (sOf b).size ≤ 140737488351232 := by rw [sOf_sizeP]; exact hb
  have cb := HW.out.cb
  have HE := hd hE; clear hE hW
  go_enter Tryz.func87, Tryz.ntmps87
  go_wp2_with fail
  refine (conOf_c (sOf b) _ HE.out hsz).mono ?_
  rintro e w1 ⟨rfl, hb1⟩
  have h1 := HW.out.keep hb1 HW.out.lt
  clear cb
  go_wp2_with (first
    | ((with_reducible refine wpl_at (o := ⟨none, .store 32 (.tmp 14) (.tmp 10), _, _, _, _⟩) ?_); refine wpl_storeMid rfl rfl _ _ _ rfl g 7 (cOf b).1.cells _ (wrapL (({ zP k with c := (cOf b).1 } : Pac).cells Nl Nl) f b) rfl rfl info_con (Con.one _) h1.at' rfl (by show 7 + 13 ≤ 26; decide) h1.free ?_; intro w5 h5 f5 k5 z5))
  go_ret
  exact ⟨Nl, Nl, rfl, ⟨h5, rfl, f5⟩, PacOwn.nil _ _ rfl rfl, (Keeps.below hb1).trans k5⟩

set_option maxRecDepth 100000 in
set_option maxHeartbeats 8000000 in
theorem ofConnack_c (k : Int) (g : Nat) (f : Int) (b : List UInt8) (w : World) (hW : WrapAt w g ((zP k).cells Nl Nl) f b) (hb : b.length ≤ 140737488351232) :
    Calls Tryz.prog 88 #[.pointer (some ⟨g, 0, none⟩)] w (TellsL w g f b ({ zP k with pr := (aOf b).1, code := (aOf b).2.1 }, (aOf b).2.2)) := by
  have HW := hd hW
  have hsz : (sOf b).size ≤ 140737488351232 := by rw [sOf_sizeP]; exact hb
  have cb := HW.out.cb
  clear hW
  go_enter Tryz.func88, Tryz.ntmps88
  go_wp2_with fail
  refine (OfAck_c (sOf b) _).mono ?_
  rintro e w1 ⟨rfl, hb1⟩
  have h1 := HW.out.keep hb1 HW.out.lt
  clear cb
  have c20 := h1.cell (j := 20) (u := .bool false) rfl
  have c21 := h1.cell (j := 21) (u := .int .i64 0) rfl
  have f20 := h1.free 20
  have f21 := h1.free 21
  go_wp2_with fail
  go_ret
  exact ⟨Nl, Nl, rfl, (h1.setL 20 _ (by decide)).setL 21 _ (by decide), PacOwn.nil _ _ rfl rfl, (((Keeps.below hb1).setCell (.inl (by simp)) _).setCell (.inl (by simp)) _)⟩

set_option maxRecDepth 100000 in
set_option maxHeartbeats 8000000 in
theorem ofId_c (k : Int) (g : Nat) (f : Int) (b : List UInt8) (w : World) (hW : WrapAt w g ((zP k).cells Nl Nl) f b) (hb : b.length ≤ 140737488351232) :
    Calls Tryz.prog 90 #[.pointer (some ⟨g, 0, none⟩)] w (TellsL w g f b ({ zP k with id := (pOfId b).1 }, (pOfId b).2)) := by
  have HW := hd hW
  have hsz : (sOf b).size ≤ 140737488351232 := by rw [sOf_sizeP]; exact hb
  have cb := HW.out.cb
  clear hW
  go_enter Tryz.func90, Tryz.ntmps90
  go_wp2_with fail
  refine (OfId_c (sOf b) _ hsz).mono ?_
  rintro e w1 ⟨rfl, hb1⟩
  have h1 := HW.out.keep hb1 HW.out.lt
  clear cb
  have c1 := h1.cell (j := 1) (u := .int .i64 0) rfl
  have f1 := h1.free 1
  go_wp2_with fail
  go_ret
  exact ⟨Nl, Nl, rfl, h1.setL 1 _ (by decide), PacOwn.nil _ _ rfl rfl, ((Keeps.below hb1).setCell (.inl (by simp)) _)⟩

set_option maxRecDepth 100000 in
set_option maxHeartbeats 8000000 in
theorem ofSuback_c (k : Int) (g : Nat) (f : Int) (b : List UInt8) (w : World) (hW : WrapAt w g ((zP k).cells Nl Nl) f b) (hb : b.length ≤ 140737488351232) :
    Calls Tryz.prog 92 #[.pointer (some ⟨g, 0, none⟩)] w (TellsL w g f b ({ zP k with id := (sbOfAck b).1, cs := (sbOfAck b).2.1 }, (sbOfAck b).2.2)) := by
  have HW := hd hW
  have hsz : (sOf b).size ≤ 140737488351232 := by rw [sOf_sizeP]; exact hb
  have cb := HW.out.cb
  clear hW
  go_enter Tryz.func92, Tryz.ntmps92
  go_wp2_with fail
  refine (subOfAck_c (sOf b) _ hsz).mono ?_
  rintro e w1 ⟨v, rfl, ho1, hb1⟩
  have h1 := HW.out.keep hb1 HW.out.lt
  clear cb
  have hl := sbOfAck_len b
  have ho : OwnI w.heap.size w1 v (sbOfAck b).2.1 := ho1
  obtain ⟨va, vc, rfl⟩ := Owns.slice ho
  have c1 := h1.cell (j := 1) (u := .int .i64 0) rfl
  have c23 := h1.cell (j := 23) (u := .slice none 0 0) rfl
  have f1 := h1.free 1
  have f23 := h1.free 23
  have HO := hd ho
  clear ho1 ho
  go_wp2_with fail
  go_ret
  have hlt := HW.out.lt
  refine ⟨Nl, _, rfl, (h1.setL 1 _ (by decide)).setL 23 _ (by decide), ⟨OwnW.nil _ _, Owns.set (Owns.set HO.out (by exact hlt) _) (by exact hlt) _, by simp [zP, Pac.zero], ?_⟩, (((Keeps.below hb1).setCell (.inl (by simp)) _).setCell (.inl (by simp)) _)⟩
  show (sbOfAck b).2.1.length * 8 ≤ 140737488351232
  omega

set_option maxRecDepth 100000 in
set_option maxHeartbeats 8000000 in
theorem ofNothing_c (k : Int) (g : Nat) (f : Int) (b : List UInt8) (w : World) (hW : WrapAt w g ((zP k).cells Nl Nl) f b) (hb : b.length ≤ 140737488351232) :
    Calls Tryz.prog 93 #[.pointer (some ⟨g, 0, none⟩)] w (TellsL w g f b (zP k, if b.isEmpty then 0 else 4)) := by
  have HW := hd hW
  have hsz : (sOf b).size ≤ 140737488351232 := by rw [sOf_sizeP]; exact hb
  have cb := HW.out.cb
  clear hW
  by_cases hbe : b = []
  · have hne : (!(sOf b).toList.isEmpty) = false := by
      have := neq_empty (sOf b)
      rw [this]
      show (!b.isEmpty) = false
      rw [hbe]; rfl
    have hr : (if b.isEmpty = true then (0 : Int) else 4) = 0 := by rw [hbe]; rfl
    rw [hr]
    clear hr hbe
    go_enter Tryz.func93, Tryz.ntmps93
    go_wp2_with fail
    go_ret
    exact ⟨Nl, Nl, rfl, HW.out, PacOwn.nil _ _ rfl rfl, Keeps.refl _ _⟩
  · have hne : (!(sOf b).toList.isEmpty) = true := by
      have := neq_empty (sOf b)
      rw [this]
      show (!b.isEmpty) = true
      cases b with
      | nil => exact absurd rfl hbe
      | cons x t => rfl
    have hr : (if b.isEmpty = true then (0 : Int) else 4) = 4 := by
      cases b with
      | nil => exact absurd rfl hbe
      | cons x t => rfl
    rw [hr]
    clear hr
    go_enter Tryz.func93, Tryz.ntmps93
    go_wp2_with fail
    go_ret
    exact ⟨Nl, Nl, rfl, HW.out, PacOwn.nil _ _ rfl rfl, Keeps.refl _ _⟩

set_option maxRecDepth 100000 in
set_option maxHeartbeats 8000000 in
theorem ofPublish_c (k : Int) (g : Nat) (f : Int) (b : List UInt8) (w : World) (hW : WrapAt w g ((zP k).cells Nl Nl) f b) (hb : b.length ≤ 140737488351232) (hE : EnvU w) (hH : EnvH w) :
    Calls Tryz.prog 89 #[.pointer (some ⟨g, 0, none⟩)] w (TellsL w g f b ({ zP k with tp := sOf (pOf b (hQos f)).1, tx := sOf (pOf b (hQos f)).2.1, q := pOfQ b (hQos f), rt := hRet f, dup := hDup f, id := (pOf b (hQos f)).2.2.1 }, (pOf b (hQos f)).2.2.2)) := by
  have HW := hd hW
  have hsz : (sOf b).size ≤ 140737488351232 := by rw [sOf_sizeP]; exact hb
  have cb := HW.out.cb
  have HE := hd hE; have HH := hd hH; clear hE hH hW
  have c24 := HW.out.cf
  obtain ⟨X, Y, I, E, hP⟩ : ∃ X Y I E, pOf b (hQos f) = (X, Y, I, E) := ⟨_, _, _, _, rfl⟩
  obtain ⟨q, hq⟩ : ∃ q, pOfQ b (hQos f) = q := ⟨_, rfl⟩
  have hpo := fun W hW => pubOf_c (sOf b) (hQos f) W hW hsz
  have hsb : sB (sOf b) = b := rfl
  unfold GivesM at hpo
  rw [hsb, hP, hq] at hpo
  have HPO := hd hpo
  rw [hP, hq]
  clear hpo hP hq
  go_enter Tryz.func89, Tryz.ntmps89
  go_wp2_with fail
  refine (Told_c f _ HH.out).mono ?_
  rintro e w' ⟨rfl, rfl⟩
  go_wp2_with fail
  refine (HPO.out _ HE.out).mono ?_
  rintro e w1 ⟨rfl, hb1⟩
  have h1 := HW.out.keep hb1 HW.out.lt
  have hlt := h1.lt
  clear cb c24
  have hone4 : ∀ v ∈ ([.string (sOf X), .string (sOf Y), .int .i64 q, .bool false] : List Value), v.oneCell' = true := by intro v hv; simp at hv; rcases hv with rfl | rfl | rfl | rfl <;> rfl
  have hone5 : ∀ v ∈ ([.string (sOf X), .string (sOf Y), .int .i64 q, .bool (hRet f)] : List Value), v.oneCell' = true := by intro v hv; simp at hv; rcases hv with rfl | rfl | rfl | rfl <;> rfl
  go_wp2_with (first
    | (with_reducible refine wpl_alloc (o := ⟨some 6, .alloc 30, _, _, _, _⟩) rfl _ rfl zM alloc_msg _ rfl ?_; intro w6 h6 f6 b6 z6; have h2 := h1.keep b6 hlt; have K6 : Keeps [g] w w6 := (Keeps.below hb1).trans (Keeps.below b6))
    | ((with_reducible refine wpl_at (o := ⟨none, .store 30 (.tmp 6) (.tmp 25), _, _, _, _⟩) ?_); refine wpl_storeAll rfl rfl _ _ _ rfl w1.heap.size [.string (sOf X), .string (sOf Y), .int .i64 q, .bool false] zM rfl rfl info_msg hone4 h6 rfl f6 ?_; intro w7 h7 f7 k7 z7; have h3 := h2.keeps k7 (by simp; omega); have K7 : Keeps [g] w w7 := K6.next k7 (by intro i hi; simp at hi; subst hi; have := hb1.size; right; omega); have e3 := h7.at 3 (u := .bool false) rfl; have g3 := f7 3)
    | ((with_reducible refine wpl_at (o := ⟨some 33, .load 30 (.tmp 6), _, _, _, _⟩) ?_); refine wpl_loadAt rfl _ _ rfl w1.heap.size 0 rfl [.string (sOf X), .string (sOf Y), .int .i64 q, .bool (hRet f)] _ (h7.set 3 (.bool (hRet f)) (show 3 < 4 by decide)).range Tryz.underlying30 rfl info_msg ?_)
    | ((with_reducible refine wpl_at (o := ⟨none, .store 30 (.tmp 38) (.tmp 33), _, _, _, _⟩) ?_); refine wpl_storeMid rfl rfl _ _ _ rfl g 3 [.string (sOf X), .string (sOf Y), .int .i64 q, .bool (hRet f)] _ (wrapL (({ zP k with tp := sOf X, tx := sOf Y, q := q, rt := hRet f } : Pac).cells Nl Nl) f b) rfl rfl info_msg hone5 (h3.at'.other w1.heap.size 3 (.bool (hRet f)) (by omega)) rfl (by show 3 + 4 ≤ 26; decide) (h3.free.set _ _) ?_; intro w8 h8 f8 k8 z8; have K8 : Keeps [g] w w8 := (K7.setCell (p := ⟨w1.heap.size, 3, none⟩) (.inr (by have := hb1.size; show w.heap.size ≤ w1.heap.size; omega)) (.bool (hRet f))).trans k8; have hW8 : WrapAt w8 g (({ zP k with tp := sOf X, tx := sOf Y, q := q, rt := hRet f } : Pac).cells Nl Nl) f b := ⟨h8, rfl, f8⟩; have e1 := hW8.cell (j := 1) (u := .int .i64 0) rfl; have e2 := hW8.cell (j := 2) (u := .bool false) rfl; have g1 := f8 1; have g2 := f8 2))
  go_ret
  exact ⟨Nl, Nl, rfl, (hW8.setL 1 _ (by decide)).setL 2 _ (by decide), PacOwn.nil _ _ rfl rfl, (K8.setCell (.inl (by simp)) _).setCell (.inl (by simp)) _⟩

set_option maxRecDepth 100000 in
set_option maxHeartbeats 8000000 in
theorem ofWishes_c (k : Int) (g : Nat) (f : Int) (b : List UInt8) (w : World) (hW : WrapAt w g ((zP k).cells Nl Nl) f b) (hb : b.length ≤ 140737488351232) (hE : EnvU w) :
    Calls Tryz.prog 91 #[.pointer (some ⟨g, 0, none⟩)] w (TellsL w g f b ({ zP k with id := (sbOf b (k == 10)).1, fs := (sbOf b (k == 10)).2.1 }, (sbOf b (k == 10)).2.2)) := by
  have HW := hd hW
  have hsz : (sOf b).size ≤ 140737488351232 := by rw [sOf_sizeP]; exact hb
  have cb := HW.out.cb
  have HE := hd hE; clear hE hW
  have hl := sbOf_len b (k == 10)
  obtain ⟨I, l, E, hS⟩ : ∃ I l E, sbOf b (k == 10) = (I, l, E) := ⟨_, _, _, rfl⟩
  have hso := fun W hW => subsOf_c (sOf b) (k == 10) W hW hsz
  have hsb : sB (sOf b) = b := rfl
  unfold GivesW at hso
  rw [hsb, hS] at hso
  rw [hS] at hl ⊢
  simp only at hl hso
  have HSO := hd hso
  clear hso hS
  have c0 := HW.out.cell (j := 0) (u := .int .i64 k) rfl
  go_enter Tryz.func91, Tryz.ntmps91
  go_wp2_with fail
  have hW1 := HW.out.drew
  clear cb c0
  have c0 := hW1.cell (j := 0) (u := .int .i64 k) rfl
  have cb := hW1.cb
  have hE1 := HE.out.below ((Below.refl w.heap.size w).drew)
  have k1 : Keeps [g] w w.drew := (Keeps.refl _ _).drew
  have hz1 : w.drew.heap.size = w.heap.size := rfl
  refine wp_region_M (fun W => W.cell? ⟨g, 25, none⟩ = some (.string (sOf b)) ∧ W.cell? ⟨g, 0, none⟩ = some (.int .i64 k)) 25 [(0, false), (1, false), (2, false), (3, false), (4, false), (5, false), (6, false), (7, false), (8, false), (9, false), (10, false), (11, false), (12, true), (13, false), (14, false), (15, false), (16, false), (17, false), (18, false), (19, false), (20, true), (21, false), (22, false), (23, false), (24, true), (25, true)] (by kernel_rfl) (by kernel_rfl) (fun _ _ _ _ h => h) ⟨cb, c0⟩ ?_
  clear HW HE cb c0
  generalize w.drew = w1 at *
  apply wpM_still (by rfl) (by rfl)
  · intro W hC
    go_simp
    rfl
  go_simp
  apply wpM_still (by rfl) (by rfl)
  · intro W hC
    go_simp
    rfl
  go_simp
  apply wpM_still (by rfl) (by rfl)
  · intro W hC
    go_simp
    rfl
  go_simp
  apply wpM_still (by rfl) (by rfl)
  · intro W hC
    go_simp
    rfl
  go_simp
  apply wpM_still (by rfl) (by rfl)
  · intro W hC
    go_simp
    rfl
  go_simp
  apply wpM_still (by rfl) (by rfl)
  · intro W hC
    have d := hC.1
    go_simp
    rfl
  go_simp
  apply wpM_still (by rfl) (by rfl)
  · intro W hC
    go_simp
    rfl
  go_simp
  apply wpM_still (by rfl) (by rfl)
  · intro W hC
    go_simp
    rfl
  go_simp
  apply wpM_still (by rfl) (by rfl)
  · intro W hC
    go_simp
    rfl
  go_simp
  apply wpM_still (by rfl) (by rfl)
  · intro W hC
    go_simp
    rfl
  go_simp
  apply wpM_still (by rfl) (by rfl)
  · intro W hC
    have d := hC.2
    go_simp
    rfl
  go_simp
  apply wpM_still (by rfl) (by rfl)
  · intro W hC
    go_simp
    rfl
  go_simp
  apply wpM_move (by rfl) (by rfl)
  intro K hK
  go_simp
  refine (HSO.out _ hE1).mono ?_
  rintro e w2 ⟨v, rfl, ho2, hb2⟩
  go_simp
  have ho : OwnW w.heap.size w2 v l := by rw [← hz1]; exact ho2
  have h2 := hW1.keep hb2 hW1.lt
  have hlt := hW1.lt
  rw [hz1] at hlt
  refine hK _ _ (fun _ => ⟨h2.cb, h2.cell (j := 0) (u := .int .i64 k) rfl⟩) ?_
  clear hK K ho2
  obtain ⟨va, vc, rfl⟩ := Owns.slice ho
  apply wpM_still (by rfl) (by rfl)
  · intro W hC
    go_simp
    rfl
  go_simp
  apply wpM_still (by rfl) (by rfl)
  · intro W hC
    go_simp
    rfl
  go_simp
  apply wpM_still (by rfl) (by rfl)
  · intro W hC
    go_simp
    rfl
  go_simp
  apply wpM_still (by rfl) (by rfl)
  · intro W hC
    go_simp
    rfl
  go_simp
  apply wpM_still (by rfl) (by rfl)
  · intro W hC
    go_simp
    rfl
  go_simp
  apply wpM_still (by rfl) (by rfl)
  · intro W hC
    go_simp
    rfl
  go_simp
  apply wpM_still (by rfl) (by rfl)
  · intro W hC
    go_simp
    rfl
  go_simp
  apply wpM_move (by rfl) (by rfl)
  intro K hK
  have c1 := h2.cell (j := 1) (u := .int .i64 0) rfl
  have f1 := h2.free 1
  go_simp
  have h3 := h2.setL 1 (.int .i64 I) (by decide)
  have ho3 := Owns.set ho (p := ⟨g, 1, none⟩) (by exact hlt) (.int .i64 I)
  have k3 : Keeps [g] w (w2.setCell ⟨g, 1, none⟩ (.int .i64 I)) := (k1.trans (Keeps.below hb2)).setCell (.inl (by simp)) _
  refine hK _ _ (fun _ => ⟨h3.cb, h3.cell (j := 0) (u := .int .i64 k) rfl⟩) ?_
  clear hK K c1 f1 h2 ho
  generalize w2.setCell ⟨g, 1, none⟩ (.int .i64 I) = w3 at *
  apply wpM_still (by rfl) (by rfl)
  · intro W hC
    go_simp
    rfl
  go_simp
  apply wpM_still (by rfl) (by rfl)
  · intro W hC
    go_simp
    rfl
  go_simp
  apply wpM_still (by rfl) (by rfl)
  · intro W hC
    go_simp
    rfl
  go_simp
  apply wpM_move (by rfl) (by rfl)
  intro K hK
  have c22 := h3.cell (j := 22) (u := .slice none 0 0) rfl
  have f22 := h3.free 22
  go_simp
  have h4 := h3.setL 22 (.slice va l.length vc) (by decide)
  have ho4 := Owns.set ho3 (p := ⟨g, 22, none⟩) (by exact hlt) (.slice va l.length vc)
  have k4 := k3.setCell (p := ⟨g, 22, none⟩) (.inl (by simp)) (.slice va l.length vc)
  refine hK _ _ (fun _ => ⟨h4.cb, h4.cell (j := 0) (u := .int .i64 k) rfl⟩) ?_
  clear hK K c22 f22 h3 ho3
  generalize w3.setCell ⟨g, 22, none⟩ (.slice va l.length vc) = w4 at *
  apply wpM_move (by rfl) (by rfl)
  intro K hK
  go_simp
  refine hK _ _ (fun h => absurd h (by decide)) ?_
  clear hK K
  refine wpM_nil ?_
  go_wp2_with fail
  go_ret
  refine ⟨_, Nl, rfl, h4, ⟨ho4, OwnI.nil _ _, ?_, by simp [zP, Pac.zero]⟩, k4⟩
  show l.length * 24 ≤ 140737488351232
  omega

def tellF (k : Int) : FuncId := if k = 1 then 87 else if k = 2 then 88 else if k = 3 then 89 else if k = 4 then 90 else if k = 5 then 90 else if k = 6 then 90 else if k = 7 then 90 else if k = 8 then 91 else if k = 9 then 92 else if k = 10 then 91 else if k = 11 then 90 else 93
theorem tellF_call (k : Int) (args : Array Value) (W : World) : (callFunc (tellF k) args).run Tryz.prog W = .ok (.enter (tellF k) args) W := by
  unfold tellF
  by_cases h1 : k = 1
  · rw [if_pos h1]
    exact call_of Tryz.func87 (by kernel_rfl) (by kernel_rfl) args W
  rw [if_neg h1]
  by_cases h2 : k = 2
  · rw [if_pos h2]
    exact call_of Tryz.func88 (by kernel_rfl) (by kernel_rfl) args W
  rw [if_neg h2]
  by_cases h3 : k = 3
  · rw [if_pos h3]
    exact call_of Tryz.func89 (by kernel_rfl) (by kernel_rfl) args W
  rw [if_neg h3]
  by_cases h4 : k = 4
  · rw [if_pos h4]
    exact call_of Tryz.func90 (by kernel_rfl) (by kernel_rfl) args W
  rw [if_neg h4]
  by_cases h5 : k = 5
  · rw [if_pos h5]
    exact call_of Tryz.func90 (by kernel_rfl) (by kernel_rfl) args W
  rw [if_neg h5]
  by_cases h6 : k = 6
  · rw [if_pos h6]
    exact call_of Tryz.func90 (by kernel_rfl) (by kernel_rfl) args W
  rw [if_neg h6]
  by_cases h7 : k = 7
  · rw [if_pos h7]
    exact call_of Tryz.func90 (by kernel_rfl) (by kernel_rfl) args W
  rw [if_neg h7]
  by_cases h8 : k = 8
  · rw [if_pos h8]
    exact call_of Tryz.func91 (by kernel_rfl) (by kernel_rfl) args W
  rw [if_neg h8]
  by_cases h9 : k = 9
  · rw [if_pos h9]
    exact call_of Tryz.func92 (by kernel_rfl) (by kernel_rfl) args W
  rw [if_neg h9]
  by_cases h10 : k = 10
  · rw [if_pos h10]
    exact call_of Tryz.func91 (by kernel_rfl) (by kernel_rfl) args W
  rw [if_neg h10]
  by_cases h11 : k = 11
  · rw [if_pos h11]
    exact call_of Tryz.func90 (by kernel_rfl) (by kernel_rfl) args W
  rw [if_neg h11]
  exact call_of Tryz.func93 (by kernel_rfl) (by kernel_rfl) args W
set_option maxRecDepth 100000 in
set_option maxHeartbeats 8000000 in
theorem teller_c (g : Nat) (k : Int) (w : World) (c0 : w.cell? ⟨g, 0, none⟩ = some (.int .i64 k)) :
    Calls Tryz.prog 66 #[.pointer (some ⟨g, 0, none⟩)] w fun e w' => e = .returned (.func (.func (tellF k)) #[.pointer (some ⟨g, 0, none⟩)] #[]) ∧ w = w' := by
  by_cases h1 : k = 1
  · subst h1
    go_enter Tryz.func66, Tryz.ntmps66
    go_wp2_with fail
    go_ret
    exact ⟨rfl, rfl⟩
  by_cases h2 : k = 2
  · subst h2
    clear h1
    go_enter Tryz.func66, Tryz.ntmps66
    go_wp2_with fail
    go_ret
    exact ⟨rfl, rfl⟩
  by_cases h3 : k = 3
  · subst h3
    clear h1 h2
    go_enter Tryz.func66, Tryz.ntmps66
    go_wp2_with fail
    go_ret
    exact ⟨rfl, rfl⟩
  by_cases h4 : k = 4
  · subst h4
    clear h1 h2 h3
    go_enter Tryz.func66, Tryz.ntmps66
    go_wp2_with fail
    go_ret
    exact ⟨rfl, rfl⟩
  by_cases h5 : k = 5
  · subst h5
    clear h1 h2 h3 h4
    go_enter Tryz.func66, Tryz.ntmps66
    go_wp2_with fail
    go_ret
    exact ⟨rfl, rfl⟩
  by_cases h6 : k = 6
  · subst h6
    clear h1 h2 h3 h4 h5
    go_enter Tryz.func66, Tryz.ntmps66
    go_wp2_with fail
    go_ret
    exact ⟨rfl, rfl⟩
  by_cases h7 : k = 7
  · subst h7
    clear h1 h2 h3 h4 h5 h6
    go_enter Tryz.func66, Tryz.ntmps66
    go_wp2_with fail
    go_ret
    exact ⟨rfl, rfl⟩
  by_cases h8 : k = 8
  · subst h8
    clear h1 h2 h3 h4 h5 h6 h7
    go_enter Tryz.func66, Tryz.ntmps66
    go_wp2_with fail
    go_ret
    exact ⟨rfl, rfl⟩
  by_cases h9 : k = 9
  · subst h9
    clear h1 h2 h3 h4 h5 h6 h7 h8
    go_enter Tryz.func66, Tryz.ntmps66
    go_wp2_with fail
    go_ret
    exact ⟨rfl, rfl⟩
  by_cases h10 : k = 10
  · subst h10
    clear h1 h2 h3 h4 h5 h6 h7 h8 h9
    go_enter Tryz.func66, Tryz.ntmps66
    go_wp2_with fail
    go_ret
    exact ⟨rfl, rfl⟩
  by_cases h11 : k = 11
  · subst h11
    clear h1 h2 h3 h4 h5 h6 h7 h8 h9 h10
    go_enter Tryz.func66, Tryz.ntmps66
    go_wp2_with fail
    go_ret
    exact ⟨rfl, rfl⟩
  have b1 : (k == 1) = false := by simpa using h1
  have b2 : (k == 2) = false := by simpa using h2
  have b3 : (k == 3) = false := by simpa using h3
  have b4 : (k == 4) = false := by simpa using h4
  have b5 : (k == 5) = false := by simpa using h5
  have b6 : (k == 6) = false := by simpa using h6
  have b7 : (k == 7) = false := by simpa using h7
  have b8 : (k == 8) = false := by simpa using h8
  have b9 : (k == 9) = false := by simpa using h9
  have b10 : (k == 10) = false := by simpa using h10
  have b11 : (k == 11) = false := by simpa using h11
  have hF : tellF k = 93 := by unfold tellF; simp only [if_neg h1, if_neg h2, if_neg h3, if_neg h4, if_neg h5, if_neg h6, if_neg h7, if_neg h8, if_neg h9, if_neg h10, if_neg h11]
  rw [hF]
  clear hF h1 h2 h3 h4 h5 h6 h7 h8 h9 h10 h11
  go_enter Tryz.func66, Tryz.ntmps66
  go_wp2_with fail
  go_ret
  exact ⟨rfl, rfl⟩

theorem told_all (k : Int) (g : Nat) (f : Int) (b : List UInt8) (w : World) (hW : WrapAt w g ((zP k).cells Nl Nl) f b) (hb : b.length ≤ 140737488351232) (hE : EnvU w) (hH : EnvH w) :
    Calls Tryz.prog (tellF k) #[.pointer (some ⟨g, 0, none⟩)] w (TellsL w g f b (paTold k f b)) := by
  by_cases h1 : k = 1
  · subst h1
    exact ofConnect_c 1 g f b w hW hb hE
  by_cases h2 : k = 2
  · subst h2
    exact ofConnack_c 2 g f b w hW hb
  by_cases h3 : k = 3
  · subst h3
    exact ofPublish_c 3 g f b w hW hb hE hH
  by_cases h4 : k = 4
  · subst h4
    exact ofId_c 4 g f b w hW hb
  by_cases h5 : k = 5
  · subst h5
    exact ofId_c 5 g f b w hW hb
  by_cases h6 : k = 6
  · subst h6
    exact ofId_c 6 g f b w hW hb
  by_cases h7 : k = 7
  · subst h7
    exact ofId_c 7 g f b w hW hb
  by_cases h8 : k = 8
  · subst h8
    exact ofWishes_c 8 g f b w hW hb hE
  by_cases h9 : k = 9
  · subst h9
    exact ofSuback_c 9 g f b w hW hb
  by_cases h10 : k = 10
  · subst h10
    exact ofWishes_c 10 g f b w hW hb hE
  by_cases h11 : k = 11
  · subst h11
    exact ofId_c 11 g f b w hW hb
  have hF : tellF k = 93 := by unfold tellF; simp only [if_neg h1, if_neg h2, if_neg h3, if_neg h4, if_neg h5, if_neg h6, if_neg h7, if_neg h8, if_neg h9, if_neg h10, if_neg h11]
  have hT : paTold k f b = (zP k, if b.isEmpty then 0 else 4) := by
    unfold paTold
    rw [if_neg h1, if_neg h2, if_neg h3, if_neg (by omega), if_neg h8, if_neg h10, if_neg h9]
    rfl
  rw [hF, hT]
  exact ofNothing_c k g f b w hW hb
end Go.Proofs.YtjlnlgemngpelaaGreatDoor

/- Packets: told: the walk of Of. -/
namespace Go.Proofs.YtjlnlgemngpelaaGreatDoor
open Go.RowKit
set_option linter.unusedVariables false
set_option linter.unusedSimpArgs false

theorem results_cell_tmp {P : Program} {fn : Func} {tmps : Array Value} {a b : Nat} {t : TypeId} {g : Nat} {v u : Value} {w : World} (hf : fn.results = #[.cell a t, .tmp b]) (ha : tmps.getD a undef = .pointer (some ⟨g, 0, none⟩))
    (hl : (loadVar t ⟨g, 0, none⟩).run P w = .ok v w) (hb : tmps.getD b undef = u) : (results fn tmps).run P w = .ok (.tuple #[v, u]) w := by
  have two : ∀ (f : ResultVar → Sem Value) (x y : ResultVar), #[x, y].mapM f = (do let a ← f x; let b ← f y; pure #[a, b]) := fun f x y => by simp
  unfold results
  rw [hf, two]
  simp only [Sem.run_bind, Sem.run_pure, ha, asAddr, Result.andThen_ok, hl, hb]
  rfl
/-- What Of leaves. -/
def GivesO (w : World) (r : Pac × Int) (e : Ending) (w' : World) : Prop := ∃ vf vc, e = .returned (.tuple #[.agg (r.1.cells vf vc).toArray, .int .i64 r.2]) ∧ PacOwn w.heap.size w' r.1 vf vc ∧ Below w.heap.size w w'
theorem sB_lenP (b : ByteArray) : (sB b).length = b.size := by rw [sB_len]
set_option maxRecDepth 100000 in
theorem build_wrap3 (k f : Int) (b : ByteArray) (W : World) : (Instr.build 80 #[(0, .agg (zK k).toArray), (1, .int .i64 f), (2, .string b)]).run Tryz.prog W = .ok (.agg (wrapL ((zP k).cells Nl Nl) f (sB b)).toArray) W := by
  simp [Instr.build, go_sem, zK, Pac.cells, zP, Pac.zero, Con.zero, wrapL, show ∀ x : ByteArray, sOf (sB x) = x from fun x => by cases x; simp [sOf, sB]]
set_option maxRecDepth 100000 in
set_option maxHeartbeats 8000000 in
theorem packOf_c (k f n : Int) (b : ByteArray) (w : World) (hs : b.size ≤ 140737488351232) (hH : EnvH w) (hE : EnvU w) :
    Calls Tryz.prog 41 #[.agg #[.int .i64 k, .int .i64 f, .int .i64 n, .string b]] w (GivesO w (paOf k f n (sB b))) := by
  have HE := hd hE; have HH := hd hH
  clear hE hH
  go_enter Tryz.func41, Tryz.ntmps41
  go_wp2_with (first
    | (with_reducible refine wpl_box (o := ⟨some 1, .box 95 (.tmp 0), _, _, _, _⟩) rfl _ _ rfl [.int .i64 k, .int .i64 f, .int .i64 n, .string b] rfl w.heap.size rfl ?_; intro w1 h1 f1 b1 z1)
    | (with_reducible refine wpl_alloc (o := ⟨some 2, .alloc 36, _, _, _, _⟩) rfl _ rfl (zK 0) alloc_pac _ z1 ?_; intro w2 h2 f2 b2 z2; replace h1 := h1.keep b2 (by omega); have B2 : Below w.heap.size w w2 := b1.trans (b2.mono (by omega)); clear f1 b1 b2; have c0 := h1.at 0 (u := .int .i64 k) rfl; have c1 := h1.at 1 (u := .int .i64 f) rfl; have c2 := h1.at 2 (u := .int .i64 n) rfl; have c3 := h1.at 3 (u := .string b) rfl))
  refine (hRight_c k f _ (HH.out.below B2 (Nat.le_refl _))).mono ?_
  rintro e w' ⟨rfl, rfl⟩
  by_cases hr : hRight k f = 0
  rotate_left
  · have hrb : (hRight k f != 0) = true := by simpa using hr
    have ho : paOf k f n (sB b) = (Pac.zero, hRight k f) := by unfold paOf; rw [if_pos hr]
    have HO0 := hd ho
    clear ho
    go_wp2_with (first
      | ((with_reducible refine wpl_at (o := ⟨none, .store 36 (.tmp 2) (.tmp 17), _, _, _, _⟩) ?_); refine wpl_storeAll rfl rfl _ _ _ rfl (w.heap.size + 1) (zK 0) (zK 0) rfl rfl info_pac (zK_one 0) h2 rfl f2 ?_; intro w9 h9 f9 k9 z9))
    rw [HO0.out]
    refine bodyPost_ret (v := .tuple #[.agg (Pac.zero.cells Nl Nl).toArray, .int .i64 (hRight k f)]) (results_cell_tmp Tryz.results41 rfl (ret_pac h9 rfl) rfl) rfl ?_
    exact ⟨Nl, Nl, rfl, PacOwn.nil (p := Pac.zero) _ _ rfl rfl, B2.trans (k9.toBelow B2.size (by simp))⟩
  rw [hr]
  by_cases hn : n = (b.size : Int)
  rotate_left
  · have hnb : (n != (b.size : Int)) = true := by simpa using hn
    have ho : paOf k f n (sB b) = (Pac.zero, 4) := by unfold paOf; rw [if_neg (by simpa using hr), if_pos (by rw [sB_lenP]; exact hn)]
    have HO0 := hd ho
    clear ho
    go_wp2_with (first
      | ((with_reducible refine wpl_at (o := ⟨none, .store 36 (.tmp 2) (.tmp 26), _, _, _, _⟩) ?_); refine wpl_storeAll rfl rfl _ _ _ rfl (w.heap.size + 1) (zK 0) (zK 0) rfl rfl info_pac (zK_one 0) h2 rfl f2 ?_; intro w9 h9 f9 k9 z9))
    rw [HO0.out]
    refine bodyPost_ret (v := .tuple #[.agg (Pac.zero.cells Nl Nl).toArray, .int .i64 (4)]) (results_cell_tmp Tryz.results41 rfl (ret_pac h9 rfl) rfl) rfl ?_
    exact ⟨Nl, Nl, rfl, PacOwn.nil (p := Pac.zero) _ _ rfl rfl, B2.trans (k9.toBelow B2.size (by simp))⟩
  have ho : paOf k f n (sB b) = if (paTold k f (sB b)).2 ≠ 0 then (Pac.zero, (paTold k f (sB b)).2) else ((paTold k f (sB b)).1, 0) := by
    unfold paOf
    rw [if_neg (by simpa using hr), if_neg (by rw [sB_lenP]; simpa using hn)]
  have HO := hd ho
  clear ho hr
  have hnb : (n != (b.size : Int)) = false := by simpa using hn
  go_wp2_with (first
    | ((with_reducible refine wpl_at (o := ⟨some 30, .build 36 #[(0, .tmp 29)], _, _, _, _⟩) ?_); refine wpl_build rfl _ _ rfl #[(0, .int .i64 k)] (by simp [Act.eval]) _ (fun W => build_pac k W) ?_)
    | ((with_reducible refine wpl_at (o := ⟨some 36, .build 80 #[(0, .tmp 30), (1, .tmp 33), (2, .tmp 35)], _, _, _, _⟩) ?_); refine wpl_build rfl _ _ rfl #[(0, .agg (zK k).toArray), (1, .int .i64 f), (2, .string b)] (by simp [Act.eval]) _ (fun W => build_wrap3 k f b W) ?_)
    | (with_reducible refine wpl_box (o := ⟨some 37, .box 80 (.tmp 36), _, _, _, _⟩) rfl _ _ rfl (wrapL ((zP k).cells Nl Nl) f (sB b)) rfl (w.heap.size + 1 + 1) (by omega) ?_; intro w3 h3 f3 b3 z3))
  have hW : WrapAt w3 (w.heap.size + 1 + 1) ((zP k).cells Nl Nl) f (sB b) := ⟨h3, rfl, f3⟩
  replace h2 := h2.keep b3 (by omega)
  replace f2 := f2.keep b3 (by omega)
  have B3 : Below w.heap.size w w3 := B2.trans (b3.mono (by omega))
  clear h1 h3 f3 b3 B2 c0 c1 c2 c3
  have c0 := hW.cell (j := 0) (u := .int .i64 k) rfl
  refine (teller_c (w.heap.size + 1 + 1) k w3 c0).mono ?_
  rintro e w' ⟨rfl, rfl⟩
  have hcf := fun (k : Int) (args : Array Value) (W : World) => tellF_call k args W
  clear c0 hnb
  go_wp2_with fail
  have hta := told_all k (w.heap.size + 1 + 1) f (sB b) w3 hW (by rw [sB_lenP]; exact hs) (HE.out.below B3) (HH.out.below B3 (Nat.le_refl _))
  obtain ⟨r, hr⟩ : ∃ r, paTold k f (sB b) = r := ⟨_, rfl⟩
  rw [hr] at hta
  have HO' : Hd (paOf k f n (sB b) = if r.2 ≠ 0 then (Pac.zero, r.2) else (r.1, 0)) := hd (by rw [← hr]; exact HO.out)
  clear HO hr
  refine hta.mono ?_
  clear hta
  rintro e w4 ⟨vf, vc, rfl, hW4, hr4, hk4⟩
  have B4 : Below w.heap.size w w4 := B3.trans (hk4.toBelow B3.size (by simp; omega))
  replace h2 := h2.keeps hk4 (by simp)
  replace f2 := f2.keeps hk4 (by omega) (by simp)
  clear hW hk4 B3
  obtain ⟨q, E⟩ := r
  by_cases hE0 : E = 0
  rotate_left
  · have hEb : (E != 0) = true := by simpa using hE0
    go_wp2_with (first
      | ((with_reducible refine wpl_at (o := ⟨none, .store 36 (.tmp 2) (.tmp 44), _, _, _, _⟩) ?_); refine wpl_storeAll rfl rfl _ _ _ rfl (w.heap.size + 1) (zK 0) (zK 0) rfl rfl info_pac (zK_one 0) h2 rfl f2 ?_; intro w9 h9 f9 k9 z9))
    rw [HO'.out, if_pos hE0]
    refine bodyPost_ret (v := .tuple #[.agg (Pac.zero.cells Nl Nl).toArray, .int .i64 (E)]) (results_cell_tmp Tryz.results41 rfl (ret_pac h9 rfl) rfl) rfl ?_
    exact ⟨Nl, Nl, rfl, PacOwn.nil (p := Pac.zero) _ _ rfl rfl, B4.trans (k9.toBelow B4.size (by simp))⟩
  subst hE0
  have hone := Pac.one q vf vc hr4.rd.f.oneCell hr4.rd.c.oneCell
  go_wp2_with (first
    | ((with_reducible refine wpl_at (o := ⟨some 49, .load 36 (.tmp 48), _, _, _, _⟩) ?_); refine wpl_loadAt rfl _ _ rfl (w.heap.size + 1 + 1) 0 rfl (q.cells vf vc) _ (hW4.part 0 (by intro j v hv; rw [Nat.zero_add]; exact hv)) Tryz.underlying36 rfl info_pac ?_)
    | ((with_reducible refine wpl_at (o := ⟨none, .store 36 (.tmp 2) (.tmp 49), _, _, _, _⟩) ?_); refine wpl_storeAll rfl rfl _ _ _ rfl (w.heap.size + 1) (q.cells vf vc) (zK 0) rfl rfl info_pac hone h2 rfl f2 ?_; intro w9 h9 f9 k9 z9))
  rw [HO'.out, if_neg (by simp)]
  refine bodyPost_ret (v := .tuple #[.agg (q.cells vf vc).toArray, .int .i64 0]) (results_cell_tmp Tryz.results41 rfl (ret_pac h9 rfl) rfl) rfl ?_
  exact ⟨vf, vc, rfl, (hr4.keeps k9 (by intro j hj; simp at hj; omega)).le (by omega), B4.trans (k9.toBelow B4.size (by simp))⟩
end Go.Proofs.YtjlnlgemngpelaaGreatDoor

/- Texts one behind another: plain laws. No program. -/
namespace Go.Proofs.YtjlnlgemngpelaaGreatDoor
open Go.RowKit
set_option linter.unusedVariables false

theorem bN_append_left (x y : List UInt8) (j : Nat) (h : j < x.length) : bN (x ++ y) j = bN x j := by
  unfold bN
  rw [List.getD_eq_getElem?_getD, List.getD_eq_getElem?_getD, List.getElem?_append_left h]

theorem decode_more (x y : List UInt8) (hx : x ≠ []) (h : ¬ ((Lib.decodeL x).1 = 65533 ∧ (Lib.decodeL x).2 = 1)) : Lib.decodeL (x ++ y) = Lib.decodeL x := by
  have hl : 0 < x.length := List.length_pos_iff.2 hx
  rw [Lib.decodeL_N, Lib.decodeL_N] at *
  have e0 : ((x ++ y).getD 0 0).toNat = (x.getD 0 0).toNat := bN_append_left x y 0 hl
  have e1 : 1 < x.length → ((x ++ y).getD 1 0).toNat = (x.getD 1 0).toNat := bN_append_left x y 1
  have e2 : 2 < x.length → ((x ++ y).getD 2 0).toNat = (x.getD 2 0).toNat := bN_append_left x y 2
  have e3 : 3 < x.length → ((x ++ y).getD 3 0).toNat = (x.getD 3 0).toNat := bN_append_left x y 3
  rw [List.length_append]
  generalize ((x ++ y).getD 0 0).toNat = a0 at *
  generalize ((x ++ y).getD 1 0).toNat = a1 at *
  generalize ((x ++ y).getD 2 0).toNat = a2 at *
  generalize ((x ++ y).getD 3 0).toNat = a3 at *
  generalize (x.getD 0 0).toNat = b0 at *
  generalize (x.getD 1 0).toNat = b1 at *
  generalize (x.getD 2 0).toNat = b2 at *
  generalize (x.getD 3 0).toNat = b3 at *
  subst e0
  rcases Lib.decodeN_shape x.length a0 b1 b2 b3 with ⟨c, e⟩ | ⟨c1, c2, c3, cv, e⟩ | ⟨c1, c2, c3, c4, cv, cs, e⟩ | ⟨c1, c2, c3, c4, c5, cv, cw, e⟩ | e
  · rw [e]
    unfold Lib.decodeN
    rw [if_pos c]
  · rw [e, e1 c2]
    unfold Lib.decodeN
    rw [if_neg (by omega), if_pos (by omega), if_pos (by omega)]
  · rw [e, e1 (by omega), e2 c2]
    unfold Lib.decodeN
    rw [if_neg (by omega), if_neg (by omega), if_pos (by omega), if_pos (by omega)]
  · rw [e, e1 (by omega), e2 (by omega), e3 c2]
    unfold Lib.decodeN
    rw [if_neg (by omega), if_neg (by omega), if_neg (by omega), if_pos (by omega), if_pos (by omega)]
  · rw [e] at h
    exact absurd ⟨rfl, rfl⟩ h

theorem validD_append : ∀ (k : Nat) (x y : List UInt8), x.length ≤ k → Lib.validD x = true → Lib.validD (x ++ y) = Lib.validD y
  | 0, x, y, hk, h => by
    have : x = [] := List.eq_nil_of_length_eq_zero (by omega)
    subst this
    rfl
  | k + 1, x, y, hk, h => by
    by_cases hx : x = []
    · subst hx; rfl
    · have hs := Lib.validD_step x hx
      rw [h] at hs
      split at hs
      · cases hs
      · rename_i hn
        have hd := decode_more x y hx hn
        have hle := Lib.decodeL_le x hx
        have h1 := Lib.decodeL_width x
        rw [Lib.validD_step (x ++ y) (by simp [hx]), hd, if_neg hn, List.drop_append_of_le_length hle]
        exact validD_append k _ y (by rw [List.length_drop]; omega) hs.symm

theorem zeroIn_append (x y : List UInt8) : zeroIn (x ++ y) = (zeroIn x || zeroIn y) := by unfold zeroIn; exact List.any_append

theorem validD_tail (c : UInt8) (y : List UInt8) (h1 : 128 ≤ c.toNat) (h2 : c.toNat ≤ 191) : Lib.validD (c :: y) = false := by
  rw [Lib.validD_step (c :: y) (by simp), Lib.decodeL_N]
  have e0 : ((c :: y).getD 0 0).toNat = c.toNat := rfl
  rw [e0]
  rcases Lib.decodeN_shape (c :: y).length c.toNat ((c :: y).getD 1 0).toNat ((c :: y).getD 2 0).toNat ((c :: y).getD 3 0).toNat with ⟨c, e⟩ | ⟨c1, c2, c3, cv, e⟩ | ⟨c1, c2, c3, c4, cv, cs, e⟩ | ⟨c1, c2, c3, c4, c5, cv, cw, e⟩ | e
  · omega
  · omega
  · omega
  · omega
  · rw [e, if_pos ⟨rfl, rfl⟩]

theorem uRight_parts {l : List UInt8} (h : uRight l = true) : l.length ≤ 65535 ∧ Lib.validD l = true ∧ zeroIn l = false := by
  unfold uRight at h
  simp at h
  exact h

theorem uRight_join {x y : List UInt8} (hx : uRight x = true) (hy : uRight y = true) (hl : x.length + y.length ≤ 65535) : uRight (x ++ y) = true := by
  obtain ⟨_, h2, h3⟩ := uRight_parts hx
  obtain ⟨_, h5, h6⟩ := uRight_parts hy
  unfold uRight
  rw [validD_append x.length x y (Nat.le_refl _) h2, zeroIn_append, h5, h3, h6, List.length_append, decide_eq_true hl]
  rfl
theorem uRight_tail {x : List UInt8} (y : List UInt8) (c : UInt8) (hx : uRight x = true) (h1 : 128 ≤ c.toNat) (h2 : c.toNat ≤ 191) : uRight (x ++ [c] ++ y) = false := by
  obtain ⟨_, h3, _⟩ := uRight_parts hx
  unfold uRight
  rw [List.append_assoc, validD_append x.length x _ (Nat.le_refl _) h3]
  rw [show [c] ++ y = c :: y from rfl, validD_tail c y h1 h2]
  simp
theorem uRight_zero (x y : List UInt8) : uRight (x ++ [0] ++ y) = false := by
  unfold uRight
  rw [zeroIn_append, zeroIn_append]
  have : zeroIn [0] = true := rfl
  rw [this]
  simp
end Go.Proofs.YtjlnlgemngpelaaGreatDoor

/- Who comes: plain laws: what was laid is told; with a byte more, or one less, it is not. No program. -/
namespace Go.Proofs.YtjlnlgemngpelaaGreatDoor
open Go.RowKit
set_option linter.unusedVariables false
set_option linter.unusedSimpArgs false

theorem sOf_sB (s : ByteArray) : sOf (sB s) = s := by cases s; simp [sOf, sB]
def fld (is : Bool) (S : List UInt8) : List UInt8 := if is = true then uPutRawB S else []

theorem uGetRaw_cut (A S : List UInt8) (h : S.length ≤ 65535) : uGetRaw (A ++ (uPutRawB S).dropLast) (A.length : Int) = ([], 0, 2) := by
  rw [uPutRawB_ok h]
  by_cases hs : S = []
  · subst hs
    have e : (uGet2 (A ++ (B8 (([] : List UInt8).length / 256) :: B8 (([] : List UInt8).length % 256) :: ([] : List UInt8)).dropLast) (A.length : Int)) = (0, 0, 2) := by
      unfold uGet2
      rw [if_neg (by simp; omega), if_pos (by simp; omega)]
    unfold uGetRaw
    rw [e]
    rfl
  · have hd : (B8 (S.length / 256) :: B8 (S.length % 256) :: S).dropLast = B8 (S.length / 256) :: B8 (S.length % 256) :: S.dropLast := by
      cases S with
      | nil => exact absurd rfl hs
      | cons x t => rfl
    have hp : 0 < S.length := by cases S with
      | nil => exact absurd rfl hs
      | cons x t => simp
    rw [hd]
    unfold uGetRaw
    rw [uGet2_at A S.dropLast S.length h]
    simp only
    rw [if_neg (by simp), if_pos (by simp; omega)]
theorem uGet_cut (A S : List UInt8) (h : S.length ≤ 65535) : uGet (A ++ (uPutRawB S).dropLast) (A.length : Int) = ([], 0, 2) := by
  unfold uGet; rw [uGetRaw_cut A S h]; rfl

theorem rText_stuck (g : List UInt8 × Int × Int) (is : Bool) {st : Int × Int} (h : st.2 ≠ 0) : rTextS g is st = st := by
  unfold rTextS; repeat' split
  all_goals first | rfl | contradiction
theorem rFail_stuck {st : Int × Int} (h : st.2 ≠ 0) (E : Int) : rFail st E = st := by unfold rFail; rw [if_neg h]
theorem rTwo_stuck (l : List UInt8) {st : Int × Int} (h : st.2 ≠ 0) : rTwoS l st = st := by unfold rTwoS; rw [if_pos h]
theorem rText_off (g : List UInt8 × Int × Int) (st : Int × Int) : rTextS g false st = st ∧ rTextV g false st = [] := ⟨rfl, rfl⟩
theorem rText_on (g : List UInt8 × Int × Int) (n : Int) : rTextS g true (n, 0) = (g.2.1, g.2.2) ∧ rTextV g true (n, 0) = g.1 := ⟨rfl, rfl⟩

theorem rT_in {l A S C : List UInt8} {is : Bool} {s : Int × Int} (hl : l = A ++ fld is S ++ C) (hs : s = ((A.length : Int), 0)) (hS : is = true → uRight S = true) :
    rTextS (uGet l s.1) is s = (((A ++ fld is S).length : Int), 0) ∧ rTextV (uGet l s.1) is s = if is = true then S else [] := by
  subst hl hs
  cases is
  · rw [(rText_off _ _).1, (rText_off _ _).2]; exact ⟨by simp [fld], rfl⟩
  · have h := hS rfl
    have hz := uRight_len h
    rw [(rText_on _ _).1, (rText_on _ _).2, show fld true S = uPutRawB S from rfl, uGet_at A S C hz, if_pos h]
    refine ⟨?_, rfl⟩
    simp only [List.length_append, uPutRawB_len hz, Prod.mk.injEq, and_true]
    omega
theorem rR_in {l A S C : List UInt8} {is : Bool} {s : Int × Int} (hl : l = A ++ fld is S ++ C) (hs : s = ((A.length : Int), 0)) (hS : is = true → S.length ≤ 65535) :
    rTextS (uGetRaw l s.1) is s = (((A ++ fld is S).length : Int), 0) ∧ rTextV (uGetRaw l s.1) is s = if is = true then S else [] := by
  subst hl hs
  cases is
  · rw [(rText_off _ _).1, (rText_off _ _).2]; exact ⟨by simp [fld], rfl⟩
  · have hz := hS rfl
    rw [(rText_on _ _).1, (rText_on _ _).2, show fld true S = uPutRawB S from rfl, uGetRaw_at A S C hz]
    refine ⟨?_, rfl⟩
    simp only [List.length_append, uPutRawB_len hz, Prod.mk.injEq, and_true]
    omega

/-- what is right about who may come -/
theorem cErr_right {c : Con} (h : cErr c = 0) : c.level = 4 ∧ (0 ≤ c.keep ∧ c.keep ≤ 65535) ∧ (0 ≤ c.qos ∧ c.qos ≤ 2) ∧ (c.hasPass && !c.hasUser) = false ∧ (!c.hasWill && !c.noWill) = false ∧ (!c.hasUser && !emB c.user) = false ∧ (!c.hasPass && !emB c.pass) = false := by
  unfold cErr at h
  by_cases h1 : c.level ≠ 4
  · rw [if_pos h1] at h; cases h
  rw [if_neg h1] at h
  by_cases h2 : c.keep < 0 ∨ 65535 < c.keep
  · rw [if_pos h2] at h; cases h
  rw [if_neg h2] at h
  by_cases h3 : c.qos < 0 ∨ 2 < c.qos
  · rw [if_pos h3] at h; cases h
  rw [if_neg h3] at h
  by_cases h4 : (c.hasPass && !c.hasUser) = true
  · rw [if_pos h4] at h; cases h
  rw [if_neg h4] at h
  by_cases h5 : (!c.hasWill && !c.noWill) = true
  · rw [if_pos h5] at h; cases h
  rw [if_neg h5] at h
  by_cases h6 : (!c.hasUser && !emB c.user) = true
  · rw [if_pos h6] at h; cases h
  rw [if_neg h6] at h
  by_cases h7 : (!c.hasPass && !emB c.pass) = true
  · rw [if_pos h7] at h; cases h
  refine ⟨by omega, by omega, by omega, by simpa using h4, by simpa using h5, by simpa using h6, by simpa using h7⟩

theorem cStep_zero {st : List UInt8 × Int} {is : Bool} {fe : Int} {fb : List UInt8} (h : (cStep st is fe fb).2 = 0) : st.2 = 0 ∧ (is = true → fe = 0) ∧ (cStep st is fe fb).1 = st.1 ++ (if is = true then fb else []) := by
  obtain ⟨l, e⟩ := st
  cases is
  · rw [cStep_no] at h ⊢; exact ⟨h, by simp, by simp⟩
  · by_cases he : e = 0
    · subst he
      by_cases hf : fe = 0
      · subst hf; rw [cStep_ok]; exact ⟨rfl, fun _ => rfl, rfl⟩
      · rw [cStep_err _ _ hf] at h; exact absurd h hf
    · rw [cStep_bad he] at h; exact absurd h he
theorem fld_put {is : Bool} {S : List UInt8} (h : is = true → uPutE S = 0) : (if is = true then uPutB S else []) = fld is S ∧ (is = true → uRight S = true) := by
  cases is
  · exact ⟨rfl, by simp⟩
  · have := uPutE_zero (h rfl)
    exact ⟨by simp [fld, uPutB, this], fun _ => this⟩
theorem fld_raw {is : Bool} {S : List UInt8} (h : is = true → uPutRawE S = 0) : (if is = true then uPutRawB S else []) = fld is S ∧ (is = true → S.length ≤ 65535) := by
  cases is
  · exact ⟨rfl, by simp⟩
  · have := h rfl
    unfold uPutRawE at this
    refine ⟨rfl, fun _ => ?_⟩
    split at this
    · simp at this
    · omega

def cA1 (c : Con) : List UInt8 := cHead c ++ fld true (sB c.client)
def cA2 (c : Con) : List UInt8 := cA1 c ++ fld c.hasWill (sB c.topic)
def cA3 (c : Con) : List UInt8 := cA2 c ++ fld c.hasWill (sB c.text)
def cA4 (c : Con) : List UInt8 := cA3 c ++ fld c.hasUser (sB c.user)
def cA5 (c : Con) : List UInt8 := cA4 c ++ fld c.hasPass (sB c.pass)

structure ConOk (c : Con) : Prop where
  e : cErr c = 0
  f1 : uRight (sB c.client) = true
  f2 : c.hasWill = true → uRight (sB c.topic) = true
  f3 : c.hasWill = true → (sB c.text).length ≤ 65535
  f4 : c.hasUser = true → uRight (sB c.user) = true
  f5 : c.hasPass = true → (sB c.pass).length ≤ 65535
  is : cPutB c = cA5 c
  len : (cA5 c).length ≤ 4096

theorem conOk {c : Con} (h : cPutE c = 0) : ConOk c := by
  have hb : cPutB c = (cS5 c).1 := by rw [cPutB, if_pos h]
  unfold cPutE at h
  by_cases h1 : cErr c ≠ 0
  · rw [if_pos h1] at h; exact absurd h h1
  rw [if_neg h1] at h
  by_cases h2 : (cS5 c).2 ≠ 0
  · rw [if_pos h2] at h; exact absurd h h2
  rw [if_neg h2] at h
  by_cases h3 : 4096 < (cS5 c).1.length
  · rw [if_pos h3] at h; cases h
  have z5 : (cS5 c).2 = 0 := by omega
  obtain ⟨z4, g5, q5⟩ := cStep_zero (st := cS4 c) (is := c.hasPass) (fe := uPutRawE (sB c.pass)) (fb := uPutRawB (sB c.pass)) z5
  obtain ⟨z3, g4, q4⟩ := cStep_zero (st := cS3 c) (is := c.hasUser) (fe := uPutE (sB c.user)) (fb := uPutB (sB c.user)) z4
  obtain ⟨z2, g3, q3⟩ := cStep_zero (st := cS2 c) (is := c.hasWill) (fe := uPutRawE (sB c.text)) (fb := uPutRawB (sB c.text)) z3
  obtain ⟨z1, g2, q2⟩ := cStep_zero (st := cS1 c) (is := c.hasWill) (fe := uPutE (sB c.topic)) (fb := uPutB (sB c.topic)) z2
  obtain ⟨z0, g1, q1⟩ := cStep_zero (st := (cHead c, 0)) (is := true) (fe := uPutE (sB c.client)) (fb := uPutB (sB c.client)) z1
  have i1 := fld_put g1; have i2 := fld_put g2; have i3 := fld_raw g3; have i4 := fld_put g4; have i5 := fld_raw g5
  rw [i1.1] at q1; rw [i2.1] at q2; rw [i3.1] at q3; rw [i4.1] at q4; rw [i5.1] at q5
  have j1 : (cS1 c).1 = cA1 c := q1
  have j2 : (cS2 c).1 = cA2 c := q2.trans (by rw [j1]; rfl)
  have j3 : (cS3 c).1 = cA3 c := q3.trans (by rw [j2]; rfl)
  have j4 : (cS4 c).1 = cA4 c := q4.trans (by rw [j3]; rfl)
  have j5 : (cS5 c).1 = cA5 c := q5.trans (by rw [j4]; rfl)
  exact ⟨by omega, i1.2 rfl, i2.2, i3.2, i4.2, i5.2, hb.trans j5, by rw [← j5]; omega⟩

theorem flags_back {c : Con} (h : 0 ≤ c.qos ∧ c.qos ≤ 2) : fb (cFlags c) 2 = c.clean ∧ fb (cFlags c) 4 = c.hasWill ∧ fb (cFlags c) 32 = c.retain ∧ fb (cFlags c) 64 = c.hasPass ∧ fb (cFlags c) 128 = c.hasUser ∧ bits .and .i64 (cFlags c / 8) 3 = c.qos := by
  have hq : c.qos = 0 ∨ c.qos = 1 ∨ c.qos = 2 := by omega
  unfold cFlags fb
  generalize c.clean = a at *
  generalize c.hasWill = b at *
  generalize c.retain = d at *
  generalize c.hasPass = e at *
  generalize c.hasUser = f at *
  rcases hq with hq | hq | hq <;> rw [hq] <;> cases a <;> cases b <;> cases d <;> cases e <;> cases f <;> decide +kernel
theorem may_back {c : Con} (h : cErr c = 0) : cMay (cFlags c) = true := by
  obtain ⟨-, -, h, h1, h2, -, -⟩ := cErr_right h
  have hq : c.qos = 0 ∨ c.qos = 1 ∨ c.qos = 2 := by omega
  unfold Con.noWill at h2
  unfold cFlags cMay
  generalize c.clean = a at *
  generalize c.hasWill = b at *
  generalize c.retain = d at *
  generalize c.hasPass = e at *
  generalize c.hasUser = f at *
  generalize (emB c.topic && emB c.text) = g at *
  rcases hq with hq | hq | hq <;> rw [hq] at h2 ⊢ <;> cases a <;> cases b <;> cases d <;> cases e <;> cases f <;> first | decide +kernel | (exfalso; revert h1; decide) | (exfalso; revert h2; revert g; decide)

theorem cHead_len (c : Con) : (cHead c).length = 10 := rfl
/-- What the head of it all is told as. -/
theorem kHead {c : Con} (h : cErr c = 0) (R : List UInt8) : cNm (cHead c ++ R) = [77, 81, 84, 84] ∧ cT1 (cHead c ++ R) = (7, 0) ∧ cLv (cHead c ++ R) = 4 ∧ kf (cHead c ++ R) (7, 0) = cFlags c ∧ k3 (cHead c ++ R) (7, 0) = (10, 0) ∧ rTwoV (cHead c ++ R) (k2 (cHead c ++ R) (7, 0)) = c.keep := by
  obtain ⟨-, hk, hq, -⟩ := cErr_right h
  have hf := cFlags_rng hq
  have hll : ((cHead c ++ R).length : Int) = 10 + R.length := by rw [List.length_append, cHead_len]; simp
  have e0 : cHead c ++ R = [] ++ uPutRawB [77, 81, 84, 84] ++ ([4, B8 (cFlags c).toNat, B8 (c.keep.toNat / 256), B8 (c.keep.toNat % 256)] ++ R) := by
    rw [show uPutRawB [77, 81, 84, 84] = [0, 4, 77, 81, 84, 84] from by decide +kernel]; rfl
  have g0 := uGet_at [] [77, 81, 84, 84] ([4, B8 (cFlags c).toNat, B8 (c.keep.toNat / 256), B8 (c.keep.toNat % 256)] ++ R) (by decide)
  rw [if_pos (show uRight [77, 81, 84, 84] = true by decide +kernel), ← e0] at g0
  have g1 : uGet (cHead c ++ R) 0 = ([77, 81, 84, 84], 6, 0) := g0
  have b6 : bN (cHead c ++ R) 6 = 4 := rfl
  have b7 : bN (cHead c ++ R) 7 = (cFlags c).toNat := by
    have : bN (cHead c ++ R) 7 = (B8 (cFlags c).toNat).toNat := rfl
    rw [this, B8_toNat (by omega)]
  have t0 : cT0 (cHead c ++ R) = (6, 0) := by unfold cT0; rw [g1]; rfl
  have t1 : cT1 (cHead c ++ R) = (7, 0) := by unfold cT1; rw [t0]; unfold rOneS; rw [if_neg (by simp), if_neg (by simp only; omega)]; rfl
  have f7 : kf (cHead c ++ R) (7, 0) = cFlags c := by
    unfold kf rOneV; rw [if_neg (by simp), if_neg (by simp only; omega)]
    have : ((7 : Int), (0 : Int)).1.toNat = 7 := rfl
    rw [this, b7]; omega
  have s1 : k1 (cHead c ++ R) (7, 0) = (8, 0) := by unfold k1 rOneS; rw [if_neg (by simp), if_neg (by simp only; omega)]; rfl
  have s2 : k2 (cHead c ++ R) (7, 0) = (8, 0) := by unfold k2; rw [f7, may_back h, s1]; rfl
  have e8 : cHead c ++ R = [0, 4, 77, 81, 84, 84, 4, B8 (cFlags c).toNat] ++ (B8 (c.keep.toNat / 256) :: B8 (c.keep.toNat % 256) :: R) := rfl
  have g8 := uGet2_at [0, 4, 77, 81, 84, 84, 4, B8 (cFlags c).toNat] R c.keep.toNat (by omega)
  rw [← e8] at g8
  have g9 : uGet2 (cHead c ++ R) 8 = ((c.keep.toNat : Int), 10, 0) := g8
  refine ⟨by unfold cNm; rw [g1]; rfl, t1, by unfold cLv rOneV; rw [t0, if_neg (by simp), if_neg (by simp only; omega)]; exact congrArg _ b6, f7, ?_, ?_⟩
  · unfold k3; rw [s2]; unfold rTwoS; rw [if_neg (by simp)]; simp only; rw [g9]
  · rw [s2]; unfold rTwoV; rw [if_neg (by simp)]; simp only; rw [g9]; simp only; omega

theorem em_eq {s : ByteArray} (h : emB s = true) : (⟨#[]⟩ : ByteArray) = s := by
  have e := sOf_sB s
  unfold emB at h
  rw [List.isEmpty_iff.1 h] at e
  exact e
theorem opt_eq {is : Bool} {s : ByteArray} (h : (!is && !emB s) = false) : sOf (if is = true then sB s else []) = s := by
  cases is
  · exact em_eq (by simpa using h)
  · exact sOf_sB s

/-- WHAT WAS LAID, with more behind it. -/
theorem conRun {c : Con} (h : ConOk c) (X : List UInt8) : cNm (cA5 c ++ X) = [77, 81, 84, 84] ∧ cT1 (cA5 c ++ X) = (7, 0) ∧ cLv (cA5 c ++ X) = 4 ∧ k8 (cA5 c ++ X) (7, 0) = (((cA5 c).length : Int), 0) ∧ kCon 4 (cA5 c ++ X) (7, 0) = c := by
  have q5 : cA5 c ++ X = cA4 c ++ fld c.hasPass (sB c.pass) ++ X := rfl
  have q4 : cA5 c ++ X = cA3 c ++ fld c.hasUser (sB c.user) ++ (fld c.hasPass (sB c.pass) ++ X) := by rw [q5]; unfold cA4; simp only [List.append_assoc]
  have q3 : cA5 c ++ X = cA2 c ++ fld c.hasWill (sB c.text) ++ (fld c.hasUser (sB c.user) ++ (fld c.hasPass (sB c.pass) ++ X)) := by rw [q4]; unfold cA3; simp only [List.append_assoc]
  have q2 : cA5 c ++ X = cA1 c ++ fld c.hasWill (sB c.topic) ++ (fld c.hasWill (sB c.text) ++ (fld c.hasUser (sB c.user) ++ (fld c.hasPass (sB c.pass) ++ X))) := by rw [q3]; unfold cA2; simp only [List.append_assoc]
  have q1 : cA5 c ++ X = cHead c ++ fld true (sB c.client) ++ (fld c.hasWill (sB c.topic) ++ (fld c.hasWill (sB c.text) ++ (fld c.hasUser (sB c.user) ++ (fld c.hasPass (sB c.pass) ++ X)))) := by rw [q2]; unfold cA1; simp only [List.append_assoc]
  have q0 : cA5 c ++ X = cHead c ++ (fld true (sB c.client) ++ (fld c.hasWill (sB c.topic) ++ (fld c.hasWill (sB c.text) ++ (fld c.hasUser (sB c.user) ++ (fld c.hasPass (sB c.pass) ++ X))))) := by rw [q1]; simp only [List.append_assoc]
  obtain ⟨n0, n1, n2, n3, n4, n5⟩ := kHead h.e (fld true (sB c.client) ++ (fld c.hasWill (sB c.topic) ++ (fld c.hasWill (sB c.text) ++ (fld c.hasUser (sB c.user) ++ (fld c.hasPass (sB c.pass) ++ X)))))
  rw [← q0] at n0 n1 n2 n3 n4 n5
  obtain ⟨hl, hk, hq, h1, h2, h3, h4⟩ := cErr_right h.e
  obtain ⟨b2, b4, b32, b64, b128, b8⟩ := flags_back hq
  have s4 := rT_in q1 (s := k3 (cA5 c ++ X) (7, 0)) n4 (fun _ => h.f1)
  have t4 : k4 (cA5 c ++ X) (7, 0) = (((cA1 c).length : Int), 0) := s4.1
  have s5 := rT_in q2 (s := k4 (cA5 c ++ X) (7, 0)) t4 h.f2
  have t5 : k5 (cA5 c ++ X) (7, 0) = (((cA2 c).length : Int), 0) := by unfold k5; rw [n3, b4]; exact s5.1
  have s6 := rR_in q3 (s := k5 (cA5 c ++ X) (7, 0)) t5 h.f3
  have t6 : k6 (cA5 c ++ X) (7, 0) = (((cA3 c).length : Int), 0) := by unfold k6; rw [n3, b4]; exact s6.1
  have s7 := rT_in q4 (s := k6 (cA5 c ++ X) (7, 0)) t6 h.f4
  have t7 : k7 (cA5 c ++ X) (7, 0) = (((cA4 c).length : Int), 0) := by unfold k7; rw [n3, b128]; exact s7.1
  have s8 := rR_in q5 (s := k7 (cA5 c ++ X) (7, 0)) t7 h.f5
  have t8 : k8 (cA5 c ++ X) (7, 0) = (((cA5 c).length : Int), 0) := by unfold k8; rw [n3, b64]; exact s8.1
  refine ⟨n0, n1, n2, t8, ?_⟩
  unfold kCon
  rw [n3, b2, b4, b32, b64, b128, b8, n5, s4.2, s5.2, s6.2, s7.2, s8.2]
  unfold Con.noWill at h2
  have e1 : sOf (if (true : Bool) = true then sB c.client else []) = c.client := sOf_sB _
  have e2 : sOf (if c.hasWill = true then sB c.topic else []) = c.topic := opt_eq (by
    revert h2; generalize c.hasWill = x; generalize emB c.topic = y; cases x <;> cases y <;> simp)
  have e3 : sOf (if c.hasWill = true then sB c.text else []) = c.text := opt_eq (by
    revert h2; generalize c.hasWill = x; generalize emB c.text = y; cases x <;> cases y <;> simp)
  rw [e1, e2, e3, opt_eq h3, opt_eq h4, ← hl]

theorem con_back {c : Con} (h : cPutE c = 0) : cOf (cPutB c) = (c, 0) := by
  have hk := conOk h
  obtain ⟨n0, n1, n2, t8, kc⟩ := conRun hk []
  rw [List.append_nil] at n0 n1 n2 t8 kc
  rw [hk.is]
  unfold cOf
  rw [if_neg (by simp [n0]), if_pos n2, n1, kc]
  have : k9 (cA5 c) (7, 0) = (((cA5 c).length : Int), 0) := by unfold k9; rw [t8, if_neg (by simp)]
  rw [this]; rfl
theorem con_more {c : Con} (h : cPutE c = 0) (x : UInt8) : cOf (cPutB c ++ [x]) = (Con.zero, 4) := by
  have hk := conOk h
  obtain ⟨n0, n1, n2, t8, kc⟩ := conRun hk [x]
  rw [hk.is]
  unfold cOf
  rw [if_neg (by simp [n0]), if_pos n2, n1]
  have : k9 (cA5 c ++ [x]) (7, 0) = (((cA5 c).length : Int), 4) := by unfold k9; rw [t8, if_pos (by simp; omega)]; rfl
  rw [this]; rfl
theorem con_less {c : Con} (h : cPutE c = 0) : cOf (cPutB c).dropLast = (Con.zero, 2) := by
  have hk := conOk h
  rw [hk.is]
  obtain ⟨hl, hkp, hq, h1, h2, h3, h4⟩ := cErr_right hk.e
  obtain ⟨b2, b4, b32, b64, b128, b8⟩ := flags_back hq
  -- the last text there is, cut: what stands ahead of it is told, then it ends too early
  have fin : ∀ L R, L = cHead c ++ R → k8 L (7, 0) = (0, 2) → cOf L = (Con.zero, 2) := by
    intro L R hL h8
    obtain ⟨n0, n1, n2, n3, n4, n5⟩ := kHead hk.e R
    rw [← hL] at n0 n1 n2
    unfold cOf
    rw [if_neg (by simp [n0]), if_pos n2, n1]
    have : k9 L (7, 0) = (0, 2) := by unfold k9; rw [h8, if_neg (by simp)]
    rw [this]; rfl
  have dl : ∀ A S : List UInt8, S.length ≤ 65535 → (A ++ uPutRawB S).dropLast = A ++ (uPutRawB S).dropLast := by
    intro A S hS
    rw [uPutRawB_ok hS, List.dropLast_append_of_ne_nil (by simp)]
  by_cases p : c.hasPass = true
  · have e5 : (cA5 c).dropLast = cA4 c ++ (uPutRawB (sB c.pass)).dropLast := by
      unfold cA5; rw [p, show fld true (sB c.pass) = uPutRawB (sB c.pass) from rfl, dl _ _ (hk.f5 p)]
    rw [e5]
    generalize hD : (uPutRawB (sB c.pass)).dropLast = D
    have cut := uGetRaw_cut (cA4 c) (sB c.pass) (hk.f5 p)
    rw [hD] at cut
    have q4 : cA4 c ++ D = cA3 c ++ fld c.hasUser (sB c.user) ++ D := rfl
    have q3 : cA4 c ++ D = cA2 c ++ fld c.hasWill (sB c.text) ++ (fld c.hasUser (sB c.user) ++ D) := by rw [q4]; unfold cA3; simp only [List.append_assoc]
    have q2 : cA4 c ++ D = cA1 c ++ fld c.hasWill (sB c.topic) ++ (fld c.hasWill (sB c.text) ++ (fld c.hasUser (sB c.user) ++ D)) := by rw [q3]; unfold cA2; simp only [List.append_assoc]
    have q1 : cA4 c ++ D = cHead c ++ fld true (sB c.client) ++ (fld c.hasWill (sB c.topic) ++ (fld c.hasWill (sB c.text) ++ (fld c.hasUser (sB c.user) ++ D))) := by rw [q2]; unfold cA1; simp only [List.append_assoc]
    have q0 := q1.trans (List.append_assoc _ _ _)
    refine fin _ _ q0 ?_
    obtain ⟨n0, n1, n2, n3, n4, n5⟩ := kHead hk.e (fld true (sB c.client) ++ (fld c.hasWill (sB c.topic) ++ (fld c.hasWill (sB c.text) ++ (fld c.hasUser (sB c.user) ++ D))))
    rw [← q0] at n3 n4
    have t4 : k4 (cA4 c ++ D) (7, 0) = (((cA1 c).length : Int), 0) := (rT_in q1 (s := k3 (cA4 c ++ D) (7, 0)) n4 (fun _ => hk.f1)).1
    have t5 : k5 (cA4 c ++ D) (7, 0) = (((cA2 c).length : Int), 0) := by unfold k5; rw [n3, b4]; exact (rT_in q2 t4 hk.f2).1
    have t6 : k6 (cA4 c ++ D) (7, 0) = (((cA3 c).length : Int), 0) := by unfold k6; rw [n3, b4]; exact (rR_in q3 t5 hk.f3).1
    have t7 : k7 (cA4 c ++ D) (7, 0) = (((cA4 c).length : Int), 0) := by unfold k7; rw [n3, b128]; exact (rT_in q4 t6 hk.f4).1
    unfold k8
    rw [n3, b64, p, t7, cut]
    rfl
  have p0 : c.hasPass = false := by simpa using p
  have a5 : cA5 c = cA4 c := by unfold cA5; rw [p0]; simp [fld]
  rw [a5]
  by_cases u : c.hasUser = true
  · have e5 : (cA4 c).dropLast = cA3 c ++ (uPutRawB (sB c.user)).dropLast := by
      unfold cA4; rw [u, show fld true (sB c.user) = uPutRawB (sB c.user) from rfl, dl _ _ (uRight_len (hk.f4 u))]
    rw [e5]
    generalize hD : (uPutRawB (sB c.user)).dropLast = D
    have cut := uGet_cut (cA3 c) (sB c.user) (uRight_len (hk.f4 u))
    rw [hD] at cut
    have q3 : cA3 c ++ D = cA2 c ++ fld c.hasWill (sB c.text) ++ D := rfl
    have q2 : cA3 c ++ D = cA1 c ++ fld c.hasWill (sB c.topic) ++ (fld c.hasWill (sB c.text) ++ D) := by rw [q3]; unfold cA2; simp only [List.append_assoc]
    have q1 : cA3 c ++ D = cHead c ++ fld true (sB c.client) ++ (fld c.hasWill (sB c.topic) ++ (fld c.hasWill (sB c.text) ++ D)) := by rw [q2]; unfold cA1; simp only [List.append_assoc]
    have q0 := q1.trans (List.append_assoc _ _ _)
    refine fin _ _ q0 ?_
    obtain ⟨n0, n1, n2, n3, n4, n5⟩ := kHead hk.e (fld true (sB c.client) ++ (fld c.hasWill (sB c.topic) ++ (fld c.hasWill (sB c.text) ++ D)))
    rw [← q0] at n3 n4
    have t4 : k4 (cA3 c ++ D) (7, 0) = (((cA1 c).length : Int), 0) := (rT_in q1 (s := k3 (cA3 c ++ D) (7, 0)) n4 (fun _ => hk.f1)).1
    have t5 : k5 (cA3 c ++ D) (7, 0) = (((cA2 c).length : Int), 0) := by unfold k5; rw [n3, b4]; exact (rT_in q2 t4 hk.f2).1
    have t6 : k6 (cA3 c ++ D) (7, 0) = (((cA3 c).length : Int), 0) := by unfold k6; rw [n3, b4]; exact (rR_in q3 t5 hk.f3).1
    have t7 : k7 (cA3 c ++ D) (7, 0) = (0, 2) := by unfold k7; rw [n3, b128, u, t6, cut]; rfl
    unfold k8
    rw [t7]
    exact rText_stuck _ _ (by simp)
  have u0 : c.hasUser = false := by simpa using u
  have a4 : cA4 c = cA3 c := by unfold cA4; rw [u0]; simp [fld]
  rw [a4]
  by_cases wl : c.hasWill = true
  · have e5 : (cA3 c).dropLast = cA2 c ++ (uPutRawB (sB c.text)).dropLast := by
      unfold cA3; rw [wl, show fld true (sB c.text) = uPutRawB (sB c.text) from rfl, dl _ _ (hk.f3 wl)]
    rw [e5]
    generalize hD : (uPutRawB (sB c.text)).dropLast = D
    have cut := uGetRaw_cut (cA2 c) (sB c.text) (hk.f3 wl)
    rw [hD] at cut
    have q2 : cA2 c ++ D = cA1 c ++ fld c.hasWill (sB c.topic) ++ D := rfl
    have q1 : cA2 c ++ D = cHead c ++ fld true (sB c.client) ++ (fld c.hasWill (sB c.topic) ++ D) := by rw [q2]; unfold cA1; simp only [List.append_assoc]
    have q0 := q1.trans (List.append_assoc _ _ _)
    refine fin _ _ q0 ?_
    obtain ⟨n0, n1, n2, n3, n4, n5⟩ := kHead hk.e (fld true (sB c.client) ++ (fld c.hasWill (sB c.topic) ++ D))
    rw [← q0] at n3 n4
    have t4 : k4 (cA2 c ++ D) (7, 0) = (((cA1 c).length : Int), 0) := (rT_in q1 (s := k3 (cA2 c ++ D) (7, 0)) n4 (fun _ => hk.f1)).1
    have t5 : k5 (cA2 c ++ D) (7, 0) = (((cA2 c).length : Int), 0) := by unfold k5; rw [n3, b4]; exact (rT_in q2 t4 hk.f2).1
    have t6 : k6 (cA2 c ++ D) (7, 0) = (0, 2) := by unfold k6; rw [n3, b4, wl, t5, cut]; rfl
    have t7 : k7 (cA2 c ++ D) (7, 0) = (0, 2) := by unfold k7; rw [t6]; exact rText_stuck _ _ (by simp)
    unfold k8
    rw [t7]
    exact rText_stuck _ _ (by simp)
  have w0 : c.hasWill = false := by simpa using wl
  have a3 : cA3 c = cA1 c := by unfold cA3 cA2; rw [w0]; simp [fld]
  rw [a3]
  have e5 : (cA1 c).dropLast = cHead c ++ (uPutRawB (sB c.client)).dropLast := by
    unfold cA1; rw [show fld true (sB c.client) = uPutRawB (sB c.client) from rfl, dl _ _ (uRight_len hk.f1)]
  rw [e5]
  generalize hD : (uPutRawB (sB c.client)).dropLast = D
  have cut := uGet_cut (cHead c) (sB c.client) (uRight_len hk.f1)
  rw [hD] at cut
  refine fin _ _ rfl ?_
  obtain ⟨n0, n1, n2, n3, n4, n5⟩ := kHead hk.e D
  have cut' : uGet (cHead c ++ D) 10 = ([], 0, 2) := cut
  have t4 : k4 (cHead c ++ D) (7, 0) = (0, 2) := by unfold k4; rw [n4]; simp only; rw [cut']; rfl
  have t5 : k5 (cHead c ++ D) (7, 0) = (0, 2) := by unfold k5; rw [t4]; exact rText_stuck _ _ (by simp)
  have t6 : k6 (cHead c ++ D) (7, 0) = (0, 2) := by unfold k6; rw [t5]; exact rText_stuck _ _ (by simp)
  have t7 : k7 (cHead c ++ D) (7, 0) = (0, 2) := by unfold k7; rw [t6]; exact rText_stuck _ _ (by simp)
  unfold k8
  rw [t7]
  exact rText_stuck _ _ (by simp)
end Go.Proofs.YtjlnlgemngpelaaGreatDoor

/- The laws of texts. -/
namespace Go.Proofs.YtjlnlgemngpelaaGreatDoor
open Go.RowKit
set_option linter.unusedVariables false

theorem GivesB.out {w w' : World} {l : List UInt8} {err : Int} {e : Ending} (h : GivesB w l err e w') : ∃ v, e = .returned (.tuple #[v, .int .i64 err]) ∧ Bs w' v l ∧ Below w.heap.size w w' := by
  obtain ⟨v, he, ho, hb⟩ := h
  exact ⟨v, he, ho.bs, hb⟩

end Go.Proofs.YtjlnlgemngpelaaGreatDoor
