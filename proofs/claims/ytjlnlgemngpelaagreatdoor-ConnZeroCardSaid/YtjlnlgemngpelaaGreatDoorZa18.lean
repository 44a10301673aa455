/- A bundle of texts (merged for the limit on files): PacPut. -/
import Derived.Test.YtjlnlgemngpelaaGreatDoorZa12
import Derived.Test.YtjlnlgemngpelaaGreatDoorZa15
import Derived.Test.YtjlnlgemngpelaaGreatDoorZa17
import Derived.Test.YtjlnlgemngpelaaGreatDoorZa3
import Derived.Test.YtjlnlgemngpelaaGreatDoorZa11
/- Packets: the ways of laying: the walks. -/
namespace Go.Proofs.YtjlnlgemngpelaaGreatDoor
open Go.RowKit
set_option linter.unusedVariables false
set_option linter.unusedSimpArgs false

theorem GivesL.trans {w w1 w2 : World} {g : Nat} {L : List Value} {f : Int} {b : List UInt8} {E : Int} (hb : Below w.heap.size w w1) {e : Ending} (h : GivesL w1 g L f b E e w2) : GivesL w g L f b E e w2 :=
  ⟨h.1, h.2.1, (Keeps.below hb).trans h.2.2⟩
/-- Whatever the bytes are, the packet lies there. -/
def WrapC (g : Nat) (L : List Value) (f : Int) (W : World) : Prop := ∃ b, WrapAt W g L f b
theorem WrapC.cell {W : World} {g : Nat} {L : List Value} {f : Int} (h : WrapC g L f W) {j : Nat} {u : Value} (hj : L[j]? = some u) : W.cell? ⟨g, j, none⟩ = some u := by obtain ⟨b, h⟩ := h; exact h.cell hj
theorem WrapC.part {W : World} {g : Nat} {L : List Value} {f : Int} (h : WrapC g L f W) (o : Nat) {m : List Value} (hm : ∀ j v, m[j]? = some v → L[o + j]? = some v) : W.rangeAt g o m := by
  obtain ⟨b, h⟩ := h
  exact h.at'.part o (fun j v hv => wrapL_get h.len f b (hm j v hv))
theorem WrapAt.drew {w : World} {g : Nat} {L : List Value} {f : Int} {b : List UInt8} (h : WrapAt w g L f b) : WrapAt w.drew g L f b := ⟨h.at'.drew, h.len, h.free.drew⟩
theorem WrapAt.part {w : World} {g : Nat} {L : List Value} {f : Int} {b : List UInt8} (h : WrapAt w g L f b) (o : Nat) {m : List Value} (hm : ∀ j v, m[j]? = some v → L[o + j]? = some v) : w.rangeAt g o m := WrapC.part ⟨b, h⟩ o hm

set_option maxRecDepth 100000 in
set_option maxHeartbeats 8000000 in
theorem putConnect_c (p : Pac) (vf vc : Value) (g : Nat) (f : Int) (b : List UInt8) (w : World) (hW : WrapAt w g (p.cells vf vc) f b) (hE : EnvU w) (hs : p.c.sized 140737488351232) :
    Calls Tryz.prog 50 #[.pointer (some ⟨g, 0, none⟩)] w (GivesL w g (p.cells vf vc) f (cPutB p.c) (cPutE p.c)) := by
  have HW := hd hW
  have HE := hd hE; clear hE hW
  go_enter Tryz.func50, Tryz.ntmps50
  go_wp2_with (first
    | ((with_reducible refine wpl_at (o := ⟨some 8, .load 32 (.tmp 7), _, _, _, _⟩) ?_); refine wpl_loadAt rfl _ _ rfl g 7 rfl p.c.cells _ (HW.out.part 7 (p.con_in vf vc)) Tryz.underlying32 rfl info_con ?_))
  refine (conPut_c p.c _ HE.out hs).mono ?_
  rintro e w1 ⟨v, rfl, ho1, hb1⟩
  go_wp2_with fail
  refine (lay_c g (p.cells vf vc) f b v _ _ _ (HW.out.keep hb1 HW.out.lt) ho1.bs).mono ?_
  rintro e w2 h2
  obtain ⟨rfl, hw2, hk2⟩ := h2
  go_wp2_with fail
  go_ret
  exact ⟨rfl, hw2, (Keeps.below hb1).trans hk2⟩

set_option maxRecDepth 100000 in
set_option maxHeartbeats 8000000 in
theorem putId_c (p : Pac) (vf vc : Value) (g : Nat) (f : Int) (b : List UInt8) (w : World) (hW : WrapAt w g (p.cells vf vc) f b) :
    Calls Tryz.prog 53 #[.pointer (some ⟨g, 0, none⟩)] w (GivesL w g (p.cells vf vc) f (pIdB p.id) (pIdE p.id)) := by
  have HW := hd hW
  clear hW
  have c1 := HW.out.cell (j := 1) rfl
  go_enter Tryz.func53, Tryz.ntmps53
  go_wp2_with fail
  refine (PutId_c p.id _).mono ?_
  rintro e w1 ⟨v, rfl, ho1, hb1⟩
  go_wp2_with fail
  refine (lay_c g (p.cells vf vc) f b v _ _ _ (HW.out.keep hb1 HW.out.lt) ho1.bs).mono ?_
  rintro e w2 h2
  obtain ⟨rfl, hw2, hk2⟩ := h2
  go_wp2_with fail
  go_ret
  exact ⟨rfl, hw2, (Keeps.below hb1).trans hk2⟩

set_option maxRecDepth 100000 in
set_option maxHeartbeats 8000000 in
theorem putNothing_c (p : Pac) (vf vc : Value) (g : Nat) (f : Int) (b : List UInt8) (w : World) (hW : WrapAt w g (p.cells vf vc) f b) :
    Calls Tryz.prog 57 #[.pointer (some ⟨g, 0, none⟩)] w (GivesL w g (p.cells vf vc) f b 0) := by
  have HW := hd hW
  go_enter Tryz.func57, Tryz.ntmps57
  go_wp2_with fail
  go_ret
  exact ⟨rfl, HW.out, Keeps.refl _ _⟩

set_option maxRecDepth 100000 in
set_option maxHeartbeats 8000000 in
theorem putNone_c (p : Pac) (vf vc : Value) (g : Nat) (f : Int) (b : List UInt8) (w : World) (hW : WrapAt w g (p.cells vf vc) f b) :
    Calls Tryz.prog 58 #[.pointer (some ⟨g, 0, none⟩)] w (GivesL w g (p.cells vf vc) f b 11) := by
  have HW := hd hW
  go_enter Tryz.func58, Tryz.ntmps58
  go_wp2_with fail
  go_ret
  exact ⟨rfl, HW.out, Keeps.refl _ _⟩

set_option maxRecDepth 100000 in
set_option maxHeartbeats 8000000 in
theorem putRel_c (p : Pac) (vf vc : Value) (g : Nat) (f : Int) (b : List UInt8) (w : World) (hW : WrapAt w g (p.cells vf vc) f b) :
    Calls Tryz.prog 54 #[.pointer (some ⟨g, 0, none⟩)] w (GivesL w g (p.cells vf vc) 2 (pIdB p.id) (pIdE p.id)) := by
  have HW := hd hW
  clear hW
  have c24 := HW.out.cf
  have f24 := HW.out.free 24
  go_enter Tryz.func54, Tryz.ntmps54
  go_wp2_with fail
  refine (putId_c p vf vc g 2 b _ (HW.out.setF 2)).mono ?_
  rintro e w1 ⟨rfl, hw1, hk1⟩
  go_wp2_with fail
  go_ret
  exact ⟨rfl, hw1, ((Keeps.refl [g] w).setCell (.inl (by simp)) _).trans hk1⟩

set_option maxRecDepth 100000 in
set_option maxHeartbeats 8000000 in
theorem putConnack_c (p : Pac) (vf vc : Value) (g : Nat) (f : Int) (b : List UInt8) (w : World) (hW : WrapAt w g (p.cells vf vc) f b) :
    Calls Tryz.prog 51 #[.pointer (some ⟨g, 0, none⟩)] w (GivesL w g (p.cells vf vc) f (aPutB p.pr p.code) (aPutE p.pr p.code)) := by
  have HW := hd hW
  clear hW
  go_enter Tryz.func51, Tryz.ntmps51
  go_wp2_with fail
  have HW0 := HW.out.drew
  refine wp_region_M (WrapC g (p.cells vf vc) f) 15 [(0, false), (1, false), (2, false), (3, false), (4, false), (5, false), (6, false), (7, false), (8, false), (9, false), (10, false), (11, true), (12, false), (13, false), (14, true), (15, true)] (by kernel_rfl) (by kernel_rfl) (fun _ _ _ _ h => h) ⟨_, HW0⟩ ?_
  apply wpM_still (by rfl) (by rfl)
  · intro W hC
    go_simp
    rfl
  go_simp
  apply wpM_still (by rfl) (by rfl)
  · intro W hC
    go_simp
    rfl
  go_simp
  apply wpM_still (by rfl) (by rfl)
  · intro W hC
    go_simp
    rfl
  go_simp
  apply wpM_still (by rfl) (by rfl)
  · intro W hC
    go_simp
    rfl
  go_simp
  apply wpM_still (by rfl) (by rfl)
  · intro W hC
    go_simp
    rfl
  go_simp
  apply wpM_still (by rfl) (by rfl)
  · intro W hC
    have d := WrapC.cell hC (j := 20) rfl
    go_simp
    rfl
  go_simp
  apply wpM_still (by rfl) (by rfl)
  · intro W hC
    go_simp
    rfl
  go_simp
  apply wpM_still (by rfl) (by rfl)
  · intro W hC
    go_simp
    rfl
  go_simp
  apply wpM_still (by rfl) (by rfl)
  · intro W hC
    go_simp
    rfl
  go_simp
  apply wpM_still (by rfl) (by rfl)
  · intro W hC
    go_simp
    rfl
  go_simp
  apply wpM_still (by rfl) (by rfl)
  · intro W hC
    have d := WrapC.cell hC (j := 21) rfl
    go_simp
    rfl
  go_simp
  apply wpM_move (by rfl) (by rfl)
  intro K hK
  go_simp
  refine (PutAck_c p.pr p.code _).mono ?_
  rintro e w1 ⟨v, rfl, ho1, hb1⟩
  go_simp
  have HW1 := HW0.keep hb1 HW0.lt
  refine hK _ _ (fun _ => ⟨_, HW1⟩) ?_
  clear hK K
  apply wpM_still (by rfl) (by rfl)
  · intro W hC
    go_simp
    rfl
  go_simp
  apply wpM_still (by rfl) (by rfl)
  · intro W hC
    go_simp
    rfl
  go_simp
  apply wpM_move (by rfl) (by rfl)
  intro K hK
  go_simp
  refine (lay_c g (p.cells vf vc) f _ v _ _ _ HW1 ho1.bs).mono ?_
  intro e w2 h2
  obtain ⟨rfl, hw2, hk2⟩ := h2
  go_simp
  refine hK _ _ (fun _ => ⟨_, hw2⟩) ?_
  clear hK K
  apply wpM_move (by rfl) (by rfl)
  intro K hK
  go_simp
  refine hK _ _ (fun h => absurd h (by decide)) ?_
  clear hK K
  refine wpM_nil ?_
  go_wp2_with fail
  go_ret
  exact ⟨rfl, hw2, (((Keeps.refl [g] w).drew).trans (Keeps.below hb1)).trans hk2⟩

set_option maxRecDepth 100000 in
set_option maxHeartbeats 8000000 in
theorem putSuback_c (p : Pac) (vf vc : Value) (g : Nat) (f : Int) (b : List UInt8) (w : World) (hW : WrapAt w g (p.cells vf vc) f b) (hc : Is w vc p.cs) :
    Calls Tryz.prog 56 #[.pointer (some ⟨g, 0, none⟩)] w (GivesL w g (p.cells vf vc) f (sbAckB p.id p.cs) (sbAckE p.id p.cs)) := by
  have HW := hd hW
  have HC := hd hc; clear hc
  clear hW
  go_enter Tryz.func56, Tryz.ntmps56
  go_wp2_with fail
  have HW0 := HW.out.drew
  refine wp_region_M (WrapC g (p.cells vf vc) f) 15 [(0, false), (1, false), (2, false), (3, false), (4, false), (5, false), (6, false), (7, false), (8, false), (9, false), (10, false), (11, true), (12, false), (13, false), (14, true), (15, true)] (by kernel_rfl) (by kernel_rfl) (fun _ _ _ _ h => h) ⟨_, HW0⟩ ?_
  apply wpM_still (by rfl) (by rfl)
  · intro W hC
    go_simp
    rfl
  go_simp
  apply wpM_still (by rfl) (by rfl)
  · intro W hC
    go_simp
    rfl
  go_simp
  apply wpM_still (by rfl) (by rfl)
  · intro W hC
    go_simp
    rfl
  go_simp
  apply wpM_still (by rfl) (by rfl)
  · intro W hC
    go_simp
    rfl
  go_simp
  apply wpM_still (by rfl) (by rfl)
  · intro W hC
    go_simp
    rfl
  go_simp
  apply wpM_still (by rfl) (by rfl)
  · intro W hC
    have d := WrapC.cell hC (j := 1) rfl
    go_simp
    rfl
  go_simp
  apply wpM_still (by rfl) (by rfl)
  · intro W hC
    go_simp
    rfl
  go_simp
  apply wpM_still (by rfl) (by rfl)
  · intro W hC
    go_simp
    rfl
  go_simp
  apply wpM_still (by rfl) (by rfl)
  · intro W hC
    go_simp
    rfl
  go_simp
  apply wpM_still (by rfl) (by rfl)
  · intro W hC
    go_simp
    rfl
  go_simp
  apply wpM_still (by rfl) (by rfl)
  · intro W hC
    have d := WrapC.cell hC (j := 23) rfl
    go_simp
    rfl
  go_simp
  apply wpM_move (by rfl) (by rfl)
  intro K hK
  go_simp
  refine (subPutAck_c p.id vc p.cs _ (HC.out.below' ((Below.refl _ _).drew) (Nat.le_refl _))).mono ?_
  rintro e w1 ⟨v, rfl, ho1, hb1⟩
  go_simp
  have HW1 := HW0.keep hb1 HW0.lt
  refine hK _ _ (fun _ => ⟨_, HW1⟩) ?_
  clear hK K
  apply wpM_still (by rfl) (by rfl)
  · intro W hC
    go_simp
    rfl
  go_simp
  apply wpM_still (by rfl) (by rfl)
  · intro W hC
    go_simp
    rfl
  go_simp
  apply wpM_move (by rfl) (by rfl)
  intro K hK
  go_simp
  refine (lay_c g (p.cells vf vc) f _ v _ _ _ HW1 ho1.bs).mono ?_
  intro e w2 h2
  obtain ⟨rfl, hw2, hk2⟩ := h2
  go_simp
  refine hK _ _ (fun _ => ⟨_, hw2⟩) ?_
  clear hK K
  apply wpM_move (by rfl) (by rfl)
  intro K hK
  go_simp
  refine hK _ _ (fun h => absurd h (by decide)) ?_
  clear hK K
  refine wpM_nil ?_
  go_wp2_with fail
  go_ret
  exact ⟨rfl, hw2, (((Keeps.refl [g] w).drew).trans (Keeps.below hb1)).trans hk2⟩

set_option maxRecDepth 100000 in
set_option maxHeartbeats 8000000 in
theorem putWishes_c (p : Pac) (vf vc : Value) (g : Nat) (f : Int) (b : List UInt8) (w : World) (hW : WrapAt w g (p.cells vf vc) f b) (hE : EnvU w) (hlow : ∀ W, Keeps [g] w W → EnvU W) (hf : Ws w vf p.fs) (hfo : ∀ W, Keeps [g] w W → Ws W vf p.fs) (hs : ∀ x ∈ p.fs, x.1.size ≤ 140737488351232) :
    Calls Tryz.prog 55 #[.pointer (some ⟨g, 0, none⟩)] w (GivesL w g (p.cells vf vc) 2 (sbPutB p.id p.fs (p.k == 10)) (sbPutE p.id p.fs (p.k == 10))) := by
  have HW := hd hW
  have HE := hd hE; have HLO := hd hlow; have HF := hd hf; have HFO := hd hfo
  clear hW hE hlow hf hfo
  have c24 := HW.out.cf
  have f24 := HW.out.free 24
  go_enter Tryz.func55, Tryz.ntmps55
  go_wp2_with fail
  have hk0 : Keeps [g] w (w.setCell ⟨g, 24, none⟩ (.int .i64 2)).drew := ((Keeps.refl [g] w).setCell (.inl (by simp)) _).drew
  have HW0 := (HW.out.setF 2).drew
  refine wp_region_M (WrapC g (p.cells vf vc) 2) 21 [(0, false), (1, false), (2, false), (3, false), (4, false), (5, false), (6, false), (7, false), (8, false), (9, false), (10, false), (11, false), (12, false), (13, false), (14, false), (15, false), (16, false), (17, true), (18, false), (19, false), (20, true), (21, true)] (by kernel_rfl) (by kernel_rfl) (fun _ _ _ _ h => h) ⟨_, HW0⟩ ?_
  apply wpM_still (by rfl) (by rfl)
  · intro W hC
    go_simp
    rfl
  go_simp
  apply wpM_still (by rfl) (by rfl)
  · intro W hC
    go_simp
    rfl
  go_simp
  apply wpM_still (by rfl) (by rfl)
  · intro W hC
    go_simp
    rfl
  go_simp
  apply wpM_still (by rfl) (by rfl)
  · intro W hC
    go_simp
    rfl
  go_simp
  apply wpM_still (by rfl) (by rfl)
  · intro W hC
    go_simp
    rfl
  go_simp
  apply wpM_still (by rfl) (by rfl)
  · intro W hC
    have d := WrapC.cell hC (j := 1) rfl
    go_simp
    rfl
  go_simp
  apply wpM_still (by rfl) (by rfl)
  · intro W hC
    go_simp
    rfl
  go_simp
  apply wpM_still (by rfl) (by rfl)
  · intro W hC
    go_simp
    rfl
  go_simp
  apply wpM_still (by rfl) (by rfl)
  · intro W hC
    go_simp
    rfl
  go_simp
  apply wpM_still (by rfl) (by rfl)
  · intro W hC
    go_simp
    rfl
  go_simp
  apply wpM_still (by rfl) (by rfl)
  · intro W hC
    have d := WrapC.cell hC (j := 22) rfl
    go_simp
    rfl
  go_simp
  apply wpM_still (by rfl) (by rfl)
  · intro W hC
    go_simp
    rfl
  go_simp
  apply wpM_still (by rfl) (by rfl)
  · intro W hC
    go_simp
    rfl
  go_simp
  apply wpM_still (by rfl) (by rfl)
  · intro W hC
    go_simp
    rfl
  go_simp
  apply wpM_still (by rfl) (by rfl)
  · intro W hC
    go_simp
    rfl
  go_simp
  apply wpM_still (by rfl) (by rfl)
  · intro W hC
    have d := WrapC.cell hC (j := 0) rfl
    go_simp
    rfl
  go_simp
  apply wpM_still (by rfl) (by rfl)
  · intro W hC
    go_simp
    rfl
  go_simp
  apply wpM_move (by rfl) (by rfl)
  intro K hK
  go_simp
  refine (subsPut_c p.id vf p.fs (p.k == 10) _ (HLO.out _ hk0) (HFO.out _ hk0) hs).mono ?_
  rintro e w1 ⟨v, rfl, ho1, hb1⟩
  go_simp
  have HW1 := HW0.keep hb1 HW0.lt
  refine hK _ _ (fun _ => ⟨_, HW1⟩) ?_
  clear hK K
  apply wpM_still (by rfl) (by rfl)
  · intro W hC
    go_simp
    rfl
  go_simp
  apply wpM_still (by rfl) (by rfl)
  · intro W hC
    go_simp
    rfl
  go_simp
  apply wpM_move (by rfl) (by rfl)
  intro K hK
  go_simp
  refine (lay_c g (p.cells vf vc) 2 _ v _ _ _ HW1 ho1.bs).mono ?_
  intro e w2 h2
  obtain ⟨rfl, hw2, hk2⟩ := h2
  go_simp
  refine hK _ _ (fun _ => ⟨_, hw2⟩) ?_
  clear hK K
  apply wpM_move (by rfl) (by rfl)
  intro K hK
  go_simp
  refine hK _ _ (fun h => absurd h (by decide)) ?_
  clear hK K
  refine wpM_nil ?_
  go_wp2_with fail
  go_ret
  exact ⟨rfl, hw2, ((hk0).trans (Keeps.below hb1)).trans hk2⟩

set_option maxRecDepth 100000 in
set_option maxHeartbeats 8000000 in
theorem putPublishN_c (p : Pac) (vf vc : Value) (g : Nat) (f : Int) (w : World) (hW : WrapAt w g (p.cells vf vc) f []) (hH : EnvH w) (hlow : ∀ W, Keeps [g] w W → EnvU W) (hT : p.tp.size ≤ 140737488351232) (hX : p.tx.size ≤ 140737488351232) (hn : hPub p.dup p.q p.rt < 0) :
    Calls Tryz.prog 52 #[.pointer (some ⟨g, 0, none⟩)] w (GivesL w g (p.cells vf vc) (hPub p.dup p.q p.rt) [] 10) := by
  have HW := hd hW; have HLO := hd hlow; have HH := hd hH
  clear hW hlow hH
  go_enter Tryz.func52, Tryz.ntmps52
  go_wp2_with fail
  have hk0 : Keeps [g] w w.drew := (Keeps.refl [g] w).drew
  have HH0 : Hd (EnvH w.drew) := hd (HH.out.below ((Below.refl _ _).drew) (Nat.le_refl _))
  clear HH
  have HW0 := HW.out.drew
  refine wp_region_M (WrapC g (p.cells vf vc) f) 21 [(0, false), (1, false), (2, false), (3, false), (4, false), (5, false), (6, false), (7, false), (8, false), (9, false), (10, false), (11, false), (12, false), (13, false), (14, false), (15, false), (16, false), (17, false), (18, true), (19, false), (20, false), (21, true)] (by kernel_rfl) (by kernel_rfl) (fun _ _ _ _ h => h) ⟨_, HW0⟩ ?_
  clear HW
  generalize w.drew = wd at *
  apply wpM_still (by rfl) (by rfl)
  · intro W hC
    go_simp
    rfl
  go_simp
  apply wpM_still (by rfl) (by rfl)
  · intro W hC
    go_simp
    rfl
  go_simp
  apply wpM_still (by rfl) (by rfl)
  · intro W hC
    go_simp
    rfl
  go_simp
  apply wpM_still (by rfl) (by rfl)
  · intro W hC
    go_simp
    rfl
  go_simp
  apply wpM_still (by rfl) (by rfl)
  · intro W hC
    go_simp
    rfl
  go_simp
  apply wpM_still (by rfl) (by rfl)
  · intro W hC
    have d := WrapC.cell hC (j := 2) rfl
    go_simp
    rfl
  go_simp
  apply wpM_still (by rfl) (by rfl)
  · intro W hC
    go_simp
    rfl
  go_simp
  apply wpM_still (by rfl) (by rfl)
  · intro W hC
    go_simp
    rfl
  go_simp
  apply wpM_still (by rfl) (by rfl)
  · intro W hC
    go_simp
    rfl
  go_simp
  apply wpM_still (by rfl) (by rfl)
  · intro W hC
    go_simp
    rfl
  go_simp
  apply wpM_still (by rfl) (by rfl)
  · intro W hC
    go_simp
    rfl
  go_simp
  apply wpM_still (by rfl) (by rfl)
  · intro W hC
    have d := WrapC.cell hC (j := 5) rfl
    go_simp
    rfl
  go_simp
  apply wpM_still (by rfl) (by rfl)
  · intro W hC
    go_simp
    rfl
  go_simp
  apply wpM_still (by rfl) (by rfl)
  · intro W hC
    go_simp
    rfl
  go_simp
  apply wpM_still (by rfl) (by rfl)
  · intro W hC
    go_simp
    rfl
  go_simp
  apply wpM_still (by rfl) (by rfl)
  · intro W hC
    go_simp
    rfl
  go_simp
  apply wpM_still (by rfl) (by rfl)
  · intro W hC
    go_simp
    rfl
  go_simp
  apply wpM_still (by rfl) (by rfl)
  · intro W hC
    have d := WrapC.cell hC (j := 6) rfl
    go_simp
    rfl
  go_simp
  apply wpM_move (by rfl) (by rfl)
  intro K hK
  go_simp
  refine (Publish_c p.dup p.rt p.q _ HH0.out).mono ?_
  rintro e w1 ⟨rfl, rfl⟩
  go_simp
  refine hK _ _ (fun _ => ⟨_, HW0⟩) ?_
  clear hK K
  apply wpM_still (by rfl) (by rfl)
  · intro W hC
    go_simp
    rfl
  go_simp
  apply wpM_still (by rfl) (by rfl)
  · intro W hC
    go_simp
    rfl
  go_simp
  apply wpM_move (by rfl) (by rfl)
  intro K hK
  have c24 := HW0.cf
  have f24 := HW0.free 24
  go_simp
  refine hK _ _ (fun h => absurd h (by decide)) ?_
  clear hK K c24 f24
  refine wpM_nil ?_
  have HW1 := HW0.setF (hPub p.dup p.q p.rt)
  have hk1 : Keeps [g] w (wd.setCell ⟨g, 24, none⟩ (.int .i64 (hPub p.dup p.q p.rt))) := hk0.setCell (.inl (by simp)) _
  generalize wd.setCell ⟨g, 24, none⟩ (.int .i64 (hPub p.dup p.q p.rt)) = w1 at *
  have c24 := HW1.cf
  go_wp2_with fail
  go_ret
  exact ⟨rfl, HW1, hk1⟩

set_option maxRecDepth 100000 in
set_option maxHeartbeats 8000000 in
theorem putPublishP_c (p : Pac) (vf vc : Value) (g : Nat) (f : Int) (w : World) (hW : WrapAt w g (p.cells vf vc) f []) (hH : EnvH w) (hlow : ∀ W, Keeps [g] w W → EnvU W) (hT : p.tp.size ≤ 140737488351232) (hX : p.tx.size ≤ 140737488351232) (hn : ¬ hPub p.dup p.q p.rt < 0) :
    Calls Tryz.prog 52 #[.pointer (some ⟨g, 0, none⟩)] w (GivesL w g (p.cells vf vc) (hPub p.dup p.q p.rt) (pPutB (sB p.tp) (sB p.tx) p.q p.id) (pPutE (sB p.tp) (sB p.tx) p.q p.id)) := by
  have HW := hd hW; have HLO := hd hlow; have HH := hd hH
  clear hW hlow hH
  go_enter Tryz.func52, Tryz.ntmps52
  go_wp2_with fail
  have hk0 : Keeps [g] w w.drew := (Keeps.refl [g] w).drew
  have HH0 : Hd (EnvH w.drew) := hd (HH.out.below ((Below.refl _ _).drew) (Nat.le_refl _))
  clear HH
  have HW0 := HW.out.drew
  refine wp_region_M (WrapC g (p.cells vf vc) f) 21 [(0, false), (1, false), (2, false), (3, false), (4, false), (5, false), (6, false), (7, false), (8, false), (9, false), (10, false), (11, false), (12, false), (13, false), (14, false), (15, false), (16, false), (17, false), (18, true), (19, false), (20, false), (21, true)] (by kernel_rfl) (by kernel_rfl) (fun _ _ _ _ h => h) ⟨_, HW0⟩ ?_
  clear HW
  generalize w.drew = wd at *
  apply wpM_still (by rfl) (by rfl)
  · intro W hC
    go_simp
    rfl
  go_simp
  apply wpM_still (by rfl) (by rfl)
  · intro W hC
    go_simp
    rfl
  go_simp
  apply wpM_still (by rfl) (by rfl)
  · intro W hC
    go_simp
    rfl
  go_simp
  apply wpM_still (by rfl) (by rfl)
  · intro W hC
    go_simp
    rfl
  go_simp
  apply wpM_still (by rfl) (by rfl)
  · intro W hC
    go_simp
    rfl
  go_simp
  apply wpM_still (by rfl) (by rfl)
  · intro W hC
    have d := WrapC.cell hC (j := 2) rfl
    go_simp
    rfl
  go_simp
  apply wpM_still (by rfl) (by rfl)
  · intro W hC
    go_simp
    rfl
  go_simp
  apply wpM_still (by rfl) (by rfl)
  · intro W hC
    go_simp
    rfl
  go_simp
  apply wpM_still (by rfl) (by rfl)
  · intro W hC
    go_simp
    rfl
  go_simp
  apply wpM_still (by rfl) (by rfl)
  · intro W hC
    go_simp
    rfl
  go_simp
  apply wpM_still (by rfl) (by rfl)
  · intro W hC
    go_simp
    rfl
  go_simp
  apply wpM_still (by rfl) (by rfl)
  · intro W hC
    have d := WrapC.cell hC (j := 5) rfl
    go_simp
    rfl
  go_simp
  apply wpM_still (by rfl) (by rfl)
  · intro W hC
    go_simp
    rfl
  go_simp
  apply wpM_still (by rfl) (by rfl)
  · intro W hC
    go_simp
    rfl
  go_simp
  apply wpM_still (by rfl) (by rfl)
  · intro W hC
    go_simp
    rfl
  go_simp
  apply wpM_still (by rfl) (by rfl)
  · intro W hC
    go_simp
    rfl
  go_simp
  apply wpM_still (by rfl) (by rfl)
  · intro W hC
    go_simp
    rfl
  go_simp
  apply wpM_still (by rfl) (by rfl)
  · intro W hC
    have d := WrapC.cell hC (j := 6) rfl
    go_simp
    rfl
  go_simp
  apply wpM_move (by rfl) (by rfl)
  intro K hK
  go_simp
  refine (Publish_c p.dup p.rt p.q _ HH0.out).mono ?_
  rintro e w1 ⟨rfl, rfl⟩
  go_simp
  refine hK _ _ (fun _ => ⟨_, HW0⟩) ?_
  clear hK K
  apply wpM_still (by rfl) (by rfl)
  · intro W hC
    go_simp
    rfl
  go_simp
  apply wpM_still (by rfl) (by rfl)
  · intro W hC
    go_simp
    rfl
  go_simp
  apply wpM_move (by rfl) (by rfl)
  intro K hK
  have c24 := HW0.cf
  have f24 := HW0.free 24
  go_simp
  refine hK _ _ (fun h => absurd h (by decide)) ?_
  clear hK K c24 f24
  refine wpM_nil ?_
  have HW1 := HW0.setF (hPub p.dup p.q p.rt)
  have hk1 : Keeps [g] w (wd.setCell ⟨g, 24, none⟩ (.int .i64 (hPub p.dup p.q p.rt))) := hk0.setCell (.inl (by simp)) _
  generalize wd.setCell ⟨g, 24, none⟩ (.int .i64 (hPub p.dup p.q p.rt)) = w1 at *
  have c24 := HW1.cf
  go_wp2_with fail
  clear c24
  have HW2 := HW1.drew
  refine wp_region_M (WrapC g (p.cells vf vc) (hPub p.dup p.q p.rt)) 15 [(0, false), (1, false), (2, false), (3, false), (4, false), (5, false), (6, false), (7, false), (8, false), (9, false), (10, false), (11, true), (12, false), (13, false), (14, true), (15, true)] (by kernel_rfl) (by kernel_rfl) (fun _ _ _ _ h => h) ⟨_, HW2⟩ ?_
  apply wpM_still (by rfl) (by rfl)
  · intro W hC
    go_simp
    rfl
  go_simp
  apply wpM_still (by rfl) (by rfl)
  · intro W hC
    go_simp
    rfl
  go_simp
  apply wpM_still (by rfl) (by rfl)
  · intro W hC
    go_simp
    rfl
  go_simp
  apply wpM_still (by rfl) (by rfl)
  · intro W hC
    go_simp
    rfl
  go_simp
  apply wpM_still (by rfl) (by rfl)
  · intro W hC
    go_simp
    rfl
  go_simp
  apply wpM_still (by rfl) (by rfl)
  · intro W hC
    exact still_loadAt _ _ rfl g 3 rfl p.msg _ (WrapC.part hC 3 (p.msg_in vf vc)) Tryz.underlying30 rfl info_msg
  go_simp
  apply wpM_still (by rfl) (by rfl)
  · intro W hC
    go_simp
    rfl
  go_simp
  apply wpM_still (by rfl) (by rfl)
  · intro W hC
    go_simp
    rfl
  go_simp
  apply wpM_still (by rfl) (by rfl)
  · intro W hC
    go_simp
    rfl
  go_simp
  apply wpM_still (by rfl) (by rfl)
  · intro W hC
    go_simp
    rfl
  go_simp
  apply wpM_still (by rfl) (by rfl)
  · intro W hC
    have d := WrapC.cell hC (j := 1) rfl
    go_simp
    rfl
  go_simp
  apply wpM_move (by rfl) (by rfl)
  intro K hK
  go_simp
  refine (pubPut_c p.tp p.tx p.q p.rt p.id _ (HLO.out _ hk1.drew) hT hX).mono ?_
  rintro e w3 ⟨v, rfl, ho1, hb1⟩
  go_simp
  have HW3 := HW2.keep hb1 HW2.lt
  refine hK _ _ (fun _ => ⟨_, HW3⟩) ?_
  clear hK K
  apply wpM_still (by rfl) (by rfl)
  · intro W hC
    go_simp
    rfl
  go_simp
  apply wpM_still (by rfl) (by rfl)
  · intro W hC
    go_simp
    rfl
  go_simp
  apply wpM_move (by rfl) (by rfl)
  intro K hK
  go_simp
  refine (lay_c g (p.cells vf vc) (hPub p.dup p.q p.rt) _ v _ _ _ HW3 ho1.bs).mono ?_
  intro e w4 h2
  obtain ⟨rfl, hw4, hk2⟩ := h2
  go_simp
  refine hK _ _ (fun _ => ⟨_, hw4⟩) ?_
  clear hK K
  apply wpM_move (by rfl) (by rfl)
  intro K hK
  go_simp
  refine hK _ _ (fun h => absurd h (by decide)) ?_
  clear hK K
  refine wpM_nil ?_
  go_wp2_with fail
  go_ret
  exact ⟨rfl, hw4, ((hk1.drew).trans (Keeps.below hb1)).trans hk2⟩

theorem putPublish_c (p : Pac) (vf vc : Value) (g : Nat) (f : Int) (w : World) (hW : WrapAt w g (p.cells vf vc) f []) (hH : EnvH w) (hlow : ∀ W, Keeps [g] w W → EnvU W) (hT : p.tp.size ≤ 140737488351232) (hX : p.tx.size ≤ 140737488351232) :
    Calls Tryz.prog 52 #[.pointer (some ⟨g, 0, none⟩)] w (GivesL w g (p.cells vf vc) (hPub p.dup p.q p.rt) (if hPub p.dup p.q p.rt < 0 then [] else pPutB (sB p.tp) (sB p.tx) p.q p.id) (if hPub p.dup p.q p.rt < 0 then 10 else pPutE (sB p.tp) (sB p.tx) p.q p.id)) := by
  by_cases hn : hPub p.dup p.q p.rt < 0
  · rw [if_pos hn, if_pos hn]
    exact putPublishN_c p vf vc g f w hW hH hlow hT hX hn
  · rw [if_neg hn, if_neg hn]
    exact putPublishP_c p vf vc g f w hW hH hlow hT hX hn
end Go.Proofs.YtjlnlgemngpelaaGreatDoor
