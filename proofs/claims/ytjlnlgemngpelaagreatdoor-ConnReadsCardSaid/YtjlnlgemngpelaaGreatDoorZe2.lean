/- A bundle of texts (merged for the limit on files): Cn12, Cn10, StrOpen, CnReads, CnVars. -/
import Derived.Test.YtjlnlgemngpelaaGreatDoorZe1
import Derived.Test.YtjlnlgemngpelaaGreatDoorZa32
import Derived.Test.YtjlnlgemngpelaaGreatDoorZa23
import Derived.Test.YtjlnlgemngpelaaGreatDoorZa22
import Derived.SliceStrings
import Derived.Test.YtjlnlgemngpelaaGreatDoorZa5
/- A connection: the document's answer: the walks. -/
namespace Go.Proofs.YtjlnlgemngpelaaGreatDoor
open Go.RowKit
set_option linter.unusedVariables false
set_option linter.unusedSimpArgs false

set_option maxRecDepth 100000 in
set_option maxHeartbeats 2000000 in
theorem refWr_n2 (p : Pac) (vf vc : Value) (first : Bool) (w : World) (k2 : (p.k == 2) = true) : Calls Tryz.prog 31 #[.agg (p.cells vf vc).toArray, .bool first] w fun e w' => e = .returned (.int .i64 11) ∧ Below w.heap.size w w' := by
  go_enter Tryz.func31, Tryz.ntmps31
  go_wp2_with (first
    | (with_reducible refine wpl_box (o := ⟨some 2, .box 36 (.tmp 0), _, _, _, _⟩) rfl _ _ rfl (p.cells vf vc) rfl w.heap.size rfl ?_; intro w1 h1 f1 b1 z1; have c0 := h1.at 0 (u := .int .i64 p.k) rfl; have c3 := h1.at 3 (u := .string p.tp) rfl; have c11 := h1.at 11 (u := .bool p.c.hasWill) rfl; have c12 := h1.at 12 (u := .string p.c.topic) rfl))
  go_ret
  exact ⟨rfl, b1⟩
set_option maxRecDepth 100000 in
set_option maxHeartbeats 2000000 in
theorem refWr_n9 (p : Pac) (vf vc : Value) (first : Bool) (w : World) (k2 : (p.k == 2) = false) (k9 : (p.k == 9) = true) : Calls Tryz.prog 31 #[.agg (p.cells vf vc).toArray, .bool first] w fun e w' => e = .returned (.int .i64 11) ∧ Below w.heap.size w w' := by
  go_enter Tryz.func31, Tryz.ntmps31
  go_wp2_with (first
    | (with_reducible refine wpl_box (o := ⟨some 2, .box 36 (.tmp 0), _, _, _, _⟩) rfl _ _ rfl (p.cells vf vc) rfl w.heap.size rfl ?_; intro w1 h1 f1 b1 z1; have c0 := h1.at 0 (u := .int .i64 p.k) rfl; have c3 := h1.at 3 (u := .string p.tp) rfl; have c11 := h1.at 11 (u := .bool p.c.hasWill) rfl; have c12 := h1.at 12 (u := .string p.c.topic) rfl))
  go_ret
  exact ⟨rfl, b1⟩
set_option maxRecDepth 100000 in
set_option maxHeartbeats 2000000 in
theorem refWr_n11 (p : Pac) (vf vc : Value) (first : Bool) (w : World) (k2 : (p.k == 2) = false) (k9 : (p.k == 9) = false) (k11 : (p.k == 11) = true) : Calls Tryz.prog 31 #[.agg (p.cells vf vc).toArray, .bool first] w fun e w' => e = .returned (.int .i64 11) ∧ Below w.heap.size w w' := by
  go_enter Tryz.func31, Tryz.ntmps31
  go_wp2_with (first
    | (with_reducible refine wpl_box (o := ⟨some 2, .box 36 (.tmp 0), _, _, _, _⟩) rfl _ _ rfl (p.cells vf vc) rfl w.heap.size rfl ?_; intro w1 h1 f1 b1 z1; have c0 := h1.at 0 (u := .int .i64 p.k) rfl; have c3 := h1.at 3 (u := .string p.tp) rfl; have c11 := h1.at 11 (u := .bool p.c.hasWill) rfl; have c12 := h1.at 12 (u := .string p.c.topic) rfl))
  go_ret
  exact ⟨rfl, b1⟩
set_option maxRecDepth 100000 in
set_option maxHeartbeats 2000000 in
theorem refWr_n13 (p : Pac) (vf vc : Value) (first : Bool) (w : World) (k2 : (p.k == 2) = false) (k9 : (p.k == 9) = false) (k11 : (p.k == 11) = false) (k13 : (p.k == 13) = true) : Calls Tryz.prog 31 #[.agg (p.cells vf vc).toArray, .bool first] w fun e w' => e = .returned (.int .i64 11) ∧ Below w.heap.size w w' := by
  go_enter Tryz.func31, Tryz.ntmps31
  go_wp2_with (first
    | (with_reducible refine wpl_box (o := ⟨some 2, .box 36 (.tmp 0), _, _, _, _⟩) rfl _ _ rfl (p.cells vf vc) rfl w.heap.size rfl ?_; intro w1 h1 f1 b1 z1; have c0 := h1.at 0 (u := .int .i64 p.k) rfl; have c3 := h1.at 3 (u := .string p.tp) rfl; have c11 := h1.at 11 (u := .bool p.c.hasWill) rfl; have c12 := h1.at 12 (u := .string p.c.topic) rfl))
  go_ret
  exact ⟨rfl, b1⟩
set_option maxRecDepth 100000 in
set_option maxHeartbeats 2000000 in
theorem refWr_t1 (p : Pac) (vf vc : Value) (first : Bool) (w : World) (k2 : (p.k == 2) = false) (k9 : (p.k == 9) = false) (k11 : (p.k == 11) = false) (k13 : (p.k == 13) = false) (k1 : (p.k == 1) = true) (hf : first = false) : Calls Tryz.prog 31 #[.agg (p.cells vf vc).toArray, .bool first] w fun e w' => e = .returned (.int .i64 15) ∧ Below w.heap.size w w' := by
  subst hf
  go_enter Tryz.func31, Tryz.ntmps31
  go_wp2_with (first
    | (with_reducible refine wpl_box (o := ⟨some 2, .box 36 (.tmp 0), _, _, _, _⟩) rfl _ _ rfl (p.cells vf vc) rfl w.heap.size rfl ?_; intro w1 h1 f1 b1 z1; have c0 := h1.at 0 (u := .int .i64 p.k) rfl; have c3 := h1.at 3 (u := .string p.tp) rfl; have c11 := h1.at 11 (u := .bool p.c.hasWill) rfl; have c12 := h1.at 12 (u := .string p.c.topic) rfl))
  go_ret
  exact ⟨rfl, b1⟩
set_option maxRecDepth 100000 in
set_option maxHeartbeats 2000000 in
theorem refWr_t2 (p : Pac) (vf vc : Value) (first : Bool) (w : World) (k2 : (p.k == 2) = false) (k9 : (p.k == 9) = false) (k11 : (p.k == 11) = false) (k13 : (p.k == 13) = false) (k1 : (p.k == 1) = false) (hf : first = true) : Calls Tryz.prog 31 #[.agg (p.cells vf vc).toArray, .bool first] w fun e w' => e = .returned (.int .i64 15) ∧ Below w.heap.size w w' := by
  subst hf
  go_enter Tryz.func31, Tryz.ntmps31
  go_wp2_with (first
    | (with_reducible refine wpl_box (o := ⟨some 2, .box 36 (.tmp 0), _, _, _, _⟩) rfl _ _ rfl (p.cells vf vc) rfl w.heap.size rfl ?_; intro w1 h1 f1 b1 z1; have c0 := h1.at 0 (u := .int .i64 p.k) rfl; have c3 := h1.at 3 (u := .string p.tp) rfl; have c11 := h1.at 11 (u := .bool p.c.hasWill) rfl; have c12 := h1.at 12 (u := .string p.c.topic) rfl))
  go_ret
  exact ⟨rfl, b1⟩
set_option maxRecDepth 100000 in
set_option maxHeartbeats 2000000 in
theorem refWr_f3 (p : Pac) (vf vc : Value) (first : Bool) (w : World) (k2 : (p.k == 2) = false) (k9 : (p.k == 9) = false) (k11 : (p.k == 11) = false) (k13 : (p.k == 13) = false) (k1 : (p.k == 1) = false) (k3 : (p.k == 3) = false) (hf : first = false) : Calls Tryz.prog 31 #[.agg (p.cells vf vc).toArray, .bool first] w fun e w' => e = .returned (.int .i64 0) ∧ Below w.heap.size w w' := by
  subst hf
  go_enter Tryz.func31, Tryz.ntmps31
  go_wp2_with (first
    | (with_reducible refine wpl_box (o := ⟨some 2, .box 36 (.tmp 0), _, _, _, _⟩) rfl _ _ rfl (p.cells vf vc) rfl w.heap.size rfl ?_; intro w1 h1 f1 b1 z1; have c0 := h1.at 0 (u := .int .i64 p.k) rfl; have c3 := h1.at 3 (u := .string p.tp) rfl; have c11 := h1.at 11 (u := .bool p.c.hasWill) rfl; have c12 := h1.at 12 (u := .string p.c.topic) rfl))
  go_ret
  exact ⟨rfl, b1⟩
set_option maxRecDepth 100000 in
set_option maxHeartbeats 2000000 in
theorem refWr_c0 (p : Pac) (vf vc : Value) (first : Bool) (w : World) (k2 : (p.k == 2) = false) (k9 : (p.k == 9) = false) (k11 : (p.k == 11) = false) (k13 : (p.k == 13) = false) (k1 : (p.k == 1) = true) (k3 : (p.k == 3) = false) (hw : p.c.hasWill = false) (hf : first = true) : Calls Tryz.prog 31 #[.agg (p.cells vf vc).toArray, .bool first] w fun e w' => e = .returned (.int .i64 0) ∧ Below w.heap.size w w' := by
  subst hf
  go_enter Tryz.func31, Tryz.ntmps31
  go_wp2_with (first
    | (with_reducible refine wpl_box (o := ⟨some 2, .box 36 (.tmp 0), _, _, _, _⟩) rfl _ _ rfl (p.cells vf vc) rfl w.heap.size rfl ?_; intro w1 h1 f1 b1 z1; have c0 := h1.at 0 (u := .int .i64 p.k) rfl; have c3 := h1.at 3 (u := .string p.tp) rfl; have c11 := h1.at 11 (u := .bool p.c.hasWill) rfl; rw [hw] at c11; have c12 := h1.at 12 (u := .string p.c.topic) rfl))
  go_ret
  exact ⟨rfl, b1⟩
set_option maxRecDepth 100000 in
set_option maxHeartbeats 2000000 in
theorem refWr_p3 (p : Pac) (vf vc : Value) (first : Bool) (w : World) (k2 : (p.k == 2) = false) (k9 : (p.k == 9) = false) (k11 : (p.k == 11) = false) (k13 : (p.k == 13) = false) (k1 : (p.k == 1) = false) (k3 : (p.k == 3) = true) (hf : first = false) (hs : p.tp.size ≤ 9223372036854775000) : Calls Tryz.prog 31 #[.agg (p.cells vf vc).toArray, .bool first] w fun e w' => e = .returned (.int .i64 (if lName (sB p.tp) then 0 else 13)) ∧ Below w.heap.size w w' := by
  subst hf
  have hn := fun W => refName_c (sB p.tp) W (by rw [sB_lenP]; exact hs)
  rw [show sOf (sB p.tp) = p.tp from sOf_sBP _] at hn
  have HN := hd hn
  clear hn
  obtain ⟨b, hb⟩ : ∃ b, lName (sB p.tp) = b := ⟨_, rfl⟩
  rw [hb] at HN ⊢
  clear hb hs
  cases b
  all_goals
    go_enter Tryz.func31, Tryz.ntmps31
    go_wp2_with (first
      | (with_reducible refine wpl_box (o := ⟨some 2, .box 36 (.tmp 0), _, _, _, _⟩) rfl _ _ rfl (p.cells vf vc) rfl w.heap.size rfl ?_; intro w1 h1 f1 b1 z1; have c0 := h1.at 0 (u := .int .i64 p.k) rfl; have c3 := h1.at 3 (u := .string p.tp) rfl; have c11 := h1.at 11 (u := .bool p.c.hasWill) rfl; have c12 := h1.at 12 (u := .string p.c.topic) rfl))
    refine (HN.out _).mono ?_
    rintro e w2 ⟨rfl, hb2⟩
    replace c0 := (bcell hb2 _ _ h1.lt).trans c0
    replace c11 := (bcell hb2 _ _ h1.lt).trans c11
    replace c12 := (bcell hb2 _ _ h1.lt).trans c12
    go_wp2_with fail
    go_ret
    exact ⟨rfl, b1.trans (hb2.mono b1.size)⟩
set_option maxRecDepth 100000 in
set_option maxHeartbeats 2000000 in
theorem refWr_c1 (p : Pac) (vf vc : Value) (first : Bool) (w : World) (k2 : (p.k == 2) = false) (k9 : (p.k == 9) = false) (k11 : (p.k == 11) = false) (k13 : (p.k == 13) = false) (k1 : (p.k == 1) = true) (k3 : (p.k == 3) = false) (hw : p.c.hasWill = true) (hf : first = true) (hs : p.c.topic.size ≤ 9223372036854775000) : Calls Tryz.prog 31 #[.agg (p.cells vf vc).toArray, .bool first] w fun e w' => e = .returned (.int .i64 (if lName (sB p.c.topic) then 0 else 13)) ∧ Below w.heap.size w w' := by
  subst hf
  have hn := fun W => refName_c (sB p.c.topic) W (by rw [sB_lenP]; exact hs)
  rw [show sOf (sB p.c.topic) = p.c.topic from sOf_sBP _] at hn
  have HN := hd hn
  clear hn
  obtain ⟨b, hb⟩ : ∃ b, lName (sB p.c.topic) = b := ⟨_, rfl⟩
  rw [hb] at HN ⊢
  clear hb hs
  cases b
  all_goals
    go_enter Tryz.func31, Tryz.ntmps31
    go_wp2_with (first
      | (with_reducible refine wpl_box (o := ⟨some 2, .box 36 (.tmp 0), _, _, _, _⟩) rfl _ _ rfl (p.cells vf vc) rfl w.heap.size rfl ?_; intro w1 h1 f1 b1 z1; have c0 := h1.at 0 (u := .int .i64 p.k) rfl; have c3 := h1.at 3 (u := .string p.tp) rfl; have c11 := h1.at 11 (u := .bool p.c.hasWill) rfl; rw [hw] at c11; have c12 := h1.at 12 (u := .string p.c.topic) rfl))
    refine (HN.out _).mono ?_
    rintro e w2 ⟨rfl, hb2⟩
    replace c0 := (bcell hb2 _ _ h1.lt).trans c0
    replace c11 := (bcell hb2 _ _ h1.lt).trans c11
    replace c12 := (bcell hb2 _ _ h1.lt).trans c12
    go_wp2_with fail
    go_ret
    exact ⟨rfl, b1.trans (hb2.mono b1.size)⟩
theorem refWrong38_c (p : Pac) (vf vc : Value) (first : Bool) (w : World) (h3 : p.tp.size ≤ 9223372036854775000) (h12 : p.c.topic.size ≤ 9223372036854775000) : Calls Tryz.prog 31 #[.agg (p.cells vf vc).toArray, .bool first] w fun e w' => e = .returned (.int .i64 (cnWrong p first)) ∧ Below w.heap.size w w' := by
  unfold cnWrong
  by_cases h : p.k = 2 ∨ p.k = 9 ∨ p.k = 11 ∨ p.k = 13
  · have e : cnWhy p first = .never := by unfold cnWhy; rw [if_pos h]
    rw [e]
    rcases h with h | h | h | h
    · exact refWr_n2 p vf vc first w (by rw [h]; rfl)
    · exact refWr_n9 p vf vc first w (by rw [h]; rfl) (by rw [h]; rfl)
    · exact refWr_n11 p vf vc first w (by rw [h]; rfl) (by rw [h]; rfl) (by rw [h]; rfl)
    · exact refWr_n13 p vf vc first w (by rw [h]; rfl) (by rw [h]; rfl) (by rw [h]; rfl) (by rw [h]; rfl)
  have k2 : (p.k == 2) = false := by simp; omega
  have k9 : (p.k == 9) = false := by simp; omega
  have k11 : (p.k == 11) = false := by simp; omega
  have k13 : (p.k == 13) = false := by simp; omega
  have e0 : cnWhy p first = if first ≠ (p.k == 1) then .turn else if p.k = 3 then .topic p.tp else if p.k = 1 ∧ p.c.hasWill = true then .topic p.c.topic else .fine := by unfold cnWhy; rw [if_neg h]
  rw [e0]
  clear e0
  by_cases h1 : p.k = 1
  · have k1 : (p.k == 1) = true := by simp [h1]
    have k3 : (p.k == 3) = false := by rw [h1]; rfl
    cases hf : first
    · rw [k1, if_pos (by simp)]
      exact refWr_t1 p vf vc false w k2 k9 k11 k13 k1 rfl
    · rw [k1, if_neg (by simp), if_neg (by omega)]
      cases hw : p.c.hasWill
      · rw [if_neg (by simp)]
        exact refWr_c0 p vf vc true w k2 k9 k11 k13 k1 k3 hw rfl
      · rw [if_pos ⟨h1, rfl⟩]
        exact refWr_c1 p vf vc true w k2 k9 k11 k13 k1 k3 hw rfl h12
  · have k1 : (p.k == 1) = false := by simp [h1]
    cases hf : first
    · rw [k1, if_neg (by simp)]
      by_cases hk3 : p.k = 3
      · rw [if_pos hk3]
        exact refWr_p3 p vf vc false w k2 k9 k11 k13 k1 (by simp [hk3]) rfl h3
      · rw [if_neg hk3, if_neg (by omega)]
        exact refWr_f3 p vf vc false w k2 k9 k11 k13 k1 (by simp [hk3]) rfl
    · rw [k1, if_pos (by simp)]
      exact refWr_t2 p vf vc true w k2 k9 k11 k13 k1 rfl
theorem paOne_texts {b : List UInt8} {a : Nat} (h : (paOne b a).2.2.1 = true) : (paOne b a).1.tp.size ≤ 65535 ∧ (paOne b a).1.c.topic.size ≤ 65535 := by
  unfold paOne at h ⊢
  by_cases h1 : (hGet b a).2.2 = 2
  · rw [if_pos h1] at h; simp at h
  rw [if_neg h1] at h ⊢
  by_cases h2 : (hGet b a).2.2 ≠ 0
  · rw [if_pos h2] at h; simp at h
  rw [if_neg h2] at h ⊢
  by_cases h3 : (b.length : Int) - (hGet b a).2.1 < (hGet b a).1.2.2
  · rw [if_pos h3] at h; simp at h
  rw [if_neg h3]
  exact paOf_texts _ _ _ _
theorem paAll_texts (b : List UInt8) : ∀ (n a : Nat) (p : Pac), p ∈ (paAll n b a).1 → p.tp.size ≤ 65535 ∧ p.c.topic.size ≤ 65535
  | 0, a, p, h => by simp [paAll] at h
  | n + 1, a, p, h => by
    rw [paAll_succ] at h
    by_cases ho : (paOne b a).2.2.1 = true
    · rw [if_pos ho] at h
      rcases List.mem_cons.1 h with rfl | h
      · exact paOne_texts ho
      · exact paAll_texts b n _ p h
    · rw [if_neg ho] at h
      simp at h

set_option maxRecDepth 100000 in
set_option maxHeartbeats 8000000 in
theorem refPacket38_c (s : ByteArray) (n : Nat) (w : World) (hs : s.size ≤ 1048576) (hn : n ≤ 1048576) :
    Calls Tryz.prog 12 #[.string s, .int .i64 n] w fun e w' => ∃ vf vc, e = .returned (.tuple #[.agg ((rfPacket (sB s) n).1.cells vf vc).toArray, .bool (rfPacket (sB s) n).2.1, .int .i64 (rfPacket (sB s) n).2.2]) ∧ PacOwn w.heap.size w' (rfPacket (sB s) n).1 vf vc ∧ Below w.heap.size w w' := by
  obtain ⟨T, hT⟩ : ∃ T, rfPacket (sB s) n = T := ⟨_, rfl⟩
  rw [hT]
  have hall := fun W => refAll_c s W hs
  have htx := paAll_texts (sB s) ((sB s).length + 1) 0
  have hcl := paAllB_len (sB s)
  rw [sB_lenP] at hcl
  have htx : ∀ p, p ∈ (paAllB (sB s)).1 → p.tp.size ≤ 65535 ∧ p.c.topic.size ≤ 65535 := htx
  unfold rfPacket at hT
  obtain ⟨⟨L, q, E⟩, hR⟩ : ∃ R, paAllB (sB s) = R := ⟨_, rfl⟩
  rw [hR] at hT hall htx hcl
  simp only at hT htx hcl
  clear hR hs
  have HT := hd hT; have HALL := hd hall; have HTX := hd htx
  clear hT hall htx
  go_enter Tryz.func12, Tryz.ntmps12
  go_wp2_with (first
    | (with_reducible refine wpl_alloc (o := ⟨some 4, .alloc 36, _, _, _, _⟩) rfl _ rfl (zK 0) alloc_pac w.heap.size rfl ?_; intro w1 h1 f1 b1 z1))
  refine (HALL.out _).mono ?_
  clear HALL
  rintro e w2 ⟨v2, xs, rfl, hos, hxs, hb2⟩
  simp only at hxs ⊢
  have B2 := b1.trans (hb2.mono b1.size)
  have h2 := h1.keep hb2 h1.lt
  have f2 := f1.keep hb2 (by omega)
  have hlen : xs.length = L.length := by have := congrArg List.length hxs; simpa using this
  obtain ⟨va, vcap, rfl⟩ := Owns.slice hos.row
  rw [hlen]
  have hz2 := hb2.size
  have HOS := hd hos; have HXS := hd hxs
  clear h1 f1 b1 hb2 hos hxs
  generalize hw : w.heap.size = g at *
  have hg2 : g < w2.heap.size := by omega
  go_wp2_with fail
  have L0 : rfLook L n (L.length + 1) 0 = rfLook L n (L.length + 1 - 0) 0 := rfl
  go_loopw [10] (fun i w' => ∃ k : Nat, i = .int .i64 k ∧ k ≤ L.length ∧ rfLook L n (L.length + 1) 0 = rfLook L n (L.length + 1 - k) k ∧ Below w2.heap.size w2 w') (fun i _ => match i with | .int _ m => L.length - m.toNat | _ => 0)
  case atStart => exact ⟨0, rfl, Nat.zero_le _, L0, Below.refl _ _⟩
  case round =>
    obtain ⟨k, rfl, hk, hlk, hb3⟩ := hrel
    clear L0
    have h3 := h2.keep hb3 hg2
    have f3 := f2.keep hb3 hg2
    have hz3 := hb3.size
    have B3 := B2.trans (hb3.mono (by omega))
    have HLK := hd hlk
    clear hlk
    by_cases hk1 : k < L.length
    · by_cases hk2 : k ≤ n
      · skip
        have hk1' : k < xs.length := by omega
        obtain ⟨x, hx⟩ : ∃ x, xs[k]? = some x := ⟨_, List.getElem?_eq_getElem hk1'⟩
        obtain ⟨bx, ox, rfl, hlx, hrx⟩ := prow_at HOS.out.rd hx
        obtain ⟨x1, xf, xc⟩ := x
        have hLk : L[k]? = some x1 := by rw [← HXS.out, List.getElem?_map, hx]; rfl
        have hLd : L.getD k Pac.zero = x1 := by simp [List.getD, hLk]
        obtain ⟨t1, t2⟩ := HTX.out x1 (List.mem_of_getElem? hLk)
        have hr3 := rangeAt_keep hrx hb3 hlx
        have hek : L.length + 1 - k = (L.length + 1 - (k + 1)) + 1 := by omega
        have hlk := HLK.out
        have e9 : rfLook L n (L.length + 1 - k) k = (if cnWrong x1 (k == 0) ≠ 0 then cnWrong x1 (k == 0) else rfLook L n (L.length + 1 - (k + 1)) (k + 1)) := by rw [hek, rfLook_succ, if_pos ⟨hk1, hk2⟩, hLd]
        rw [e9] at hlk
        have hwc := fun (b : Bool) W => refWrong38_c x1 xf xc b W (by omega) (by omega)
        have hke : ((k : Int) == 0) = (k == 0) := by cases k <;> rfl
        obtain ⟨z, hz⟩ : ∃ z, cnWrong x1 (k == 0) = z := ⟨_, rfl⟩
        rw [hz] at hlk
        have HW : Hd (∀ W : World, Calls Tryz.prog 31 #[.agg (Pac.cells x1 xf xc).toArray, .bool ((k : Int) == 0)] W fun e w' => e = .returned (.int .i64 z) ∧ Below W.heap.size W w') := hd (fun W => by have := hwc (k == 0) W; rw [hz] at this; rw [hke]; exact this)
        have HLK2 := hd hlk
        clear hLk hLd t1 t2 hrx hwc hke hz hlk HLK e9 hek
        have hk1i : (k : Int) < (xs.length : Int) := by omega
        go_wp2_with (first
          | ((with_reducible refine wpl_at (o := ⟨some 32, .load 36 (.tmp 31), _, _, _, _⟩) ?_); refine wpl_loadAt rfl _ _ rfl bx (ox + k * 24) rfl (Pac.cells x1 xf xc) _ hr3 Tryz.underlying36 rfl info_pac ?_))
        refine (HW.out _).mono ?_
        rintro e w4 ⟨rfl, hb4⟩
        have h4 := h3.keep hb4 h3.lt
        have f4 := f3.keep hb4 h3.lt
        have hz4 := hb4.size
        have B4 := B3.trans (hb4.mono (by omega))
        clear HW
        by_cases hz0 : z = 0
        · subst hz0
          have hlk := HLK2.out
          rw [if_neg (by simp)] at hlk
          have HLK3 := hd hlk
          clear hlk HLK2
          go_wp2_with fail
          go_roundw
          case rel => exact ⟨k + 1, by congr 1, by omega, HLK3.out, hb3.trans (hb4.mono hz3)⟩
          case measure => simp; omega
        · have hzb : (z != 0) = true := by simpa using hz0
          have hlk := HLK2.out
          rw [if_pos hz0] at hlk
          have hT : T = (Pac.zero, false, z) := by
            have h := HT.out
            rw [hlk, if_pos hz0] at h
            exact h.symm
          subst hT
          clear hlk HLK2 HT hz0
          go_wp2_with (first
            | ((with_reducible refine wpl_at (o := ⟨none, .store 36 (.tmp 4) (.tmp 38), _, _, _, _⟩) ?_); refine wpl_storeAll rfl rfl _ _ _ rfl g (zK 0) (zK 0) rfl rfl info_pac (zK_one 0) h4 rfl f4 ?_; intro w9 h9 f9 k9 z9))
          refine bodyPost_ret (v := .tuple #[.agg (zK 0).toArray, .bool false, .int .i64 z]) (results_cell_tmp2 Tryz.results12 rfl (ret_pac h9 rfl) rfl rfl) rfl ?_
          exact ⟨Nl, Nl, rfl, PacOwn.nil (p := Pac.zero) _ _ rfl rfl, B4.trans (k9.toBelow (by have := B4.size; omega) (by simp))⟩
      · have hkn : ¬ (k : Int) ≤ (n : Int) := by omega
        have hlk := HLK.out
        have hek : L.length + 1 - k = (L.length + 1 - (k + 1)) + 1 := by omega
        have e9 : rfLook L n (L.length + 1 - k) k = 0 := by rw [hek, rfLook_succ, if_neg (by omega)]
        rw [e9] at hlk
        have hT := HT.out
        rw [hlk, if_neg (by simp)] at hT
        clear hlk HLK hek e9
        rw [if_pos (by omega)] at hT
        have hnx : n < xs.length := by omega
        obtain ⟨x, hx⟩ : ∃ x, xs[n]? = some x := ⟨_, List.getElem?_eq_getElem hnx⟩
        have hrd := (HOS.out.each x (List.mem_of_getElem? hx)).1.kept hb3 (Nat.le_refl _)
        obtain ⟨bx, ox, rfl, hlx, hrx⟩ := prow_at HOS.out.rd hx
        obtain ⟨x1, xf, xc⟩ := x
        have hLk : L[n]? = some x1 := by rw [← HXS.out, List.getElem?_map, hx]; rfl
        have hLd : L.getD n Pac.zero = x1 := by simp [List.getD, hLk]
        rw [hLd] at hT
        subst hT
        simp only at hrd
        have hr3 := rangeAt_keep hrx hb3 hlx
        have hone := Pac.one x1 xf xc hrd.rd.f.oneCell hrd.rd.c.oneCell
        have HRD := hd hrd
        clear hLk hLd hrx hrd HT hx
        go_wp2_with (first
          | ((with_reducible refine wpl_at (o := ⟨some 47, .load 36 (.tmp 46), _, _, _, _⟩) ?_); refine wpl_loadAt rfl _ _ rfl bx (ox + n * 24) rfl (Pac.cells x1 xf xc) _ hr3 Tryz.underlying36 rfl info_pac ?_)
          | ((with_reducible refine wpl_at (o := ⟨none, .store 36 (.tmp 4) (.tmp 47), _, _, _, _⟩) ?_); refine wpl_storeAll rfl rfl _ _ _ rfl g (Pac.cells x1 xf xc) (zK 0) rfl rfl info_pac hone h3 rfl f3 ?_; intro w9 h9 f9 k9 z9))
        refine bodyPost_ret (v := .tuple #[.agg (Pac.cells x1 xf xc).toArray, .bool true, .int .i64 0]) (results_cell_tmp2 Tryz.results12 rfl (ret_pac h9 rfl) rfl rfl) rfl ?_
        exact ⟨xf, xc, rfl, (HRD.out.keeps k9 (by intro i hi; simp at hi; omega)).le (by omega), B3.trans (k9.toBelow (by have := B3.size; omega) (by simp))⟩
    · by_cases hnl : n < L.length
      · skip
        have hlk := HLK.out
        have hek : L.length + 1 - k = (L.length + 1 - (k + 1)) + 1 := by omega
        have e9 : rfLook L n (L.length + 1 - k) k = 0 := by rw [hek, rfLook_succ, if_neg (by omega)]
        rw [e9] at hlk
        have hT := HT.out
        rw [hlk, if_neg (by simp)] at hT
        clear hlk HLK hek e9
        rw [if_pos (by omega)] at hT
        have hnx : n < xs.length := by omega
        obtain ⟨x, hx⟩ : ∃ x, xs[n]? = some x := ⟨_, List.getElem?_eq_getElem hnx⟩
        have hrd := (HOS.out.each x (List.mem_of_getElem? hx)).1.kept hb3 (Nat.le_refl _)
        obtain ⟨bx, ox, rfl, hlx, hrx⟩ := prow_at HOS.out.rd hx
        obtain ⟨x1, xf, xc⟩ := x
        have hLk : L[n]? = some x1 := by rw [← HXS.out, List.getElem?_map, hx]; rfl
        have hLd : L.getD n Pac.zero = x1 := by simp [List.getD, hLk]
        rw [hLd] at hT
        subst hT
        simp only at hrd
        have hr3 := rangeAt_keep hrx hb3 hlx
        have hone := Pac.one x1 xf xc hrd.rd.f.oneCell hrd.rd.c.oneCell
        have HRD := hd hrd
        clear hLk hLd hrx hrd HT hx
        go_wp2_with (first
          | ((with_reducible refine wpl_at (o := ⟨some 47, .load 36 (.tmp 46), _, _, _, _⟩) ?_); refine wpl_loadAt rfl _ _ rfl bx (ox + n * 24) rfl (Pac.cells x1 xf xc) _ hr3 Tryz.underlying36 rfl info_pac ?_)
          | ((with_reducible refine wpl_at (o := ⟨none, .store 36 (.tmp 4) (.tmp 47), _, _, _, _⟩) ?_); refine wpl_storeAll rfl rfl _ _ _ rfl g (Pac.cells x1 xf xc) (zK 0) rfl rfl info_pac hone h3 rfl f3 ?_; intro w9 h9 f9 k9 z9))
        refine bodyPost_ret (v := .tuple #[.agg (Pac.cells x1 xf xc).toArray, .bool true, .int .i64 0]) (results_cell_tmp2 Tryz.results12 rfl (ret_pac h9 rfl) rfl rfl) rfl ?_
        exact ⟨xf, xc, rfl, (HRD.out.keeps k9 (by intro i hi; simp at hi; omega)).le (by omega), B3.trans (k9.toBelow (by have := B3.size; omega) (by simp))⟩
      · skip
        have hlk := HLK.out
        have hek : L.length + 1 - k = (L.length + 1 - (k + 1)) + 1 := by omega
        have e9 : rfLook L n (L.length + 1 - k) k = 0 := by rw [hek, rfLook_succ, if_neg (by omega)]
        rw [e9] at hlk
        have hT := HT.out
        rw [hlk, if_neg (by simp)] at hT
        clear hlk HLK hek e9
        rw [if_neg (by omega)] at hT
        subst hT
        have hnx : ¬ n < xs.length := by omega
        clear HT
        go_wp2_with (first
          | ((with_reducible refine wpl_at (o := ⟨none, .store 36 (.tmp 4) (.tmp 48), _, _, _, _⟩) ?_); refine wpl_storeAll rfl rfl _ _ _ rfl g (zK 0) (zK 0) rfl rfl info_pac (zK_one 0) h3 rfl f3 ?_; intro w9 h9 f9 k9 z9))
        refine bodyPost_ret (v := .tuple #[.agg (zK 0).toArray, .bool false, .int .i64 E]) (results_cell_tmp2 Tryz.results12 rfl (ret_pac h9 rfl) rfl rfl) rfl ?_
        exact ⟨Nl, Nl, rfl, PacOwn.nil (p := Pac.zero) _ _ rfl rfl, B3.trans (k9.toBelow (by have := B3.size; omega) (by simp))⟩
end Go.Proofs.YtjlnlgemngpelaaGreatDoor

/- A connection: awake. -/
namespace Go.Proofs.YtjlnlgemngpelaaGreatDoor
open Go.RowKit
set_option linter.unusedVariables false
set_option linter.unusedSimpArgs false

def aw1 : Cn := ⟨true, [], ([192, 0], 0, 0), true, false, 0, Con.zero, false, false⟩
def aw2 : Cn := ⟨true, [], ([], 1, 0), true, false, 15, Con.zero, false, false⟩
def aw3 : Cn := ⟨true, [208, 0], ([], 1, 0), true, false, 15, Con.zero, false, false⟩
theorem aw_feed : cnFeed Cn.new ⟨#[192, 0]⟩ = aw1 := by rfl
theorem aw_next : cnNext aw1 = ((Pac.zero, false, 15), aw2) := by kernel_rfl
theorem aw_put : paPutB (zP 13) = [208, 0] ∧ paPutE (zP 13) = 0 := by decide +kernel
theorem aw_emit : cnEmit aw2 (zP 13) = aw3 := by
  unfold cnEmit
  rw [aw_put.1]
  rfl
theorem aw_ok (w : World) : PacOk w (zP 13) Nl Nl := ⟨⟨Ws.nil _, Is.nil _, by simp [zP, Pac.zero], by simp [zP, Pac.zero]⟩, ⟨Nat.zero_le _, Nat.zero_le _, ⟨Nat.zero_le _, Nat.zero_le _, Nat.zero_le _, Nat.zero_le _, Nat.zero_le _⟩, by simp [zP, Pac.zero]⟩⟩
set_option maxRecDepth 100000 in
set_option maxHeartbeats 8000000 in
theorem awake38_c (w : World) (hF : EnvF w) (hE : EnvU w) : Calls Tryz.prog 9 #[] w fun e w' => e = .returned (.bool true) ∧ Below w.heap.size w w' := by
  have HF := hd hF; have HE := hd hE
  clear hF hE
  go_enter Tryz.func9, Tryz.ntmps9
  go_wp2_with fail
  refine (cnNew_c _).mono ?_
  rintro e w1 ⟨g, c, rfl, h1, hg, b1⟩
  go_wp2_with fail
  refine (cnFeed_c g c _ ⟨#[192, 0]⟩ _ h1 (by decide)).mono ?_
  rintro e w2 ⟨rfl, h2, b2⟩
  rw [aw_feed] at h2
  have B2 := b1.trans (b2.mono hg)
  go_wp2_with fail
  refine (cnNext_c g c aw1 _ h2 (CnEnv.of HF.out HE.out B2 hg) (by decide) (by decide)).mono ?_
  rintro e w3 ⟨vf, vc, rfl, hp3, h3, k3⟩
  rw [aw_next] at h3 hp3
  rw [aw_next]
  simp only at h3 hp3 ⊢
  have gc := h3.gc
  have hl2 := h2.lt
  have B3 := B2.trans (k3.toBelow B2.size (by intro k hk; simp at hk; omega))
  have hone := Pac.one Pac.zero vf vc hp3.rd.f.oneCell hp3.rd.c.oneCell
  have H3 := hd h3
  have hs3 := B3.size
  clear h1 b1 h2 b2 hp3 h3 k3 B2
  go_wp2_with (first
    | (with_reducible refine wpl_alloc (o := ⟨some 2, .alloc 36, _, _, _, _⟩) rfl _ rfl (zK 0) alloc_pac w3.heap.size rfl ?_; intro w4 h4 f4 b4 z4)
    | ((with_reducible refine wpl_at (o := ⟨none, .store 36 (.tmp 2) (.tmp 11), _, _, _, _⟩) ?_); refine wpl_storeAll rfl rfl _ _ _ rfl w3.heap.size (Pac.zero.cells vf vc) (zK 0) rfl rfl info_pac hone h4 rfl f4 ?_; intro w5 h5 f5 k5 z5; have b5 : Below w3.heap.size w3 w5 := b4.trans (k5.toBelow b4.size (by simp)); have H5 := hd (H3.out.grow b5); have B5 := B3.trans (b5.mono hs3); clear h4 f4 b4 z4 h5 f5 k5 b5))
  refine (cnClosed_c g c aw2 _ H5.out).mono ?_
  rintro e w' ⟨rfl, rfl⟩
  have e1 : aw2.closed = false := rfl
  rw [e1]
  go_wp2_with fail
  have hs5 := B5.size
  refine (cnEmit_c g c aw2 (zP 13) Nl Nl _ H5.out (aw_ok _) (HF.out.1.below B5 (Nat.le_refl _)) (HE.out.below B5) (fun _ => rfl) (by decide)).mono ?_
  rintro e w6 ⟨rfl, h6, b6, -⟩
  rw [aw_emit] at h6
  rw [aw_put.2]
  have B6 := B5.trans (b6.mono hg)
  have H6 := hd h6
  clear h6 b6
  go_wp2_with fail
  refine (cnOut_c g c aw3 _ H6.out).mono ?_
  rintro e w7 ⟨rfl, h7, b7⟩
  have B7 := B6.trans (b7.mono hg)
  have e2 : sOf aw3.out = ⟨#[208, 0]⟩ := rfl
  rw [e2]
  go_wp2_with fail
  go_ret
  exact ⟨rfl, B7⟩
end Go.Proofs.YtjlnlgemngpelaaGreatDoor

/- What texts that came in read as. Of no function of the program. -/
namespace Go.Proofs.YtjlnlgemngpelaaGreatDoor
open Go.ChangeShapes Go.WideShapes Go.ChangeAt Go.RowKit
set_option linter.unusedVariables false
set_option linter.unusedSimpArgs false

/-- A slice of texts. -/
def Ts (w : World) (v : Value) (l : List ByteArray) : Prop := Rd w v l.length (l.map Value.string)
theorem Ts.slice {w : World} {v : Value} {l : List ByteArray} (h : Ts w v l) : ∃ a c, v = .slice a l.length c := by
  obtain ⟨a, c, e, _⟩ := h
  exact ⟨a, c, e⟩
theorem Ts.below' {B : Nat} {w w' : World} {v : Value} {l : List ByteArray} (h : Ts w v l) (hb : Below B w w') (hB : w.heap.size ≤ B) : Ts w' v l := Rd.below' h hb hB
theorem Ts.at {w : World} {v : Value} {l : List ByteArray} (h : Ts w v l) {k : Nat} {s : ByteArray} (hk : l[k]? = some s) :
    ∃ b o c, v = .slice (some ⟨b, o, none⟩) l.length c ∧ b < w.heap.size ∧ w.cell? ⟨b, o + k, none⟩ = some (.string s) := by
  rcases Rd.split h with ⟨hx, _⟩ | ⟨hx, b, o, c, rfl, h1, h2, h3, h4⟩
  · have : l = [] := by simpa using hx
    subst this
    simp at hk
  · exact ⟨b, o, c, rfl, h3, h4 k _ (by simp [hk])⟩

set_option maxRecDepth 100000 in
theorem open_texts {H : Type} {enc : TypeId × Value → H} {W : World} {r : Reach} {b0 : Nat} {v : Value} {d : DataW H} {ps : List MemPlace} (hval : Value.okWide Tryz.prog W r b0 22 v)
    (h : DataW.Trod enc Tryz.prog W 0 (fun _ => true) true 22 v d ps) (hz : (d.weights Tryz.prog 22).all (· ≤ reachBytes) = true) : ∃ l : List ByteArray, Ts W v l ∧ (∀ s ∈ l, s.size ≤ 140737488351232) ∧ (v = .slice none 0 0 ∧ l = [] ∨ ∃ sp, d = .slice (strs l) sp) := by
  obtain ⟨a, len, cap, rfl⟩ := okWide_slice Tryz.underlying22 hval
  obtain ⟨fuel, hf⟩ := h
  have hf' : DataW.trod enc Tryz.prog W 0 (fun _ => true) true fuel 22 [.slice a len cap] = some (d, ps) := by simpa [Value.cells] using hf
  rcases open_strings Tryz.underlying22 Tryz.underlying9 (by kernel_rfl) hf' with ⟨hcs, hx⟩ | ⟨ad, len', cap', zs, hcs, _, hl, hm, hz', hx, hcell, hwz⟩
  · simp only [List.cons.injEq, Value.slice.injEq, and_true] at hcs
    obtain ⟨rfl, rfl, rfl⟩ := hcs
    exact ⟨[], Rd.nil W, by simp, .inl ⟨rfl, rfl⟩⟩
  · simp only [List.cons.injEq, Value.slice.injEq, and_true] at hcs
    obtain ⟨rfl, rfl, rfl⟩ := hcs
    simp only [if_true] at hz'
    simp only [Prod.mk.injEq] at hx
    obtain ⟨rfl, _⟩ := hx
    have hlen : (zs.take len).length = len := by simp; omega
    refine ⟨zs.take len, ?_, ?_, .inr ⟨_, rfl⟩⟩
    · unfold Ts
      rw [hlen]
      refine ⟨some ad, cap, rfl, hl, hm, (fun e => by cases e), fun ad' e j u hu => ?_⟩
      cases e
      have hj : j < len := by
        have := (List.getElem?_eq_some_iff.1 hu).1
        simp at this; omega
      have hjz : j < zs.length := by omega
      rw [hcell j hjz, ← hu]
      have e2 : ((zs.take len).map Value.string)[j]? = some (.string (zs[j]'hjz)) := by
        simp [hj, List.getElem?_eq_getElem hjz]
      rw [e2]
      simp [List.getD, hjz]
    · intro s hs
      have hw := weights_slice Tryz.underlying22 hz (d := .lit (.string s.data.toList)) (List.mem_map.2 ⟨s, hs, rfl⟩)
      have hw' : (DataW.weightsEach Tryz.prog [9] [(DataW.lit (.string s.data.toList) : DataW H)]).all (· ≤ reachBytes) = true := by simpa [DataW.weightsEach] using hw
      exact sized_string hw' (j := 0) (t := 9) rfl rfl
end Go.Proofs.YtjlnlgemngpelaaGreatDoor

/- A connection: any bytes in any chunks: the law. -/
namespace Go.Proofs.YtjlnlgemngpelaaGreatDoor
open Go.RowKit
set_option linter.unusedVariables false
set_option linter.unusedSimpArgs false

theorem wpl_stillG {P : Program} {w : World} {ops : Array Oper} {rest : List Oper} {o : Oper} {a : Act} {Q : Exit → Act → World → Prop} (hw : Region.wanted o (yielded ops a.tmps) = true) (v : Value) (hv : (execOp a.eval o).run P w = .ok (.value v) w) (h : wpList P ops Q rest (a.put o.dst v) w) : wpList P ops Q (o :: rest) a w :=
  wpList_step fun _ hK => by
    simp only [hw, if_true]
    unfold Oper.wp
    rw [hv]
    exact hK _ _ h
theorem upon_at {P : Program} {o : Oper} {a : Act} {next : Act → World → Prop} {Q : Exit → Act → World → Prop} {X : Result Next} (h : Oper.upon P o a next Q X) : Oper.upon P o a next Q X := h
theorem upon_eq {P : Program} {o : Oper} {a : Act} {next : Act → World → Prop} {Q : Exit → Act → World → Prop} {X : Result Next} (v : Value) (w : World) (e : X = .ok (.value v) w) (h : next (a.put o.dst v) w) : Oper.upon P o a next Q X := by rw [e]; exact h
theorem sB_append (x y : ByteArray) : sB (x ++ y) = sB x ++ sB y := by simp [sB, ByteArray.data_append]
structure RI (w : World) (g c : Nat) (s : Cn) (A : ByteArray) (n : Nat) (d : Bool) (m : Nat) (w' : World) : Prop where
  con : CnAt w' g c s
  ci : CI s (sB A) n d
  al : A.size ≤ 3000
  fl : s.fr.1.length ≤ 3000 * m
  ge : w.heap.size ≤ g
  below : Below w.heap.size w w'
theorem RI.feed {w w1 w2 : World} {g c : Nat} {s : Cn} {A : ByteArray} {n : Nat} {d : Bool} {m : Nat} (h : RI w g c s A n d m w1) (B : ByteArray) (hB : A.size + B.size ≤ 3000) (hc : CnAt w2 g c (cnFeed s B)) (hb : Below g w1 w2) :
    RI w g c (cnFeed s B) (if d = true then A else A ++ B) n d (m + 1) w2 := by
  have h1 := h.ci.feed B
  have h2 := h.ci.feed_len B
  have h3 := h.fl
  have h4 := h.al
  refine ⟨hc, ?_, ?_, by omega, h.ge, h.below.trans (hb.mono h.ge)⟩
  · cases d
    · rw [if_neg (by simp)] at h1 ⊢
      rw [sB_append]
      exact h1
    · rw [if_pos rfl] at h1 ⊢
      exact h1
  · cases d
    · rw [if_neg (by simp), ByteArray.size_append]; exact hB
    · rw [if_pos rfl]; exact h4
theorem RI.next {w w1 w2 : World} {g c : Nat} {s : Cn} {A : ByteArray} {n : Nat} {d : Bool} {m : Nat} (h : RI w g c s A n d m w1) (hc : CnAt w2 g c (cnNext s).2) (hb : Below w.heap.size w w2) :
    (cnNext s).1 = rfPacket (sB A) n ∧ RI w g c (cnNext s).2 A (if (cnNext s).1.2.1 = true then n + 1 else n) (d || decide ((cnNext s).1.2.2 ≠ 0)) m w2 := by
  obtain ⟨h1, h2, h3⟩ := h.ci.next
  exact ⟨h1, hc, h2, h.al, by have := h.fl; omega, h.ge, hb⟩
theorem RI.grow {w w1 w2 : World} {g c : Nat} {s : Cn} {A : ByteArray} {n : Nat} {d : Bool} {m : Nat} (h : RI w g c s A n d m w1) (hb : Below w1.heap.size w1 w2) : RI w g c s A n d m w2 :=
  ⟨h.con.grow hb, h.ci, h.al, h.fl, h.ge, h.below.trans (hb.mono h.below.size)⟩
theorem RI.env {w w1 : World} {g c : Nat} {s : Cn} {A : ByteArray} {n : Nat} {d : Bool} {m : Nat} (h : RI w g c s A n d m w1) (hF : EnvF w) (hE : EnvU w) : CnEnv g w1 := CnEnv.of hF hE h.below h.ge
theorem RI.cnt {w w1 : World} {g c : Nat} {s : Cn} {A : ByteArray} {n : Nat} {d : Bool} {m : Nat} (h : RI w g c s A n d m w1) : n ≤ 3000 ∧ 0 ≤ s.fr.2.1 ∧ s.fr.2.1 ≤ 3001 := by
  have h1 := h.ci.cnt; have h2 := h.ci.taken; have h3 := h.al
  have e : (sB A).length = A.size := sB_lenP A
  omega
set_option maxRecDepth 100000 in
set_option maxHeartbeats 8000000 in
theorem ConnReads_s (va vb : Value) (l : List ByteArray) (tk : List UInt8) (w : World) (ha : Ts w va l) (hS : ∀ s ∈ l, s.size ≤ 140737488351232) (hb : Bs w vb tk) (hF : EnvF w) (hE : EnvU w) :
    Calls Tryz.prog 3 #[va, vb] w fun e w' => e = .returned (.bool true) ∧ Below w.heap.size w w' := by
  have HF := hd hF; have HE := hd hE
  have HA := hd ha; have HB := hd hb
  have hl1 : l.length ≤ 9223372036854775807 := by
    have := Rd.len ha
    unfold maxLen at this
    omega
  have hl2 : tk.length ≤ 9223372036854775807 := by
    have := Rd.len hb
    unfold maxLen at this
    omega
  obtain ⟨a, ca, rfl⟩ := ha.slice
  obtain ⟨b, cb, rfl⟩ := hb.slice
  clear ha hb hF hE
  go_enter Tryz.func3, Tryz.ntmps3
  go_wp2_with fail
  refine (cnNew_c _).mono ?_
  rintro e w1 ⟨g, c, rfl, h1, hg, b1⟩
  have R0 : RI w g c Cn.new ⟨#[]⟩ 0 false 0 w1 := ⟨h1, CI.new, by decide, by simp [Cn.new], hg, b1⟩
  have HR0 := hd R0
  clear h1 b1 R0
  go_wp2_with fail
  go_loopw [6, 7, 8, 9] (fun av nv dv i w' => ∃ (k n : Nat) (A : ByteArray) (d : Bool) (s : Cn), av = .string A ∧ nv = .int .i64 n ∧ dv = .bool d ∧ i = .int .i64 k ∧ k ≤ l.length ∧ k ≤ 30 ∧ RI w g c s A n d k w') (fun _ _ _ i _ => leftN l.length i)
  case atStart => exact ⟨0, 0, _, _, _, rfl, rfl, rfl, rfl, by omega, by omega, HR0.out⟩
  case round =>
    obtain ⟨k, n, A, d, s, rfl, rfl, rfl, rfl, hk, hk30, R⟩ := hrel
    clear HR0
    have HR := hd R
    clear R
    by_cases hk1 : k < l.length
    rotate_left
    · go_wp2_with fail
      refine (awake38_c _ (HF.out.below HR.out.below) (HE.out.below HR.out.below)).mono ?_
      rintro e w9 ⟨rfl, hb9⟩
      have hbw := Below.up HR.out.below hb9
      go_wp2_with fail
      go_ret
      exact ⟨rfl, hbw⟩
    by_cases hk2 : k < tk.length
    rotate_left
    · go_wp2_with fail
      refine (awake38_c _ (HF.out.below HR.out.below) (HE.out.below HR.out.below)).mono ?_
      rintro e w9 ⟨rfl, hb9⟩
      have hbw := Below.up HR.out.below hb9
      go_wp2_with fail
      go_ret
      exact ⟨rfl, hbw⟩
    by_cases hk3 : k < 30
    rotate_left
    · go_wp2_with fail
      refine (awake38_c _ (HF.out.below HR.out.below) (HE.out.below HR.out.below)).mono ?_
      rintro e w9 ⟨rfl, hb9⟩
      have hbw := Below.up HR.out.below hb9
      go_wp2_with fail
      go_ret
      exact ⟨rfl, hbw⟩
    obtain ⟨B, hBk⟩ : ∃ s, l[k]? = some s := ⟨_, List.getElem?_eq_getElem hk1⟩
    obtain ⟨ba, oa, cva, hva, hbla, hcA⟩ := HA.out.at hBk
    cases hva
    obtain ⟨bb, ob, rfl, hblb, hcB⟩ : ∃ bb ob, b = some ⟨bb, ob, none⟩ ∧ bb < w.heap.size ∧ w.cell? ⟨bb, ob + k, none⟩ = some (.int .u8 (bN tk k)) := by
      rcases HB.out.split with ⟨hn, _⟩ | ⟨_, b, o, c', hv, h1, h2, h3, hcell⟩
      · rw [hn] at hk2; simp at hk2
      · simp only [Value.slice.injEq] at hv
        exact ⟨b, o, hv.1, h3, hcell k hk2⟩
    have hx := bN_lt tk k
    have hcA1 := (bcell HR.out.below _ _ hbla).trans hcA
    have hal := HR.out.al
    have hBs := hS B (List.mem_of_getElem? hBk)
    clear hBk
    by_cases hbig : 3000 < A.size + B.size
    · go_wp2_with fail
      refine (awake38_c _ (HF.out.below HR.out.below) (HE.out.below HR.out.below)).mono ?_
      rintro e w9 ⟨rfl, hb9⟩
      have hbw := Below.up HR.out.below hb9
      go_wp2_with fail
      go_ret
      exact ⟨rfl, hbw⟩
    go_wp2_with fail
    refine (cnFeed_c g c s B _ HR.out.con (by have := HR.out.fl; omega)).mono ?_
    rintro e w2 ⟨rfl, h2, b2⟩
    have R2 := HR.out.feed B (by omega) h2 b2
    have hcA2 := (bcell R2.below _ _ hbla).trans hcA
    have HR2 := hd R2
    clear h2 b2 R2 HR hcA1
    generalize cnFeed s B = s2 at *
    cases d
    · skip
      rw [if_neg (by simp)] at HR2
      go_wp2_with fail
      generalize A ++ B = A2 at *
      go_loopw [7, 8, 10] (fun nv dv j w' => ∃ (q n : Nat) (d : Bool) (s : Cn), nv = .int .i64 n ∧ dv = .bool d ∧ j = .int .i64 q ∧ q ≤ bN tk k % 4 ∧ RI w g c s A2 n d (k + 1) w') (fun _ _ j _ => leftN 3 j)
      case atStart => exact ⟨0, n, false, s2, rfl, rfl, rfl, by omega, HR2.out⟩
      case round =>
        obtain ⟨q, n', d', s', rfl, rfl, rfl, hq, R⟩ := hrel
        clear HR2
        have HQ := hd R
        have hcB1 := (bcell R.below _ _ hblb).trans hcB
        clear R
        by_cases hqq : q < bN tk k % 4
        rotate_left
        · have hqm : ¬ (q : Int) < (bN tk k : Int) % 4 := by omega
          go_wp2_with fail
          go_roundw
          case rel => exact ⟨k + 1, n', A2, d', s', rfl, rfl, rfl, by congr 1, by omega, by omega, HQ.out⟩
          case measure => simp [leftN]; omega
        have hqm : (q : Int) < (bN tk k : Int) % 4 := by omega
        obtain ⟨ht1, ht2, ht3⟩ := HQ.out.cnt
        have hnx := fun W h1 h2 => cnNext_c g c s' W h1 h2 (by have := HQ.out.fl; omega) ⟨ht2, by omega⟩
        have hrn := fun (w2 : World) hc hb => HQ.out.next (w2 := w2) hc hb
        have hrf := fun W => refPacket38_c A2 n' W (by have := HQ.out.al; omega) (by omega)
        have heq : (cnNext s').1 = rfPacket (sB A2) n' := HQ.out.ci.next.1
        rw [← heq] at hrf
        clear heq
        generalize cnNext s' = N at *
        obtain ⟨⟨P, ok, E⟩, s5⟩ := N
        simp only at hrf hrn
        have HNX := hd hnx; have HRN := hd hrn; have HRF := hd hrf
        clear hnx hrn hrf
        have hg := HQ.out.ge; have hgc := HQ.out.con.gc
        go_wp2_with fail
        refine (HNX.out _ HQ.out.con (HQ.out.env HF.out HE.out)).mono ?_
        clear HNX
        rintro e w3 ⟨vf, vc, rfl, hp3, hc3, hk3⟩
        simp only at hp3 hc3 ⊢
        have B3 : Below w.heap.size w w3 := HQ.out.below.trans (hk3.toBelow HQ.out.below.size (by intro k hk; simp at hk; omega))
        have R3 := hd (HRN.out w3 hc3 B3).2
        have hone := Pac.one P vf vc hp3.rd.f.oneCell hp3.rd.c.oneCell
        have HP3 := hd hp3
        clear hp3 hc3 HRN HQ hk3
        go_wp2_with (first
          | (with_reducible refine wpl_alloc (o := ⟨some 11, .alloc 36, _, _, _, _⟩) rfl _ rfl (zK 0) alloc_pac _ rfl ?_; intro w4 h4 f4 b4 z4)
          | ((with_reducible refine wpl_at (o := ⟨none, .store 36 (.tmp 11) (.tmp 72), _, _, _, _⟩) ?_); refine wpl_storeAll rfl rfl _ _ _ rfl w3.heap.size (P.cells vf vc) (zK 0) rfl rfl info_pac hone h4 rfl f4 ?_; intro w5 h5 f5 k5 z5; have b5 : Below w3.heap.size w3 w5 := b4.trans (k5.toBelow b4.size (by simp)); have R5 := hd (R3.out.grow b5); have HP5 := hd (HP3.out.kept b5 (Nat.le_refl _)); clear h4 f4 b4 z4 k5 f5 R3 HP3))
        refine (HRF.out _).mono ?_
        clear HRF
        rintro e w6 ⟨vf', vc', rfl, hp6, hb6⟩
        have hone6 := Pac.one P vf' vc' hp6.rd.f.oneCell hp6.rd.c.oneCell
        have h6 := h5.keep hb6 h5.lt
        have R6 := hd (R5.out.grow hb6)
        have HP6 := hd (HP5.out.kept hb6 (Nat.le_refl _)); have HQ6 := hd hp6
        have hz6 := hb6.size
        have hl5 := h5.lt
        clear h5 hp6 R5 HP5
        go_wp2_with (first
          | (with_reducible refine wpl_alloc (o := ⟨some 14, .alloc 36, _, _, _, _⟩) rfl _ rfl (zK 0) alloc_pac _ rfl ?_; intro w7 h7 f7 b7 z7)
          | ((with_reducible refine wpl_at (o := ⟨none, .store 36 (.tmp 14) (.tmp 79), _, _, _, _⟩) ?_); refine wpl_storeAll rfl rfl _ _ _ rfl w6.heap.size (P.cells vf' vc') (zK 0) rfl rfl info_pac hone6 h7 rfl f7 ?_; intro w8 h8 f8 k8 z8; have b8 : Below w6.heap.size w6 w8 := b7.trans (k8.toBelow b7.size (by simp)); have R8 := hd (R6.out.grow b8); have HP8 := hd (HP6.out.kept b8 (Nat.le_refl _)); have HQ8 := hd (HQ6.out.kept b8 (Nat.le_refl _)); have h9 := h6.keep b8 h6.lt; clear h7 f7 b7 z7 k8 f8 R6 HP6 HQ6 h6; skip)
          | ((with_reducible refine wpl_at (o := ⟨some 91, .load 36 (.tmp 11), _, _, _, _⟩) ?_); (refine wpl_loadAtG (by rfl) _ _ rfl w3.heap.size 0 rfl (P.cells vf vc) _ h9.range Tryz.underlying36 rfl info_pac ?_))
          | ((with_reducible refine wpl_at (o := ⟨some 92, .load 36 (.tmp 14), _, _, _, _⟩) ?_); (refine wpl_loadAtG (by rfl) _ _ rfl w6.heap.size 0 rfl (P.cells vf' vc') _ h8.range Tryz.underlying36 rfl info_pac ?_)))
        refine (refSame_c P P vf vc vf' vc' _ HP8.out.rd HQ8.out.rd).mono ?_
        rintro e w9 ⟨rfl, hb9⟩
        rw [decide_eq_true rfl]
        have R9 := hd (R8.out.grow hb9)
        clear R8 HP8 HQ8 hb9 h8 h9 hone hone6
        by_cases hE : E = 0
        · have hEb : (E != 0) = false := by simpa using hE
          have hdc : decide (E ≠ 0) = false := by simp [hE]
          rw [hdc] at R9
          clear hdc
          cases ok
          · cases d'
            · go_wp2_with fail
              go_roundw
              case rel => exact ⟨q + 1, n', false, s5, rfl, rfl, by congr 1, by omega, R9.out⟩
              case measure => simp [leftN]; omega
            · go_wp2_with fail
              go_roundw
              case rel => exact ⟨q + 1, n', true, s5, rfl, rfl, by congr 1, by omega, R9.out⟩
              case measure => simp [leftN]; omega
          · cases d'
            · go_wp2_with fail
              go_roundw
              case rel => exact ⟨q + 1, n' + 1, false, s5, by congr 1, rfl, by congr 1, by omega, R9.out⟩
              case measure => simp [leftN]; omega
            · go_wp2_with fail
              go_roundw
              case rel => exact ⟨q + 1, n' + 1, true, s5, by congr 1, rfl, by congr 1, by omega, R9.out⟩
              case measure => simp [leftN]; omega
        · have hEb : (E != 0) = true := by simpa using hE
          have hdc : decide (E ≠ 0) = true := by simp [hE]
          rw [hdc] at R9
          clear hdc
          cases ok
          · cases d'
            · go_wp2_with fail
              go_roundw
              case rel => exact ⟨q + 1, n', true, s5, rfl, rfl, by congr 1, by omega, R9.out⟩
              case measure => simp [leftN]; omega
            · go_wp2_with fail
              go_roundw
              case rel => exact ⟨q + 1, n', true, s5, rfl, rfl, by congr 1, by omega, R9.out⟩
              case measure => simp [leftN]; omega
          · cases d'
            · go_wp2_with fail
              go_roundw
              case rel => exact ⟨q + 1, n' + 1, true, s5, by congr 1, rfl, by congr 1, by omega, R9.out⟩
              case measure => simp [leftN]; omega
            · go_wp2_with fail
              go_roundw
              case rel => exact ⟨q + 1, n' + 1, true, s5, by congr 1, rfl, by congr 1, by omega, R9.out⟩
              case measure => simp [leftN]; omega
    · skip
      rw [if_pos rfl] at HR2
      go_wp2_with fail
      go_loopw [7, 8, 10] (fun nv dv j w' => ∃ (q n : Nat) (d : Bool) (s : Cn), nv = .int .i64 n ∧ dv = .bool d ∧ j = .int .i64 q ∧ q ≤ bN tk k % 4 ∧ RI w g c s A n d (k + 1) w') (fun _ _ j _ => leftN 3 j)
      case atStart => exact ⟨0, n, true, s2, rfl, rfl, rfl, by omega, HR2.out⟩
      case round =>
        obtain ⟨q, n', d', s', rfl, rfl, rfl, hq, R⟩ := hrel
        clear HR2
        have HQ := hd R
        have hcB1 := (bcell R.below _ _ hblb).trans hcB
        clear R
        by_cases hqq : q < bN tk k % 4
        rotate_left
        · have hqm : ¬ (q : Int) < (bN tk k : Int) % 4 := by omega
          go_wp2_with fail
          go_roundw
          case rel => exact ⟨k + 1, n', A, d', s', rfl, rfl, rfl, by congr 1, by omega, by omega, HQ.out⟩
          case measure => simp [leftN]; omega
        have hqm : (q : Int) < (bN tk k : Int) % 4 := by omega
        obtain ⟨ht1, ht2, ht3⟩ := HQ.out.cnt
        have hnx := fun W h1 h2 => cnNext_c g c s' W h1 h2 (by have := HQ.out.fl; omega) ⟨ht2, by omega⟩
        have hrn := fun (w2 : World) hc hb => HQ.out.next (w2 := w2) hc hb
        have hrf := fun W => refPacket38_c A n' W (by have := HQ.out.al; omega) (by omega)
        have heq : (cnNext s').1 = rfPacket (sB A) n' := HQ.out.ci.next.1
        rw [← heq] at hrf
        clear heq
        generalize cnNext s' = N at *
        obtain ⟨⟨P, ok, E⟩, s5⟩ := N
        simp only at hrf hrn
        have HNX := hd hnx; have HRN := hd hrn; have HRF := hd hrf
        clear hnx hrn hrf
        have hg := HQ.out.ge; have hgc := HQ.out.con.gc
        go_wp2_with fail
        refine (HNX.out _ HQ.out.con (HQ.out.env HF.out HE.out)).mono ?_
        clear HNX
        rintro e w3 ⟨vf, vc, rfl, hp3, hc3, hk3⟩
        simp only at hp3 hc3 ⊢
        have B3 : Below w.heap.size w w3 := HQ.out.below.trans (hk3.toBelow HQ.out.below.size (by intro k hk; simp at hk; omega))
        have R3 := hd (HRN.out w3 hc3 B3).2
        have hone := Pac.one P vf vc hp3.rd.f.oneCell hp3.rd.c.oneCell
        have HP3 := hd hp3
        clear hp3 hc3 HRN HQ hk3
        go_wp2_with (first
          | (with_reducible refine wpl_alloc (o := ⟨some 11, .alloc 36, _, _, _, _⟩) rfl _ rfl (zK 0) alloc_pac _ rfl ?_; intro w4 h4 f4 b4 z4)
          | ((with_reducible refine wpl_at (o := ⟨none, .store 36 (.tmp 11) (.tmp 72), _, _, _, _⟩) ?_); refine wpl_storeAll rfl rfl _ _ _ rfl w3.heap.size (P.cells vf vc) (zK 0) rfl rfl info_pac hone h4 rfl f4 ?_; intro w5 h5 f5 k5 z5; have b5 : Below w3.heap.size w3 w5 := b4.trans (k5.toBelow b4.size (by simp)); have R5 := hd (R3.out.grow b5); have HP5 := hd (HP3.out.kept b5 (Nat.le_refl _)); clear h4 f4 b4 z4 k5 f5 R3 HP3))
        refine (HRF.out _).mono ?_
        clear HRF
        rintro e w6 ⟨vf', vc', rfl, hp6, hb6⟩
        have hone6 := Pac.one P vf' vc' hp6.rd.f.oneCell hp6.rd.c.oneCell
        have h6 := h5.keep hb6 h5.lt
        have R6 := hd (R5.out.grow hb6)
        have HP6 := hd (HP5.out.kept hb6 (Nat.le_refl _)); have HQ6 := hd hp6
        have hz6 := hb6.size
        have hl5 := h5.lt
        clear h5 hp6 R5 HP5
        go_wp2_with (first
          | (with_reducible refine wpl_alloc (o := ⟨some 14, .alloc 36, _, _, _, _⟩) rfl _ rfl (zK 0) alloc_pac _ rfl ?_; intro w7 h7 f7 b7 z7)
          | ((with_reducible refine wpl_at (o := ⟨none, .store 36 (.tmp 14) (.tmp 79), _, _, _, _⟩) ?_); refine wpl_storeAll rfl rfl _ _ _ rfl w6.heap.size (P.cells vf' vc') (zK 0) rfl rfl info_pac hone6 h7 rfl f7 ?_; intro w8 h8 f8 k8 z8; have b8 : Below w6.heap.size w6 w8 := b7.trans (k8.toBelow b7.size (by simp)); have R8 := hd (R6.out.grow b8); have HP8 := hd (HP6.out.kept b8 (Nat.le_refl _)); have HQ8 := hd (HQ6.out.kept b8 (Nat.le_refl _)); have h9 := h6.keep b8 h6.lt; clear h7 f7 b7 z7 k8 f8 R6 HP6 HQ6 h6; skip)
          | ((with_reducible refine wpl_at (o := ⟨some 91, .load 36 (.tmp 11), _, _, _, _⟩) ?_); (refine wpl_loadAtG (by rfl) _ _ rfl w3.heap.size 0 rfl (P.cells vf vc) _ h9.range Tryz.underlying36 rfl info_pac ?_))
          | ((with_reducible refine wpl_at (o := ⟨some 92, .load 36 (.tmp 14), _, _, _, _⟩) ?_); (refine wpl_loadAtG (by rfl) _ _ rfl w6.heap.size 0 rfl (P.cells vf' vc') _ h8.range Tryz.underlying36 rfl info_pac ?_)))
        refine (refSame_c P P vf vc vf' vc' _ HP8.out.rd HQ8.out.rd).mono ?_
        rintro e w9 ⟨rfl, hb9⟩
        rw [decide_eq_true rfl]
        have R9 := hd (R8.out.grow hb9)
        clear R8 HP8 HQ8 hb9 h8 h9 hone hone6
        by_cases hE : E = 0
        · have hEb : (E != 0) = false := by simpa using hE
          have hdc : decide (E ≠ 0) = false := by simp [hE]
          rw [hdc] at R9
          clear hdc
          cases ok
          · cases d'
            · go_wp2_with fail
              go_roundw
              case rel => exact ⟨q + 1, n', false, s5, rfl, rfl, by congr 1, by omega, R9.out⟩
              case measure => simp [leftN]; omega
            · go_wp2_with fail
              go_roundw
              case rel => exact ⟨q + 1, n', true, s5, rfl, rfl, by congr 1, by omega, R9.out⟩
              case measure => simp [leftN]; omega
          · cases d'
            · go_wp2_with fail
              go_roundw
              case rel => exact ⟨q + 1, n' + 1, false, s5, by congr 1, rfl, by congr 1, by omega, R9.out⟩
              case measure => simp [leftN]; omega
            · go_wp2_with fail
              go_roundw
              case rel => exact ⟨q + 1, n' + 1, true, s5, by congr 1, rfl, by congr 1, by omega, R9.out⟩
              case measure => simp [leftN]; omega
        · have hEb : (E != 0) = true := by simpa using hE
          have hdc : decide (E ≠ 0) = true := by simp [hE]
          rw [hdc] at R9
          clear hdc
          cases ok
          · cases d'
            · go_wp2_with fail
              go_roundw
              case rel => exact ⟨q + 1, n', true, s5, rfl, rfl, by congr 1, by omega, R9.out⟩
              case measure => simp [leftN]; omega
            · go_wp2_with fail
              go_roundw
              case rel => exact ⟨q + 1, n', true, s5, rfl, rfl, by congr 1, by omega, R9.out⟩
              case measure => simp [leftN]; omega
          · cases d'
            · go_wp2_with fail
              go_roundw
              case rel => exact ⟨q + 1, n' + 1, true, s5, by congr 1, rfl, by congr 1, by omega, R9.out⟩
              case measure => simp [leftN]; omega
            · go_wp2_with fail
              go_roundw
              case rel => exact ⟨q + 1, n' + 1, true, s5, by congr 1, rfl, by congr 1, by omega, R9.out⟩
              case measure => simp [leftN]; omega
end Go.Proofs.YtjlnlgemngpelaaGreatDoor

/- The variables of the connection's laws, laid. -/
namespace Go.Proofs.YtjlnlgemngpelaaGreatDoor
open Go.RowKit
def layCn (h : Array Obj) : Array Obj := (layPk h).modify 1 layErr
end Go.Proofs.YtjlnlgemngpelaaGreatDoor
