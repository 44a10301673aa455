/- A bundle of texts (merged for the limit on files): PubPut, PubOfPlain, PubRef, PubOf. -/
import Derived.Test.YtclicjokgfiegaaDoorZa4
import Derived.WalkSpells
/- Messages: what lays one: the walks. -/
namespace Go.Proofs.YtclicjokgfiegaaDoor
open Go.RowKit
set_option linter.unusedVariables false

theorem uPutB_len {l : List UInt8} : (uPutB l).length ≤ 65537 := by
  unfold uPutB
  split
  · rename_i h
    have := uRight_len h
    rw [uPutRawB_len this]
    omega
  · simp
theorem pNumB_len (q id : Int) : (pNumB q id).length ≤ 2 := by
  unfold pNumB pIdB uPut2B
  repeat' split
  all_goals simp

theorem _root_.Go.RowKit.Below.box {w w0 : World} {o : Obj} (h : Below w.heap.size w w0) : Below w.heap.size w (w0.alloc o) := h.alloc h.size o

theorem pPut_nil {T X : List UInt8} {q id : Int} {w w' : World} (e : Int) (he : pPutE T X q id = e) (h0 : e ≠ 0) (hb : Below w.heap.size w w') :
    GivesB w (pPutB T X q id) (pPutE T X q id) (.returned (.tuple #[.slice none 0 0, .int .i64 e])) w' := by
  unfold pPutB
  rw [he, if_neg h0]
  exact GivesB.nil hb

theorem lay1_c {q : Int} (h : 0 < q) (id : Int) (W : World) : Calls Tryd.prog 125 #[.int .i64 id] W (GivesB W (pNumB q id) (pNumE q id)) := by
  unfold pNumB pNumE
  rw [if_pos h, if_pos h]
  exact PutId_c id W
theorem lay0_c {q : Int} (h : ¬ 0 < q) (id : Int) (W : World) : Calls Tryd.prog 191 #[.int .i64 id] W (GivesB W (pNumB q id) (pNumE q id)) := by
  unfold pNumB pNumE
  rw [if_neg h, if_neg h]
  exact number1_c id W

set_option maxRecDepth 100000 in
set_option maxHeartbeats 1000000 in
theorem pubPut_c (T X : ByteArray) (q : Int) (R : Bool) (id : Int) (w : World) (hE : EnvU w) (hT : T.size ≤ 140737488351232) (hX : X.size ≤ 140737488351232) :
    Calls Tryd.prog 124 #[.agg #[.string T, .string X, .int .i64 q, .bool R], .int .i64 id] w (GivesB w (pPutB (sB T) (sB X) q id) (pPutE (sB T) (sB X) q id)) := by
  have HE := hd hE; clear hE
  go_enter Tryd.func124, Tryd.ntmps124
  go_wp2_with fail
  refine (leveled_c q _).mono ?_
  by_cases hq : q < 0 ∨ 2 < q
  · rw [show (decide (0 ≤ q) && decide (q ≤ 2)) = false from by simp; omega]
    rintro e w' ⟨rfl, rfl⟩
    go_wp2_with fail
    go_ret2
    exact pPut_nil 10 (by rw [pPutE, if_pos hq]) (by decide) (by go_grown)
  rw [show (decide (0 ≤ q) && decide (q ≤ 2)) = true from by simp; omega]
  rintro e w' ⟨rfl, rfl⟩
  go_wp2_with fail
  refine (named_c T _ (by omega)).mono ?_
  by_cases hn : pName (sB T) = false
  · rw [hn]
    rintro e w1 ⟨rfl, hb1⟩
    go_wp2_with fail
    go_ret2
    exact pPut_nil 13 (by rw [pPutE, if_neg hq, if_pos hn]) (by decide) (Below.up (by go_grown) hb1)
  rw [show pName (sB T) = true from by simpa using hn]
  rintro e w1 ⟨rfl, hb1⟩
  have hc1 := bcell hb1
  have hl1 : w.heap.size < w1.heap.size := by have := hb1.size; simp at this; omega
  have hb : Below w.heap.size w w1 := Below.up (by go_grown) hb1
  go_wp2_with fail
  refine (Put_c T _ (HE.out.below hb) (by omega)).mono ?_
  rintro e w2 ⟨v2, rfl, ho2, hb2⟩
  have hc2 := bcell hb2
  have hz2 := hb2.size
  have hl2 : w.heap.size < w2.heap.size := by omega
  replace hb := Below.up hb hb2
  obtain ⟨a2, k2, rfl⟩ := Owns.slice ho2
  by_cases he : uPutE (sB T) = 0
  rotate_left
  · have heb : (uPutE (sB T) != 0) = true := by simpa using he
    go_wp2_with fail
    go_ret2
    exact pPut_nil _ (by rw [pPutE, if_neg hq, if_neg hn, if_pos he]) he hb
  rw [he]
  go_wp2_with fail
  refine (number_c q _).mono ?_
  have hB2 := @uPutB_len (sB T)
  have hB3 := pNumB_len q id
  by_cases h : 0 < q
  all_goals first
    | (rw [if_pos h]; rintro e w' ⟨rfl, rfl⟩; go_wp2_with fail; refine (lay1_c (q := q) (by omega) id _).mono ?_)
    | (rw [if_neg h]; rintro e w' ⟨rfl, rfl⟩; go_wp2_with fail; refine (lay0_c (q := q) (by omega) id _).mono ?_)
  all_goals
    rintro e w3 ⟨v3, rfl, ho3, hb3⟩
    have hc3 := bcell hb3
    have hz3 := hb3.size
    have hl3 : w.heap.size < w3.heap.size := by omega
    obtain ⟨a3, k3, rfl⟩ := Owns.slice ho3
    by_cases hnE : pNumE q id = 0
    rotate_left
    · have heb : (pNumE q id != 0) = true := by simpa using hnE
      go_wp2_with fail
      go_ret2
      exact pPut_nil _ (by rw [pPutE, if_neg hq, if_neg hn, if_neg (by omega), if_pos hnE]) hnE (Below.up hb hb3)
    rw [hnE]
    have ho2' := Owned.kept ho2 hb3 (Nat.le_refl _)
    have hs3 := ho3.bs
    replace hb := Below.up hb hb3
    clear h ho3 hb3
    by_cases hlen : (4096 : Int) - ((uPutB (sB T)).length + (pNumB q id).length) < X.size
    · have hspec : pPutE (sB T) (sB X) q id = 3 := by rw [pPutE, if_neg hq, if_neg hn, if_neg (by omega), if_neg (by omega), sB_len, if_pos hlen]
      have Hs := hd hspec; clear hspec
      generalize uPutB (sB T) = B2 at *
      generalize pNumB q id = B3 at *
      go_wp2_with (at_builtin; refine wp_appB rfl _ _ rfl w1.heap.size _ B2 rfl ho2' _ B3 rfl hs3 (by omega) (by omega) ?_; intro v4 w4 ho4 hb4; obtain ⟨a4, k4, rfl⟩ := Owns.slice ho4; rw [List.length_append] at ho4; have hc4 := bcell hb4; have hz4 := hb4.size; have hl4 : w.heap.size < w4.heap.size := (by omega))
      go_ret2
      exact pPut_nil 3 Hs.out (by decide) (hb.trans (hb4.mono (by omega)))
    have hspec : pPutE (sB T) (sB X) q id = 0 := by rw [pPutE, if_neg hq, if_neg hn, if_neg (by omega), if_neg (by omega), sB_len, if_neg hlen]
    have hspecB : pPutB (sB T) (sB X) q id = uPutB (sB T) ++ pNumB q id ++ sB X := by rw [pPutB, if_pos hspec]
    have Hs := hd hspec; have HsB := hd hspecB; clear hspec hspecB
    generalize uPutB (sB T) = B2 at *
    generalize pNumB q id = B3 at *
    go_wp2_with (first
      | (at_builtin; refine wp_appB rfl _ _ rfl w1.heap.size _ B2 rfl ho2' _ B3 rfl hs3 (by omega) (by omega) ?_; intro v4 w4 ho4 hb4; obtain ⟨a4, k4, rfl⟩ := Owns.slice ho4; rw [List.length_append] at ho4; have hc4 := bcell hb4; have hz4 := hb4.size; have hl4 : w.heap.size < w4.heap.size := (by omega); clear ho2')
      | (at_builtin; refine wp_appS rfl _ _ rfl w1.heap.size _ (B2 ++ B3) rfl ho4 X rfl (by rw [List.length_append]; omega) (by omega) ?_; intro v5 w5 ho5 hb5))
    go_ret2
    rw [Hs.out, HsB.out]
    exact ⟨_, rfl, Owned.le ho5 (Nat.le_of_lt hl1), hb.trans ((hb4.trans hb5).mono (Nat.le_of_lt hl1))⟩
end Go.Proofs.YtclicjokgfiegaaDoor

/- Messages: plain laws: what bytes tell, there and back. No program. -/
namespace Go.Proofs.YtclicjokgfiegaaDoor
open Go.RowKit
set_option linter.unusedVariables false

/-- what bytes tell: topic, text, number, error -/
def pOf (l : List UInt8) (q : Int) : List UInt8 × List UInt8 × Int × Int :=
  if q < 0 ∨ 2 < q then ([], [], 0, 10)
  else if (uGet l 0).2.2 ≠ 0 then ([], [], 0, (uGet l 0).2.2)
  else if pName (uGet l 0).1 = false then ([], [], 0, 13)
  else if q = 0 then ((uGet l 0).1, l.drop (uGet l 0).2.1.toNat, 0, 0)
  else if (uGet2 l (uGet l 0).2.1).2.2 ≠ 0 then ([], [], 0, (uGet2 l (uGet l 0).2.1).2.2)
  else if (uGet2 l (uGet l 0).2.1).1 = 0 then ([], [], 0, 1)
  else ((uGet l 0).1, l.drop (uGet2 l (uGet l 0).2.1).2.1.toNat, (uGet2 l (uGet l 0).2.1).1, 0)
/-- the QoS that is told -/
def pOfQ (l : List UInt8) (q : Int) : Int := if (pOf l q).2.2.2 = 0 then q else 0

/-- a number of bytes -/
def pOfId (l : List UInt8) : Int × Int :=
  if l.length ≠ 2 then (0, 4) else if (uGet2 l 0).1 = 0 then (0, 1) else ((uGet2 l 0).1, 0)

theorem uGet2_two {l : List UInt8} (h : l.length = 2) : (uGet2 l 0).2.2 = 0 ∧ 0 ≤ (uGet2 l 0).1 ∧ (uGet2 l 0).1 ≤ 65535 := by
  have h0 : (uGet2 l 0).2.2 = 0 := by unfold uGet2; rw [if_neg (by omega), if_neg (by omega)]
  exact ⟨h0, (uGet2_ok h0).2.2.2.1, (uGet2_ok h0).2.2.2.2⟩

theorem uGet_rng {l : List UInt8} {k : Int} (h : (uGet l k).2.2 = 0) : k + 2 ≤ (uGet l k).2.1 ∧ (uGet l k).2.1 ≤ l.length ∧ 0 ≤ k := by
  unfold uGet at h ⊢
  by_cases h1 : (uGetRaw l k).2.2 = 0
  · rw [if_neg (by omega)] at h ⊢
    by_cases h2 : uRight (uGetRaw l k).1 = false
    · rw [if_pos h2] at h; simp at h
    · rw [if_neg h2]
      unfold uGetRaw at h1 ⊢
      by_cases h3 : (uGet2 l k).2.2 = 0
      · rw [if_neg (by omega)] at h1 ⊢
        have := uGet2_ok h3
        by_cases h4 : (l.length : Int) - (uGet2 l k).2.1 < (uGet2 l k).1
        · rw [if_pos h4] at h1; simp at h1
        · rw [if_neg h4]; simp only; omega
      · rw [if_pos (by omega)] at h1; simp only at h1; omega
  · rw [if_pos (by omega)] at h; simp only at h; omega

theorem uPutE_zero {T : List UInt8} (h : uPutE T = 0) : uRight T = true := by
  unfold uPutE at h
  split at h
  · simp at h
  · split at h
    · assumption
    · simp at h

theorem pPut_back {T X : List UInt8} {q id : Int} (h : pPutE T X q id = 0) : pOf (pPutB T X q id) q = (T, X, id, 0) := by
  have hB : pPutB T X q id = uPutB T ++ pNumB q id ++ X := by rw [pPutB, if_pos h]
  rw [hB]
  unfold pPutE at h
  by_cases c1 : q < 0 ∨ 2 < q
  · rw [if_pos c1] at h; simp at h
  rw [if_neg c1] at h
  by_cases c2 : pName T = false
  · rw [if_pos c2] at h; simp at h
  rw [if_neg c2] at h
  by_cases c3 : uPutE T = 0
  rotate_left
  · rw [if_pos c3] at h; exact absurd h c3
  rw [if_neg (by omega)] at h
  by_cases c4 : pNumE q id = 0
  rotate_left
  · rw [if_pos c4] at h; exact absurd h c4
  have hr := uPutE_zero c3
  have hl := uRight_len hr
  have hg : uGet (uPutB T ++ pNumB q id ++ X) 0 = (T, (2 : Int) + T.length, (0 : Int)) := by
    have := uGet_at [] T (pNumB q id ++ X) hl
    rw [if_pos hr] at this
    rw [uPutB, if_pos hr, List.append_assoc]
    simpa using this
  have hlen : (uPutB T).length = T.length + 2 := by rw [uPutB, if_pos hr, uPutRawB_len hl]
  unfold pOf
  rw [if_neg c1, hg, if_neg (by simp), if_neg c2]
  simp only
  by_cases c5 : q = 0
  · rw [if_pos c5]
    unfold pNumE at c4
    rw [if_neg (by omega)] at c4
    have hid : id = 0 := by
      by_cases c : id = 0
      · exact c
      · rw [if_pos c] at c4; simp at c4
    have hn : pNumB q id = [] := by rw [pNumB, if_neg (by omega)]
    rw [hn, List.append_nil, hid]
    have e : ((2 : Int) + T.length).toNat = (uPutB T).length := by rw [hlen]; omega
    rw [e, List.drop_left]
  · rw [if_neg c5]
    unfold pNumE at c4
    rw [if_pos (by omega)] at c4
    unfold pIdE at c4
    have hid : 1 ≤ id ∧ id ≤ 65535 := by
      by_cases c : 1 ≤ id ∧ id ≤ 65535
      · exact c
      · rw [if_neg c] at c4; simp at c4
    have hn : pNumB q id = [B8 (id.toNat / 256), B8 (id.toNat % 256)] := by
      have e0 : ((id.toNat : Nat) : Int) = id := by omega
      have := uPut2B_ok (n := id.toNat) (by omega)
      rw [e0] at this
      rw [pNumB, if_pos (by omega), pIdB, if_pos hid, this]
    have hg2 : uGet2 (uPutB T ++ pNumB q id ++ X) (2 + T.length) = (id, (2 : Int) + T.length + 2, (0 : Int)) := by
      have := uGet2_at (uPutB T) X id.toNat (by omega)
      rw [hn, List.append_assoc]
      have e : ((2 : Int) + T.length) = ((uPutB T).length : Int) := by rw [hlen]; omega
      rw [e]
      rw [List.cons_append, List.cons_append, List.nil_append, this]
      congr 1
      omega
    rw [hg2, if_neg (by simp), if_neg (by simp only; omega)]
    have e : ((2 : Int) + T.length + 2).toNat = (uPutB T ++ pNumB q id).length := by rw [List.length_append, hlen, hn]; simp; omega
    simp only
    rw [e, List.drop_left]

theorem pId_back {id : Int} (h : pIdE id = 0) : pOfId (pIdB id) = (id, 0) := by
  unfold pIdE at h
  have hid : 1 ≤ id ∧ id ≤ 65535 := by
    by_cases c : 1 ≤ id ∧ id ≤ 65535
    · exact c
    · rw [if_neg c] at h; simp at h
  have e0 : ((id.toNat : Nat) : Int) = id := by omega
  have hn : pIdB id = [B8 (id.toNat / 256), B8 (id.toNat % 256)] := by
    have := uPut2B_ok (n := id.toNat) (by omega)
    rw [e0] at this
    rw [pIdB, if_pos hid, this]
  have hg := uGet2_at [] [] id.toNat (by omega)
  rw [List.nil_append] at hg
  unfold pOfId
  rw [hn, if_neg (by simp), show uGet2 [B8 (id.toNat / 256), B8 (id.toNat % 256)] 0 = _ from hg]
  rw [if_neg (by simp only; omega)]
  simp only [e0]
theorem pId_not {id : Int} (h : pIdE id ≠ 0) : pIdE id = 1 ∧ pOfId (pIdB id) = (0, 4) := by
  unfold pIdE at h ⊢
  by_cases c : 1 ≤ id ∧ id ≤ 65535
  · rw [if_pos c] at h; simp at h
  · rw [if_neg c, pIdB, if_neg c]
    exact ⟨rfl, by rw [pOfId, if_pos (by simp)]⟩
end Go.Proofs.YtclicjokgfiegaaDoor

/- Messages: the reference's walks; what bytes tell; the numbers. -/
namespace Go.Proofs.YtclicjokgfiegaaDoor
open Go.RowKit
set_option linter.unusedVariables false

set_option maxRecDepth 100000 in
set_option maxHeartbeats 1000000 in
theorem refPubPut_c (T X : ByteArray) (q : Int) (R : Bool) (id : Int) (w : World) (hT : T.size ≤ 140737488351232) (hX : X.size ≤ 140737488351232) :
    Calls Tryd.prog 79 #[.agg #[.string T, .string X, .int .i64 q, .bool R], .int .i64 id] w (GivesB w (pPutB (sB T) (sB X) q id) (pPutE (sB T) (sB X) q id)) := by
  by_cases hq : q < 0 ∨ 2 < q
  · have hs : pPutE (sB T) (sB X) q id = 10 := by rw [pPutE, if_pos hq]
    rcases hq with hq | hq
    all_goals
      go_enter Tryd.func79, Tryd.ntmps79
      go_wp2_with fail
      go_ret2
      exact pPut_nil 10 hs (by decide) (by go_grown)
  have hq1 : 0 ≤ q := by omega
  have hq2 : q ≤ 2 := by omega
  go_enter Tryd.func79, Tryd.ntmps79
  go_wp2_with fail
  refine (refNamed_c T _ (by omega)).mono ?_
  by_cases hn : pName (sB T) = false
  · rw [hn]
    rintro e w1 ⟨rfl, hb1⟩
    go_wp2_with fail
    go_ret2
    exact pPut_nil 13 (by rw [pPutE, if_neg hq, if_pos hn]) (by decide) (Below.up (by go_grown) hb1)
  rw [show pName (sB T) = true from by simpa using hn]
  rintro e w1 ⟨rfl, hb1⟩
  have hc1 := bcell hb1
  have hl1 : w.heap.size < w1.heap.size := by have := hb1.size; simp at this; omega
  have hb : Below w.heap.size w w1 := Below.up (by go_grown) hb1
  go_wp2_with fail
  refine (refPut_c T _ (by omega)).mono ?_
  rintro e w2 ⟨v2, rfl, ho2, hb2⟩
  have hc2 := bcell hb2
  have hz2 := hb2.size
  have hl2 : w.heap.size < w2.heap.size := by omega
  replace hb := Below.up hb hb2
  obtain ⟨a2, k2, rfl⟩ := Owns.slice ho2
  by_cases he : uPutE (sB T) = 0
  rotate_left
  · have heb : (uPutE (sB T) != 0) = true := by simpa using he
    go_wp2_with fail
    go_ret2
    exact pPut_nil _ (by rw [pPutE, if_neg hq, if_neg hn, if_pos he]) he hb
  rw [he]
  have hB2 := @uPutB_len (sB T)
  have hB3 := pNumB_len q id
  by_cases h : q = 0
  · subst h
    have hN : pNumB 0 id = [] := by rw [pNumB, if_neg (by omega)]
    by_cases hid : id = 0
    rotate_left
    · have hidb : (id != 0) = true := by simpa using hid
      go_wp2_with fail
      go_ret2
      have hNE : pNumE 0 id = 1 := by rw [pNumE, if_neg (by omega), if_pos hid]
      exact pPut_nil 1 (by rw [pPutE, if_neg hq, if_neg hn, if_neg (by omega), hNE, if_pos (by decide)]) (by decide) hb
    subst hid
    have hNE : pNumE 0 0 = 0 := by decide
    by_cases hlen : (4096 : Int) - (uPutB (sB T)).length < X.size
    · have hspec : pPutE (sB T) (sB X) 0 0 = 3 := by rw [pPutE, if_neg hq, if_neg hn, if_neg (by omega), if_neg (by omega), sB_len, hN, if_pos (by simpa using hlen)]
      have Hs := hd hspec; clear hspec hN hNE
      generalize uPutB (sB T) = B2 at *
      go_wp2_with fail
      go_ret2
      exact pPut_nil 3 Hs.out (by decide) hb
    have hspec : pPutE (sB T) (sB X) 0 0 = 0 := by rw [pPutE, if_neg hq, if_neg hn, if_neg (by omega), if_neg (by omega), sB_len, hN, if_neg (by simpa using hlen)]
    have hspecB : pPutB (sB T) (sB X) 0 0 = uPutB (sB T) ++ sB X := by rw [pPutB, if_pos hspec, hN, List.append_nil]
    have Hs := hd hspec; have HsB := hd hspecB; clear hspec hspecB hN hNE
    generalize uPutB (sB T) = B2 at *
    go_wp2_with (at_builtin; refine wp_appS rfl _ _ rfl w1.heap.size _ B2 rfl ho2 X rfl (by omega) (by omega) ?_; intro v5 w5 ho5 hb5)
    go_ret2
    rw [Hs.out, HsB.out]
    exact ⟨_, rfl, Owned.le ho5 (Nat.le_of_lt hl1), hb.trans (hb5.mono (Nat.le_of_lt hl1))⟩
  have hN : pNumB q id = pIdB id := by rw [pNumB, if_pos (by omega)]
  have hNE : pNumE q id = pIdE id := by rw [pNumE, if_pos (by omega)]
  rw [hN] at hB3
  have HN := hd hN; have HNE := hd hNE; clear hN hNE
  have hqz : (q == 0) = false := by simpa using h
  have hq0 : 0 < q := by omega
  go_wp2_with fail
  refine (refPutId_c id _).mono ?_
  rintro e w3 ⟨v3, rfl, ho3, hb3⟩
  have hc3 := bcell hb3
  have hz3 := hb3.size
  have hl3 : w.heap.size < w3.heap.size := by omega
  obtain ⟨a3, k3, rfl⟩ := Owns.slice ho3
  by_cases hnE : pIdE id = 0
  rotate_left
  · have heb : (pIdE id != 0) = true := by simpa using hnE
    go_wp2_with fail
    go_ret2
    exact pPut_nil _ (by rw [pPutE, if_neg hq, if_neg hn, if_neg (by omega), HNE.out, if_pos hnE]) hnE (Below.up hb hb3)
  rw [hnE]
  have ho2' := Owned.kept ho2 hb3 (Nat.le_refl _)
  have hs3 := ho3.bs
  replace hb := Below.up hb hb3
  clear ho3 hb3
  by_cases hlen : (4096 : Int) - ((uPutB (sB T)).length + (pIdB id).length) < X.size
  · have hspec : pPutE (sB T) (sB X) q id = 3 := by rw [pPutE, if_neg hq, if_neg hn, if_neg (by omega), HNE.out, if_neg (by omega), HN.out, sB_len, if_pos hlen]
    have Hs := hd hspec; clear hspec
    generalize uPutB (sB T) = B2 at *
    generalize pIdB id = B3 at *
    go_wp2_with (at_builtin; refine wp_appB rfl _ _ rfl w1.heap.size _ B2 rfl ho2' _ B3 rfl hs3 (by omega) (by omega) ?_; intro v4 w4 ho4 hb4; obtain ⟨a4, k4, rfl⟩ := Owns.slice ho4; rw [List.length_append] at ho4; have hc4 := bcell hb4; have hz4 := hb4.size; have hl4 : w.heap.size < w4.heap.size := (by omega))
    go_ret2
    exact pPut_nil 3 Hs.out (by decide) (hb.trans (hb4.mono (by omega)))
  have hspec : pPutE (sB T) (sB X) q id = 0 := by rw [pPutE, if_neg hq, if_neg hn, if_neg (by omega), HNE.out, if_neg (by omega), HN.out, sB_len, if_neg hlen]
  have hspecB : pPutB (sB T) (sB X) q id = uPutB (sB T) ++ pIdB id ++ sB X := by rw [pPutB, if_pos hspec, HN.out]
  have Hs := hd hspec; have HsB := hd hspecB; clear hspec hspecB
  generalize uPutB (sB T) = B2 at *
  generalize pIdB id = B3 at *
  go_wp2_with (first
    | (at_builtin; refine wp_appB rfl _ _ rfl w1.heap.size _ B2 rfl ho2' _ B3 rfl hs3 (by omega) (by omega) ?_; intro v4 w4 ho4 hb4; obtain ⟨a4, k4, rfl⟩ := Owns.slice ho4; rw [List.length_append] at ho4; have hc4 := bcell hb4; have hz4 := hb4.size; have hl4 : w.heap.size < w4.heap.size := (by omega); clear ho2')
    | (at_builtin; refine wp_appS rfl _ _ rfl w1.heap.size _ (B2 ++ B3) rfl ho4 X rfl (by rw [List.length_append]; omega) (by omega) ?_; intro v5 w5 ho5 hb5))
  go_ret2
  rw [Hs.out, HsB.out]
  exact ⟨_, rfl, Owned.le ho5 (Nat.le_of_lt hl1), hb.trans ((hb4.trans hb5).mono (Nat.le_of_lt hl1))⟩

end Go.Proofs.YtclicjokgfiegaaDoor

/- Messages: what bytes tell: the walks. -/
namespace Go.Proofs.YtclicjokgfiegaaDoor
open Go.RowKit
set_option linter.unusedVariables false
set_option linter.unusedSimpArgs false

set_option maxRecDepth 100000 in
/-- []byte(s), where the walk stands at it. -/
theorem upon_bytes {o : Oper} {a : Act} {K : Act → World → Prop} {Q : Exit → Act → World → Prop} {W : World} {s : ByteArray} {f : Value → World → Result Next} (hs : s.size ≤ 140737488355327)
    (h : ∀ ad c W', Bs W' (.slice ad (sB s).length c) (sB s) → Below W.heap.size W W' → Oper.upon Tryd.prog o a K Q ((Result.ok (.slice ad (sB s).length c) W').andThen f)) :
    Oper.upon Tryd.prog o a K Q ((Sem.run Tryd.prog (convert 9 30 (.string s)) W).andThen f) := by
  obtain ⟨c, W', hr, hB, hb⟩ := run_bytes s hs W
  rw [hr]
  exact h _ c W' hB hb

/-- The message that bytes tell. -/
def GivesM (w : World) (l : List UInt8) (q : Int) (e : Ending) (w' : World) : Prop :=
  e = .returned (.tuple #[.agg #[.string (sOf (pOf l q).1), .string (sOf (pOf l q).2.1), .int .i64 (pOfQ l q), .bool false], .int .i64 (pOf l q).2.2.1, .int .i64 (pOf l q).2.2.2]) ∧ Below w.heap.size w w'
theorem GivesM.nil {w w' : World} {l : List UInt8} {q : Int} (e : Int) (h : pOf l q = ([], [], 0, e)) (h0 : e ≠ 0) (hb : Below w.heap.size w w') :
    GivesM w l q (.returned (.tuple #[.agg #[.string ⟨#[]⟩, .string ⟨#[]⟩, .int .i64 0, .bool false], .int .i64 0, .int .i64 e])) w' := by
  unfold GivesM pOfQ
  rw [h]
  simp only
  rw [if_neg h0]
  exact ⟨rfl, hb⟩

theorem uGet_len (l : List UInt8) (k : Int) : (uGet l k).1.length ≤ 65535 := by
  unfold uGet
  have := uGetRaw_len l k
  repeat' split
  all_goals (first | exact this | simp)

theorem extract_drop (b : ByteArray) (n : Nat) : b.extract n b.size = sOf ((sB b).drop n) := by
  apply ByteArray.ext
  rw [ByteArray.data_extract]
  show b.data.extract n b.size = ((b.data.toList).drop n).toArray
  apply Array.toList_inj.1
  rw [Array.toList_extract]
  show ((b.data.toList).drop n).take (b.size - n) = (b.data.toList).drop n
  have : b.data.toList.length = b.size := Array.length_toList
  exact List.take_of_length_le (by rw [List.length_drop]; omega)

set_option maxRecDepth 100000 in
set_option maxHeartbeats 1000000 in
theorem pubOf_c (b : ByteArray) (q : Int) (w : World) (hE : EnvU w) (hs : b.size ≤ 140737488351232) :
    Calls Tryd.prog 150 #[.string b, .int .i64 q] w (GivesM w (sB b) q) := by
  have HE := hd hE; clear hE
  go_enter Tryd.func150, Tryd.ntmps150
  go_wp2_with fail
  refine (leveled_c q _).mono ?_
  by_cases hq : q < 0 ∨ 2 < q
  · rw [show (decide (0 ≤ q) && decide (q ≤ 2)) = false from by simp; omega]
    rintro e w' ⟨rfl, rfl⟩
    go_wp2_with fail
    exact bodyPost_ret (v := .tuple #[.agg #[.string ⟨#[]⟩, .string ⟨#[]⟩, .int .i64 0, .bool false], .int .i64 0, .int .i64 10]) (by simp [results, Tryd.results150, go_sem]) rfl (GivesM.nil 10 (by rw [pOf, if_pos hq]) (by decide) (by go_grown))
  rw [show (decide (0 ≤ q) && decide (q ≤ 2)) = true from by simp; omega]
  rintro e w' ⟨rfl, rfl⟩
  go_wp2_with fail
  refine upon_bytes (by omega) fun d1 k1 w1 hs1 hb1 => ?_
  have hc1 := bcell hb1
  have hf1 := bfree hb1
  have hl1 : w.heap.size < w1.heap.size := by have := hb1.size; simp at this; omega
  have hb : Below w.heap.size w w1 := Below.up (by go_grown) hb1
  go_wp2_with fail
  refine (Get_c _ (sB b) 0 _ (HE.out.below hb) hs1).mono ?_
  rintro e w2 ⟨rfl, hb2⟩
  have hc2 := bcell hb2
  have hf2 := bfree hb2
  have hl2 : w.heap.size < w2.heap.size := by have := hb2.size; omega
  replace hb := Below.up hb hb2
  have hg := @uGet_rng (sB b) 0
  have hgl := uGet_len (sB b) 0
  have hof : pOf (sB b) q = pOf (sB b) q := rfl
  conv at hof => rhs; rw [pOf, if_neg hq]
  generalize uGet (sB b) 0 = g at hg hgl hof ⊢
  obtain ⟨T, k, e⟩ := g
  simp only at hg hgl hof ⊢
  have Hof := hd hof; clear hof
  by_cases he : e = 0
  rotate_left
  · have heb : (e != 0) = true := by simpa using he
    go_wp2_with fail
    exact bodyPost_ret (v := .tuple #[.agg #[.string ⟨#[]⟩, .string ⟨#[]⟩, .int .i64 0, .bool false], .int .i64 0, .int .i64 e]) (by simp [results, Tryd.results150, go_sem, hc1, hc2, hl1, hl2]) rfl (GivesM.nil e (by rw [Hof.out, if_pos he]) he (by go_grown))
  subst he
  have hrg := hg rfl; clear hg
  have hbl := sB_len b
  have hk0 : 0 ≤ k := by omega
  have hk1 : k ≤ (b.size : Int) := by omega
  clear hbl
  go_wp2_with fail
  refine (named_c (sOf T) _ (by rw [sOf_size]; omega)).mono ?_
  rw [sB_sOf]
  have hl1' := hl1
  by_cases hn : pName T = false
  · rw [hn]
    rintro e w3 ⟨rfl, hb3⟩
    have hc3 := bcell hb3
    have hf3 := bfree hb3
    have hl3 : w.heap.size < w3.heap.size := by have := hb3.size; omega
    go_wp2_with fail
    exact bodyPost_ret (v := .tuple #[.agg #[.string ⟨#[]⟩, .string ⟨#[]⟩, .int .i64 0, .bool false], .int .i64 0, .int .i64 13]) (by simp [results, Tryd.results150, go_sem, hc1, hc2, hc3, hl1, hl2, hl3]) rfl (GivesM.nil 13 (by rw [Hof.out, if_neg (by decide), if_pos hn]) (by decide) (by have := Below.up hb hb3; go_grown))
  rw [show pName T = true from by simpa using hn]
  rintro e w3 ⟨rfl, hb3⟩
  have hc3 := bcell hb3
  have hf3 := bfree hb3
  have hl3 : w.heap.size < w3.heap.size := by have := hb3.size; omega
  have hs3 := hs1.below' (hb2.trans (hb3.mono hb2.size)) (Nat.le_refl _)
  replace hb := Below.up hb hb3
  clear hs1 hb1 hb2
  by_cases h : q = 0
  · subst h
    go_wp2_with fail
    refine bodyPost_ret (v := .tuple #[.agg #[.string (sOf T), .string (b.extract k.toNat b.size), .int .i64 0, .bool false], .int .i64 0, .int .i64 0]) (by simp [results, Tryd.results150, go_sem, hc1, hc2, hc3, hl1, hl2, hl3]) rfl ?_
    have hr : pOf (sB b) 0 = (T, (sB b).drop k.toNat, 0, 0) := by rw [Hof.out, if_neg (by decide), if_neg hn, if_pos trivial]
    unfold GivesM pOfQ
    rw [hr]
    exact ⟨by rw [extract_drop]; rfl, by go_grown⟩
  have hqz : (0 : Int) < q := by omega
  go_wp2_with fail
  refine upon_bytes (by omega) fun d4 k4 w4 hs4 hb4 => ?_
  have hc4 := bcell hb4
  have hf4 := bfree hb4
  have hl4 : w.heap.size < w4.heap.size := by have := hb4.size; omega
  replace hb := Below.up hb hb4
  go_wp2_with fail
  refine (Get2_c _ (sB b) k _ hs4).mono ?_
  rintro e w5 ⟨rfl, hb5⟩
  have hc5 := bcell hb5
  have hf5 := bfree hb5
  have hl5 : w.heap.size < w5.heap.size := by have := hb5.size; omega
  replace hb := Below.up hb hb5
  have hof := Hof.out; clear Hof
  rw [if_neg (by decide), if_neg hn, if_neg h] at hof
  have hg2 := @uGet2_ok (sB b) k
  generalize uGet2 (sB b) k = g at hof hg2 ⊢
  obtain ⟨id, k2, e⟩ := g
  simp only at hof hg2 ⊢
  have Hof := hd hof; clear hof
  by_cases he : e = 0
  rotate_left
  · have heb : (e != 0) = true := by simpa using he
    go_wp2_with fail
    exact bodyPost_ret (v := .tuple #[.agg #[.string ⟨#[]⟩, .string ⟨#[]⟩, .int .i64 0, .bool false], .int .i64 0, .int .i64 e]) (by simp [results, Tryd.results150, go_sem, hc1, hc2, hc3, hc4, hc5, hl1, hl2, hl3, hl4]) rfl (GivesM.nil e (by rw [Hof.out, if_pos he]) he (by go_grown))
  subst he
  obtain ⟨g1, g2, rfl, g4, g5⟩ := hg2 rfl
  clear hg2
  go_wp2_with fail
  refine (numbered_c id _).mono ?_
  by_cases hid : id = 0
  · rw [show (decide (1 ≤ id) && decide (id ≤ 65535)) = false from by rw [hid]; decide]
    rintro e w' ⟨rfl, rfl⟩
    go_wp2_with fail
    exact bodyPost_ret (v := .tuple #[.agg #[.string ⟨#[]⟩, .string ⟨#[]⟩, .int .i64 0, .bool false], .int .i64 0, .int .i64 1]) (by simp [results, Tryd.results150, go_sem, hc1, hc2, hc3, hc4, hc5, hl1, hl2, hl3, hl4]) rfl (GivesM.nil 1 (by rw [Hof.out, if_neg (by decide), if_pos hid]) (by decide) (by go_grown))
  rw [show (decide (1 ≤ id) && decide (id ≤ 65535)) = true from by simp; omega]
  rintro e w' ⟨rfl, rfl⟩
  have hk20 : 0 ≤ k + 2 := by omega
  have hk21 : k + 2 ≤ (b.size : Int) := by have := sB_len b; omega
  go_wp2_with fail
  refine bodyPost_ret (v := .tuple #[.agg #[.string (sOf T), .string (b.extract (k + 2).toNat b.size), .int .i64 q, .bool false], .int .i64 id, .int .i64 0]) (by simp [results, Tryd.results150, go_sem, hc1, hc2, hc3, hc4, hc5, hl1, hl2, hl3, hl4]) rfl ?_
  have hr : pOf (sB b) q = (T, (sB b).drop (k + 2).toNat, id, 0) := by rw [Hof.out, if_neg (by decide), if_neg hid]
  unfold GivesM pOfQ
  rw [hr]
  exact ⟨by rw [extract_drop]; rfl, by go_grown⟩
end Go.Proofs.YtclicjokgfiegaaDoor
