/- Messages: plain laws: what bytes tell, there and back. No program. -/
import Derived.Test.YtgafhnomkeiakaaDoorPubPlain
namespace Go.Proofs.YtgafhnomkeiakaaDoor
open Go.RowKit
set_option linter.unusedVariables false

/-- what bytes tell: topic, text, number, error -/
def pOf (l : List UInt8) (q : Int) : List UInt8 × List UInt8 × Int × Int :=
  if q < 0 ∨ 2 < q then ([], [], 0, 10)
  else if (uGet l 0).2.2 ≠ 0 then ([], [], 0, (uGet l 0).2.2)
  else if pName (uGet l 0).1 = false then ([], [], 0, 13)
  else if q = 0 then ((uGet l 0).1, l.drop (uGet l 0).2.1.toNat, 0, 0)
  else if (uGet2 l (uGet l 0).2.1).2.2 ≠ 0 then ([], [], 0, (uGet2 l (uGet l 0).2.1).2.2)
  else if (uGet2 l (uGet l 0).2.1).1 = 0 then ([], [], 0, 1)
  else ((uGet l 0).1, l.drop (uGet2 l (uGet l 0).2.1).2.1.toNat, (uGet2 l (uGet l 0).2.1).1, 0)
/-- the QoS that is told -/
def pOfQ (l : List UInt8) (q : Int) : Int := if (pOf l q).2.2.2 = 0 then q else 0

/-- a number of bytes -/
def pOfId (l : List UInt8) : Int × Int :=
  if l.length ≠ 2 then (0, 4) else if (uGet2 l 0).1 = 0 then (0, 1) else ((uGet2 l 0).1, 0)

theorem uGet2_two {l : List UInt8} (h : l.length = 2) : (uGet2 l 0).2.2 = 0 ∧ 0 ≤ (uGet2 l 0).1 ∧ (uGet2 l 0).1 ≤ 65535 := by
  have h0 : (uGet2 l 0).2.2 = 0 := by unfold uGet2; rw [if_neg (by omega), if_neg (by omega)]
  exact ⟨h0, (uGet2_ok h0).2.2.2.1, (uGet2_ok h0).2.2.2.2⟩

theorem uGet_rng {l : List UInt8} {k : Int} (h : (uGet l k).2.2 = 0) : k + 2 ≤ (uGet l k).2.1 ∧ (uGet l k).2.1 ≤ l.length ∧ 0 ≤ k := by
  unfold uGet at h ⊢
  by_cases h1 : (uGetRaw l k).2.2 = 0
  · rw [if_neg (by omega)] at h ⊢
    by_cases h2 : uRight (uGetRaw l k).1 = false
    · rw [if_pos h2] at h; simp at h
    · rw [if_neg h2]
      unfold uGetRaw at h1 ⊢
      by_cases h3 : (uGet2 l k).2.2 = 0
      · rw [if_neg (by omega)] at h1 ⊢
        have := uGet2_ok h3
        by_cases h4 : (l.length : Int) - (uGet2 l k).2.1 < (uGet2 l k).1
        · rw [if_pos h4] at h1; simp at h1
        · rw [if_neg h4]; simp only; omega
      · rw [if_pos (by omega)] at h1; simp only at h1; omega
  · rw [if_pos (by omega)] at h; simp only at h; omega

theorem uPutE_zero {T : List UInt8} (h : uPutE T = 0) : uRight T = true := by
  unfold uPutE at h
  split at h
  · simp at h
  · split at h
    · assumption
    · simp at h

theorem pPut_back {T X : List UInt8} {q id : Int} (h : pPutE T X q id = 0) : pOf (pPutB T X q id) q = (T, X, id, 0) := by
  have hB : pPutB T X q id = uPutB T ++ pNumB q id ++ X := by rw [pPutB, if_pos h]
  rw [hB]
  unfold pPutE at h
  by_cases c1 : q < 0 ∨ 2 < q
  · rw [if_pos c1] at h; simp at h
  rw [if_neg c1] at h
  by_cases c2 : pName T = false
  · rw [if_pos c2] at h; simp at h
  rw [if_neg c2] at h
  by_cases c3 : uPutE T = 0
  rotate_left
  · rw [if_pos c3] at h; exact absurd h c3
  rw [if_neg (by omega)] at h
  by_cases c4 : pNumE q id = 0
  rotate_left
  · rw [if_pos c4] at h; exact absurd h c4
  have hr := uPutE_zero c3
  have hl := uRight_len hr
  have hg : uGet (uPutB T ++ pNumB q id ++ X) 0 = (T, (2 : Int) + T.length, (0 : Int)) := by
    have := uGet_at [] T (pNumB q id ++ X) hl
    rw [if_pos hr] at this
    rw [uPutB, if_pos hr, List.append_assoc]
    simpa using this
  have hlen : (uPutB T).length = T.length + 2 := by rw [uPutB, if_pos hr, uPutRawB_len hl]
  unfold pOf
  rw [if_neg c1, hg, if_neg (by simp), if_neg c2]
  simp only
  by_cases c5 : q = 0
  · rw [if_pos c5]
    unfold pNumE at c4
    rw [if_neg (by omega)] at c4
    have hid : id = 0 := by
      by_cases c : id = 0
      · exact c
      · rw [if_pos c] at c4; simp at c4
    have hn : pNumB q id = [] := by rw [pNumB, if_neg (by omega)]
    rw [hn, List.append_nil, hid]
    have e : ((2 : Int) + T.length).toNat = (uPutB T).length := by rw [hlen]; omega
    rw [e, List.drop_left]
  · rw [if_neg c5]
    unfold pNumE at c4
    rw [if_pos (by omega)] at c4
    unfold pIdE at c4
    have hid : 1 ≤ id ∧ id ≤ 65535 := by
      by_cases c : 1 ≤ id ∧ id ≤ 65535
      · exact c
      · rw [if_neg c] at c4; simp at c4
    have hn : pNumB q id = [B8 (id.toNat / 256), B8 (id.toNat % 256)] := by
      have e0 : ((id.toNat : Nat) : Int) = id := by omega
      have := uPut2B_ok (n := id.toNat) (by omega)
      rw [e0] at this
      rw [pNumB, if_pos (by omega), pIdB, if_pos hid, this]
    have hg2 : uGet2 (uPutB T ++ pNumB q id ++ X) (2 + T.length) = (id, (2 : Int) + T.length + 2, (0 : Int)) := by
      have := uGet2_at (uPutB T) X id.toNat (by omega)
      rw [hn, List.append_assoc]
      have e : ((2 : Int) + T.length) = ((uPutB T).length : Int) := by rw [hlen]; omega
      rw [e]
      rw [List.cons_append, List.cons_append, List.nil_append, this]
      congr 1
      omega
    rw [hg2, if_neg (by simp), if_neg (by simp only; omega)]
    have e : ((2 : Int) + T.length + 2).toNat = (uPutB T ++ pNumB q id).length := by rw [List.length_append, hlen, hn]; simp; omega
    simp only
    rw [e, List.drop_left]

theorem pId_back {id : Int} (h : pIdE id = 0) : pOfId (pIdB id) = (id, 0) := by
  unfold pIdE at h
  have hid : 1 ≤ id ∧ id ≤ 65535 := by
    by_cases c : 1 ≤ id ∧ id ≤ 65535
    · exact c
    · rw [if_neg c] at h; simp at h
  have e0 : ((id.toNat : Nat) : Int) = id := by omega
  have hn : pIdB id = [B8 (id.toNat / 256), B8 (id.toNat % 256)] := by
    have := uPut2B_ok (n := id.toNat) (by omega)
    rw [e0] at this
    rw [pIdB, if_pos hid, this]
  have hg := uGet2_at [] [] id.toNat (by omega)
  rw [List.nil_append] at hg
  unfold pOfId
  rw [hn, if_neg (by simp), show uGet2 [B8 (id.toNat / 256), B8 (id.toNat % 256)] 0 = _ from hg]
  rw [if_neg (by simp only; omega)]
  simp only [e0]
theorem pId_not {id : Int} (h : pIdE id ≠ 0) : pIdE id = 1 ∧ pOfId (pIdB id) = (0, 4) := by
  unfold pIdE at h ⊢
  by_cases c : 1 ≤ id ∧ id ≤ 65535
  · rw [if_pos c] at h; simp at h
  · rw [if_neg c, pIdB, if_neg c]
    exact ⟨rfl, by rw [pOfId, if_pos (by simp)]⟩
end Go.Proofs.YtgafhnomkeiakaaDoor
