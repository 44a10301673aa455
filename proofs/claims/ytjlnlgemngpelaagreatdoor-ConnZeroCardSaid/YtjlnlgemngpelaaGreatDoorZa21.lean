/- A bundle of texts (merged for the limit on files): SubLaws, SubAckLaw, SubReads, SubBack, PacBackPlain, PacAllPlain, RegionT. -/
import Derived.Test.YtjlnlgemngpelaaGreatDoorZa11
import Derived.Test.YtjlnlgemngpelaaGreatDoorZa20
import Derived.Test.YtjlnlgemngpelaaGreatDoorZa12
import Derived.Test.YtjlnlgemngpelaaGreatDoorZa19
import Derived.Test.YtjlnlgemngpelaaGreatDoorZa15
import Derived.Test.YtjlnlgemngpelaaGreatDoorZa4
/- The laws of wishes: what is laid: the walks. -/
namespace Go.Proofs.YtjlnlgemngpelaaGreatDoor
open Go.RowKit
set_option linter.unusedVariables false
set_option linter.unusedSimpArgs false

end Go.Proofs.YtjlnlgemngpelaaGreatDoor

/- The law of answers to wishes: plain law and walk. -/
namespace Go.Proofs.YtjlnlgemngpelaaGreatDoor
open Go.RowKit
set_option linter.unusedVariables false
set_option linter.unusedSimpArgs false

theorem sbAckFold_ok : ∀ (l : List Int) (a r : List UInt8), sbAckFold a l = (r, 0) → r = a ++ l.map (fun n => B8 n.toNat) ∧ ∀ n ∈ l, sbCoded n = true
  | [], a, r, h => by
    simp only [sbAckFold, Prod.mk.injEq, and_true] at h
    subst h
    simp
  | n :: t, a, r, h => by
    unfold sbAckFold at h
    by_cases hc : sbCoded n = false
    · rw [if_pos hc] at h; simp at h
    rw [if_neg hc] at h
    obtain ⟨h1, h2⟩ := sbAckFold_ok t _ _ h
    refine ⟨by rw [h1]; simp, ?_⟩
    intro m hm
    rcases List.mem_cons.1 hm with rfl | hm
    · simpa using hc
    · exact h2 m hm
theorem sbCodes_back : ∀ (l : List Int) (a : List Int), (∀ n ∈ l, sbCoded n = true) → sbCodes a (l.map (fun n => B8 n.toNat)) = (a ++ l, 0)
  | [], a, _ => by simp [sbCodes]
  | n :: t, a, h => by
    have hn := h n (List.mem_cons_self ..)
    have hr := (sbCoded_iff n).1 hn
    have e : ((B8 n.toNat).toNat : Int) = n := by rw [B8_toNat (by omega)]; omega
    simp only [List.map_cons, sbCodes]
    rw [e, if_neg (by simp [hn]), sbCodes_back t _ (fun m hm => h m (List.mem_cons_of_mem _ hm))]
    simp
theorem pIdB_two {id : Int} (h : pIdE id = 0) : 1 ≤ id ∧ id ≤ 65535 ∧ pIdB id = [B8 (id.toNat / 256), B8 (id.toNat % 256)] := by
  unfold pIdE at h
  by_cases hi : 1 ≤ id ∧ id ≤ 65535
  · unfold pIdB uPut2B
    rw [if_pos hi, if_neg (by omega)]
    exact ⟨hi.1, hi.2, rfl⟩
  · rw [if_neg hi] at h; simp at h
theorem sbBegin_back {id : Int} (h : pIdE id = 0) (R : List UInt8) : sbBegin (pIdB id ++ R) = (id, 0) := by
  obtain ⟨h1, h2, hp⟩ := pIdB_two h
  rw [hp]
  have b0 : bN ([B8 (id.toNat / 256), B8 (id.toNat % 256)] ++ R) 0 = id.toNat / 256 := by
    have : bN ([B8 (id.toNat / 256), B8 (id.toNat % 256)] ++ R) 0 = (B8 (id.toNat / 256)).toNat := rfl
    rw [this, B8_toNat (by omega)]
  have b1 : bN ([B8 (id.toNat / 256), B8 (id.toNat % 256)] ++ R) 1 = id.toNat % 256 := by
    have : bN ([B8 (id.toNat / 256), B8 (id.toNat % 256)] ++ R) 1 = (B8 (id.toNat % 256)).toNat := rfl
    rw [this, B8_toNat (by omega)]
  unfold sbBegin
  rw [if_neg (by simp), b0, b1]
  have e : (256 * ((id.toNat / 256 : Nat) : Int) + ((id.toNat % 256 : Nat) : Int)) = id := by omega
  rw [e, if_neg (by omega)]
theorem sbMany_ok {n : Int} (h : sbMany n = 0) : 1 ≤ n ∧ n ≤ 8 := by
  unfold sbMany at h
  split at h
  · simp at h
  · split at h
    · simp at h
    · omega
theorem sbAck_back {id : Int} {l : List Int} (h : sbAckE id l = 0) : sbOfAck (sbAckB id l) = (id, l, 0) ∧ (sbAckB id l).length ≤ 10 := by
  have hB : sbAckB id l = (sbAckFold (pIdB id) l).1 := by rw [sbAckB, if_pos h]
  unfold sbAckE at h
  by_cases h1 : pIdE id = 0
  rotate_left
  · rw [if_pos h1] at h; exact absurd h h1
  rw [if_neg (by simp [h1])] at h
  by_cases h2 : sbMany l.length = 0
  rotate_left
  · rw [if_pos h2] at h; exact absurd h h2
  rw [if_neg (by simp [h2])] at h
  obtain ⟨r, hr⟩ : ∃ r, sbAckFold (pIdB id) l = (r, 0) := ⟨(sbAckFold (pIdB id) l).1, Prod.ext rfl h⟩
  obtain ⟨hr1, hc⟩ := sbAckFold_ok l _ _ hr
  rw [hB, hr]
  simp only
  subst hr1
  have hm := sbMany_ok h2
  have hid := pIdB_two h1
  have hl : (pIdB id ++ l.map (fun n => B8 n.toNat)).length = 2 + l.length := by rw [List.length_append, hid.2.2]; simp
  have hd2 : (pIdB id ++ l.map (fun n => B8 n.toNat)).drop 2 = l.map (fun n => B8 n.toNat) := by rw [hid.2.2]; rfl
  refine ⟨?_, by rw [hl]; omega⟩
  unfold sbOfAck
  rw [sbBegin_back h1, hl, hd2, sbCodes_back l [] hc]
  have e : (((2 + l.length : Nat) : Int) - 2) = l.length := by omega
  rw [e, h2]
  simp
theorem sbAckB_short (id : Int) (l : List Int) : (sbAckB id l).length ≤ 10 := by
  by_cases h : sbAckE id l = 0
  · exact (sbAck_back h).2
  · rw [sbAckB, if_neg h]; simp

end Go.Proofs.YtjlnlgemngpelaaGreatDoor

/- The laws of wishes: what is read, there and back: plain law and walks. -/
namespace Go.Proofs.YtjlnlgemngpelaaGreatDoor
open Go.RowKit
set_option linter.unusedVariables false
set_option linter.unusedSimpArgs false

end Go.Proofs.YtjlnlgemngpelaaGreatDoor

/- The law of wishes there and back: plain law and walk. -/
namespace Go.Proofs.YtjlnlgemngpelaaGreatDoor
open Go.RowKit
set_option linter.unusedVariables false
set_option linter.unusedSimpArgs false

def wNorm (ends : Bool) (f : Wish) : Wish := (f.1, if ends = true then 0 else f.2)
def wFlat (ends : Bool) : List Wish → List UInt8
  | [] => []
  | f :: t => (sbWish ends f).1 ++ wFlat ends t
def wOk (ends : Bool) (f : Wish) : Prop := uRight (sB f.1) = true ∧ (ends = false → 0 ≤ f.2 ∧ f.2 ≤ 2)
theorem wish_ok {ends : Bool} {f : Wish} (h : (sbWish ends f).2 = 0) : wOk ends f ∧ (sbWish ends f).1 = uPutRawB (sB f.1) ++ (if ends = true then [] else [B8 f.2.toNat]) := by
  unfold sbWish at h ⊢
  by_cases h1 : ends = false ∧ (f.2 < 0 ∨ 2 < f.2)
  · rw [if_pos h1] at h; simp at h
  rw [if_neg h1] at h ⊢
  by_cases h2 : uPutE (sB f.1) = 0
  rotate_left
  · rw [if_pos h2] at h; exact absurd h h2
  rw [if_neg (by simp [h2])]
  have hr := uPutE_zero h2
  refine ⟨⟨hr, fun he => ?_⟩, by simp only; rw [uPutB, if_pos hr]⟩
  rw [not_and] at h1
  have := h1 he
  omega
theorem sbFold_ok : ∀ (ends : Bool) (l : List Wish) (a r : List UInt8), sbFold ends a l = (r, 0) → r = a ++ wFlat ends l ∧ ∀ f ∈ l, (sbWish ends f).2 = 0
  | ends, [], a, r, h => by
    simp only [sbFold, Prod.mk.injEq, and_true] at h
    subst h
    simp [wFlat]
  | ends, f :: t, a, r, h => by
    unfold sbFold at h
    by_cases hc : (sbWish ends f).2 = 0
    rotate_left
    · rw [if_pos hc] at h; simp only [Prod.mk.injEq] at h; exact absurd h.2 hc
    rw [if_neg (by simp [hc])] at h
    obtain ⟨h1, h2⟩ := sbFold_ok ends t _ _ h
    refine ⟨by rw [h1]; simp [wFlat], ?_⟩
    intro m hm
    rcases List.mem_cons.1 hm with rfl | hm
    · exact hc
    · exact h2 m hm
theorem sOf_sB2 (s : ByteArray) : sOf (sB s) = s := by cases s; simp [sOf, sB]
theorem sbRead_at {ends : Bool} {f : Wish} (h : (sbWish ends f).2 = 0) (A C : List UInt8) :
    sbRead (A ++ (sbWish ends f).1 ++ C) (A.length : Int) ends = (wNorm ends f, ((A ++ (sbWish ends f).1).length : Int), 0) := by
  obtain ⟨⟨hr, hq⟩, hw⟩ := wish_ok h
  have hlen := uRight_len hr
  rw [hw]
  have e1 : A ++ (uPutRawB (sB f.1) ++ (if ends = true then [] else [B8 f.2.toNat])) ++ C = A ++ uPutRawB (sB f.1) ++ ((if ends = true then [] else [B8 f.2.toNat]) ++ C) := by simp only [List.append_assoc]
  rw [e1]
  have hg := uGet_at A (sB f.1) ((if ends = true then [] else [B8 f.2.toNat]) ++ C) hlen
  rw [if_pos hr] at hg
  unfold sbRead
  rw [hg]
  simp only
  rw [if_neg (by simp)]
  have hl2 := uPutRawB_len hlen
  cases ends
  · obtain ⟨q0, q1⟩ := hq rfl
    have hb : bN (A ++ uPutRawB (sB f.1) ++ ((if (false : Bool) = true then [] else [B8 f.2.toNat]) ++ C)) (A.length + 2 + (sB f.1).length) = f.2.toNat := by
      have e : A.length + 2 + (sB f.1).length = (A ++ uPutRawB (sB f.1)).length + 0 := by rw [List.length_append, hl2]; omega
      rw [e, bN_append_right]
      have : bN ((if (false : Bool) = true then [] else [B8 f.2.toNat]) ++ C) 0 = (B8 f.2.toNat).toNat := rfl
      rw [this, B8_toNat (by omega)]
    have ht : ((A.length : Int) + 2 + ((sB f.1).length : Int)).toNat = A.length + 2 + (sB f.1).length := by omega
    rw [if_neg (by simp), if_neg (by simp only [List.length_append, hl2]; simp; omega), ht, hb, if_neg (by omega)]
    unfold wNorm
    rw [sOf_sB2]
    simp only [List.length_append, hl2]
    simp
    omega
  · rw [if_pos rfl]
    unfold wNorm
    rw [sOf_sB2]
    simp only [List.length_append, hl2]
    simp
    omega
theorem sbAll_back (ends : Bool) : ∀ (t : List Wish) (acc : List Wish) (A : List UInt8), acc.length + t.length ≤ 8 → (∀ f ∈ t, (sbWish ends f).2 = 0) →
    sbAll ends (A ++ wFlat ends t) (9 - acc.length) acc (A.length : Int) = (acc ++ t.map (wNorm ends), 0)
  | [], acc, A, h8, _ => by
    rw [sbAll_end (by simp at h8; omega) (by simp [wFlat])]
    simp
  | f :: t, acc, A, h8, hf => by
    have hz := hf f (List.mem_cons_self ..)
    have hL : A ++ wFlat ends (f :: t) = A ++ (sbWish ends f).1 ++ wFlat ends t := by simp [wFlat]
    have hrd := sbRead_at hz A (wFlat ends t)
    obtain ⟨⟨hr, _⟩, hw⟩ := wish_ok hz
    have hpos : 2 ≤ (sbWish ends f).1.length := by rw [hw, List.length_append, uPutRawB_len (uRight_len hr)]; omega
    simp only [List.length_cons] at h8
    rw [hL]
    rw [sbAll_more (by omega) (by simp only [List.length_append]; omega) (by rw [hrd])]
    rw [hrd]
    simp only
    have ih := sbAll_back ends t (acc ++ [wNorm ends f]) (A ++ (sbWish ends f).1) (by simp; omega) (fun g hg => hf g (List.mem_cons_of_mem _ hg))
    rw [ih]
    simp
theorem sbPut_back {id : Int} {l : List Wish} {ends : Bool} (h : sbPutE id l ends = 0) : sbOf (sbPutB id l ends) ends = (id, l.map (wNorm ends), 0) ∧ 1 ≤ l.length ∧ l.length ≤ 8 ∧ (sbPutB id l ends).length ≤ 4096 := by
  have hB : sbPutB id l ends = (sbFold ends (pIdB id) l).1 := by rw [sbPutB, if_pos h]
  unfold sbPutE at h
  by_cases h1 : pIdE id = 0
  rotate_left
  · rw [if_pos h1] at h; exact absurd h h1
  rw [if_neg (by simp [h1])] at h
  by_cases h2 : sbMany l.length = 0
  rotate_left
  · rw [if_pos h2] at h; exact absurd h h2
  rw [if_neg (by simp [h2])] at h
  by_cases h3 : (sbFold ends (pIdB id) l).2 = 0
  rotate_left
  · rw [if_pos h3] at h; exact absurd h h3
  rw [if_neg (by simp [h3])] at h
  by_cases h4 : 4096 < (sbFold ends (pIdB id) l).1.length
  · rw [if_pos h4] at h; simp at h
  obtain ⟨r, hr⟩ : ∃ r, sbFold ends (pIdB id) l = (r, 0) := ⟨(sbFold ends (pIdB id) l).1, Prod.ext rfl h3⟩
  obtain ⟨hr1, hc⟩ := sbFold_ok ends l _ _ hr
  rw [hr] at h4
  rw [hB, hr]
  simp only at h4 ⊢
  subst hr1
  have hm := sbMany_ok h2
  have hid := pIdB_two h1
  have hp2 : (pIdB id).length = 2 := by rw [hid.2.2]; rfl
  refine ⟨?_, by omega, by omega, by omega⟩
  have ha := sbAll_back ends l [] (pIdB id) (by simp; omega) hc
  rw [hp2] at ha
  unfold sbOf
  rw [sbBegin_back h1]
  have ha' : sbAll ends (pIdB id ++ wFlat ends l) 9 [] 2 = (l.map (wNorm ends), 0) := by simpa using ha
  rw [ha']
  have hne : l.map (wNorm ends) ≠ [] := by intro e; simp at e; subst e; simp at hm
  rw [if_neg (by simp), if_neg (by simp), if_neg hne]

end Go.Proofs.YtjlnlgemngpelaaGreatDoor

/- Packets: there and back; all of them: plain laws. No program. -/
namespace Go.Proofs.YtjlnlgemngpelaaGreatDoor
open Go.RowKit
set_option linter.unusedVariables false
set_option linter.unusedSimpArgs false

theorem paKinds {k f : Int} (h : hRight k f = 0) : k = 1 ∨ k = 2 ∨ k = 3 ∨ k = 4 ∨ k = 5 ∨ k = 6 ∨ k = 7 ∨ k = 8 ∨ k = 9 ∨ k = 10 ∨ k = 11 ∨ k = 12 ∨ k = 13 ∨ k = 14 := by
  obtain ⟨h1, h2, _, _⟩ := hRight_ok h
  omega
theorem sOf_sBP (s : ByteArray) : sOf (sB s) = s := by cases s; simp [sOf, sB]
theorem wNorm_f (l : List Wish) : l.map (wNorm false) = l := by
  induction l with
  | nil => rfl
  | cons f t ih => rw [List.map_cons, ih]; simp [wNorm]
theorem wNorm_t (l : List Wish) : (l.map fun f : Wish => (f.1, (0 : Int))).map (wNorm true) = l.map fun f => (f.1, 0) := by
  rw [List.map_map]
  apply List.map_congr_left
  intro f hf
  simp [wNorm]

theorem paTold_back (p : Pac) (hr : hRight p.k (paBody (paClean p)).1 = 0) (hb : (paBody (paClean p)).2.2 = 0) :
    paTold p.k (paBody (paClean p)).1 (paBody (paClean p)).2.1 = (paClean p, 0) := by
  obtain ⟨k, id, dup, tp, tx, q, rt, c, pr, code, fs, cs⟩ := p
  rcases paKinds hr with h | h | h | h | h | h | h | h | h | h | h | h | h | h <;> (have h : k = _ := h; subst h)
  · simp [paClean, paBody] at hb
    simp [paClean, paBody, paTold, con_back hb]
  · simp [paClean, paBody] at hb
    simp [paClean, paBody, paTold, aBack hb]
  · simp only [paClean, paBody] at hb hr ⊢
    simp only [if_pos, show ¬ ((3 : Int) = 1) by decide, show ¬ ((3 : Int) = 2) by decide, if_false, if_true] at hb hr ⊢
    by_cases hn : hPub dup q rt < 0
    · rw [if_pos hn] at hb; simp at hb
    · rw [if_neg hn] at hb
      obtain ⟨h1, h2, h3, h4⟩ := hPub_pos hn
      have hp := pPut_back hb
      unfold paTold
      rw [if_neg hn]
      simp only [show ¬ ((3 : Int) = 1) by decide, show ¬ ((3 : Int) = 2) by decide, if_false, if_true, h1, h2, h3]
      have hq0 : pOfQ (pPutB (sB tp) (sB tx) q (if q ≠ 0 then id else 0)) q = q := by unfold pOfQ; rw [hp]; simp
      rw [hq0, hp]
      simp [sOf_sBP]
  all_goals try (simp [paClean, paBody] at hb; simp [paClean, paBody, paTold, pId_back hb]; done)
  · simp [paClean, paBody] at hb
    obtain ⟨h1, _⟩ := sbPut_back hb
    simp [paClean, paBody, paTold, h1, wNorm_f]
  · simp [paClean, paBody] at hb
    obtain ⟨h1, _⟩ := sbAck_back hb
    simp [paClean, paBody, paTold, h1]
  · simp [paClean, paBody] at hb
    obtain ⟨h1, _⟩ := sbPut_back hb
    have hn := wNorm_t fs
    simp [paClean, paBody, paTold, h1, wNorm]
  all_goals simp [paClean, paBody, paTold]

theorem paPut_ok {p : Pac} (h : paPutE p = 0) : (paBody (paClean p)).2.2 = 0 ∧ hPutE p.k (paBody (paClean p)).1 (paBody (paClean p)).2.1.length = 0 ∧
    paPutB p = hPutB p.k (paBody (paClean p)).1 (paBody (paClean p)).2.1.length ++ (paBody (paClean p)).2.1 := by
  have hB : paPutB p = hPutB p.k (paBody (paClean p)).1 (paBody (paClean p)).2.1.length ++ (paBody (paClean p)).2.1 := by unfold paPutB; rw [if_pos h]
  unfold paPutE at h
  by_cases h0 : (paBody (paClean p)).2.2 ≠ 0
  · rw [if_pos h0] at h; exact absurd h h0
  · rw [if_neg h0] at h
    exact ⟨by simpa using h0, h, hB⟩
theorem pac_back {p : Pac} (h : paPutE p = 0) : paOf p.k (paBody (paClean p)).1 (paBody (paClean p)).2.1.length (paBody (paClean p)).2.1 = (paClean p, 0) := by
  obtain ⟨h1, h2, _⟩ := paPut_ok h
  obtain ⟨hr, _, _⟩ := hPutE_ok h2
  have ht := paTold_back p hr h1
  unfold paOf
  rw [hr, ht]
  simp
/-- A packet has few bytes. -/
theorem paPutB_len (p : Pac) : (paPutB p).length ≤ 4099 := by
  by_cases h : paPutE p = 0
  · obtain ⟨_, h2, h3⟩ := paPut_ok h
    obtain ⟨_, _, h5⟩ := hPutE_ok h2
    rw [h3, hPutB_ok h2, List.length_append, hBytes_len]
    split <;> omega
  · unfold paPutB; rw [if_neg h]; simp
theorem paPutB_bad {p : Pac} (h : paPutE p ≠ 0) : paPutB p = [] := by unfold paPutB; rw [if_neg h]

/-- The packet at a place, the place behind it, is there one, and the error. -/
def paOne (b : List UInt8) (at' : Nat) : Pac × Int × Bool × Int :=
  if (hGet b at').2.2 = 2 then (Pac.zero, 0, false, 0)
  else if (hGet b at').2.2 ≠ 0 then (Pac.zero, 0, false, (hGet b at').2.2)
  else if (b.length : Int) - (hGet b at').2.1 < (hGet b at').1.2.2 then (Pac.zero, 0, false, 0)
  else ((paOf (hGet b at').1.1 (hGet b at').1.2.1 (hGet b at').1.2.2 ((b.drop (hGet b at').2.1.toNat).take (hGet b at').1.2.2.toNat)).1, (hGet b at').2.1 + (hGet b at').1.2.2,
    decide ((paOf (hGet b at').1.1 (hGet b at').1.2.1 (hGet b at').1.2.2 ((b.drop (hGet b at').2.1.toNat).take (hGet b at').1.2.2.toNat)).2 = 0),
    (paOf (hGet b at').1.1 (hGet b at').1.2.1 (hGet b at').1.2.2 ((b.drop (hGet b at').2.1.toNat).take (hGet b at').1.2.2.toNat)).2)
def paAll : Nat → List UInt8 → Nat → List Pac × Int × Int
  | 0, b, a => ([], a, 0)
  | n + 1, b, a => if (paOne b a).2.2.1 = true then ((paOne b a).1 :: (paAll n b (paOne b a).2.1.toNat).1, (paAll n b (paOne b a).2.1.toNat).2) else ([], a, (paOne b a).2.2.2)

theorem paOne_back {p : Pac} (h : paPutE p = 0) (A C : List UInt8) : paOne (A ++ paPutB p ++ C) A.length = (paClean p, (A.length : Int) + (paPutB p).length, true, 0) := by
  obtain ⟨h1, h2, h3⟩ := paPut_ok h
  have hb := pac_back h
  have hg := hGet_back h2 A ((paBody (paClean p)).2.1 ++ C)
  rw [← List.append_assoc, List.append_assoc A, ← h3] at hg
  have hl : (paPutB p).length = (hPutB p.k (paBody (paClean p)).1 (paBody (paClean p)).2.1.length).length + (paBody (paClean p)).2.1.length := by rw [h3, List.length_append]
  unfold paOne
  rw [hg]
  simp only
  rw [if_neg (by decide), if_neg (by decide), if_neg (by simp only [List.length_append]; omega)]
  have hd : ((A ++ paPutB p ++ C).drop ((A.length : Int) + (hPutB p.k (paBody (paClean p)).1 (paBody (paClean p)).2.1.length).length).toNat).take ((paBody (paClean p)).2.1.length : Int).toNat = (paBody (paClean p)).2.1 := by
    rw [show ((A.length : Int) + (hPutB p.k (paBody (paClean p)).1 (paBody (paClean p)).2.1.length).length).toNat = (A ++ hPutB p.k (paBody (paClean p)).1 (paBody (paClean p)).2.1.length).length by rw [List.length_append]; omega]
    rw [h3, ← List.append_assoc, List.append_assoc _ _ C, List.drop_left', Int.toNat_natCast, List.take_left']
    · rfl
    · rfl
  rw [hd, hb]
  simp only [decide_true, Prod.mk.injEq, true_and, and_true]
  rw [hl]; omega

/-- What is put one behind the other. -/
def paCat : List Pac → List UInt8
  | [] => []
  | p :: t => (if paPutE p = 0 then paPutB p else []) ++ paCat t
def paWant : List Pac → List Pac
  | [] => []
  | p :: t => (if paPutE p = 0 then [paClean p] else []) ++ paWant t
theorem paOne_end (A : List UInt8) : paOne A A.length = (Pac.zero, 0, false, 0) := by
  have hg : hGet A A.length = ((0, 0, 0), 0, 2) := by unfold hGet; rw [if_neg (by omega), if_pos rfl]
  unfold paOne
  rw [hg]
  simp
theorem paAll_back : ∀ (l : List Pac) (A : List UInt8) (n : Nat), l.length < n → paAll n (A ++ paCat l) A.length = (paWant l, ((A ++ paCat l).length : Int), 0)
  | [], A, n, h => by
    obtain ⟨m, rfl⟩ : ∃ m, n = m + 1 := ⟨n - 1, by simp at h; omega⟩
    simp only [paCat, paWant, List.append_nil]
    unfold paAll
    rw [paOne_end]
    simp
  | p :: t, A, n, h => by
    obtain ⟨m, rfl⟩ : ∃ m, n = m + 1 := ⟨n - 1, by simp at h; omega⟩
    simp only [List.length_cons] at h
    unfold paCat paWant
    by_cases hp : paPutE p = 0
    · rw [if_pos hp, if_pos hp]
      have ih := paAll_back t (A ++ paPutB p) m (by omega)
      have h1 := paOne_back hp A (paCat t)
      unfold paAll
      rw [← List.append_assoc, h1]
      simp only [if_true]
      rw [show ((A.length : Int) + (paPutB p).length).toNat = (A ++ paPutB p).length by rw [List.length_append]; omega, ih]
      simp
    · rw [if_neg hp, if_neg hp]
      simpa using paAll_back t A (m + 1) (by omega)
theorem paCat_append (a b : List Pac) : paCat (a ++ b) = paCat a ++ paCat b := by
  induction a with
  | nil => rfl
  | cons p t ih => rw [List.cons_append, paCat, paCat, ih, List.append_assoc]
theorem paWant_append (a b : List Pac) : paWant (a ++ b) = paWant a ++ paWant b := by
  induction a with
  | nil => rfl
  | cons p t ih => rw [List.cons_append, paWant, paWant, ih, List.append_assoc]
end Go.Proofs.YtjlnlgemngpelaaGreatDoor

/- Packets: all of them: where the next one lies: plain laws. No program. -/
namespace Go.Proofs.YtjlnlgemngpelaaGreatDoor
open Go.RowKit
set_option linter.unusedVariables false
set_option linter.unusedSimpArgs false

theorem hGet_rngP {l : List UInt8} {a : Nat} (h : (hGet l a).2.2 = 0) : (a : Int) + 1 ≤ (hGet l a).2.1 ∧ (hGet l a).2.1 ≤ l.length ∧ 0 ≤ (hGet l a).1.2.2 ∧ (hGet l a).1.2.2 ≤ 4096 := by
  unfold hGet at h ⊢
  have hb := hLen_bounds (l.drop ((a : Int).toNat + 1))
  have hd : (l.drop ((a : Int).toNat + 1)).length = l.length - (a + 1) := by simp
  rw [hd] at hb
  repeat' split at h
  all_goals try (simp at h; done)
  all_goals try (simp only at h; omega)
  rename_i h1 h2 h3 h4 h5
  rw [if_neg h1, if_neg h2, if_neg h3, if_neg h4, if_neg h5]
  simp only
  omega
/-- One that is there lies ahead of the end, and is of bytes. -/
theorem paOne_rng {b : List UInt8} {a : Nat} (h : (paOne b a).2.2.1 = true) : (a : Int) + 1 ≤ (paOne b a).2.1 ∧ (paOne b a).2.1 ≤ b.length := by
  unfold paOne at h ⊢
  by_cases h1 : (hGet b a).2.2 = 2
  · rw [if_pos h1] at h; simp at h
  rw [if_neg h1] at h ⊢
  by_cases h2 : (hGet b a).2.2 ≠ 0
  · rw [if_pos h2] at h; simp at h
  rw [if_neg h2] at h ⊢
  by_cases h3 : (b.length : Int) - (hGet b a).2.1 < (hGet b a).1.2.2
  · rw [if_pos h3] at h; simp at h
  rw [if_neg h3] at h ⊢
  obtain ⟨r1, r2, r3, r4⟩ := hGet_rngP (l := b) (a := a) (by simpa using h2)
  simp only
  omega
theorem paAll_succ (n : Nat) (b : List UInt8) (a : Nat) : paAll (n + 1) b a = if (paOne b a).2.2.1 = true then ((paOne b a).1 :: (paAll n b (paOne b a).2.1.toNat).1, (paAll n b (paOne b a).2.1.toNat).2) else ([], (a : Int), (paOne b a).2.2.2) := rfl
/-- Fuel beyond the bytes plays no part. -/
theorem paAll_fuel (b : List UInt8) : ∀ (n m a : Nat), b.length ≤ n + a → b.length ≤ m + a → paAll (n + 1) b a = paAll (m + 1) b a := by
  intro n
  induction n with
  | zero =>
    intro m a hn hm
    have he : ¬ (paOne b a).2.2.1 = true := fun h => by have := paOne_rng h; omega
    unfold paAll
    rw [if_neg he, if_neg he]
  | succ n ih =>
    intro m a hn hm
    by_cases h : (paOne b a).2.2.1 = true
    · have hr := paOne_rng h
      obtain ⟨m', rfl⟩ : ∃ m', m = m' + 1 := ⟨m - 1, by omega⟩
      rw [paAll_succ (n + 1), paAll_succ (m' + 1), if_pos h, if_pos h, ih m' (paOne b a).2.1.toNat (by omega) (by omega)]
    · rw [paAll_succ (n + 1), paAll_succ m, if_neg h, if_neg h]
/-- All packets of bytes. -/
def paAllB (b : List UInt8) : List Pac × Int × Int := paAll (b.length + 1) b 0
/-- There are no more packets than bytes. -/
theorem paAll_len (b : List UInt8) : ∀ (n a : Nat), a ≤ b.length → (paAll n b a).1.length + a ≤ b.length := by
  intro n
  induction n with
  | zero => intro a ha; simpa [paAll] using ha
  | succ n ih =>
    intro a ha
    rw [paAll_succ]
    by_cases h : (paOne b a).2.2.1 = true
    · have hr := paOne_rng h
      have := ih (paOne b a).2.1.toNat (by omega)
      rw [if_pos h]
      simp only [List.length_cons]
      omega
    · rw [if_neg h]
      simpa using ha
theorem paAllB_len (b : List UInt8) : (paAllB b).1.length ≤ b.length := by
  have := paAll_len b (b.length + 1) 0 (Nat.zero_le _)
  unfold paAllB
  omega
end Go.Proofs.YtjlnlgemngpelaaGreatDoor

/- A region that draws its order, with movers whose order is free among two of them: the walk forks there. Of no program. -/
namespace Go.Proofs.YtjlnlgemngpelaaGreatDoor

inductive Tr where
  | done
  | still (k : Nat) (r : Tr)
  | move (k : Nat) (r : Tr)
  | fork (k1 : Nat) (r1 : Tr) (k2 : Nat) (r2 : Tr)
def Tr.len : Tr → Nat
  | .done => 0
  | .still _ r => r.len + 1
  | .move _ r => r.len + 1
  | .fork _ r1 _ _ => r1.len + 1
def Tr.isDone : Tr → Bool
  | .done => true
  | _ => false

section
variable {P : Program} {ops : Array Oper} {md : Region.Mode} {Q : Exit → Act → World → Prop} {C : World → Prop} {n : Nat}

def okT (md : Region.Mode) (ops : Array Oper) (n : Nat) : Tr → Array Bool → Bool
  | .done, listed => (Region.ready md ops listed).isEmpty
  | .still k r, listed => (Region.ready md ops listed).contains k && (Region.free md ops listed k && (decide (k < n) && okT md ops n r (listed.setIfInBounds k true)))
  | .move k r, listed => (Region.ready md ops listed == [k]) && ((decide (k < n) || r.isDone) && okT md ops n r (listed.setIfInBounds k true))
  | .fork k1 r1 k2 r2, listed => (Region.ready md ops listed == [k1, k2]) && (decide (k1 < n) && (decide (k2 < n) && (r1.len == r2.len && (okT md ops n r1 (listed.setIfInBounds k1 true) && okT md ops n r2 (listed.setIfInBounds k2 true)))))

def wpT (P : Program) (ops : Array Oper) (n : Nat) (C : World → Prop) (Q : Exit → Act → World → Prop) : Tr → Act → World → Prop
  | .done, a, w => Q .normal a w
  | .still k r, a, w => ∃ o, ops[k]? = some o ∧ ∃ v, YieldsC P ops C o v a ∧ wpT P ops n C Q r (a.put o.dst v) w
  | .move k r, a, w => wpOp P ops Q k (fun a' w' => (k < n → C w') ∧ wpT P ops n C Q r a' w') a w
  | .fork k1 r1 k2 r2, a, w => wpOp P ops Q k1 (fun a' w' => (k1 < n → C w') ∧ wpT P ops n C Q r1 a' w') a w ∧ wpOp P ops Q k2 (fun a' w' => (k2 < n → C w') ∧ wpT P ops n C Q r2 a' w') a w

theorem walk_T (hsel : ∀ (j : Nat) (o : Oper) cs b, ops[j]? = some o → o.op ≠ .select cs b) (hQ : ∀ c (a : Act) (T : Array Value) w, Q (.panic c) { a with tmps := T } w → Q (.panic c) a w)
    (hs : Region.sinkB md ops n = true) (hc : Region.chainB md ops n = true) (hn : n < ops.size) :
    ∀ (σ : Tr) (listed : Array Bool) (a : Act) (w : World), HeadInv md ops n listed → C w → okT md ops n σ listed = true → wpT P ops n C Q σ a w → wpAnyC P md ops n C Q σ.len listed a w
  | .done, listed, a, w, _, _, hok, h => ⟨by simpa [okT] using hok, h⟩
  | .still k r, listed, a, w, inv, hC, hok, h => by
    simp only [okT, Bool.and_eq_true, decide_eq_true_eq] at hok
    obtain ⟨hr, hf, hk, hok'⟩ := hok
    obtain ⟨o, ho, v, hy, hK⟩ := h
    have hr' : k ∈ Region.ready md ops listed := by simpa using hr
    exact first_C ho hsel (fun c a w h => hQ_put hQ h) hs hc hn hk r.len listed a w inv (Region.free_spec ho hf) hr' hy hC
      (walk_T hsel hQ hs hc hn r _ _ w (inv.set hr' hk) hC hok' hK)
  | .move k r, listed, a, w, inv, hC, hok, h => by
    simp only [okT, Bool.and_eq_true, beq_iff_eq] at hok
    obtain ⟨hr, hd, hok'⟩ := hok
    refine ⟨fun h0 => (by rw [hr] at h0; cases h0), fun i hi => ?_⟩
    have hi' := hi
    rw [hr] at hi
    obtain rfl : i = k := by simpa using hi
    by_cases hk : i < n
    · exact wpOp_mono (fun a' w' h' => ⟨h'.1, walk_T hsel hQ hs hc hn r _ a' w' (inv.set hi' hk) (h'.1 hk) hok' h'.2⟩) h
    · have hdone : r.isDone = true := by simpa [hk] using hd
      cases r with
      | done => exact wpOp_mono (fun a' w' h' => ⟨h'.1, by simpa [okT] using hok', h'.2⟩) h
      | still _ _ => cases hdone
      | move _ _ => cases hdone
      | fork _ _ _ _ => cases hdone
  | .fork k1 r1 k2 r2, listed, a, w, inv, hC, hok, h => by
    simp only [okT, Bool.and_eq_true, beq_iff_eq, decide_eq_true_eq] at hok
    obtain ⟨hr, hk1, hk2, hl, hok1, hok2⟩ := hok
    refine ⟨fun h0 => (by rw [hr] at h0; cases h0), fun i hi => ?_⟩
    have hi' := hi
    rw [hr] at hi
    have : i = k1 ∨ i = k2 := by simpa using hi
    rcases this with rfl | rfl
    · exact wpOp_mono (fun a' w' h' => ⟨h'.1, walk_T hsel hQ hs hc hn r1 _ a' w' (inv.set hi' hk1) (h'.1 hk1) hok1 h'.2⟩) h.1
    · have hl' : (Tr.fork k1 r1 i r2).len = r2.len + 1 := by simp [Tr.len, hl]
      exact wpOp_mono (fun a' w' h' => ⟨h'.1, by rw [hl]; exact walk_T hsel hQ hs hc hn r2 _ a' w' (inv.set hi' hk2) (h'.1 hk2) hok2 h'.2⟩) h.2

theorem wp_region_T {id : Nat} {a : Act} {w : World} (C : World → Prop) (n : Nat) (σ : Tr) (hm : P.follows .mixedOrders = true)
    (hB : (Region.noSelect ops && (Region.sinkB .any ops n && (Region.chainB .any ops n && (decide (n < ops.size) && (okT .any ops n σ (Array.replicate ops.size false) && (σ.len == ops.size)))))) = true)
    (hQ : ∀ c (a : Act) (T : Array Value) w, Q (.panic c) { a with tmps := T } w → Q (.panic c) a w) (hC : C w.drew)
    (h : wpT P ops n C Q σ a w.drew) : (Code.region id ops true).wp P Q a w := by
  simp only [Bool.and_eq_true, decide_eq_true_eq, beq_iff_eq] at hB
  obtain ⟨h1, h2, h3, h4, h5, h6⟩ := hB
  refine wp_region_any hm (wpAny_of_C _ _ _ _ (n := n) (C := C) ?_)
  have := walk_T (P := P) (Q := Q) (C := C) (Region.noSelect_spec h1) hQ h2 h3 h4 σ _ a w.drew headInv_start hC h5 h
  rw [h6] at this
  exact this

theorem wpT_still {k : Nat} {r : Tr} {o : Oper} {v : Value} {a : Act} {w : World} (ho : ops[k]? = some o) (hw : Region.wanted o (yielded ops a.tmps) = true)
    (h : ∀ w', C w' → (execOp a.eval o).run P w' = .ok (.value v) w') (hr : wpT P ops n C Q r (a.put o.dst v) w) : wpT P ops n C Q (.still k r) a w :=
  ⟨o, ho, v, .inl ⟨hw, h⟩, hr⟩
theorem wpT_skip {k : Nat} {r : Tr} {o : Oper} {a : Act} {w : World} (ho : ops[k]? = some o) (hw : Region.wanted o (yielded ops a.tmps) = false)
    (hr : wpT P ops n C Q r (a.put o.dst undef) w) : wpT P ops n C Q (.still k r) a w :=
  ⟨o, ho, undef, .inr ⟨hw, rfl⟩, hr⟩
theorem wpOp_moved {k : Nat} {r : Tr} {o : Oper} {a : Act} {w : World} (ho : ops[k]? = some o) (hw : Region.wanted o (yielded ops a.tmps) = true)
    (h : ∀ K : Act → World → Prop, (∀ a' w', (k < n → C w') → wpT P ops n C Q r a' w' → K a' w') → o.wp P a w K Q) : wpOp P ops Q k (fun a' w' => (k < n → C w') ∧ wpT P ops n C Q r a' w') a w := by
  unfold Go.wpOp
  simp only [ho, hw, if_true]
  exact .inl (h _ fun a' w' h1 h2 => ⟨h1, h2⟩)
theorem wpT_move {k : Nat} {r : Tr} {o : Oper} {a : Act} {w : World} (ho : ops[k]? = some o) (hw : Region.wanted o (yielded ops a.tmps) = true)
    (h : ∀ K : Act → World → Prop, (∀ a' w', (k < n → C w') → wpT P ops n C Q r a' w' → K a' w') → o.wp P a w K Q) : wpT P ops n C Q (.move k r) a w :=
  wpOp_moved ho hw h
theorem wpT_fork {k1 k2 : Nat} {r1 r2 : Tr} {o1 o2 : Oper} {a : Act} {w : World} (ho1 : ops[k1]? = some o1) (hw1 : Region.wanted o1 (yielded ops a.tmps) = true) (ho2 : ops[k2]? = some o2) (hw2 : Region.wanted o2 (yielded ops a.tmps) = true)
    (h1 : ∀ K : Act → World → Prop, (∀ a' w', (k1 < n → C w') → wpT P ops n C Q r1 a' w' → K a' w') → o1.wp P a w K Q)
    (h2 : ∀ K : Act → World → Prop, (∀ a' w', (k2 < n → C w') → wpT P ops n C Q r2 a' w' → K a' w') → o2.wp P a w K Q) : wpT P ops n C Q (.fork k1 r1 k2 r2) a w :=
  ⟨wpOp_moved ho1 hw1 h1, wpOp_moved ho2 hw2 h2⟩
theorem wpT_done {a : Act} {w : World} (h : Q .normal a w) : wpT P ops n C Q .done a w := h
end
end Go.Proofs.YtjlnlgemngpelaaGreatDoor
