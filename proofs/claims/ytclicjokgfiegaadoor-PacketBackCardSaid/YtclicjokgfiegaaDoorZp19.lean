/- A bundle of texts (merged for the limit on files): SubAckLaw, SubReads, SubBack, PacBackPlain, PacAllPlain, RegionT, PacOne, Close. -/
import Derived.Test.YtclicjokgfiegaaDoorZp10
import Derived.Test.YtclicjokgfiegaaDoorZp18
import Derived.Test.YtclicjokgfiegaaDoorZp17
import Derived.Test.YtclicjokgfiegaaDoorZp9
import Derived.Test.YtclicjokgfiegaaDoorZp13
import Derived.Test.YtclicjokgfiegaaDoorZp4
import Derived.Test.YtclicjokgfiegaaDoorZp1
import Derived.ProofKit
import Derived.OpenShut
import Derived.Deep.DeepHandedRow
import Derived.Lib.LaidTab
import Derived.LaidSub
import Derived.Lib.SmallJoins
import Derived.LaidLaws
/- The law of answers to wishes: plain law and walk. -/
namespace Go.Proofs.YtclicjokgfiegaaDoor
open Go.RowKit
set_option linter.unusedVariables false
set_option linter.unusedSimpArgs false

theorem sbAckFold_ok : ∀ (l : List Int) (a r : List UInt8), sbAckFold a l = (r, 0) → r = a ++ l.map (fun n => B8 n.toNat) ∧ ∀ n ∈ l, sbCoded n = true
  | [], a, r, h => by
    simp only [sbAckFold, Prod.mk.injEq, and_true] at h
    subst h
    simp
  | n :: t, a, r, h => by
    unfold sbAckFold at h
    by_cases hc : sbCoded n = false
    · rw [if_pos hc] at h; simp at h
    rw [if_neg hc] at h
    obtain ⟨h1, h2⟩ := sbAckFold_ok t _ _ h
    refine ⟨by rw [h1]; simp, ?_⟩
    intro m hm
    rcases List.mem_cons.1 hm with rfl | hm
    · simpa using hc
    · exact h2 m hm
theorem sbCodes_back : ∀ (l : List Int) (a : List Int), (∀ n ∈ l, sbCoded n = true) → sbCodes a (l.map (fun n => B8 n.toNat)) = (a ++ l, 0)
  | [], a, _ => by simp [sbCodes]
  | n :: t, a, h => by
    have hn := h n (List.mem_cons_self ..)
    have hr := (sbCoded_iff n).1 hn
    have e : ((B8 n.toNat).toNat : Int) = n := by rw [B8_toNat (by omega)]; omega
    simp only [List.map_cons, sbCodes]
    rw [e, if_neg (by simp [hn]), sbCodes_back t _ (fun m hm => h m (List.mem_cons_of_mem _ hm))]
    simp
theorem pIdB_two {id : Int} (h : pIdE id = 0) : 1 ≤ id ∧ id ≤ 65535 ∧ pIdB id = [B8 (id.toNat / 256), B8 (id.toNat % 256)] := by
  unfold pIdE at h
  by_cases hi : 1 ≤ id ∧ id ≤ 65535
  · unfold pIdB uPut2B
    rw [if_pos hi, if_neg (by omega)]
    exact ⟨hi.1, hi.2, rfl⟩
  · rw [if_neg hi] at h; simp at h
theorem sbBegin_back {id : Int} (h : pIdE id = 0) (R : List UInt8) : sbBegin (pIdB id ++ R) = (id, 0) := by
  obtain ⟨h1, h2, hp⟩ := pIdB_two h
  rw [hp]
  have b0 : bN ([B8 (id.toNat / 256), B8 (id.toNat % 256)] ++ R) 0 = id.toNat / 256 := by
    have : bN ([B8 (id.toNat / 256), B8 (id.toNat % 256)] ++ R) 0 = (B8 (id.toNat / 256)).toNat := rfl
    rw [this, B8_toNat (by omega)]
  have b1 : bN ([B8 (id.toNat / 256), B8 (id.toNat % 256)] ++ R) 1 = id.toNat % 256 := by
    have : bN ([B8 (id.toNat / 256), B8 (id.toNat % 256)] ++ R) 1 = (B8 (id.toNat % 256)).toNat := rfl
    rw [this, B8_toNat (by omega)]
  unfold sbBegin
  rw [if_neg (by simp), b0, b1]
  have e : (256 * ((id.toNat / 256 : Nat) : Int) + ((id.toNat % 256 : Nat) : Int)) = id := by omega
  rw [e, if_neg (by omega)]
theorem sbMany_ok {n : Int} (h : sbMany n = 0) : 1 ≤ n ∧ n ≤ 8 := by
  unfold sbMany at h
  split at h
  · simp at h
  · split at h
    · simp at h
    · omega
theorem sbAck_back {id : Int} {l : List Int} (h : sbAckE id l = 0) : sbOfAck (sbAckB id l) = (id, l, 0) ∧ (sbAckB id l).length ≤ 10 := by
  have hB : sbAckB id l = (sbAckFold (pIdB id) l).1 := by rw [sbAckB, if_pos h]
  unfold sbAckE at h
  by_cases h1 : pIdE id = 0
  rotate_left
  · rw [if_pos h1] at h; exact absurd h h1
  rw [if_neg (by simp [h1])] at h
  by_cases h2 : sbMany l.length = 0
  rotate_left
  · rw [if_pos h2] at h; exact absurd h h2
  rw [if_neg (by simp [h2])] at h
  obtain ⟨r, hr⟩ : ∃ r, sbAckFold (pIdB id) l = (r, 0) := ⟨(sbAckFold (pIdB id) l).1, Prod.ext rfl h⟩
  obtain ⟨hr1, hc⟩ := sbAckFold_ok l _ _ hr
  rw [hB, hr]
  simp only
  subst hr1
  have hm := sbMany_ok h2
  have hid := pIdB_two h1
  have hl : (pIdB id ++ l.map (fun n => B8 n.toNat)).length = 2 + l.length := by rw [List.length_append, hid.2.2]; simp
  have hd2 : (pIdB id ++ l.map (fun n => B8 n.toNat)).drop 2 = l.map (fun n => B8 n.toNat) := by rw [hid.2.2]; rfl
  refine ⟨?_, by rw [hl]; omega⟩
  unfold sbOfAck
  rw [sbBegin_back h1, hl, hd2, sbCodes_back l [] hc]
  have e : (((2 + l.length : Nat) : Int) - 2) = l.length := by omega
  rw [e, h2]
  simp
theorem sbAckB_short (id : Int) (l : List Int) : (sbAckB id l).length ≤ 10 := by
  by_cases h : sbAckE id l = 0
  · exact (sbAck_back h).2
  · rw [sbAckB, if_neg h]; simp

end Go.Proofs.YtclicjokgfiegaaDoor

/- The laws of wishes: what is read, there and back: plain law and walks. -/
namespace Go.Proofs.YtclicjokgfiegaaDoor
open Go.RowKit
set_option linter.unusedVariables false
set_option linter.unusedSimpArgs false

end Go.Proofs.YtclicjokgfiegaaDoor

/- The law of wishes there and back: plain law and walk. -/
namespace Go.Proofs.YtclicjokgfiegaaDoor
open Go.RowKit
set_option linter.unusedVariables false
set_option linter.unusedSimpArgs false

def wNorm (ends : Bool) (f : Wish) : Wish := (f.1, if ends = true then 0 else f.2)
def wFlat (ends : Bool) : List Wish → List UInt8
  | [] => []
  | f :: t => (sbWish ends f).1 ++ wFlat ends t
def wOk (ends : Bool) (f : Wish) : Prop := uRight (sB f.1) = true ∧ (ends = false → 0 ≤ f.2 ∧ f.2 ≤ 2)
theorem wish_ok {ends : Bool} {f : Wish} (h : (sbWish ends f).2 = 0) : wOk ends f ∧ (sbWish ends f).1 = uPutRawB (sB f.1) ++ (if ends = true then [] else [B8 f.2.toNat]) := by
  unfold sbWish at h ⊢
  by_cases h1 : ends = false ∧ (f.2 < 0 ∨ 2 < f.2)
  · rw [if_pos h1] at h; simp at h
  rw [if_neg h1] at h ⊢
  by_cases h2 : uPutE (sB f.1) = 0
  rotate_left
  · rw [if_pos h2] at h; exact absurd h h2
  rw [if_neg (by simp [h2])]
  have hr := uPutE_zero h2
  refine ⟨⟨hr, fun he => ?_⟩, by simp only; rw [uPutB, if_pos hr]⟩
  rw [not_and] at h1
  have := h1 he
  omega
theorem sbFold_ok : ∀ (ends : Bool) (l : List Wish) (a r : List UInt8), sbFold ends a l = (r, 0) → r = a ++ wFlat ends l ∧ ∀ f ∈ l, (sbWish ends f).2 = 0
  | ends, [], a, r, h => by
    simp only [sbFold, Prod.mk.injEq, and_true] at h
    subst h
    simp [wFlat]
  | ends, f :: t, a, r, h => by
    unfold sbFold at h
    by_cases hc : (sbWish ends f).2 = 0
    rotate_left
    · rw [if_pos hc] at h; simp only [Prod.mk.injEq] at h; exact absurd h.2 hc
    rw [if_neg (by simp [hc])] at h
    obtain ⟨h1, h2⟩ := sbFold_ok ends t _ _ h
    refine ⟨by rw [h1]; simp [wFlat], ?_⟩
    intro m hm
    rcases List.mem_cons.1 hm with rfl | hm
    · exact hc
    · exact h2 m hm
theorem sOf_sB2 (s : ByteArray) : sOf (sB s) = s := by cases s; simp [sOf, sB]
theorem sbRead_at {ends : Bool} {f : Wish} (h : (sbWish ends f).2 = 0) (A C : List UInt8) :
    sbRead (A ++ (sbWish ends f).1 ++ C) (A.length : Int) ends = (wNorm ends f, ((A ++ (sbWish ends f).1).length : Int), 0) := by
  obtain ⟨⟨hr, hq⟩, hw⟩ := wish_ok h
  have hlen := uRight_len hr
  rw [hw]
  have e1 : A ++ (uPutRawB (sB f.1) ++ (if ends = true then [] else [B8 f.2.toNat])) ++ C = A ++ uPutRawB (sB f.1) ++ ((if ends = true then [] else [B8 f.2.toNat]) ++ C) := by simp only [List.append_assoc]
  rw [e1]
  have hg := uGet_at A (sB f.1) ((if ends = true then [] else [B8 f.2.toNat]) ++ C) hlen
  rw [if_pos hr] at hg
  unfold sbRead
  rw [hg]
  simp only
  rw [if_neg (by simp)]
  have hl2 := uPutRawB_len hlen
  cases ends
  · obtain ⟨q0, q1⟩ := hq rfl
    have hb : bN (A ++ uPutRawB (sB f.1) ++ ((if (false : Bool) = true then [] else [B8 f.2.toNat]) ++ C)) (A.length + 2 + (sB f.1).length) = f.2.toNat := by
      have e : A.length + 2 + (sB f.1).length = (A ++ uPutRawB (sB f.1)).length + 0 := by rw [List.length_append, hl2]; omega
      rw [e, bN_append_right]
      have : bN ((if (false : Bool) = true then [] else [B8 f.2.toNat]) ++ C) 0 = (B8 f.2.toNat).toNat := rfl
      rw [this, B8_toNat (by omega)]
    have ht : ((A.length : Int) + 2 + ((sB f.1).length : Int)).toNat = A.length + 2 + (sB f.1).length := by omega
    rw [if_neg (by simp), if_neg (by simp only [List.length_append, hl2]; simp; omega), ht, hb, if_neg (by omega)]
    unfold wNorm
    rw [sOf_sB2]
    simp only [List.length_append, hl2]
    simp
    omega
  · rw [if_pos rfl]
    unfold wNorm
    rw [sOf_sB2]
    simp only [List.length_append, hl2]
    simp
    omega
theorem sbAll_back (ends : Bool) : ∀ (t : List Wish) (acc : List Wish) (A : List UInt8), acc.length + t.length ≤ 8 → (∀ f ∈ t, (sbWish ends f).2 = 0) →
    sbAll ends (A ++ wFlat ends t) (9 - acc.length) acc (A.length : Int) = (acc ++ t.map (wNorm ends), 0)
  | [], acc, A, h8, _ => by
    rw [sbAll_end (by simp at h8; omega) (by simp [wFlat])]
    simp
  | f :: t, acc, A, h8, hf => by
    have hz := hf f (List.mem_cons_self ..)
    have hL : A ++ wFlat ends (f :: t) = A ++ (sbWish ends f).1 ++ wFlat ends t := by simp [wFlat]
    have hrd := sbRead_at hz A (wFlat ends t)
    obtain ⟨⟨hr, _⟩, hw⟩ := wish_ok hz
    have hpos : 2 ≤ (sbWish ends f).1.length := by rw [hw, List.length_append, uPutRawB_len (uRight_len hr)]; omega
    simp only [List.length_cons] at h8
    rw [hL]
    rw [sbAll_more (by omega) (by simp only [List.length_append]; omega) (by rw [hrd])]
    rw [hrd]
    simp only
    have ih := sbAll_back ends t (acc ++ [wNorm ends f]) (A ++ (sbWish ends f).1) (by simp; omega) (fun g hg => hf g (List.mem_cons_of_mem _ hg))
    rw [ih]
    simp
theorem sbPut_back {id : Int} {l : List Wish} {ends : Bool} (h : sbPutE id l ends = 0) : sbOf (sbPutB id l ends) ends = (id, l.map (wNorm ends), 0) ∧ 1 ≤ l.length ∧ l.length ≤ 8 ∧ (sbPutB id l ends).length ≤ 4096 := by
  have hB : sbPutB id l ends = (sbFold ends (pIdB id) l).1 := by rw [sbPutB, if_pos h]
  unfold sbPutE at h
  by_cases h1 : pIdE id = 0
  rotate_left
  · rw [if_pos h1] at h; exact absurd h h1
  rw [if_neg (by simp [h1])] at h
  by_cases h2 : sbMany l.length = 0
  rotate_left
  · rw [if_pos h2] at h; exact absurd h h2
  rw [if_neg (by simp [h2])] at h
  by_cases h3 : (sbFold ends (pIdB id) l).2 = 0
  rotate_left
  · rw [if_pos h3] at h; exact absurd h h3
  rw [if_neg (by simp [h3])] at h
  by_cases h4 : 4096 < (sbFold ends (pIdB id) l).1.length
  · rw [if_pos h4] at h; simp at h
  obtain ⟨r, hr⟩ : ∃ r, sbFold ends (pIdB id) l = (r, 0) := ⟨(sbFold ends (pIdB id) l).1, Prod.ext rfl h3⟩
  obtain ⟨hr1, hc⟩ := sbFold_ok ends l _ _ hr
  rw [hr] at h4
  rw [hB, hr]
  simp only at h4 ⊢
  subst hr1
  have hm := sbMany_ok h2
  have hid := pIdB_two h1
  have hp2 : (pIdB id).length = 2 := by rw [hid.2.2]; rfl
  refine ⟨?_, by omega, by omega, by omega⟩
  have ha := sbAll_back ends l [] (pIdB id) (by simp; omega) hc
  rw [hp2] at ha
  unfold sbOf
  rw [sbBegin_back h1]
  have ha' : sbAll ends (pIdB id ++ wFlat ends l) 9 [] 2 = (l.map (wNorm ends), 0) := by simpa using ha
  rw [ha']
  have hne : l.map (wNorm ends) ≠ [] := by intro e; simp at e; subst e; simp at hm
  rw [if_neg (by simp), if_neg (by simp), if_neg hne]

end Go.Proofs.YtclicjokgfiegaaDoor

/- Packets: there and back; all of them: plain laws. No program. -/
namespace Go.Proofs.YtclicjokgfiegaaDoor
open Go.RowKit
set_option linter.unusedVariables false
set_option linter.unusedSimpArgs false

theorem paKinds {k f : Int} (h : hRight k f = 0) : k = 1 ∨ k = 2 ∨ k = 3 ∨ k = 4 ∨ k = 5 ∨ k = 6 ∨ k = 7 ∨ k = 8 ∨ k = 9 ∨ k = 10 ∨ k = 11 ∨ k = 12 ∨ k = 13 ∨ k = 14 := by
  obtain ⟨h1, h2, _, _⟩ := hRight_ok h
  omega
theorem sOf_sBP (s : ByteArray) : sOf (sB s) = s := by cases s; simp [sOf, sB]
theorem wNorm_f (l : List Wish) : l.map (wNorm false) = l := by
  induction l with
  | nil => rfl
  | cons f t ih => rw [List.map_cons, ih]; simp [wNorm]
theorem wNorm_t (l : List Wish) : (l.map fun f : Wish => (f.1, (0 : Int))).map (wNorm true) = l.map fun f => (f.1, 0) := by
  rw [List.map_map]
  apply List.map_congr_left
  intro f hf
  simp [wNorm]

theorem paTold_back (p : Pac) (hr : hRight p.k (paBody (paClean p)).1 = 0) (hb : (paBody (paClean p)).2.2 = 0) :
    paTold p.k (paBody (paClean p)).1 (paBody (paClean p)).2.1 = (paClean p, 0) := by
  obtain ⟨k, id, dup, tp, tx, q, rt, c, pr, code, fs, cs⟩ := p
  rcases paKinds hr with h | h | h | h | h | h | h | h | h | h | h | h | h | h <;> (have h : k = _ := h; subst h)
  · simp [paClean, paBody] at hb
    simp [paClean, paBody, paTold, con_back hb]
  · simp [paClean, paBody] at hb
    simp [paClean, paBody, paTold, aBack hb]
  · simp only [paClean, paBody] at hb hr ⊢
    simp only [if_pos, show ¬ ((3 : Int) = 1) by decide, show ¬ ((3 : Int) = 2) by decide, if_false, if_true] at hb hr ⊢
    by_cases hn : hPub dup q rt < 0
    · rw [if_pos hn] at hb; simp at hb
    · rw [if_neg hn] at hb
      obtain ⟨h1, h2, h3, h4⟩ := hPub_pos hn
      have hp := pPut_back hb
      unfold paTold
      rw [if_neg hn]
      simp only [show ¬ ((3 : Int) = 1) by decide, show ¬ ((3 : Int) = 2) by decide, if_false, if_true, h1, h2, h3]
      have hq0 : pOfQ (pPutB (sB tp) (sB tx) q (if q ≠ 0 then id else 0)) q = q := by unfold pOfQ; rw [hp]; simp
      rw [hq0, hp]
      simp [sOf_sBP]
  all_goals try (simp [paClean, paBody] at hb; simp [paClean, paBody, paTold, pId_back hb]; done)
  · simp [paClean, paBody] at hb
    obtain ⟨h1, _⟩ := sbPut_back hb
    simp [paClean, paBody, paTold, h1, wNorm_f]
  · simp [paClean, paBody] at hb
    obtain ⟨h1, _⟩ := sbAck_back hb
    simp [paClean, paBody, paTold, h1]
  · simp [paClean, paBody] at hb
    obtain ⟨h1, _⟩ := sbPut_back hb
    have hn := wNorm_t fs
    simp [paClean, paBody, paTold, h1, wNorm]
  all_goals simp [paClean, paBody, paTold]

theorem paPut_ok {p : Pac} (h : paPutE p = 0) : (paBody (paClean p)).2.2 = 0 ∧ hPutE p.k (paBody (paClean p)).1 (paBody (paClean p)).2.1.length = 0 ∧
    paPutB p = hPutB p.k (paBody (paClean p)).1 (paBody (paClean p)).2.1.length ++ (paBody (paClean p)).2.1 := by
  have hB : paPutB p = hPutB p.k (paBody (paClean p)).1 (paBody (paClean p)).2.1.length ++ (paBody (paClean p)).2.1 := by unfold paPutB; rw [if_pos h]
  unfold paPutE at h
  by_cases h0 : (paBody (paClean p)).2.2 ≠ 0
  · rw [if_pos h0] at h; exact absurd h h0
  · rw [if_neg h0] at h
    exact ⟨by simpa using h0, h, hB⟩
theorem pac_back {p : Pac} (h : paPutE p = 0) : paOf p.k (paBody (paClean p)).1 (paBody (paClean p)).2.1.length (paBody (paClean p)).2.1 = (paClean p, 0) := by
  obtain ⟨h1, h2, _⟩ := paPut_ok h
  obtain ⟨hr, _, _⟩ := hPutE_ok h2
  have ht := paTold_back p hr h1
  unfold paOf
  rw [hr, ht]
  simp
/-- A packet has few bytes. -/
theorem paPutB_len (p : Pac) : (paPutB p).length ≤ 4099 := by
  by_cases h : paPutE p = 0
  · obtain ⟨_, h2, h3⟩ := paPut_ok h
    obtain ⟨_, _, h5⟩ := hPutE_ok h2
    rw [h3, hPutB_ok h2, List.length_append, hBytes_len]
    split <;> omega
  · unfold paPutB; rw [if_neg h]; simp
theorem paPutB_bad {p : Pac} (h : paPutE p ≠ 0) : paPutB p = [] := by unfold paPutB; rw [if_neg h]

/-- The packet at a place, the place behind it, is there one, and the error. -/
def paOne (b : List UInt8) (at' : Nat) : Pac × Int × Bool × Int :=
  if (hGet b at').2.2 = 2 then (Pac.zero, 0, false, 0)
  else if (hGet b at').2.2 ≠ 0 then (Pac.zero, 0, false, (hGet b at').2.2)
  else if (b.length : Int) - (hGet b at').2.1 < (hGet b at').1.2.2 then (Pac.zero, 0, false, 0)
  else ((paOf (hGet b at').1.1 (hGet b at').1.2.1 (hGet b at').1.2.2 ((b.drop (hGet b at').2.1.toNat).take (hGet b at').1.2.2.toNat)).1, (hGet b at').2.1 + (hGet b at').1.2.2,
    decide ((paOf (hGet b at').1.1 (hGet b at').1.2.1 (hGet b at').1.2.2 ((b.drop (hGet b at').2.1.toNat).take (hGet b at').1.2.2.toNat)).2 = 0),
    (paOf (hGet b at').1.1 (hGet b at').1.2.1 (hGet b at').1.2.2 ((b.drop (hGet b at').2.1.toNat).take (hGet b at').1.2.2.toNat)).2)
def paAll : Nat → List UInt8 → Nat → List Pac × Int × Int
  | 0, b, a => ([], a, 0)
  | n + 1, b, a => if (paOne b a).2.2.1 = true then ((paOne b a).1 :: (paAll n b (paOne b a).2.1.toNat).1, (paAll n b (paOne b a).2.1.toNat).2) else ([], a, (paOne b a).2.2.2)

theorem paOne_back {p : Pac} (h : paPutE p = 0) (A C : List UInt8) : paOne (A ++ paPutB p ++ C) A.length = (paClean p, (A.length : Int) + (paPutB p).length, true, 0) := by
  obtain ⟨h1, h2, h3⟩ := paPut_ok h
  have hb := pac_back h
  have hg := hGet_back h2 A ((paBody (paClean p)).2.1 ++ C)
  rw [← List.append_assoc, List.append_assoc A, ← h3] at hg
  have hl : (paPutB p).length = (hPutB p.k (paBody (paClean p)).1 (paBody (paClean p)).2.1.length).length + (paBody (paClean p)).2.1.length := by rw [h3, List.length_append]
  unfold paOne
  rw [hg]
  simp only
  rw [if_neg (by decide), if_neg (by decide), if_neg (by simp only [List.length_append]; omega)]
  have hd : ((A ++ paPutB p ++ C).drop ((A.length : Int) + (hPutB p.k (paBody (paClean p)).1 (paBody (paClean p)).2.1.length).length).toNat).take ((paBody (paClean p)).2.1.length : Int).toNat = (paBody (paClean p)).2.1 := by
    rw [show ((A.length : Int) + (hPutB p.k (paBody (paClean p)).1 (paBody (paClean p)).2.1.length).length).toNat = (A ++ hPutB p.k (paBody (paClean p)).1 (paBody (paClean p)).2.1.length).length by rw [List.length_append]; omega]
    rw [h3, ← List.append_assoc, List.append_assoc _ _ C, List.drop_left', Int.toNat_natCast, List.take_left']
    · rfl
    · rfl
  rw [hd, hb]
  simp only [decide_true, Prod.mk.injEq, true_and, and_true]
  rw [hl]; omega

/-- What is put one behind the other. -/
def paCat : List Pac → List UInt8
  | [] => []
  | p :: t => (if paPutE p = 0 then paPutB p else []) ++ paCat t
def paWant : List Pac → List Pac
  | [] => []
  | p :: t => (if paPutE p = 0 then [paClean p] else []) ++ paWant t
theorem paOne_end (A : List UInt8) : paOne A A.length = (Pac.zero, 0, false, 0) := by
  have hg : hGet A A.length = ((0, 0, 0), 0, 2) := by unfold hGet; rw [if_neg (by omega), if_pos rfl]
  unfold paOne
  rw [hg]
  simp
theorem paAll_back : ∀ (l : List Pac) (A : List UInt8) (n : Nat), l.length < n → paAll n (A ++ paCat l) A.length = (paWant l, ((A ++ paCat l).length : Int), 0)
  | [], A, n, h => by
    obtain ⟨m, rfl⟩ : ∃ m, n = m + 1 := ⟨n - 1, by simp at h; omega⟩
    simp only [paCat, paWant, List.append_nil]
    unfold paAll
    rw [paOne_end]
    simp
  | p :: t, A, n, h => by
    obtain ⟨m, rfl⟩ : ∃ m, n = m + 1 := ⟨n - 1, by simp at h; omega⟩
    simp only [List.length_cons] at h
    unfold paCat paWant
    by_cases hp : paPutE p = 0
    · rw [if_pos hp, if_pos hp]
      have ih := paAll_back t (A ++ paPutB p) m (by omega)
      have h1 := paOne_back hp A (paCat t)
      unfold paAll
      rw [← List.append_assoc, h1]
      simp only [if_true]
      rw [show ((A.length : Int) + (paPutB p).length).toNat = (A ++ paPutB p).length by rw [List.length_append]; omega, ih]
      simp
    · rw [if_neg hp, if_neg hp]
      simpa using paAll_back t A (m + 1) (by omega)
theorem paCat_append (a b : List Pac) : paCat (a ++ b) = paCat a ++ paCat b := by
  induction a with
  | nil => rfl
  | cons p t ih => rw [List.cons_append, paCat, paCat, ih, List.append_assoc]
theorem paWant_append (a b : List Pac) : paWant (a ++ b) = paWant a ++ paWant b := by
  induction a with
  | nil => rfl
  | cons p t ih => rw [List.cons_append, paWant, paWant, ih, List.append_assoc]
end Go.Proofs.YtclicjokgfiegaaDoor

/- Packets: all of them: where the next one lies: plain laws. No program. -/
namespace Go.Proofs.YtclicjokgfiegaaDoor
open Go.RowKit
set_option linter.unusedVariables false
set_option linter.unusedSimpArgs false

theorem hGet_rngP {l : List UInt8} {a : Nat} (h : (hGet l a).2.2 = 0) : (a : Int) + 1 ≤ (hGet l a).2.1 ∧ (hGet l a).2.1 ≤ l.length ∧ 0 ≤ (hGet l a).1.2.2 ∧ (hGet l a).1.2.2 ≤ 4096 := by
  unfold hGet at h ⊢
  have hb := hLen_bounds (l.drop ((a : Int).toNat + 1))
  have hd : (l.drop ((a : Int).toNat + 1)).length = l.length - (a + 1) := by simp
  rw [hd] at hb
  repeat' split at h
  all_goals try (simp at h; done)
  all_goals try (simp only at h; omega)
  rename_i h1 h2 h3 h4 h5
  rw [if_neg h1, if_neg h2, if_neg h3, if_neg h4, if_neg h5]
  simp only
  omega
/-- One that is there lies ahead of the end, and is of bytes. -/
theorem paOne_rng {b : List UInt8} {a : Nat} (h : (paOne b a).2.2.1 = true) : (a : Int) + 1 ≤ (paOne b a).2.1 ∧ (paOne b a).2.1 ≤ b.length := by
  unfold paOne at h ⊢
  by_cases h1 : (hGet b a).2.2 = 2
  · rw [if_pos h1] at h; simp at h
  rw [if_neg h1] at h ⊢
  by_cases h2 : (hGet b a).2.2 ≠ 0
  · rw [if_pos h2] at h; simp at h
  rw [if_neg h2] at h ⊢
  by_cases h3 : (b.length : Int) - (hGet b a).2.1 < (hGet b a).1.2.2
  · rw [if_pos h3] at h; simp at h
  rw [if_neg h3] at h ⊢
  obtain ⟨r1, r2, r3, r4⟩ := hGet_rngP (l := b) (a := a) (by simpa using h2)
  simp only
  omega
theorem paAll_succ (n : Nat) (b : List UInt8) (a : Nat) : paAll (n + 1) b a = if (paOne b a).2.2.1 = true then ((paOne b a).1 :: (paAll n b (paOne b a).2.1.toNat).1, (paAll n b (paOne b a).2.1.toNat).2) else ([], (a : Int), (paOne b a).2.2.2) := rfl
/-- Fuel beyond the bytes plays no part. -/
theorem paAll_fuel (b : List UInt8) : ∀ (n m a : Nat), b.length ≤ n + a → b.length ≤ m + a → paAll (n + 1) b a = paAll (m + 1) b a := by
  intro n
  induction n with
  | zero =>
    intro m a hn hm
    have he : ¬ (paOne b a).2.2.1 = true := fun h => by have := paOne_rng h; omega
    unfold paAll
    rw [if_neg he, if_neg he]
  | succ n ih =>
    intro m a hn hm
    by_cases h : (paOne b a).2.2.1 = true
    · have hr := paOne_rng h
      obtain ⟨m', rfl⟩ : ∃ m', m = m' + 1 := ⟨m - 1, by omega⟩
      rw [paAll_succ (n + 1), paAll_succ (m' + 1), if_pos h, if_pos h, ih m' (paOne b a).2.1.toNat (by omega) (by omega)]
    · rw [paAll_succ (n + 1), paAll_succ m, if_neg h, if_neg h]
/-- All packets of bytes. -/
def paAllB (b : List UInt8) : List Pac × Int × Int := paAll (b.length + 1) b 0
/-- There are no more packets than bytes. -/
theorem paAll_len (b : List UInt8) : ∀ (n a : Nat), a ≤ b.length → (paAll n b a).1.length + a ≤ b.length := by
  intro n
  induction n with
  | zero => intro a ha; simpa [paAll] using ha
  | succ n ih =>
    intro a ha
    rw [paAll_succ]
    by_cases h : (paOne b a).2.2.1 = true
    · have hr := paOne_rng h
      have := ih (paOne b a).2.1.toNat (by omega)
      rw [if_pos h]
      simp only [List.length_cons]
      omega
    · rw [if_neg h]
      simpa using ha
theorem paAllB_len (b : List UInt8) : (paAllB b).1.length ≤ b.length := by
  have := paAll_len b (b.length + 1) 0 (Nat.zero_le _)
  unfold paAllB
  omega
end Go.Proofs.YtclicjokgfiegaaDoor

/- A region that draws its order, with movers whose order is free among two of them: the walk forks there. Of no program. -/
namespace Go.Proofs.YtclicjokgfiegaaDoor

inductive Tr where
  | done
  | still (k : Nat) (r : Tr)
  | move (k : Nat) (r : Tr)
  | fork (k1 : Nat) (r1 : Tr) (k2 : Nat) (r2 : Tr)
def Tr.len : Tr → Nat
  | .done => 0
  | .still _ r => r.len + 1
  | .move _ r => r.len + 1
  | .fork _ r1 _ _ => r1.len + 1
def Tr.isDone : Tr → Bool
  | .done => true
  | _ => false

section
variable {P : Program} {ops : Array Oper} {md : Region.Mode} {Q : Exit → Act → World → Prop} {C : World → Prop} {n : Nat}

def okT (md : Region.Mode) (ops : Array Oper) (n : Nat) : Tr → Array Bool → Bool
  | .done, listed => (Region.ready md ops listed).isEmpty
  | .still k r, listed => (Region.ready md ops listed).contains k && (Region.free md ops listed k && (decide (k < n) && okT md ops n r (listed.setIfInBounds k true)))
  | .move k r, listed => (Region.ready md ops listed == [k]) && ((decide (k < n) || r.isDone) && okT md ops n r (listed.setIfInBounds k true))
  | .fork k1 r1 k2 r2, listed => (Region.ready md ops listed == [k1, k2]) && (decide (k1 < n) && (decide (k2 < n) && (r1.len == r2.len && (okT md ops n r1 (listed.setIfInBounds k1 true) && okT md ops n r2 (listed.setIfInBounds k2 true)))))

def wpT (P : Program) (ops : Array Oper) (n : Nat) (C : World → Prop) (Q : Exit → Act → World → Prop) : Tr → Act → World → Prop
  | .done, a, w => Q .normal a w
  | .still k r, a, w => ∃ o, ops[k]? = some o ∧ ∃ v, YieldsC P ops C o v a ∧ wpT P ops n C Q r (a.put o.dst v) w
  | .move k r, a, w => wpOp P ops Q k (fun a' w' => (k < n → C w') ∧ wpT P ops n C Q r a' w') a w
  | .fork k1 r1 k2 r2, a, w => wpOp P ops Q k1 (fun a' w' => (k1 < n → C w') ∧ wpT P ops n C Q r1 a' w') a w ∧ wpOp P ops Q k2 (fun a' w' => (k2 < n → C w') ∧ wpT P ops n C Q r2 a' w') a w

theorem walk_T (hsel : ∀ (j : Nat) (o : Oper) cs b, ops[j]? = some o → o.op ≠ .select cs b) (hQ : ∀ c (a : Act) (T : Array Value) w, Q (.panic c) { a with tmps := T } w → Q (.panic c) a w)
    (hs : Region.sinkB md ops n = true) (hc : Region.chainB md ops n = true) (hn : n < ops.size) :
    ∀ (σ : Tr) (listed : Array Bool) (a : Act) (w : World), HeadInv md ops n listed → C w → okT md ops n σ listed = true → wpT P ops n C Q σ a w → wpAnyC P md ops n C Q σ.len listed a w
  | .done, listed, a, w, _, _, hok, h => ⟨by simpa [okT] using hok, h⟩
  | .still k r, listed, a, w, inv, hC, hok, h => by
    simp only [okT, Bool.and_eq_true, decide_eq_true_eq] at hok
    obtain ⟨hr, hf, hk, hok'⟩ := hok
    obtain ⟨o, ho, v, hy, hK⟩ := h
    have hr' : k ∈ Region.ready md ops listed := by simpa using hr
    exact first_C ho hsel (fun c a w h => hQ_put hQ h) hs hc hn hk r.len listed a w inv (Region.free_spec ho hf) hr' hy hC
      (walk_T hsel hQ hs hc hn r _ _ w (inv.set hr' hk) hC hok' hK)
  | .move k r, listed, a, w, inv, hC, hok, h => by
    simp only [okT, Bool.and_eq_true, beq_iff_eq] at hok
    obtain ⟨hr, hd, hok'⟩ := hok
    refine ⟨fun h0 => (by rw [hr] at h0; cases h0), fun i hi => ?_⟩
    have hi' := hi
    rw [hr] at hi
    obtain rfl : i = k := by simpa using hi
    by_cases hk : i < n
    · exact wpOp_mono (fun a' w' h' => ⟨h'.1, walk_T hsel hQ hs hc hn r _ a' w' (inv.set hi' hk) (h'.1 hk) hok' h'.2⟩) h
    · have hdone : r.isDone = true := by simpa [hk] using hd
      cases r with
      | done => exact wpOp_mono (fun a' w' h' => ⟨h'.1, by simpa [okT] using hok', h'.2⟩) h
      | still _ _ => cases hdone
      | move _ _ => cases hdone
      | fork _ _ _ _ => cases hdone
  | .fork k1 r1 k2 r2, listed, a, w, inv, hC, hok, h => by
    simp only [okT, Bool.and_eq_true, beq_iff_eq, decide_eq_true_eq] at hok
    obtain ⟨hr, hk1, hk2, hl, hok1, hok2⟩ := hok
    refine ⟨fun h0 => (by rw [hr] at h0; cases h0), fun i hi => ?_⟩
    have hi' := hi
    rw [hr] at hi
    have : i = k1 ∨ i = k2 := by simpa using hi
    rcases this with rfl | rfl
    · exact wpOp_mono (fun a' w' h' => ⟨h'.1, walk_T hsel hQ hs hc hn r1 _ a' w' (inv.set hi' hk1) (h'.1 hk1) hok1 h'.2⟩) h.1
    · have hl' : (Tr.fork k1 r1 i r2).len = r2.len + 1 := by simp [Tr.len, hl]
      exact wpOp_mono (fun a' w' h' => ⟨h'.1, by rw [hl]; exact walk_T hsel hQ hs hc hn r2 _ a' w' (inv.set hi' hk2) (h'.1 hk2) hok2 h'.2⟩) h.2

theorem wp_region_T {id : Nat} {a : Act} {w : World} (C : World → Prop) (n : Nat) (σ : Tr) (hm : P.follows .mixedOrders = true)
    (hB : (Region.noSelect ops && (Region.sinkB .any ops n && (Region.chainB .any ops n && (decide (n < ops.size) && (okT .any ops n σ (Array.replicate ops.size false) && (σ.len == ops.size)))))) = true)
    (hQ : ∀ c (a : Act) (T : Array Value) w, Q (.panic c) { a with tmps := T } w → Q (.panic c) a w) (hC : C w.drew)
    (h : wpT P ops n C Q σ a w.drew) : (Code.region id ops true).wp P Q a w := by
  simp only [Bool.and_eq_true, decide_eq_true_eq, beq_iff_eq] at hB
  obtain ⟨h1, h2, h3, h4, h5, h6⟩ := hB
  refine wp_region_any hm (wpAny_of_C _ _ _ _ (n := n) (C := C) ?_)
  have := walk_T (P := P) (Q := Q) (C := C) (Region.noSelect_spec h1) hQ h2 h3 h4 σ _ a w.drew headInv_start hC h5 h
  rw [h6] at this
  exact this

theorem wpT_still {k : Nat} {r : Tr} {o : Oper} {v : Value} {a : Act} {w : World} (ho : ops[k]? = some o) (hw : Region.wanted o (yielded ops a.tmps) = true)
    (h : ∀ w', C w' → (execOp a.eval o).run P w' = .ok (.value v) w') (hr : wpT P ops n C Q r (a.put o.dst v) w) : wpT P ops n C Q (.still k r) a w :=
  ⟨o, ho, v, .inl ⟨hw, h⟩, hr⟩
theorem wpT_skip {k : Nat} {r : Tr} {o : Oper} {a : Act} {w : World} (ho : ops[k]? = some o) (hw : Region.wanted o (yielded ops a.tmps) = false)
    (hr : wpT P ops n C Q r (a.put o.dst undef) w) : wpT P ops n C Q (.still k r) a w :=
  ⟨o, ho, undef, .inr ⟨hw, rfl⟩, hr⟩
theorem wpOp_moved {k : Nat} {r : Tr} {o : Oper} {a : Act} {w : World} (ho : ops[k]? = some o) (hw : Region.wanted o (yielded ops a.tmps) = true)
    (h : ∀ K : Act → World → Prop, (∀ a' w', (k < n → C w') → wpT P ops n C Q r a' w' → K a' w') → o.wp P a w K Q) : wpOp P ops Q k (fun a' w' => (k < n → C w') ∧ wpT P ops n C Q r a' w') a w := by
  unfold Go.wpOp
  simp only [ho, hw, if_true]
  exact .inl (h _ fun a' w' h1 h2 => ⟨h1, h2⟩)
theorem wpT_move {k : Nat} {r : Tr} {o : Oper} {a : Act} {w : World} (ho : ops[k]? = some o) (hw : Region.wanted o (yielded ops a.tmps) = true)
    (h : ∀ K : Act → World → Prop, (∀ a' w', (k < n → C w') → wpT P ops n C Q r a' w' → K a' w') → o.wp P a w K Q) : wpT P ops n C Q (.move k r) a w :=
  wpOp_moved ho hw h
theorem wpT_fork {k1 k2 : Nat} {r1 r2 : Tr} {o1 o2 : Oper} {a : Act} {w : World} (ho1 : ops[k1]? = some o1) (hw1 : Region.wanted o1 (yielded ops a.tmps) = true) (ho2 : ops[k2]? = some o2) (hw2 : Region.wanted o2 (yielded ops a.tmps) = true)
    (h1 : ∀ K : Act → World → Prop, (∀ a' w', (k1 < n → C w') → wpT P ops n C Q r1 a' w' → K a' w') → o1.wp P a w K Q)
    (h2 : ∀ K : Act → World → Prop, (∀ a' w', (k2 < n → C w') → wpT P ops n C Q r2 a' w' → K a' w') → o2.wp P a w K Q) : wpT P ops n C Q (.fork k1 r1 k2 r2) a w :=
  ⟨wpOp_moved ho1 hw1 h1, wpOp_moved ho2 hw2 h2⟩
theorem wpT_done {a : Act} {w : World} (h : Q .normal a w) : wpT P ops n C Q .done a w := h
end
end Go.Proofs.YtclicjokgfiegaaDoor

/- Packets: the one at a place: the walk. -/
namespace Go.Proofs.YtclicjokgfiegaaDoor
open Go.RowKit
set_option linter.unusedVariables false
set_option linter.unusedSimpArgs false

theorem results_cell3 {P : Program} {fn : Func} {tmps : Array Value} {a b c d : Nat} {t : TypeId} {g : Nat} {v x y z : Value} {w : World} (hf : fn.results = #[.cell a t, .tmp b, .tmp c, .tmp d]) (ha : tmps.getD a undef = .pointer (some ⟨g, 0, none⟩))
    (hl : (loadVar t ⟨g, 0, none⟩).run P w = .ok v w) (hb : tmps.getD b undef = x) (hc : tmps.getD c undef = y) (hd : tmps.getD d undef = z) : (results fn tmps).run P w = .ok (.tuple #[v, x, y, z]) w := by
  have four : ∀ (f : ResultVar → Sem Value) (x y z u : ResultVar), #[x, y, z, u].mapM f = (do let a ← f x; let b ← f y; let c ← f z; let d ← f u; pure #[a, b, c, d]) := fun f x y z u => by simp
  unfold results
  rw [hf, four]
  simp only [Sem.run_bind, Sem.run_pure, ha, asAddr, Result.andThen_ok, hl, hb, hc, hd]
  rfl
/-- What one leaves. -/
def GivesOne (w : World) (r : Pac × Int × Bool × Int) (e : Ending) (w' : World) : Prop :=
  ∃ vf vc, e = .returned (.tuple #[.agg (r.1.cells vf vc).toArray, .int .i64 r.2.1, .bool r.2.2.1, .int .i64 r.2.2.2]) ∧ PacOwn w.heap.size w' r.1 vf vc ∧ Below w.heap.size w w'
set_option maxRecDepth 100000 in
theorem alloc_head (W : World) : (Instr.alloc 72 true (.tuple #[])).run Tryd.prog W = .ok (.pointer (some ⟨W.heap.size, 0, none⟩)) (W.alloc (.cells [.int .i64 0, .int .i64 0, .int .i64 0].toArray 72)) := by
  simp [Instr.alloc, newVar, go_sem]
theorem info_head : (Tryd.prog.info? 72).map (·.size) = some 3 := by kernel_rfl
set_option maxRecDepth 100000 in
set_option maxHeartbeats 8000000 in
theorem one16_c (v : Value) (l : List UInt8) (a : Nat) (w : World) (hv : Bs w v l) (hl : l.length ≤ 140737488351232) (hH : EnvH w) (hE : EnvU w) :
    Calls Tryd.prog 66 #[v, .int .i64 a] w (GivesOne w (paOne l a)) := by
  have HE := hd hE; have HH := hd hH; have HV := hd hv
  clear hE hH
  obtain ⟨va, vn, rfl⟩ := hv.slice
  clear hv
  have hO : paOne l a = paOne l a := rfl
  conv at hO => rhs; rw [paOne]
  have hrg := @hGet_rngP l a
  generalize paOne l a = R at hO ⊢
  have HO := hd hO
  clear hO
  go_enter Tryd.func66, Tryd.ntmps66
  go_wp2_with (first
    | (with_reducible refine wpl_alloc (o := ⟨some 4, .alloc 29, _, _, _, _⟩) rfl _ rfl (zK 0) alloc_pac _ rfl ?_; intro w1 h1 f1 b1 z1))
  refine (hGet_c _ l a _ (HH.out.below b1 (Nat.le_refl _)) (HV.out.below' b1 (Nat.le_refl _))).mono ?_
  have hO := HO.out
  clear HO
  generalize hGet l a = r at hO hrg ⊢
  obtain ⟨⟨k, f, n⟩, q, E⟩ := r
  simp only at hO hrg
  have HO := hd hO; have HR := hd hrg
  clear hO hrg
  rintro e w2 ⟨rfl, hb2⟩
  have hz2 := hb2.size
  replace h1 := h1.keep hb2 h1.lt
  replace f1 := f1.keep hb2 (by omega)
  have B2 := Below.up b1 hb2
  have honeh : ∀ v ∈ ([.int .i64 k, .int .i64 f, .int .i64 n] : List Value), v.oneCell' = true := by intro v hv; simp at hv; rcases hv with rfl | rfl | rfl <;> rfl
  by_cases hE2 : E = 2
  · subst hE2
    have hr : R = (Pac.zero, 0, false, 0) := by rw [HO.out, if_pos rfl]
    go_wp2_with (first
      | (with_reducible refine wpl_alloc (o := ⟨some 8, .alloc 72, _, _, _, _⟩) rfl _ rfl [.int .i64 0, .int .i64 0, .int .i64 0] alloc_head _ rfl ?_; intro w3 h3 f3 b3 z3; replace h1 := h1.keep b3 (by omega); replace f1 := f1.keep b3 (by omega); have B3 := Below.up B2 b3)
      | ((with_reducible refine wpl_at (o := ⟨none, .store 72 (.tmp 8) (.tmp 16), _, _, _, _⟩) ?_); refine wpl_storeAll rfl rfl _ _ _ rfl w2.heap.size [.int .i64 k, .int .i64 f, .int .i64 n] [.int .i64 0, .int .i64 0, .int .i64 0] rfl rfl info_head honeh h3 rfl f3 ?_; intro w4 h4 f4 k4 z4; replace h1 := h1.keeps k4 (by simp; omega); replace f1 := f1.keeps k4 (by omega) (by simp; omega); have B4 := B3.trans (k4.toBelow B3.size (by simp; omega)); have K4 : Keeps [] w2 w4 := (Keeps.below b3).next k4 (by intro i hi; simp at hi; subst hi; exact .inr (Nat.le_refl _)); have c2 := h4.at 2 (u := .int .i64 n) rfl)
      | ((with_reducible refine wpl_at (o := ⟨none, .store 29 (.tmp 4) (.tmp 22), _, _, _, _⟩) ?_); refine wpl_storeAll rfl rfl _ _ _ rfl w.heap.size (zK 0) (zK 0) rfl rfl info_pac (zK_one 0) h1 rfl f1 ?_; intro w9 h9 f9 k9 z9))
    rw [hr]
    refine bodyPost_ret (v := .tuple #[.agg (Pac.zero.cells Nl Nl).toArray, .int .i64 (0), .bool false, .int .i64 (0)]) (results_cell3 Tryd.results66 rfl (ret_pac h9 rfl) rfl rfl rfl) rfl ?_
    exact ⟨Nl, Nl, rfl, PacOwn.nil (p := Pac.zero) _ _ rfl rfl, B4.trans (k9.toBelow B4.size (by simp))⟩
  have hE2b : (E == 2) = false := by simpa using hE2
  by_cases hE0 : E = 0
  rotate_left
  · have hE0b : (E != 0) = true := by simpa using hE0
    have hr : R = (Pac.zero, 0, false, E) := by rw [HO.out, if_neg hE2, if_pos hE0]
    clear hE2 hE0
    go_wp2_with (first
      | (with_reducible refine wpl_alloc (o := ⟨some 8, .alloc 72, _, _, _, _⟩) rfl _ rfl [.int .i64 0, .int .i64 0, .int .i64 0] alloc_head _ rfl ?_; intro w3 h3 f3 b3 z3; replace h1 := h1.keep b3 (by omega); replace f1 := f1.keep b3 (by omega); have B3 := Below.up B2 b3)
      | ((with_reducible refine wpl_at (o := ⟨none, .store 72 (.tmp 8) (.tmp 16), _, _, _, _⟩) ?_); refine wpl_storeAll rfl rfl _ _ _ rfl w2.heap.size [.int .i64 k, .int .i64 f, .int .i64 n] [.int .i64 0, .int .i64 0, .int .i64 0] rfl rfl info_head honeh h3 rfl f3 ?_; intro w4 h4 f4 k4 z4; replace h1 := h1.keeps k4 (by simp; omega); replace f1 := f1.keeps k4 (by omega) (by simp; omega); have B4 := B3.trans (k4.toBelow B3.size (by simp; omega)); have K4 : Keeps [] w2 w4 := (Keeps.below b3).next k4 (by intro i hi; simp at hi; subst hi; exact .inr (Nat.le_refl _)); have c2 := h4.at 2 (u := .int .i64 n) rfl)
      | ((with_reducible refine wpl_at (o := ⟨none, .store 29 (.tmp 4) (.tmp 26), _, _, _, _⟩) ?_); refine wpl_storeAll rfl rfl _ _ _ rfl w.heap.size (zK 0) (zK 0) rfl rfl info_pac (zK_one 0) h1 rfl f1 ?_; intro w9 h9 f9 k9 z9))
    rw [hr]
    refine bodyPost_ret (v := .tuple #[.agg (Pac.zero.cells Nl Nl).toArray, .int .i64 (0), .bool false, .int .i64 (E)]) (results_cell3 Tryd.results66 rfl (ret_pac h9 rfl) rfl rfl rfl) rfl ?_
    exact ⟨Nl, Nl, rfl, PacOwn.nil (p := Pac.zero) _ _ rfl rfl, B4.trans (k9.toBelow B4.size (by simp))⟩
  subst hE0
  obtain ⟨r1, r2, r3, r4⟩ := HR.out rfl
  have hwr : IntKind.i64.wrap ((l.length : Int) - q) = (l.length : Int) - q := IntWalk.i64_in _ (by omega)
  by_cases hn : (l.length : Int) - q < n
  · have hr : R = (Pac.zero, 0, false, 0) := by rw [HO.out, if_neg (by decide), if_neg (by simp), if_pos hn]
    go_wp2_with (first
      | (with_reducible refine wpl_alloc (o := ⟨some 8, .alloc 72, _, _, _, _⟩) rfl _ rfl [.int .i64 0, .int .i64 0, .int .i64 0] alloc_head _ rfl ?_; intro w3 h3 f3 b3 z3; replace h1 := h1.keep b3 (by omega); replace f1 := f1.keep b3 (by omega); have B3 := Below.up B2 b3)
      | ((with_reducible refine wpl_at (o := ⟨none, .store 72 (.tmp 8) (.tmp 16), _, _, _, _⟩) ?_); refine wpl_storeAll rfl rfl _ _ _ rfl w2.heap.size [.int .i64 k, .int .i64 f, .int .i64 n] [.int .i64 0, .int .i64 0, .int .i64 0] rfl rfl info_head honeh h3 rfl f3 ?_; intro w4 h4 f4 k4 z4; replace h1 := h1.keeps k4 (by simp; omega); replace f1 := f1.keeps k4 (by omega) (by simp; omega); have B4 := B3.trans (k4.toBelow B3.size (by simp; omega)); have K4 : Keeps [] w2 w4 := (Keeps.below b3).next k4 (by intro i hi; simp at hi; subst hi; exact .inr (Nat.le_refl _)); have c2 := h4.at 2 (u := .int .i64 n) rfl)
      | ((with_reducible refine wpl_at (o := ⟨none, .store 29 (.tmp 4) (.tmp 36), _, _, _, _⟩) ?_); refine wpl_storeAll rfl rfl _ _ _ rfl w.heap.size (zK 0) (zK 0) rfl rfl info_pac (zK_one 0) h1 rfl f1 ?_; intro w9 h9 f9 k9 z9))
    rw [hr]
    refine bodyPost_ret (v := .tuple #[.agg (Pac.zero.cells Nl Nl).toArray, .int .i64 (0), .bool false, .int .i64 (0)]) (results_cell3 Tryd.results66 rfl (ret_pac h9 rfl) rfl rfl rfl) rfl ?_
    exact ⟨Nl, Nl, rfl, PacOwn.nil (p := Pac.zero) _ _ rfl rfl, B4.trans (k9.toBelow B4.size (by simp))⟩
  have hlt := HO.out
  clear HO
  obtain ⟨qn, rfl⟩ := Int.eq_ofNat_of_zero_le (show 0 ≤ q by omega)
  obtain ⟨nn, rfl⟩ := Int.eq_ofNat_of_zero_le r3
  have hr : R = ((paOf k f nn ((l.drop qn).take nn)).1, (qn : Int) + nn, decide ((paOf k f nn ((l.drop qn).take nn)).2 = 0), (paOf k f nn ((l.drop qn).take nn)).2) := by
    rw [hlt, if_neg (by decide), if_neg (by simp), if_neg hn, Int.toNat_natCast, Int.toNat_natCast]
  have HRR := hd hr
  clear hlt hr
  have hwr2 : IntKind.i64.wrap ((qn : Int) + nn) = (qn : Int) + nn := IntWalk.i64_in _ (by omega)
  obtain ⟨pa, pc, hrun, hpart⟩ := run_part HV.out (qn : Int) ((qn : Int) + nn) qn (qn + nn) rfl (by push_cast; rfl) (by omega) (by omega)
  rw [show qn + nn - qn = nn by omega] at hrun hpart
  have hbl : ((l.drop qn).take nn).length = nn := by rw [List.length_take, List.length_drop]; omega
  generalize (l.drop qn).take nn = body at *
  go_wp2_with (first
    | (with_reducible refine wpl_alloc (o := ⟨some 8, .alloc 72, _, _, _, _⟩) rfl _ rfl [.int .i64 0, .int .i64 0, .int .i64 0] alloc_head _ rfl ?_; intro w3 h3 f3 b3 z3; replace h1 := h1.keep b3 (by omega); replace f1 := f1.keep b3 (by omega); have B3 := Below.up B2 b3)
    | ((with_reducible refine wpl_at (o := ⟨none, .store 72 (.tmp 8) (.tmp 16), _, _, _, _⟩) ?_); refine wpl_storeAll rfl rfl _ _ _ rfl w2.heap.size [.int .i64 k, .int .i64 f, .int .i64 nn] [.int .i64 0, .int .i64 0, .int .i64 0] rfl rfl info_head honeh h3 rfl f3 ?_; intro w4 h4 f4 k4 z4; replace h1 := h1.keeps k4 (by simp; omega); replace f1 := f1.keeps k4 (by omega) (by simp; omega); have B4 := B3.trans (k4.toBelow B3.size (by simp; omega)); have K4 : Keeps [] w2 w4 := (Keeps.below b3).next k4 (by intro i hi; simp at hi; subst hi; exact .inr (Nat.le_refl _)); have c2 := h4.at 2 (u := .int .i64 nn) rfl))
  have D1 := (hpart.below' B4 (Nat.le_refl _)).below' ((Below.refl w4.heap.size _).drew) (Nat.le_refl _)
  have D2 := h4.drew
  have h1d := h1.drew
  have f1d := f1.drew
  have B5 := B4.drew
  have hz5 : w4.drew.heap.size = w4.heap.size := rfl
  refine wp_region_T (fun W => Bs W (.slice pa nn pc) body ∧ At W w2.heap.size [.int .i64 k, .int .i64 f, .int .i64 nn]) 16 (.still 0 (.still 1 (.still 2 (.still 3 (.still 4 (.still 5 (.still 6 (.still 7 (.still 8 (.still 9 (.fork 10 (.still 11 (.still 12 (.still 13 (.move 14 (.move 15 (.move 16 .done)))))) 14 (.move 10 (.still 11 (.still 12 (.still 13 (.move 15 (.move 16 .done)))))))))))))))))  (by kernel_rfl) (by kernel_rfl) (fun _ _ _ _ h => h) ⟨D1, D2⟩ ?_
  clear h1 f1 h4 f4 c2 B4 B3 K4
  generalize w4.drew = w5 at *
  apply wpT_still (by rfl) (by rfl)
  · intro W hC
    exact still_loadAt _ _ rfl w2.heap.size 0 rfl [.int .i64 k, .int .i64 f, .int .i64 nn] _ (At.range hC.2) Tryd.underlying72 rfl info_head
  go_simp
  apply wpT_still (by rfl) (by rfl)
  · intro W hC
    go_simp
    rfl
  go_simp
  apply wpT_still (by rfl) (by rfl)
  · intro W hC
    go_simp
    rfl
  go_simp
  apply wpT_still (by rfl) (by rfl)
  · intro W hC
    go_simp
    rfl
  go_simp
  apply wpT_still (by rfl) (by rfl)
  · intro W hC
    go_simp
    rfl
  go_simp
  apply wpT_still (by rfl) (by rfl)
  · intro W hC
    have d := At.at hC.2 2 (u := .int .i64 nn) rfl
    go_simp
    rfl
  go_simp
  apply wpT_still (by rfl) (by rfl)
  · intro W hC
    go_simp
    rfl
  go_simp
  apply wpT_still (by rfl) (by rfl)
  · intro W hC
    go_simp
    rfl
  go_simp
  apply wpT_still (by rfl) (by rfl)
  · intro W hC
    have d := run_str hC.1
    go_simp
    rfl
  go_simp
  apply wpT_still (by rfl) (by rfl)
  · intro W hC
    go_simp
    rfl
  go_simp
  have hpo := packOf_c k f nn (sOf body)
  rw [show sB (sOf body) = body from rfl] at hpo
  obtain ⟨P, E', hPE⟩ : ∃ P E', paOf k f nn body = (P, E') := ⟨_, _, rfl⟩
  rw [hPE] at hpo HRR
  have HPO := hd hpo
  clear hpo hPE
  have hbz : (sOf body).size ≤ 140737488351232 := by rw [sOf_sizeP]; omega
  refine wpT_fork (by rfl) (by rfl) (by rfl) (by rfl) ?_ ?_
  · intro K hK
    go_simp
    refine (HPO.out _ hbz (HH.out.below B5 (Nat.le_refl _)) (HE.out.below B5)).mono ?_
    rintro e w6 ⟨vf, vc, rfl, hr6, hb6⟩
    go_simp
    have hz6 := hb6.size
    have E2 := D2.keep hb6 D2.lt
    replace h1d := h1d.keep hb6 h1d.lt
    replace f1d := f1d.keep hb6 (by omega)
    have B6 := B5.trans (hb6.mono B5.size)
    refine hK _ _ (fun _ => ⟨hpart.below' B6 (Nat.le_refl _), E2⟩) ?_
    clear hK K D1 D2
    have hone := Pac.one P vf vc hr6.rd.f.oneCell hr6.rd.c.oneCell
    apply wpT_still (by rfl) (by rfl)
    · intro W hC
      go_simp
      rfl
    go_simp
    apply wpT_still (by rfl) (by rfl)
    · intro W hC
      go_simp
      rfl
    go_simp
    apply wpT_still (by rfl) (by rfl)
    · intro W hC
      go_simp
      rfl
    go_simp
    apply wpT_move (by rfl) (by rfl)
    intro K hK
    go_simp
    have b7 := (Below.refl w6.heap.size w6).alloc (Nat.le_refl _) (.cells (zK 0).toArray 29)
    have h7 : At (w6.alloc (.cells (zK 0).toArray 29)) w6.heap.size (zK 0) := At.new _ _ _
    have f7 : Free (w6.alloc (.cells (zK 0).toArray 29)) w6.heap.size := Free.new _ _ _
    have z7 : (w6.alloc (.cells (zK 0).toArray 29)).heap.size = w6.heap.size + 1 := by simp [go_sem]
    have F2 := E2.keep b7 E2.lt
    replace h1d := h1d.keep b7 h1d.lt
    replace f1d := f1d.keep b7 (by omega)
    have B7 := B6.trans (b7.mono B6.size)
    have hr7 := hr6.kept b7 (Nat.le_refl _)
    refine hK _ (w6.alloc (.cells (zK 0).toArray 29)) (fun _ => ⟨hpart.below' B7 (Nat.le_refl _), F2⟩) ?_
    clear hK K E2
    generalize w6.alloc (.cells (zK 0).toArray 29) = w7 at *
    apply wpT_move (by rfl) (by rfl)
    intro K hK
    refine wpo_storeMid rfl _ _ _ rfl w6.heap.size 0 (P.cells vf vc) (zK 0) (P.cells vf vc) rfl rfl info_pac hone h7 rfl (by show 0 + 24 ≤ 24; decide) f7 ?_
    intro w8 h8 f8 k8 z8
    have G2 := F2.keeps k8 (by simp; omega)
    replace h1d := h1d.keeps k8 (by simp; omega)
    replace f1d := f1d.keeps k8 (by omega) (by simp; omega)
    have B8 := B7.trans (k8.toBelow B7.size (by simp; omega))
    have K68 : Keeps [] w6 w8 := (Keeps.below b7).next k8 (by intro i hi; simp at hi; subst hi; exact .inr (Nat.le_refl _))
    have hr8 := hr6.keeps K68 (by simp)
    refine hK _ _ (fun _ => ⟨hpart.below' B8 (Nat.le_refl _), G2⟩) ?_
    clear hK K F2 h7 f7
    apply wpT_move (by rfl) (by rfl)
    intro K hK
    go_simp
    refine hK _ _ (fun h => absurd h (by decide)) ?_
    clear hK K
    refine wpT_done ?_
    go_wp2_with fail
    have H8 := h8.drew
    have G2d := G2.drew
    have h1e := h1d.drew
    have f1e := f1d.drew
    have B9 := B8.drew
    have K9 : Keeps [] w8 w8.drew := (Keeps.refl _ _).drew
    have hr9 := hr8.keeps K9 (by simp)
    have hz9 : w8.drew.heap.size = w8.heap.size := rfl
    refine wp_region_M (fun W => At W (w6.heap.size) (P.cells vf vc) ∧ At W w2.heap.size [.int .i64 k, .int .i64 f, .int .i64 nn]) 11 [(0, false), (1, false), (2, false), (3, false), (4, false), (5, false), (6, false), (7, false), (8, true), (9, false), (10, false), (11, true)] (by kernel_rfl) (by kernel_rfl) (fun _ _ _ _ h => h) ⟨H8, G2d⟩ ?_
    clear h1d f1d h8 f8 G2 B8 hr8
    generalize w8.drew = w9 at *
    apply wpM_still (by rfl) (by rfl)
    · intro W hC
      exact still_loadAt _ _ rfl (w6.heap.size) 0 rfl (P.cells vf vc) _ (At.range hC.1) Tryd.underlying29 rfl info_pac
    go_simp
    apply wpM_still (by rfl) (by rfl)
    · intro W hC
      go_simp
      rfl
    go_simp
    apply wpM_still (by rfl) (by rfl)
    · intro W hC
      go_simp
      rfl
    go_simp
    apply wpM_still (by rfl) (by rfl)
    · intro W hC
      have d := At.at hC.2 2 (u := .int .i64 nn) rfl
      go_simp
      rfl
    go_simp
    apply wpM_still (by rfl) (by rfl)
    · intro W hC
      go_simp
      rfl
    go_simp
    apply wpM_still (by rfl) (by rfl)
    · intro W hC
      go_simp
      rfl
    go_simp
    apply wpM_still (by rfl) (by rfl)
    · intro W hC
      go_simp
      rfl
    go_simp
    apply wpM_still (by rfl) (by rfl)
    · intro W hC
      go_simp
      rfl
    go_simp
    apply wpM_move (by rfl) (by rfl)
    intro K hK
    refine wpo_storeMid rfl _ _ _ rfl w.heap.size 0 (P.cells vf vc) (zK 0) (P.cells vf vc) rfl rfl info_pac hone h1e rfl (by show 0 + 24 ≤ 24; decide) f1e ?_
    intro wa ha fa ka za
    refine hK _ _ (fun _ => ⟨H8.keeps ka (by simp; omega), G2d.keeps ka (by simp; omega)⟩) ?_
    clear hK K
    have Ba := B9.trans (ka.toBelow B9.size (by simp))
    have hra := hr9.keeps ka (by intro i hi; simp at hi; omega)
    apply wpM_still (by rfl) (by rfl)
    · intro W hC
      go_simp
      rfl
    go_simp
    apply wpM_still (by rfl) (by rfl)
    · intro W hC
      go_simp
      rfl
    go_simp
    apply wpM_move (by rfl) (by rfl)
    intro K hK
    go_simp
    refine hK _ _ (fun h => absurd h (by decide)) ?_
    clear hK K
    refine wpM_nil ?_
    go_wp2_with fail
    rw [HRR.out]
    refine bodyPost_ret (v := .tuple #[.agg (P.cells vf vc).toArray, .int .i64 ((qn : Int) + nn), .bool (decide (E' = 0)), .int .i64 E']) (results_cell3 Tryd.results66 rfl (ret_pac ha rfl) rfl rfl rfl) rfl ?_
    exact ⟨vf, vc, rfl, hra.le (by omega), Ba⟩
  · intro K hK
    go_simp
    have b6 := (Below.refl w5.heap.size w5).alloc (Nat.le_refl _) (.cells (zK 0).toArray 29)
    have h6 : At (w5.alloc (.cells (zK 0).toArray 29)) w5.heap.size (zK 0) := At.new _ _ _
    have f6 : Free (w5.alloc (.cells (zK 0).toArray 29)) w5.heap.size := Free.new _ _ _
    have z6 : (w5.alloc (.cells (zK 0).toArray 29)).heap.size = w5.heap.size + 1 := by simp [go_sem]
    have E2 := D2.keep b6 D2.lt
    replace h1d := h1d.keep b6 h1d.lt
    replace f1d := f1d.keep b6 (by omega)
    have B6 := B5.trans (b6.mono B5.size)
    refine hK _ (w5.alloc (.cells (zK 0).toArray 29)) (fun _ => ⟨hpart.below' B6 (Nat.le_refl _), E2⟩) ?_
    clear hK K D1 D2
    generalize w5.alloc (.cells (zK 0).toArray 29) = w6 at *
    have hg : w5.heap.size = w2.heap.size + 1 := by omega
    rw [hg] at h6 f6
    apply wpT_move (by rfl) (by rfl)
    intro K hK
    go_simp
    refine (HPO.out _ hbz (HH.out.below B6 (Nat.le_refl _)) (HE.out.below B6)).mono ?_
    rintro e w7 ⟨vf, vc, rfl, hr7, hb7⟩
    go_simp
    have hz7 := hb7.size
    have F2 := E2.keep hb7 E2.lt
    replace h1d := h1d.keep hb7 h1d.lt
    replace f1d := f1d.keep hb7 (by omega)
    have h7 := h6.keep hb7 h6.lt
    have f7 := f6.keep hb7 (by omega)
    have B7 := B6.trans (hb7.mono B6.size)
    refine hK _ _ (fun _ => ⟨hpart.below' B7 (Nat.le_refl _), F2⟩) ?_
    clear hK K E2 h6 f6
    have hone := Pac.one P vf vc hr7.rd.f.oneCell hr7.rd.c.oneCell
    apply wpT_still (by rfl) (by rfl)
    · intro W hC
      go_simp
      rfl
    go_simp
    apply wpT_still (by rfl) (by rfl)
    · intro W hC
      go_simp
      rfl
    go_simp
    apply wpT_still (by rfl) (by rfl)
    · intro W hC
      go_simp
      rfl
    go_simp
    apply wpT_move (by rfl) (by rfl)
    intro K hK
    refine wpo_storeMid rfl _ _ _ rfl (w2.heap.size + 1) 0 (P.cells vf vc) (zK 0) (P.cells vf vc) rfl rfl info_pac hone h7 rfl (by show 0 + 24 ≤ 24; decide) f7 ?_
    intro w8 h8 f8 k8 z8
    have G2 := F2.keeps k8 (by simp)
    replace h1d := h1d.keeps k8 (by simp; omega)
    replace f1d := f1d.keeps k8 (by omega) (by simp; omega)
    have B8 := B7.trans (k8.toBelow B7.size (by simp; omega))
    have hr8 := hr7.keeps k8 (by intro i hi; simp at hi; omega)
    refine hK _ _ (fun _ => ⟨hpart.below' B8 (Nat.le_refl _), G2⟩) ?_
    clear hK K F2 h7 f7
    apply wpT_move (by rfl) (by rfl)
    intro K hK
    go_simp
    refine hK _ _ (fun h => absurd h (by decide)) ?_
    clear hK K
    refine wpT_done ?_
    go_wp2_with fail
    have H8 := h8.drew
    have G2d := G2.drew
    have h1e := h1d.drew
    have f1e := f1d.drew
    have B9 := B8.drew
    have K9 : Keeps [] w8 w8.drew := (Keeps.refl _ _).drew
    have hr9 := hr8.keeps K9 (by simp)
    have hz9 : w8.drew.heap.size = w8.heap.size := rfl
    refine wp_region_M (fun W => At W (w2.heap.size + 1) (P.cells vf vc) ∧ At W w2.heap.size [.int .i64 k, .int .i64 f, .int .i64 nn]) 11 [(0, false), (1, false), (2, false), (3, false), (4, false), (5, false), (6, false), (7, false), (8, true), (9, false), (10, false), (11, true)] (by kernel_rfl) (by kernel_rfl) (fun _ _ _ _ h => h) ⟨H8, G2d⟩ ?_
    clear h1d f1d h8 f8 G2 B8 hr8
    generalize w8.drew = w9 at *
    apply wpM_still (by rfl) (by rfl)
    · intro W hC
      exact still_loadAt _ _ rfl (w2.heap.size + 1) 0 rfl (P.cells vf vc) _ (At.range hC.1) Tryd.underlying29 rfl info_pac
    go_simp
    apply wpM_still (by rfl) (by rfl)
    · intro W hC
      go_simp
      rfl
    go_simp
    apply wpM_still (by rfl) (by rfl)
    · intro W hC
      go_simp
      rfl
    go_simp
    apply wpM_still (by rfl) (by rfl)
    · intro W hC
      have d := At.at hC.2 2 (u := .int .i64 nn) rfl
      go_simp
      rfl
    go_simp
    apply wpM_still (by rfl) (by rfl)
    · intro W hC
      go_simp
      rfl
    go_simp
    apply wpM_still (by rfl) (by rfl)
    · intro W hC
      go_simp
      rfl
    go_simp
    apply wpM_still (by rfl) (by rfl)
    · intro W hC
      go_simp
      rfl
    go_simp
    apply wpM_still (by rfl) (by rfl)
    · intro W hC
      go_simp
      rfl
    go_simp
    apply wpM_move (by rfl) (by rfl)
    intro K hK
    refine wpo_storeMid rfl _ _ _ rfl w.heap.size 0 (P.cells vf vc) (zK 0) (P.cells vf vc) rfl rfl info_pac hone h1e rfl (by show 0 + 24 ≤ 24; decide) f1e ?_
    intro wa ha fa ka za
    refine hK _ _ (fun _ => ⟨H8.keeps ka (by simp; omega), G2d.keeps ka (by simp; omega)⟩) ?_
    clear hK K
    have Ba := B9.trans (ka.toBelow B9.size (by simp))
    have hra := hr9.keeps ka (by intro i hi; simp at hi; omega)
    apply wpM_still (by rfl) (by rfl)
    · intro W hC
      go_simp
      rfl
    go_simp
    apply wpM_still (by rfl) (by rfl)
    · intro W hC
      go_simp
      rfl
    go_simp
    apply wpM_move (by rfl) (by rfl)
    intro K hK
    go_simp
    refine hK _ _ (fun h => absurd h (by decide)) ?_
    clear hK K
    refine wpM_nil ?_
    go_wp2_with fail
    rw [HRR.out]
    refine bodyPost_ret (v := .tuple #[.agg (P.cells vf vc).toArray, .int .i64 ((qn : Int) + nn), .bool (decide (E' = 0)), .int .i64 E']) (results_cell3 Tryd.results66 rfl (ret_pac ha rfl) rfl rfl rfl) rfl ?_
    exact ⟨vf, vc, rfl, hra.le (by omega), Ba⟩
end Go.Proofs.YtclicjokgfiegaaDoor

/- From a walk to a law's statement: what a law leaves behind, argument by argument; what a listed variable reads as. Of no function of the program. -/
namespace Go.Proofs.YtclicjokgfiegaaDoor
open Go.ChangeShapes Go.WideShapes Go.ChangeAt Go.RowKit

section
variable {H : Type} {enc : TypeId × Value → H} {P : Program}

/-- Every argument reads behind the call as it did, if nothing that was there has turned. -/
theorem trodAll_below (hl : laidOutB P = true) {W W' : World} (hb : Below W.heap.size W W') :
    ∀ (ts : List TypeId) (vs : List Value) (ds : List (DataW H)) (p : List MemPlace), (ts.all fun t => P.readableRec t && decide (t < P.types.size)) = true →
      DataW.TrodAll enc P W 0 (fun _ => true) true ts vs ds p → (∀ x ∈ p, x.block < W.heap.size) → DataW.TrodAll enc P W' 0 (fun b => decide (b < W.heap.size)) true ts vs ds p
  | [], [], [], _, _, h, _ => h
  | t :: ts, v :: vs, d :: ds, p, hr, h, hp => by
    obtain ⟨p1, q, h1, h2, rfl⟩ := h
    simp only [List.all_cons, Bool.and_eq_true, decide_eq_true_eq] at hr
    exact ⟨p1, q, Below.trod hl hr.1.1 hr.1.2 h1 hb (fun x hx => hp x (by simp [hx])),
      trodAll_below hl hb ts vs ds q (by simpa using hr.2) h2 (fun x hx => hp x (by simp [hx])), rfl⟩
  | [], _ :: _, _, _, _, h, _ => by cases h
  | [], [], _ :: _, _, _, h, _ => by cases h
  | _ :: _, [], _, _, _, h, _ => by cases h
  | _ :: _, _ :: _, [], _, _, h, _ => by cases h

/-- A LAW's END: it returns true; nothing that was there has turned. -/
theorem post_law {f : Func} {s : ChangeSpec} {W W' : World} {args : Array Value} {ds gs : List (DataW H)} {before : List MemPlace} {T : TypeId}
    (hl : laidOutB P = true) (hT : P.underlying T = some .bool) (hres : f.resultTypes = #[T]) (hvars : s.vars = [])
    (hread : (f.params.toList.all fun t => P.readableRec t && decide (t < P.types.size)) = true)
    (hW : DataW.Whole enc P f.params.toList s.vars false W args.toList ds gs before) (hfn : s.fn H (ds ++ gs) = { results := [.lit (.bool true)], args := ds })
    (hb : Below W.heap.size W W') : s.post enc P f false true false false W args (.bool true) W' := by
  have hW' := hW
  obtain ⟨p, q, hA, hV, rfl, hfz, hnd⟩ := hW
  rw [hvars] at hV
  obtain ⟨rfl, rfl⟩ := trodVars_none hV
  have hlt : ∀ x ∈ p, x.block < W.heap.size := fun x hx => by simpa using hW'.lt x (by simpa using hx)
  refine ⟨ds, [], p ++ [], [], p, [], hW', ?_, ?_, ?_, hb.frame _, fun h => by cases h⟩
  · rw [hfn, hres]
    exact trodAll_cons_mk (shut_bool hT _) trodAll_mk0
  · rw [hfn]
    exact trodAll_below hl hb _ _ _ _ hread hA hlt
  · rw [hvars, hfn]
    rfl

/-! ### A listed variable that is an array of plain literals -/
theorem bytes_eta (s : ByteArray) : (⟨s.data.toList.toArray⟩ : ByteArray) = s := by cases s; simp
def litV : Lit → Value
  | .bool b => .bool b
  | .int k n => .int k n
  | .float k b => .float k b
  | .string l => .string ⟨l.toArray⟩
  | .nil => undef

theorem cell_of_lit {w : World} {base : Nat} {sp : Nat → Bool} {held : Bool} {fuel : Nat} {e : TypeId} {cs : List Value} {l : Lit} {p : List MemPlace} (he : P.underlying e = some .bool ∨ (∃ k, P.underlying e = some (.int k)) ∨ P.underlying e = some .string)
    (h : DataW.trod enc P w base sp held fuel e cs = some (.lit l, p)) : cs = [litV l] := by
  cases fuel with
  | zero => simp [DataW.trod] at h
  | succ n =>
    rcases he with he | ⟨k, he⟩ | he
    · unfold DataW.trod at h
      rw [he] at h
      split at h <;> simp_all
      obtain ⟨h1, _⟩ := h
      rw [← h1]; rfl
    · unfold DataW.trod at h
      rw [he] at h
      split at h <;> simp_all
      obtain ⟨⟨h1, h2⟩, h3, h4⟩ := h
      subst h1 h3
      rfl
    · unfold DataW.trod at h
      rw [he] at h
      split at h <;> simp_all
      obtain ⟨h1, h3, h4⟩ := h
      subst h3
      exact congrArg Value.string (bytes_eta _).symm

theorem cells_of_lits {w : World} {base : Nat} {sp : Nat → Bool} {held : Bool} {fuel : Nat} {t e : TypeId} {n : Nat} {cs : List Value} {ls : List Lit} {p : List MemPlace}
    (ht : P.underlying t = some (.array n e)) (he : P.underlying e = some .bool ∨ (∃ k, P.underlying e = some (.int k)) ∨ P.underlying e = some .string) (hce : P.cellsOf e = 1) (hct : P.cellsOf t = n)
    (h : DataW.trod enc P w base sp held fuel t cs = some (.agg (ls.map DataW.lit), p)) : cs = ls.map litV := by
  obtain ⟨xs, m, rfl, hx, hl, hxl, hel⟩ := DataW.trod_array ht h
  simp only [Prod.mk.injEq, DataW.agg.injEq] at hx
  obtain ⟨hx, _⟩ := hx
  have hln : ls.length = n := by have := congrArg List.length hx; simp at this; omega
  rw [hce] at hel
  apply List.ext_getElem?
  intro i
  by_cases hi : i < n
  · have h1 := hel i hi
    have hxi : xs[i]? = some (xs[i]'(by omega)) := List.getElem?_eq_getElem _
    rw [hxi, Nat.mul_one] at h1
    have h2 : (xs[i]'(by omega)).1 = .lit (ls[i]'(by omega)) := by
      have := congrArg (·[i]?) hx
      simp [hi, hxl, hln] at this
      exact this.symm
    have h3 : xs[i]'(by omega) = (.lit (ls[i]'(by omega)), (xs[i]'(by omega)).2) := by rw [← h2]
    rw [h3] at h1
    have h4 := cell_of_lit he h1
    have h5 := congrArg (·[0]?) h4
    simp [List.getElem?_drop] at h5
    rw [h5]
    simp [hln, hi]
  · rw [List.getElem?_eq_none (by omega), List.getElem?_eq_none (by simp; omega)]

/-- What a list says of its variable number i. -/
theorem laidVars_get {w : World} : ∀ (l : List (String × DataW Unit)) (ps : List MemPlace), DataW.LaidVars P w l ps → ∀ (i : Nat) (n : String) (d : DataW Unit), l[i]? = some (n, d) →
    ∃ g t cs fuel p, P.globalNamed n = some g ∧ (P.globals[g]?).map (·.type) = some t ∧ w.var? P n = some cs ∧ DataW.trod (fun _ => ()) P w 0 (fun _ => true) false fuel t cs.toList = some (d, p)
  | [], _, _, i, n, d, hi => by simp at hi
  | (n0, d0) :: r, ps, h, i, n, d, hi => by
    obtain ⟨g, t, cs, fuel, p, q, h1, h2, h3, h4, h5, _⟩ := h
    cases i with
    | zero => cases hi; exact ⟨g, t, cs, fuel, p, h1, h2, h3, h4⟩
    | succ i => exact laidVars_get r q h5 i n d (by simpa using hi)

/-- The cells of a listed array of plain literals. -/
theorem laid_lits {W : World} {l : List (String × DataW Unit)} (h : laidMetH P l W) (i : Nat) {n : String} {ls : List Lit} {g : Nat} {t e : TypeId} {k : Nat}
    (hi : (l.filter fun x => x.2.handleName?.isNone)[i]? = some (n, .agg (ls.map DataW.lit)))
    (hg : P.globalNamed n = some g) (hty : (P.globals[g]?).map (·.type) = some t) (ht : P.underlying t = some (.array k e))
    (he : P.underlying e = some .bool ∨ (∃ k, P.underlying e = some (.int k)) ∨ P.underlying e = some .string) (hce : P.cellsOf e = 1) (hct : P.cellsOf t = k) :
    g < W.heap.size ∧ ∀ j, j < ls.length → W.cell? ⟨g, j, none⟩ = (ls[j]?).map litV := by
  obtain ⟨h1, _⟩ := laidMetH_iff.1 h
  obtain ⟨ps, hv, _⟩ := h1
  obtain ⟨g', t', cs, fuel, p, a1, a2, a3, a4⟩ := laidVars_get _ ps hv i n _ hi
  obtain rfl := Option.some.inj (hg.symm.trans a1)
  obtain rfl := Option.some.inj (hty.symm.trans a2)
  have hc := cells_of_lits ht he hce hct a4
  have hlt : g < W.heap.size := by
    unfold World.var? at a3
    rw [hg] at a3
    simp only [Option.bind_some] at a3
    rcases Nat.lt_or_ge g W.heap.size with h' | h'
    · exact h'
    · rw [Array.getElem?_eq_none h'] at a3; cases a3
  refine ⟨hlt, fun j hj => ?_⟩
  rw [World.var?_cell hg a3 j]
  have h6 : cs.toList[j]? = (ls.map litV)[j]? := by rw [hc]
  simpa using h6
end

/-! ### What the bound of the second form gives -/
theorem bulk_one {H : Type} (d : DataW H) : 1 ≤ Rows.uptoBulk d := by
  cases d with
  | lit l => cases l <;> simp [Rows.uptoBulk]
  | nil => simp [Rows.uptoBulk]
  | ptr d => simp [Rows.uptoBulk]
  | slice elems spare => simp [Rows.uptoBulk]
  | agg parts => simp [Rows.uptoBulk]
  | iface t d => simp [Rows.uptoBulk]
  | map entries => simp [Rows.uptoBulk]
  | held h => simp [Rows.uptoBulk]
theorem bulk_part {H : Type} {d : DataW H} {l : List (DataW H)} (h : d ∈ l) : Rows.uptoBulk d ≤ Rows.uptoBulkAll l := by
  induction l with
  | nil => cases h
  | cons x r ih =>
    simp only [Rows.uptoBulkAll]
    cases List.mem_cons.1 h with
    | inl e => subst e; omega
    | inr e => have := ih e; omega
theorem bulk_length {H : Type} (l : List (DataW H)) : l.length ≤ Rows.uptoBulkAll l := by
  induction l with
  | nil => simp [Rows.uptoBulkAll]
  | cons x r ih => have := bulk_one x; simp only [Rows.uptoBulkAll, List.length_cons]; omega
theorem bulk_bound {H : Type} {l : List (DataW H)} (hk : Rows.uptoSmall H l = true) : Rows.uptoBulkAll l ≤ 1048576 := of_decide_eq_true hk

/-! ### What the reach gives: a string takes at most so many bytes -/
theorem sized_at {H : Type} {P : Program} : ∀ {ts : List TypeId} {ds : List (DataW H)}, (DataW.weightsEach P ts ds).all (· ≤ reachBytes) = true → ∀ {j : Nat} {t : TypeId} {d : DataW H}, ts[j]? = some t → ds[j]? = some d → (d.weights P t).all (· ≤ reachBytes) = true
  | t0 :: ts, d0 :: ds, h, j, t, d, ht, hd => by
    rw [DataW.weightsEach, List.all_append, Bool.and_eq_true] at h
    cases j with
    | zero =>
      simp only [List.getElem?_cons_zero, Option.some.injEq] at ht hd
      subst ht hd
      exact h.1
    | succ j => exact sized_at h.2 (by simpa using ht) (by simpa using hd)
  | [], _, _, j, t, d, ht, _ => by simp at ht
  | _ :: _, [], _, j, t, d, _, hd => by simp at hd
theorem sized_string {H : Type} {P : Program} {ts : List TypeId} {ds : List (DataW H)} (h : (DataW.weightsEach P ts ds).all (· ≤ reachBytes) = true) {j : Nat} {t : TypeId} {s : ByteArray} (ht : ts[j]? = some t) (hd : ds[j]? = some (.lit (.string s.data.toList))) : s.size ≤ 140737488351232 := by
  have := sized_at h ht hd
  simp only [DataW.weights, List.all_cons, List.all_nil, Bool.and_true, decide_eq_true_eq] at this
  have e : s.data.toList.length = s.size := Array.length_toList
  rw [e] at this
  have r : reachBytes = 140737488351232 := rfl
  omega

/-! ### Opening arguments -/
set_option maxRecDepth 100000 in
/-- []byte -/
theorem open_bytes {H : Type} {enc : TypeId × Value → H} {W : World} {r : Reach} {b0 : Nat} {v : Value} {d : DataW H} {ps : List MemPlace} (hval : Value.okWide Tryd.prog W r b0 30 v)
    (h : DataW.Trod enc Tryd.prog W 0 (fun _ => true) true 30 v d ps) : ∃ l : List UInt8, Bs W v l ∧ l.length ≤ Rows.uptoBulk d := by
  obtain ⟨a, len, cap, rfl⟩ := okWide_slice Tryd.underlying30 hval
  obtain ⟨fuel, hf⟩ := h
  have hf' : DataW.trod enc Tryd.prog W 0 (fun _ => true) true fuel 30 [.slice a len cap] = some (d, ps) := by simpa [Value.cells] using hf
  rcases open_ints Tryd.underlying30 Tryd.underlying5 (by kernel_rfl) hf' with ⟨hcs, hx⟩ | ⟨ad, len', cap', zs, hcs, _, hl, hm, hz, hx, hcell, hwz⟩
  · simp only [List.cons.injEq, Value.slice.injEq, and_true] at hcs
    obtain ⟨rfl, rfl, rfl⟩ := hcs
    exact ⟨[], Rd.nil W, by simp⟩
  · simp only [List.cons.injEq, Value.slice.injEq, and_true] at hcs
    obtain ⟨rfl, rfl, rfl⟩ := hcs
    simp only [if_true] at hz
    simp only [Prod.mk.injEq] at hx
    obtain ⟨rfl, _⟩ := hx
    have hlen : ((zs.take len).map fun z => B8 z.toNat).length = len := by simp; omega
    refine ⟨(zs.take len).map fun z => B8 z.toNat, ?_, ?_⟩
    · unfold Bs
      rw [hlen]
      refine ⟨some ad, cap, rfl, hl, hm, (fun e => by cases e), fun ad' e j u hu => ?_⟩
      cases e
      have hj : j < len := by
        have := (List.getElem?_eq_some_iff.1 hu).1
        simp at this; omega
      have hjz : j < zs.length := by omega
      rw [hcell j hjz, ← hu]
      have hw := hwz (zs[j]'hjz) (List.getElem_mem _)
      have hb : 0 ≤ zs[j]'hjz ∧ zs[j]'hjz ≤ 255 := by simpa [Lit.wf, IntKind.min, IntKind.max, IntKind.signed, IntKind.bits] using hw
      have e2 : (((zs.take len).map fun z => B8 z.toNat).map byteV)[j]? = some (byteV (B8 (zs[j]'hjz).toNat)) := by
        simp [hj, List.getElem?_eq_getElem hjz]
      rw [e2, byteV_B8 (show (zs[j]'hjz).toNat < 256 by omega) (show zs[j]'hjz = ((zs[j]'hjz).toNat : Int) by omega)]
      simp [List.getD, hjz]
    · rw [hlen]
      have := bulk_length (lits .u8 (zs.take len) : List (DataW H))
      have h2 : (lits .u8 (zs.take len) : List (DataW H)).length = len := by simp [lits]; omega
      simp only [Rows.uptoBulk]
      omega

theorem laidOut : laidOutB Tryd.prog = true := by kernel_rfl
theorem own : ownKnob Tryd.prog.godebug = none := by kernel_rfl

end Go.Proofs.YtclicjokgfiegaaDoor
