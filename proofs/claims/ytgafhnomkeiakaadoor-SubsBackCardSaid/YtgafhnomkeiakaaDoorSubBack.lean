/- The law of wishes there and back: plain law and walk. -/
import Derived.Test.YtgafhnomkeiakaaDoorSubReads
namespace Go.Proofs.YtgafhnomkeiakaaDoor
open Go.RowKit
set_option linter.unusedVariables false
set_option linter.unusedSimpArgs false

def wNorm (ends : Bool) (f : Wish) : Wish := (f.1, if ends = true then 0 else f.2)
def wFlat (ends : Bool) : List Wish → List UInt8
  | [] => []
  | f :: t => (sbWish ends f).1 ++ wFlat ends t
def wOk (ends : Bool) (f : Wish) : Prop := uRight (sB f.1) = true ∧ (ends = false → 0 ≤ f.2 ∧ f.2 ≤ 2)
theorem wish_ok {ends : Bool} {f : Wish} (h : (sbWish ends f).2 = 0) : wOk ends f ∧ (sbWish ends f).1 = uPutRawB (sB f.1) ++ (if ends = true then [] else [B8 f.2.toNat]) := by
  unfold sbWish at h ⊢
  by_cases h1 : ends = false ∧ (f.2 < 0 ∨ 2 < f.2)
  · rw [if_pos h1] at h; simp at h
  rw [if_neg h1] at h ⊢
  by_cases h2 : uPutE (sB f.1) = 0
  rotate_left
  · rw [if_pos h2] at h; exact absurd h h2
  rw [if_neg (by simp [h2])]
  have hr := uPutE_zero h2
  refine ⟨⟨hr, fun he => ?_⟩, by simp only; rw [uPutB, if_pos hr]⟩
  rw [not_and] at h1
  have := h1 he
  omega
theorem sbFold_ok : ∀ (ends : Bool) (l : List Wish) (a r : List UInt8), sbFold ends a l = (r, 0) → r = a ++ wFlat ends l ∧ ∀ f ∈ l, (sbWish ends f).2 = 0
  | ends, [], a, r, h => by
    simp only [sbFold, Prod.mk.injEq, and_true] at h
    subst h
    simp [wFlat]
  | ends, f :: t, a, r, h => by
    unfold sbFold at h
    by_cases hc : (sbWish ends f).2 = 0
    rotate_left
    · rw [if_pos hc] at h; simp only [Prod.mk.injEq] at h; exact absurd h.2 hc
    rw [if_neg (by simp [hc])] at h
    obtain ⟨h1, h2⟩ := sbFold_ok ends t _ _ h
    refine ⟨by rw [h1]; simp [wFlat], ?_⟩
    intro m hm
    rcases List.mem_cons.1 hm with rfl | hm
    · exact hc
    · exact h2 m hm
theorem sOf_sB2 (s : ByteArray) : sOf (sB s) = s := by cases s; simp [sOf, sB]
theorem sbRead_at {ends : Bool} {f : Wish} (h : (sbWish ends f).2 = 0) (A C : List UInt8) :
    sbRead (A ++ (sbWish ends f).1 ++ C) (A.length : Int) ends = (wNorm ends f, ((A ++ (sbWish ends f).1).length : Int), 0) := by
  obtain ⟨⟨hr, hq⟩, hw⟩ := wish_ok h
  have hlen := uRight_len hr
  rw [hw]
  have e1 : A ++ (uPutRawB (sB f.1) ++ (if ends = true then [] else [B8 f.2.toNat])) ++ C = A ++ uPutRawB (sB f.1) ++ ((if ends = true then [] else [B8 f.2.toNat]) ++ C) := by simp only [List.append_assoc]
  rw [e1]
  have hg := uGet_at A (sB f.1) ((if ends = true then [] else [B8 f.2.toNat]) ++ C) hlen
  rw [if_pos hr] at hg
  unfold sbRead
  rw [hg]
  simp only
  rw [if_neg (by simp)]
  have hl2 := uPutRawB_len hlen
  cases ends
  · obtain ⟨q0, q1⟩ := hq rfl
    have hb : bN (A ++ uPutRawB (sB f.1) ++ ((if (false : Bool) = true then [] else [B8 f.2.toNat]) ++ C)) (A.length + 2 + (sB f.1).length) = f.2.toNat := by
      have e : A.length + 2 + (sB f.1).length = (A ++ uPutRawB (sB f.1)).length + 0 := by rw [List.length_append, hl2]; omega
      rw [e, bN_append_right]
      have : bN ((if (false : Bool) = true then [] else [B8 f.2.toNat]) ++ C) 0 = (B8 f.2.toNat).toNat := rfl
      rw [this, B8_toNat (by omega)]
    have ht : ((A.length : Int) + 2 + ((sB f.1).length : Int)).toNat = A.length + 2 + (sB f.1).length := by omega
    rw [if_neg (by simp), if_neg (by simp only [List.length_append, hl2]; simp; omega), ht, hb, if_neg (by omega)]
    unfold wNorm
    rw [sOf_sB2]
    simp only [List.length_append, hl2]
    simp
    omega
  · rw [if_pos rfl]
    unfold wNorm
    rw [sOf_sB2]
    simp only [List.length_append, hl2]
    simp
    omega
theorem sbAll_back (ends : Bool) : ∀ (t : List Wish) (acc : List Wish) (A : List UInt8), acc.length + t.length ≤ 8 → (∀ f ∈ t, (sbWish ends f).2 = 0) →
    sbAll ends (A ++ wFlat ends t) (9 - acc.length) acc (A.length : Int) = (acc ++ t.map (wNorm ends), 0)
  | [], acc, A, h8, _ => by
    rw [sbAll_end (by simp at h8; omega) (by simp [wFlat])]
    simp
  | f :: t, acc, A, h8, hf => by
    have hz := hf f (List.mem_cons_self ..)
    have hL : A ++ wFlat ends (f :: t) = A ++ (sbWish ends f).1 ++ wFlat ends t := by simp [wFlat]
    have hrd := sbRead_at hz A (wFlat ends t)
    obtain ⟨⟨hr, _⟩, hw⟩ := wish_ok hz
    have hpos : 2 ≤ (sbWish ends f).1.length := by rw [hw, List.length_append, uPutRawB_len (uRight_len hr)]; omega
    simp only [List.length_cons] at h8
    rw [hL]
    rw [sbAll_more (by omega) (by simp only [List.length_append]; omega) (by rw [hrd])]
    rw [hrd]
    simp only
    have ih := sbAll_back ends t (acc ++ [wNorm ends f]) (A ++ (sbWish ends f).1) (by simp; omega) (fun g hg => hf g (List.mem_cons_of_mem _ hg))
    rw [ih]
    simp
theorem sbPut_back {id : Int} {l : List Wish} {ends : Bool} (h : sbPutE id l ends = 0) : sbOf (sbPutB id l ends) ends = (id, l.map (wNorm ends), 0) ∧ 1 ≤ l.length ∧ l.length ≤ 8 ∧ (sbPutB id l ends).length ≤ 4096 := by
  have hB : sbPutB id l ends = (sbFold ends (pIdB id) l).1 := by rw [sbPutB, if_pos h]
  unfold sbPutE at h
  by_cases h1 : pIdE id = 0
  rotate_left
  · rw [if_pos h1] at h; exact absurd h h1
  rw [if_neg (by simp [h1])] at h
  by_cases h2 : sbMany l.length = 0
  rotate_left
  · rw [if_pos h2] at h; exact absurd h h2
  rw [if_neg (by simp [h2])] at h
  by_cases h3 : (sbFold ends (pIdB id) l).2 = 0
  rotate_left
  · rw [if_pos h3] at h; exact absurd h h3
  rw [if_neg (by simp [h3])] at h
  by_cases h4 : 4096 < (sbFold ends (pIdB id) l).1.length
  · rw [if_pos h4] at h; simp at h
  obtain ⟨r, hr⟩ : ∃ r, sbFold ends (pIdB id) l = (r, 0) := ⟨(sbFold ends (pIdB id) l).1, Prod.ext rfl h3⟩
  obtain ⟨hr1, hc⟩ := sbFold_ok ends l _ _ hr
  rw [hr] at h4
  rw [hB, hr]
  simp only at h4 ⊢
  subst hr1
  have hm := sbMany_ok h2
  have hid := pIdB_two h1
  have hp2 : (pIdB id).length = 2 := by rw [hid.2.2]; rfl
  refine ⟨?_, by omega, by omega, by omega⟩
  have ha := sbAll_back ends l [] (pIdB id) (by simp; omega) hc
  rw [hp2] at ha
  unfold sbOf
  rw [sbBegin_back h1]
  have ha' : sbAll ends (pIdB id ++ wFlat ends l) 9 [] 2 = (l.map (wNorm ends), 0) := by simpa using ha
  rw [ha']
  have hne : l.map (wNorm ends) ≠ [] := by intro e; simp at e; subst e; simp at hm
  rw [if_neg (by simp), if_neg (by simp), if_neg hne]

set_option maxRecDepth 100000 in
set_option maxHeartbeats 8000000 in
theorem SubsBack_w (id : Int) (v : Value) (l : List Wish) (ends : Bool) (w : World) (hE : EnvU w) (hv : Ws w v l) (hs : ∀ f ∈ l, f.1.size ≤ 140737488351232) :
    Calls Tryd.prog 6 #[.int .i64 id, v, .bool ends] w fun e w' => e = .returned (.bool true) ∧ Below w.heap.size w w' := by
  have HE := hd hE; clear hE
  have h1 := subsPut_c id v l ends w HE.out hv hs
  obtain ⟨a, c, rfl⟩ := hv.slice
  by_cases he : sbPutE id l ends = 0
  rotate_left
  · have hL : sbPutB id l ends = [] := by rw [sbPutB, if_neg he]
    have heb : (sbPutE id l ends != 0) = true := by simpa using he
    rw [hL] at h1
    generalize sbPutE id l ends = E at *
    have H1 := hd h1; clear h1 he hL hv
    go_enter Tryd.func6, Tryd.ntmps6
    go_wp2_with fail
    refine H1.out.mono ?_
    rintro e w1 ⟨v1, rfl, ho1, hb1⟩
    obtain ⟨a1, c1, rfl⟩ := ho1.bs.slice
    go_wp2_with fail
    refine (awake15_c _ (HE.out.below hb1)).mono ?_
    rintro e w2 ⟨rfl, hb2⟩
    go_wp2_with fail
    go_ret
    exact ⟨rfl, Below.up hb1 hb2⟩
  obtain ⟨hbk, hl1, hl8, hLl⟩ := sbPut_back he
  rw [he] at h1
  clear he
  generalize sbPutB id l ends = L at *
  have h2 := fun W hW => subsOf_c (sOf L) ends W hW (by rw [sOf_size]; omega)
  rw [sB_sOf, hbk] at h2
  have H1 := hd h1; have H2 := hd h2; have HV := hd hv; clear h1 h2 hv hbk hLl
  go_enter Tryd.func6, Tryd.ntmps6
  go_wp2_with fail
  refine H1.out.mono ?_
  rintro e w1 ⟨v1, rfl, ho1, hb1⟩
  have hs1 := ho1.bs
  clear ho1
  obtain ⟨a1, c1, rfl⟩ := hs1.slice
  have hb1s := hb1.size
  go_wp2_with fail
  go_loopw [9, 10] (fun o n w' => ∃ k : Nat, n = .int .i64 k ∧ k ≤ l.length ∧ OwnW w1.heap.size w' o ((l.take k).map (wNorm ends)) ∧ Below w1.heap.size w1 w') (fun o n _ => leftTo l.length n)
  case atStart => exact ⟨0, rfl, by omega, OwnW.nil _ _, Below.refl _ _⟩
  case round =>
    obtain ⟨k, rfl, hk, hO, hB⟩ := hrel
    have hBs := hB.size
    by_cases hkl : k < l.length
    · obtain ⟨f, hf⟩ : ∃ f, l[k]? = some f := ⟨_, List.getElem?_eq_getElem hkl⟩
      obtain ⟨b, o, rfl, hbl, hc0, hc1⟩ := HV.out.at hf
      replace hc0 := (bcell (hb1.trans (hB.mono hb1s)) _ _ hbl).trans hc0
      replace hc1 := (bcell (hb1.trans (hB.mono hb1s)) _ _ hbl).trans hc1
      have htk : (l.take (k + 1)).map (wNorm ends) = (l.take k).map (wNorm ends) ++ [wNorm ends f] := by rw [List.take_add_one, hf]; simp
      have hlm : ((l.take k).map (wNorm ends)).length < 1000000 := by simp; omega
      obtain ⟨s, q⟩ := f
      simp only at hc0 hc1
      obtain ⟨sa, sc, rfl⟩ := hO.ws.slice
      cases ends
      · have hfn : wNorm false (s, q) = (s, q) := rfl
        rw [hfn] at htk
        go_wp2_with (at_builtin; refine wp_appW1 rfl _ _ rfl w1.heap.size _ ((l.take k).map (wNorm false)) rfl hO s q rfl hlm hBs ?_; intro v4 w4 ho4 hb4)
        go_roundw
        case rel => exact ⟨k + 1, by congr 1, by omega, by rw [htk]; exact ho4, hB.trans hb4⟩
        case measure => simp [leftTo]; omega
      · have hfn : wNorm true (s, q) = (s, 0) := rfl
        rw [hfn] at htk
        go_wp2_with (at_builtin; refine wp_appW1 rfl _ _ rfl w1.heap.size _ ((l.take k).map (wNorm true)) rfl hO s 0 rfl hlm hBs ?_; intro v4 w4 ho4 hb4)
        go_roundw
        case rel => exact ⟨k + 1, by congr 1, by omega, by rw [htk]; exact ho4, hB.trans hb4⟩
        case measure => simp [leftTo]; omega
    · have hke : k = l.length := by omega
      subst hke
      rw [List.take_length] at hO
      have hsr := hs1.below' hB (Nat.le_refl _)
      have hst := run_str hsr
      rw [show (⟨L.toArray⟩ : ByteArray) = sOf L from rfl] at hst
      have hbw : Below w.heap.size w wr := Below.up hb1 hB
      have hwv := hO.ws
      go_wp2_with fail
      refine (H2.out _ (HE.out.below hbw)).mono ?_
      rintro e w3 ⟨v3, rfl, ho3, hb3⟩
      have hw3 := ho3.ws
      replace hwv := hwv.below' hb3 (Nat.le_refl _)
      replace hbw := Below.up hbw hb3
      clear ho3 hb3 hsr hst hO hB
      obtain ⟨a3, c3, rfl⟩ := hw3.slice
      have hle : (l.map (wNorm ends)).length = l.length := List.length_map ..
      have hl1' : (1 : Int) ≤ (l.length : Int) := by omega
      have hl8' : (l.length : Int) ≤ 8 := by omega
      rw [hle] at hw3 ⊢
      clear hle
      go_wp2_with fail
      refine (same_c _ _ (l.map (wNorm ends)) _ hw3 hwv).mono ?_
      rintro e w4 ⟨rfl, hb4⟩
      replace hbw := Below.up hbw hb4
      clear hw3 hwv hb4
      go_wp2_with fail
      refine (awake15_c _ (HE.out.below hbw)).mono ?_
      rintro e w5 ⟨rfl, hb5⟩
      go_wp2_with fail
      go_ret
      exact ⟨ret_bool (by simp), Below.up hbw hb5⟩
end Go.Proofs.YtgafhnomkeiakaaDoor
