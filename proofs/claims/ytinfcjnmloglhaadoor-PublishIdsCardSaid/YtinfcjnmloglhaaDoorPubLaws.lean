/- The laws of messages: the walks. -/
import Derived.Test.YtinfcjnmloglhaaDoorPubOf2
import Derived.Test.YtinfcjnmloglhaaDoorUtfLaws
namespace Go.Proofs.YtinfcjnmloglhaaDoor
open Go.RowKit
set_option linter.unusedVariables false
set_option linter.unusedSimpArgs false

theorem pPutB_len {T X : List UInt8} {q id : Int} (h : pPutE T X q id = 0) : (pPutB T X q id).length ≤ 4096 := by
  rw [pPutB, if_pos h]
  unfold pPutE at h
  by_cases c1 : q < 0 ∨ 2 < q
  · rw [if_pos c1] at h; simp at h
  rw [if_neg c1] at h
  by_cases c2 : pName T = false
  · rw [if_pos c2] at h; simp at h
  rw [if_neg c2] at h
  by_cases c3 : uPutE T = 0
  rotate_left
  · rw [if_pos c3] at h; exact absurd h c3
  rw [if_neg (by omega)] at h
  by_cases c4 : pNumE q id = 0
  rotate_left
  · rw [if_pos c4] at h; exact absurd h c4
  rw [if_neg (by omega)] at h
  by_cases c5 : (4096 : Int) - ((uPutB T).length + (pNumB q id).length) < X.length
  · rw [if_pos c5] at h; simp at h
  rw [List.length_append, List.length_append]
  omega

set_option maxRecDepth 100000 in
set_option maxHeartbeats 1000000 in
theorem PublishPuts_w (T X : ByteArray) (q : Int) (R : Bool) (id : Int) (w : World) (hE : EnvU w) (hT : T.size ≤ 140737488351232) (hX : X.size ≤ 140737488351232) :
    Calls Tryd.prog 7 #[.agg #[.string T, .string X, .int .i64 q, .bool R], .int .i64 id] w fun e w' => e = .returned (.bool true) ∧ Below w.heap.size w w' := by
  have HE := hd hE; clear hE
  go_enter Tryd.func7, Tryd.ntmps7
  go_wp2_with fail
  refine (pubPut_c T X q R id _ (HE.out.below (by go_grown)) hT hX).mono ?_
  rintro e w1 ⟨v1, rfl, ho1, hb1⟩
  have hc1 := bcell hb1
  have hl1 : w.heap.size < w1.heap.size := by have := hb1.size; simp at this; omega
  have hb : Below w.heap.size w w1 := Below.up (by go_grown) hb1
  go_wp2_with fail
  refine (refPubPut_c T X q R id _ hT hX).mono ?_
  rintro e w2 ⟨v2, rfl, ho2, hb2⟩
  have t1 := run_str (ho1.bs.below' hb2 (Nat.le_refl _))
  have t2 := run_str ho2.bs
  replace hb := Below.up hb hb2
  clear ho1 ho2 hb1 hb2 hc1
  go_wp2_with fail
  refine (awake14_c _ (HE.out.below hb)).mono ?_
  rintro e w3 ⟨rfl, hb3⟩
  go_wp2_with fail
  go_ret
  exact ⟨ret_bool (by simp), Below.up hb hb3⟩

set_option maxRecDepth 100000 in
set_option maxHeartbeats 1000000 in
theorem PublishReads_w (b : ByteArray) (q : Int) (w : World) (hE : EnvU w) (hs : b.size ≤ 140737488351232) :
    Calls Tryd.prog 11 #[.string b, .int .i64 q] w fun e w' => e = .returned (.bool true) ∧ Below w.heap.size w w' := by
  have HE := hd hE; clear hE
  go_enter Tryd.func11, Tryd.ntmps11
  go_wp2_with fail
  refine (pubOf_c b q _ (HE.out.below (by go_grown)) hs).mono ?_
  rintro e w1 ⟨rfl, hb1⟩
  have hc1 := bcell hb1
  have hf1 := bfree hb1
  have hb : Below w.heap.size w w1 := Below.up (by go_grown) hb1
  go_wp2_with fail
  refine (refPubOf_c b q _ hs).mono ?_
  rintro e w2 ⟨rfl, hb2⟩
  have hc2 := bcell hb2
  have hl2 : w1.heap.size < w2.heap.size := by have := hb2.size; simp at this; omega
  replace hb := Below.upA hb hb2
  generalize pOf (sB b) q = r at *
  generalize pOfQ (sB b) q = qq at *
  obtain ⟨T, X, id, e⟩ := r
  simp only
  go_wp2_with fail
  refine (awake14_c _ (HE.out.below hb.box)).mono ?_
  rintro e w3 ⟨rfl, hb3⟩
  go_wp2_with fail
  go_ret
  exact ⟨ret_bool (by simp), Below.upA hb hb3⟩

set_option maxRecDepth 100000 in
set_option maxHeartbeats 1000000 in
theorem PublishIds_w (id : Int) (s : ByteArray) (w : World) (hE : EnvU w) (hs : s.size ≤ 140737488351232) :
    Calls Tryd.prog 9 #[.int .i64 id, .string s] w fun e w' => e = .returned (.bool true) ∧ Below w.heap.size w w' := by
  have HE := hd hE; clear hE
  go_enter Tryd.func9, Tryd.ntmps9
  go_wp2_with fail
  refine (PutId_c id _).mono ?_
  rintro e w1 ⟨v1, rfl, ho1, hb1⟩
  go_wp2_with fail
  refine (refPutId_c id _).mono ?_
  rintro e w2 ⟨v2, rfl, ho2, hb2⟩
  have hs1 := ho1.bs.below' hb2 (Nat.le_refl _)
  have t1 := run_str hs1
  have t2 := run_str ho2.bs
  have hb := Below.up hb1 hb2
  clear ho1 ho2 hb1 hb2
  go_wp2_with fail
  refine (OfId_c s _ hs).mono ?_
  rintro e w3 ⟨rfl, hb3⟩
  replace hs1 := hs1.below' hb3 (Nat.le_refl _)
  replace hb := Below.up hb hb3
  go_wp2_with fail
  refine (refOfId_c s _ hs).mono ?_
  rintro e w4 ⟨rfl, hb4⟩
  replace hs1 := hs1.below' hb4 (Nat.le_refl _)
  replace hb := Below.up hb hb4
  have t3 := run_str hs1
  clear t1 t2 hb3 hb4
  generalize pOfId (sB s) = r
  go_wp2_with fail
  have hlen : (pIdB id).length ≤ 2 := by
    unfold pIdB uPut2B
    repeat' split
    all_goals simp
  refine (OfId_c ⟨(pIdB id).toArray⟩ _ (by show (pIdB id).toArray.size ≤ _; rw [List.size_toArray]; omega)).mono ?_
  rw [show sB ⟨(pIdB id).toArray⟩ = pIdB id from rfl]
  rintro e w5 ⟨rfl, hb5⟩
  replace hb := Below.up hb hb5
  clear hb5 hs1 t3 hlen
  have hAw := awake14_c w5 (HE.out.below hb)
  have HA := hd hAw; clear hAw
  by_cases he : pIdE id = 0
  · rw [pId_back he, he]
    simp only
    go_wp2_with fail
    refine HA.out.mono ?_
    rintro e w6 ⟨rfl, hb6⟩
    go_wp2_with fail
    go_ret
    exact ⟨ret_bool (by simp), Below.up hb hb6⟩
  · obtain ⟨h1, h2⟩ := pId_not he
    rw [h1, h2]
    simp only
    clear h1 h2 he
    go_wp2_with fail
    refine HA.out.mono ?_
    rintro e w6 ⟨rfl, hb6⟩
    go_wp2_with fail
    go_ret
    exact ⟨ret_bool (by simp), Below.up hb hb6⟩

set_option maxRecDepth 100000 in
set_option maxHeartbeats 1000000 in
theorem PublishBack_w (T X : ByteArray) (q : Int) (R : Bool) (id : Int) (w : World) (hE : EnvU w) (hT : T.size ≤ 140737488351232) (hX : X.size ≤ 140737488351232) :
    Calls Tryd.prog 12 #[.agg #[.string T, .string X, .int .i64 q, .bool R], .int .i64 id] w fun e w' => e = .returned (.bool true) ∧ Below w.heap.size w w' := by
  have HE := hd hE; clear hE
  go_enter Tryd.func12, Tryd.ntmps12
  go_wp2_with fail
  refine (pubPut_c T X q R id _ (HE.out.below (by go_grown)) hT hX).mono ?_
  rintro e w1 ⟨v1, rfl, ho1, hb1⟩
  have hc1 := bcell hb1
  have hl1 : w.heap.size < w1.heap.size := by have := hb1.size; simp at this; omega
  have hb : Below w.heap.size w w1 := Below.up (by go_grown) hb1
  by_cases he : pPutE (sB T) (sB X) q id = 0
  rotate_left
  · have heb : (pPutE (sB T) (sB X) q id != 0) = true := by simpa using he
    have hB : pPutB (sB T) (sB X) q id = [] := by rw [pPutB, if_neg he]
    have hs1 := ho1.bs
    rw [hB] at hs1
    obtain ⟨a, c, rfl⟩ := hs1.slice
    clear ho1 hB
    go_wp2_with fail
    refine (awake14_c _ (HE.out.below hb)).mono ?_
    rintro e w2 ⟨rfl, hb2⟩
    go_wp2_with fail
    go_ret
    exact ⟨ret_bool (by simp), Below.up hb hb2⟩
  have hof := pPut_back he
  have hof2 : pOfQ (pPutB (sB T) (sB X) q id) q = q := by rw [pOfQ, hof, if_pos rfl]
  have hlen := pPutB_len he
  rw [he]
  generalize pPutB (sB T) (sB X) q id = L at *
  have Hof := hd hof; have Hof2 := hd hof2
  clear hof hof2 he
  have t1 := run_str ho1.bs
  have hs1 := ho1.bs
  obtain ⟨a1, k1, rfl⟩ := Owns.slice ho1
  go_wp2_with fail
  refine (pubOf_c ⟨L.toArray⟩ q _ (HE.out.below hb) (by show L.toArray.size ≤ _; rw [List.size_toArray]; omega)).mono ?_
  rw [show sB ⟨L.toArray⟩ = L from rfl]
  unfold GivesM
  rw [Hof.out, Hof2.out]
  simp only
  rintro e w2 ⟨rfl, hb2⟩
  have hc2 := bcell hb2
  have hl2 : w.heap.size < w2.heap.size := by have := hb2.size; omega
  replace hb := Below.up hb hb2
  have hsT : sOf (sB T) = T := rfl
  have hsX : sOf (sB X) = X := rfl
  rw [hsT, hsX]
  have hlenI : ((L.length : Nat) : Int) ≤ 4096 := by omega
  clear hsT hsX hlen
  go_wp2_with fail
  refine (awake14_c _ (HE.out.below hb.box)).mono ?_
  rintro e w3 ⟨rfl, hb3⟩
  go_wp2_with fail
  go_ret
  exact ⟨ret_bool (by simp), Below.upA hb hb3⟩
end Go.Proofs.YtinfcjnmloglhaaDoor
