/- The law of answers to wishes: plain law and walk. -/
import Derived.Test.YtgafhnomkeiakaaDoorSubAck2
import Derived.Test.YtgafhnomkeiakaaDoorSubLaws
namespace Go.Proofs.YtgafhnomkeiakaaDoor
open Go.RowKit
set_option linter.unusedVariables false
set_option linter.unusedSimpArgs false

theorem sbAckFold_ok : ∀ (l : List Int) (a r : List UInt8), sbAckFold a l = (r, 0) → r = a ++ l.map (fun n => B8 n.toNat) ∧ ∀ n ∈ l, sbCoded n = true
  | [], a, r, h => by
    simp only [sbAckFold, Prod.mk.injEq, and_true] at h
    subst h
    simp
  | n :: t, a, r, h => by
    unfold sbAckFold at h
    by_cases hc : sbCoded n = false
    · rw [if_pos hc] at h; simp at h
    rw [if_neg hc] at h
    obtain ⟨h1, h2⟩ := sbAckFold_ok t _ _ h
    refine ⟨by rw [h1]; simp, ?_⟩
    intro m hm
    rcases List.mem_cons.1 hm with rfl | hm
    · simpa using hc
    · exact h2 m hm
theorem sbCodes_back : ∀ (l : List Int) (a : List Int), (∀ n ∈ l, sbCoded n = true) → sbCodes a (l.map (fun n => B8 n.toNat)) = (a ++ l, 0)
  | [], a, _ => by simp [sbCodes]
  | n :: t, a, h => by
    have hn := h n (List.mem_cons_self ..)
    have hr := (sbCoded_iff n).1 hn
    have e : ((B8 n.toNat).toNat : Int) = n := by rw [B8_toNat (by omega)]; omega
    simp only [List.map_cons, sbCodes]
    rw [e, if_neg (by simp [hn]), sbCodes_back t _ (fun m hm => h m (List.mem_cons_of_mem _ hm))]
    simp
theorem pIdB_two {id : Int} (h : pIdE id = 0) : 1 ≤ id ∧ id ≤ 65535 ∧ pIdB id = [B8 (id.toNat / 256), B8 (id.toNat % 256)] := by
  unfold pIdE at h
  by_cases hi : 1 ≤ id ∧ id ≤ 65535
  · unfold pIdB uPut2B
    rw [if_pos hi, if_neg (by omega)]
    exact ⟨hi.1, hi.2, rfl⟩
  · rw [if_neg hi] at h; simp at h
theorem sbBegin_back {id : Int} (h : pIdE id = 0) (R : List UInt8) : sbBegin (pIdB id ++ R) = (id, 0) := by
  obtain ⟨h1, h2, hp⟩ := pIdB_two h
  rw [hp]
  have b0 : bN ([B8 (id.toNat / 256), B8 (id.toNat % 256)] ++ R) 0 = id.toNat / 256 := by
    have : bN ([B8 (id.toNat / 256), B8 (id.toNat % 256)] ++ R) 0 = (B8 (id.toNat / 256)).toNat := rfl
    rw [this, B8_toNat (by omega)]
  have b1 : bN ([B8 (id.toNat / 256), B8 (id.toNat % 256)] ++ R) 1 = id.toNat % 256 := by
    have : bN ([B8 (id.toNat / 256), B8 (id.toNat % 256)] ++ R) 1 = (B8 (id.toNat % 256)).toNat := rfl
    rw [this, B8_toNat (by omega)]
  unfold sbBegin
  rw [if_neg (by simp), b0, b1]
  have e : (256 * ((id.toNat / 256 : Nat) : Int) + ((id.toNat % 256 : Nat) : Int)) = id := by omega
  rw [e, if_neg (by omega)]
theorem sbMany_ok {n : Int} (h : sbMany n = 0) : 1 ≤ n ∧ n ≤ 8 := by
  unfold sbMany at h
  split at h
  · simp at h
  · split at h
    · simp at h
    · omega
theorem sbAck_back {id : Int} {l : List Int} (h : sbAckE id l = 0) : sbOfAck (sbAckB id l) = (id, l, 0) ∧ (sbAckB id l).length ≤ 10 := by
  have hB : sbAckB id l = (sbAckFold (pIdB id) l).1 := by rw [sbAckB, if_pos h]
  unfold sbAckE at h
  by_cases h1 : pIdE id = 0
  rotate_left
  · rw [if_pos h1] at h; exact absurd h h1
  rw [if_neg (by simp [h1])] at h
  by_cases h2 : sbMany l.length = 0
  rotate_left
  · rw [if_pos h2] at h; exact absurd h h2
  rw [if_neg (by simp [h2])] at h
  obtain ⟨r, hr⟩ : ∃ r, sbAckFold (pIdB id) l = (r, 0) := ⟨(sbAckFold (pIdB id) l).1, Prod.ext rfl h⟩
  obtain ⟨hr1, hc⟩ := sbAckFold_ok l _ _ hr
  rw [hB, hr]
  simp only
  subst hr1
  have hm := sbMany_ok h2
  have hid := pIdB_two h1
  have hl : (pIdB id ++ l.map (fun n => B8 n.toNat)).length = 2 + l.length := by rw [List.length_append, hid.2.2]; simp
  have hd2 : (pIdB id ++ l.map (fun n => B8 n.toNat)).drop 2 = l.map (fun n => B8 n.toNat) := by rw [hid.2.2]; rfl
  refine ⟨?_, by rw [hl]; omega⟩
  unfold sbOfAck
  rw [sbBegin_back h1, hl, hd2, sbCodes_back l [] hc]
  have e : (((2 + l.length : Nat) : Int) - 2) = l.length := by omega
  rw [e, h2]
  simp
theorem sbAckB_short (id : Int) (l : List Int) : (sbAckB id l).length ≤ 10 := by
  by_cases h : sbAckE id l = 0
  · exact (sbAck_back h).2
  · rw [sbAckB, if_neg h]; simp

set_option maxRecDepth 100000 in
set_option maxHeartbeats 8000000 in
theorem SubsAcks_w (id : Int) (v : Value) (l : List Int) (s : ByteArray) (w : World) (hE : EnvU w) (hv : Is w v l) (hs : s.size ≤ 140737488351232) :
    Calls Tryd.prog 4 #[.int .i64 id, v, .string s] w fun e w' => e = .returned (.bool true) ∧ Below w.heap.size w w' := by
  have HE := hd hE; clear hE
  have h1 := subPutAck_c id v l w hv
  have h2 := fun W hW => refPutAck15_c id v l W hW
  have hbk := @sbAck_back id l
  have hsh := sbAckB_short id l
  generalize sbAckB id l = L at *
  generalize sbAckE id l = E at *
  have hLs : (sOf L).size ≤ 140737488351232 := by rw [sOf_size]; omega
  have h3 := fun W => subOfAck_c (sOf L) W hLs
  rw [sB_sOf] at h3
  have H1 := hd h1; have H2 := hd h2; have HV := hd hv; have H3 := hd h3; have HB := hd hbk; clear h1 h2 h3 hv hbk hLs hsh
  go_enter Tryd.func4, Tryd.ntmps4
  go_wp2_with fail
  refine H1.out.mono ?_
  rintro e w1 ⟨v1, rfl, ho1, hb1⟩
  go_wp2_with fail
  refine (H2.out _ (HV.out.below' hb1 (Nat.le_refl _))).mono ?_
  rintro e w2 ⟨v2, rfl, ho2, hb2⟩
  have hs1 := ho1.bs.below' hb2 (Nat.le_refl _)
  have t1 := run_str hs1
  have t2 := run_str ho2.bs
  have hb := Below.up hb1 hb2
  clear ho1 ho2 hb1 hb2
  go_wp2_with fail
  refine (subOfAck_c s _ hs).mono ?_
  generalize hR : sbOfAck (sB s) = R
  obtain ⟨R1, R2, R3⟩ := R
  have HR := hd hR; clear hR
  rintro e w3 ⟨v3, rfl, ho3, hb3⟩
  replace hs1 := hs1.below' hb3 (Nat.le_refl _)
  replace hb := Below.up hb hb3
  clear t1 t2 hb3
  go_wp2_with fail
  refine (refOfAck15_c s _ hs).mono ?_
  rw [HR.out]
  clear HR
  rintro e w4 ⟨v4, rfl, ho4, hb4⟩
  replace hs1 := hs1.below' hb4 (Nat.le_refl _)
  have hi3 := ho3.is.below' hb4 (Nat.le_refl _)
  have hi4 := ho4.is
  replace hb := Below.up hb hb4
  clear ho3 ho4 hb4
  go_wp2_with fail
  refine (ints_c v3 v4 R2 R2 _ hi3 hi4).mono ?_
  rw [decide_eq_true (show R2 = R2 from rfl)]
  rintro e w5 ⟨rfl, hb5⟩
  replace hs1 := hs1.below' hb5 (Nat.le_refl _)
  replace hb := Below.up hb hb5
  have t3 := run_str hs1
  rw [show (⟨L.toArray⟩ : ByteArray) = sOf L from rfl] at t3
  clear hi3 hi4 hb5
  go_wp2_with fail
  refine (H3.out _).mono ?_
  by_cases he : E = 0
  · subst he
    rw [(HB.out rfl).1]
    rintro e w6 ⟨v6, rfl, ho6, hb6⟩
    replace hb := Below.up hb hb6
    have hi6 := ho6.is
    have hvv := HV.out.below' hb (Nat.le_refl _)
    clear ho6 hb6 hs1 t3
    simp only
    go_wp2_with fail
    refine (ints_c v6 v l l _ hi6 hvv).mono ?_
    rw [decide_eq_true (show l = l from rfl)]
    rintro e w7 ⟨rfl, hb7⟩
    replace hb := Below.up hb hb7
    clear hb7 hi6 hvv
    go_wp2_with fail
    refine (awake15_c _ (HE.out.below hb)).mono ?_
    rintro e w8 ⟨rfl, hb8⟩
    go_wp2_with fail
    go_ret
    exact ⟨ret_bool (by simp), Below.up hb hb8⟩
  · have heb : (E != 0) = true := by simpa using he
    generalize sbOfAck L = R'
    obtain ⟨q1, q2, q3⟩ := R'
    rintro e w6 ⟨v6, rfl, ho6, hb6⟩
    replace hb := Below.up hb hb6
    clear ho6 hb6 hs1 t3 HB
    go_wp2_with fail
    refine (awake15_c _ (HE.out.below hb)).mono ?_
    rintro e w8 ⟨rfl, hb8⟩
    go_wp2_with fail
    go_ret
    exact ⟨ret_bool (by simp), Below.up hb hb8⟩
end Go.Proofs.YtgafhnomkeiakaaDoor
