/- Spots and topics: a spot's topic: the walk. -/
import Derived.Test.YtopopdghmfbciaaDoorSpParts
namespace Go.Proofs.YtopopdghmfbciaaDoor
open Go.RowKit
set_option linter.unusedVariables false
set_option linter.unusedSimpArgs false

structure PutIs (bad : Bool) (fr tp : List (List UInt8)) (t : List UInt8) (e : Int) : Prop where
  form : bad = true → t = [] ∧ e = 4
  free : bad = false → fr.all sPart = false → t = [] ∧ e = 13
  name : bad = false → fr.all sPart = true → lName (lJoin tp) = false → t = [] ∧ e = 13
  good : bad = false → fr.all sPart = true → lName (lJoin tp) = true → t = lJoin tp ∧ e = 0
theorem put_is {s : SpS} {t : List UInt8} {e : Int} (h : sPut s = (t, e)) (h1 : ¬ s.k < 1) (h9 : ¬ 9 < s.k) : PutIs (sBadForm s) (sFree s) (sTop s) t e := by
  unfold sPut at h
  rw [if_neg (by omega)] at h
  refine ⟨fun a => ?_, fun a b => ?_, fun a b c => ?_, fun a b c => ?_⟩
  · rw [if_pos a] at h
    exact ⟨(Prod.mk.inj h).1.symm, (Prod.mk.inj h).2.symm⟩
  · rw [if_neg (by simp [a]), if_neg (by simp [b])] at h
    exact ⟨(Prod.mk.inj h).1.symm, (Prod.mk.inj h).2.symm⟩
  · rw [if_neg (by simp [a]), if_pos b, if_neg (by simp [c])] at h
    exact ⟨(Prod.mk.inj h).1.symm, (Prod.mk.inj h).2.symm⟩
  · rw [if_neg (by simp [a]), if_pos b, if_pos c] at h
    exact ⟨(Prod.mk.inj h).1.symm, (Prod.mk.inj h).2.symm⟩
theorem word_len (k : Int) : (sWord k).length ≤ 6 := by
  unfold sWord
  split
  · rename_i h
    obtain ⟨n, rfl⟩ := Int.eq_ofNat_of_zero_le h.1
    have hn : n ≤ 9 := by omega
    rw [Int.toNat_natCast]
    match n, hn with
    | 0, _ => decide
    | 1, _ => decide
    | 2, _ => decide
    | 3, _ => decide
    | 4, _ => decide
    | 5, _ => decide
    | 6, _ => decide
    | 7, _ => decide
    | 8, _ => decide
    | 9, _ => decide
  · simp
theorem sPart_len {x : List UInt8} (h : sPart x = true) : x.length ≤ 96 := by
  rw [sPart_eq, Bool.and_eq_true] at h
  have h2 := h.1
  unfold lName at h2
  rw [Bool.and_eq_true] at h2
  exact (lSized_len h2.1).2.1
theorem top9_len {n : List UInt8} (h : [n].all sPart = true) : (lJoin [rootT, [83, 84, 65, 84, 69], n]).length ≤ 1000 := by
  have h1 := sPart_len (x := n) (by simpa using h)
  simp [lJoin_cons, Lib.joinTail, rootT]
  omega
theorem top5_len {k : Int} {g n d : List UInt8} (h : [g, n, d].all sPart = true) : (lJoin [rootT, g, sWord k, n, d]).length ≤ 1000 := by
  simp only [List.all_cons, List.all_nil, Bool.and_true, Bool.and_eq_true] at h
  have h1 := sPart_len h.1
  have h2 := sPart_len h.2.1
  have h3 := sPart_len h.2.2
  have h4 := word_len k
  simp [lJoin_cons, Lib.joinTail, rootT]
  omega
theorem top4_len {k : Int} {g n : List UInt8} (h : [g, n].all sPart = true) : (lJoin [rootT, g, sWord k, n]).length ≤ 1000 := by
  simp only [List.all_cons, List.all_nil, Bool.and_true, Bool.and_eq_true] at h
  have h1 := sPart_len h.1
  have h2 := sPart_len h.2
  have h4 := word_len k
  simp [lJoin_cons, Lib.joinTail, rootT]
  omega
theorem all_at {f : List UInt8 → Bool} {p : List (List UInt8)} {k : Nat} {x : List UInt8} (hk : p[k]? = some x) : (p.drop k).all f = (f x && (p.drop (k + 1)).all f) := by
  have hlt : k < p.length := (List.getElem?_eq_some_iff.1 hk).1
  have hpx : p[k] = x := (List.getElem?_eq_some_iff.1 hk).2
  rw [List.drop_eq_getElem_cons hlt, hpx, List.all_cons]

set_option maxRecDepth 100000 in
set_option maxHeartbeats 4000000 in
theorem put9_c (k : Int) (g n d t : List UInt8) (ee : Int) (w : World) (hp : sPut ⟨k, g, n, d⟩ = (t, ee)) (hE : EnvU w) (hW : EnvW w) (h : k = 9) (hzg : g.length ≤ 9223372036854775000) (hzn : n.length ≤ 9223372036854775000) (hzd : d.length ≤ 9223372036854775000) :
    Calls Tryd.prog 34 #[spV ⟨k, g, n, d⟩] w fun e w' => e = .returned (.tuple #[.string (sOf t), .int .i64 ee]) ∧ Below w.heap.size w w' := by
  have hwid : sWidth k = 3 := by unfold sWidth; rw [if_pos h]
  have HWI := hd hwid
  have HP := hd (put_is hp (by show ¬ k < 1; omega) (by show ¬ 9 < k; omega))
  have HK := hd h
  have hk1 : ¬ k < 1 := by omega
  have hk9 : ¬ 9 < k := by omega
  have hkn : (k == 9) = true := by simp; omega
  have HW := hd hW
  have HE := hd hE
  clear hE hW hp hwid h
  have htg := toList_sOf g
  have htd := toList_sOf d
  have htop : sTop ⟨k, g, n, d⟩ = [rootT, [83, 84, 65, 84, 69], n] := by unfold sTop; have := HK.out; simp only; rw [if_pos this]
  have hfree : sFree ⟨k, g, n, d⟩ = [n] := by unfold sFree; have := HK.out; simp only; rw [if_pos this]
  rw [htop, hfree] at HP
  clear htop hfree
  unfold spV
  cases ed : d.isEmpty
  · have hr := HP.out.form (by unfold sBadForm; rw [HWI.out, ed]; simp)
    obtain ⟨rfl, rfl⟩ := hr
    clear HP
    go_enter Tryd.func34, Tryd.ntmps34
    go_wp2_with fail
    refine (width_c k _).mono ?_
    rw [HWI.out]
    rintro e9 w0 ⟨rfl, rfl⟩
    go_wp2_with fail
    exact bodyPost_ret (v := .tuple #[.string ⟨#[]⟩, .int .i64 4]) (by simp [results, Tryd.results34, go_sem]) rfl ⟨rfl, by go_grown⟩
  cases eg : g.isEmpty
  · have hr := HP.out.form (by unfold sBadForm; rw [eg]; have := HK.out; simp [this])
    obtain ⟨rfl, rfl⟩ := hr
    clear HP
    go_enter Tryd.func34, Tryd.ntmps34
    go_wp2_with fail
    refine (width_c k _).mono ?_
    rw [HWI.out]
    rintro e9 w0 ⟨rfl, rfl⟩
    go_wp2_with fail
    exact bodyPost_ret (v := .tuple #[.string ⟨#[]⟩, .int .i64 4]) (by simp [results, Tryd.results34, go_sem]) rfl ⟨rfl, by go_grown⟩
  have hbad : sBadForm ⟨k, g, n, d⟩ = false := by unfold sBadForm; rw [HWI.out, ed, eg]; simp
  rw [hbad] at HP
  have hF := HP.out.free rfl
  have hN := HP.out.name rfl
  have hG := HP.out.good rfl
  have hlen := @top9_len  n
  have hparts := fun w => parts9_c k g n d w
  unfold spV at hparts
  have hsz : ∀ x ∈ [n], x.length ≤ 9223372036854775000 := by simp; omega
  have hpl : ([n] : List (List UInt8)).length = 1 := rfl
  have hql : ([rootT, [83, 84, 65, 84, 69], n] : List (List UInt8)).length ≤ 5 := by simp
  have HPA := hd hparts
  clear hparts hbad HP
  generalize hgt : [rootT, [83, 84, 65, 84, 69], n] = q at *
  clear hgt
  generalize hgf : [n] = p at *
  clear hgf
  have HF := hd hF; have HN := hd hN; have HG := hd hG; have HL := hd hlen; have HS := hd hsz; have HQ := hd hql
  clear hF hN hG hlen hsz hql
  go_enter Tryd.func34, Tryd.ntmps34
  go_wp2_with fail
  refine (width_c k _).mono ?_
  rw [HWI.out]
  rintro e9 w0 ⟨rfl, rfl⟩
  go_wp2_with fail
  have hb1 : Below w.heap.size w (w.alloc (.cells #[.int .i64 k, .string (sOf g), .string (sOf n), .string (sOf d)] 33)) := by go_grown
  refine (HPA.out _ (HW.out.below hb1 (Nat.le_refl _)) HK.out).mono ?_
  rintro e w1 ⟨va, vb, rfl, ha, hb, hB⟩
  replace hb1 := Below.up hb1 hB
  obtain ⟨aa, ac, rfl⟩ := ha.slice
  obtain ⟨ba, bc, rfl⟩ := hb.slice
  have HA := hd ha; have HB := hd hb
  clear ha hb hB htg htd
  obtain ⟨r, hr⟩ : ∃ r, p.all sPart = r := ⟨_, rfl⟩
  rw [hr] at HF HN HG HL
  rw [hpl] at HB ⊢
  go_wp2_with fail
  go_loopw [41] (fun i w' => ∃ j : Nat, i = .int .i64 j ∧ j ≤ p.length ∧ Below w1.heap.size w1 w' ∧ (p.drop j).all sPart = r) (fun i _ => leftL p.length i)
  case atStart => exact ⟨0, rfl, by omega, Below.refl _ _, hr⟩
  case round =>
    obtain ⟨j, rfl, hj, hB, hal⟩ := hrel
    clear hr
    by_cases hjp : j < p.length
    · obtain ⟨x, hx⟩ : ∃ x, p[j]? = some x := ⟨_, List.getElem?_eq_getElem hjp⟩
      obtain ⟨b, o, rfl, hbl, hc⟩ := HB.out.at hx
      replace hc := (bcell hB _ _ hbl).trans hc
      have hxl := HS.out x (List.mem_of_getElem? hx)
      rw [all_at hx] at hal
      have HAL := hd hal
      clear hal hx
      rw [hpl] at hj hjp
      go_wp2_with fail
      refine (part_c x _ ((HE.out.below hb1).below hB) hxl).mono ?_
      rintro e w2 ⟨rfl, hB2⟩
      replace hB := Below.up hB hB2
      clear hB2
      cases ex : sPart x
      · have hrf : r = false := by have := HAL.out; rw [ex, Bool.false_and] at this; exact this.symm
        obtain ⟨rfl, rfl⟩ := HF.out hrf
        clear HF HN HG HL HAL
        go_wp2_with fail
        exact bodyPost_ret (v := .tuple #[.string ⟨#[]⟩, .int .i64 13]) (by simp [results, Tryd.results34, go_sem]) rfl ⟨rfl, hb1.trans (hB.mono hb1.size)⟩
      · have HAL2 := hd (show (p.drop (j + 1)).all sPart = r by have := HAL.out; rw [ex, Bool.true_and] at this; exact this)
        clear HAL
        go_wp2_with fail
        go_roundw
        case rel => exact ⟨j + 1, by congr 1, by omega, hB, HAL2.out⟩
        case measure => simp [leftL]; omega
    · have hjl : j = p.length := by omega
      rw [hjl, List.drop_of_length_le (Nat.le_refl _)] at hal
      have hrt : true = r := hal
      subst hrt
      have hN := HN.out rfl
      have hG := HG.out rfl
      have hL := HL.out rfl
      have hQ := HQ.out
      rw [hpl] at hjl
      have HA2 := hd (HA.out.below' hB (Nat.le_refl _))
      have hbw := hb1.trans (hB.mono hb1.size)
      clear HF HN HG HL hal HA hpl
      subst hjl
      have HN := hd hN; have HG := hd hG
      clear hN hG
      go_wp2_with fail
      refine (Join_c q _ _ HA2.out (by omega) (by omega)).mono ?_
      rintro e w3 ⟨rfl, hB3⟩
      replace hbw := Below.up hbw hB3
      clear hB3
      go_wp2_with fail
      refine (Name_c (lJoin q) _ (HE.out.below hbw) (by omega)).mono ?_
      rintro e w4 ⟨rfl, hB3⟩
      replace hbw := Below.up hbw hB3
      clear hB3
      cases en : lName (lJoin q)
      · obtain ⟨rfl, rfl⟩ := HN.out en
        clear HN HG
        go_wp2_with fail
        exact bodyPost_ret (v := .tuple #[.string ⟨#[]⟩, .int .i64 13]) (by simp [results, Tryd.results34, go_sem]) rfl ⟨rfl, hbw⟩
      · obtain ⟨rfl, rfl⟩ := HG.out en
        clear HN HG
        go_wp2_with fail
        exact bodyPost_ret (v := .tuple #[.string (sOf (lJoin q)), .int .i64 0]) (by simp [results, Tryd.results34, go_sem]) rfl ⟨rfl, hbw⟩

set_option maxRecDepth 100000 in
set_option maxHeartbeats 4000000 in
theorem put5_c (k : Int) (g n d t : List UInt8) (ee : Int) (w : World) (hp : sPut ⟨k, g, n, d⟩ = (t, ee)) (hE : EnvU w) (hW : EnvW w) (h : 5 ≤ k ∧ k ≤ 8) (hzg : g.length ≤ 9223372036854775000) (hzn : n.length ≤ 9223372036854775000) (hzd : d.length ≤ 9223372036854775000) :
    Calls Tryd.prog 34 #[spV ⟨k, g, n, d⟩] w fun e w' => e = .returned (.tuple #[.string (sOf t), .int .i64 ee]) ∧ Below w.heap.size w w' := by
  have hwid : sWidth k = 5 := by unfold sWidth; rw [if_neg (by omega), if_pos (by omega)]
  have HWI := hd hwid
  have HP := hd (put_is hp (by show ¬ k < 1; omega) (by show ¬ 9 < k; omega))
  have HK := hd h
  have hk1 : ¬ k < 1 := by omega
  have hk9 : ¬ 9 < k := by omega
  have hkn : (k == 9) = false := by simp; omega
  have HW := hd hW
  have HE := hd hE
  clear hE hW hp hwid h
  have htg := toList_sOf g
  have htd := toList_sOf d
  have htop : sTop ⟨k, g, n, d⟩ = [rootT, g, sWord k, n, d] := by unfold sTop; have := HK.out; simp only; rw [if_neg (by omega), if_pos (by omega)]
  have hfree : sFree ⟨k, g, n, d⟩ = [g, n, d] := by unfold sFree; have := HK.out; simp only; rw [if_neg (by omega), if_pos (by omega)]
  rw [htop, hfree] at HP
  clear htop hfree
  unfold spV
  have hbad : sBadForm ⟨k, g, n, d⟩ = false := by unfold sBadForm; rw [HWI.out]; have := HK.out; simp; omega
  rw [hbad] at HP
  have hF := HP.out.free rfl
  have hN := HP.out.name rfl
  have hG := HP.out.good rfl
  have hlen := @top5_len k g n d
  have hparts := fun w => parts5_c k g n d w
  unfold spV at hparts
  have hsz : ∀ x ∈ [g, n, d], x.length ≤ 9223372036854775000 := by simp; omega
  have hpl : ([g, n, d] : List (List UInt8)).length = 3 := rfl
  have hql : ([rootT, g, sWord k, n, d] : List (List UInt8)).length ≤ 5 := by simp
  have HPA := hd hparts
  clear hparts hbad HP
  generalize hgt : [rootT, g, sWord k, n, d] = q at *
  clear hgt
  generalize hgf : [g, n, d] = p at *
  clear hgf
  have HF := hd hF; have HN := hd hN; have HG := hd hG; have HL := hd hlen; have HS := hd hsz; have HQ := hd hql
  clear hF hN hG hlen hsz hql
  go_enter Tryd.func34, Tryd.ntmps34
  go_wp2_with fail
  refine (width_c k _).mono ?_
  rw [HWI.out]
  rintro e9 w0 ⟨rfl, rfl⟩
  go_wp2_with fail
  have hb1 : Below w.heap.size w (w.alloc (.cells #[.int .i64 k, .string (sOf g), .string (sOf n), .string (sOf d)] 33)) := by go_grown
  refine (HPA.out _ (HW.out.below hb1 (Nat.le_refl _)) HK.out).mono ?_
  rintro e w1 ⟨va, vb, rfl, ha, hb, hB⟩
  replace hb1 := Below.up hb1 hB
  obtain ⟨aa, ac, rfl⟩ := ha.slice
  obtain ⟨ba, bc, rfl⟩ := hb.slice
  have HA := hd ha; have HB := hd hb
  clear ha hb hB htg htd
  obtain ⟨r, hr⟩ : ∃ r, p.all sPart = r := ⟨_, rfl⟩
  rw [hr] at HF HN HG HL
  rw [hpl] at HB ⊢
  go_wp2_with fail
  go_loopw [41] (fun i w' => ∃ j : Nat, i = .int .i64 j ∧ j ≤ p.length ∧ Below w1.heap.size w1 w' ∧ (p.drop j).all sPart = r) (fun i _ => leftL p.length i)
  case atStart => exact ⟨0, rfl, by omega, Below.refl _ _, hr⟩
  case round =>
    obtain ⟨j, rfl, hj, hB, hal⟩ := hrel
    clear hr
    by_cases hjp : j < p.length
    · obtain ⟨x, hx⟩ : ∃ x, p[j]? = some x := ⟨_, List.getElem?_eq_getElem hjp⟩
      obtain ⟨b, o, rfl, hbl, hc⟩ := HB.out.at hx
      replace hc := (bcell hB _ _ hbl).trans hc
      have hxl := HS.out x (List.mem_of_getElem? hx)
      rw [all_at hx] at hal
      have HAL := hd hal
      clear hal hx
      rw [hpl] at hj hjp
      go_wp2_with fail
      refine (part_c x _ ((HE.out.below hb1).below hB) hxl).mono ?_
      rintro e w2 ⟨rfl, hB2⟩
      replace hB := Below.up hB hB2
      clear hB2
      cases ex : sPart x
      · have hrf : r = false := by have := HAL.out; rw [ex, Bool.false_and] at this; exact this.symm
        obtain ⟨rfl, rfl⟩ := HF.out hrf
        clear HF HN HG HL HAL
        go_wp2_with fail
        exact bodyPost_ret (v := .tuple #[.string ⟨#[]⟩, .int .i64 13]) (by simp [results, Tryd.results34, go_sem]) rfl ⟨rfl, hb1.trans (hB.mono hb1.size)⟩
      · have HAL2 := hd (show (p.drop (j + 1)).all sPart = r by have := HAL.out; rw [ex, Bool.true_and] at this; exact this)
        clear HAL
        go_wp2_with fail
        go_roundw
        case rel => exact ⟨j + 1, by congr 1, by omega, hB, HAL2.out⟩
        case measure => simp [leftL]; omega
    · have hjl : j = p.length := by omega
      rw [hjl, List.drop_of_length_le (Nat.le_refl _)] at hal
      have hrt : true = r := hal
      subst hrt
      have hN := HN.out rfl
      have hG := HG.out rfl
      have hL := HL.out rfl
      have hQ := HQ.out
      rw [hpl] at hjl
      have HA2 := hd (HA.out.below' hB (Nat.le_refl _))
      have hbw := hb1.trans (hB.mono hb1.size)
      clear HF HN HG HL hal HA hpl
      subst hjl
      have HN := hd hN; have HG := hd hG
      clear hN hG
      go_wp2_with fail
      refine (Join_c q _ _ HA2.out (by omega) (by omega)).mono ?_
      rintro e w3 ⟨rfl, hB3⟩
      replace hbw := Below.up hbw hB3
      clear hB3
      go_wp2_with fail
      refine (Name_c (lJoin q) _ (HE.out.below hbw) (by omega)).mono ?_
      rintro e w4 ⟨rfl, hB3⟩
      replace hbw := Below.up hbw hB3
      clear hB3
      cases en : lName (lJoin q)
      · obtain ⟨rfl, rfl⟩ := HN.out en
        clear HN HG
        go_wp2_with fail
        exact bodyPost_ret (v := .tuple #[.string ⟨#[]⟩, .int .i64 13]) (by simp [results, Tryd.results34, go_sem]) rfl ⟨rfl, hbw⟩
      · obtain ⟨rfl, rfl⟩ := HG.out en
        clear HN HG
        go_wp2_with fail
        exact bodyPost_ret (v := .tuple #[.string (sOf (lJoin q)), .int .i64 0]) (by simp [results, Tryd.results34, go_sem]) rfl ⟨rfl, hbw⟩

set_option maxRecDepth 100000 in
set_option maxHeartbeats 4000000 in
theorem put4_c (k : Int) (g n d t : List UInt8) (ee : Int) (w : World) (hp : sPut ⟨k, g, n, d⟩ = (t, ee)) (hE : EnvU w) (hW : EnvW w) (h : 1 ≤ k ∧ k ≤ 4) (hzg : g.length ≤ 9223372036854775000) (hzn : n.length ≤ 9223372036854775000) (hzd : d.length ≤ 9223372036854775000) :
    Calls Tryd.prog 34 #[spV ⟨k, g, n, d⟩] w fun e w' => e = .returned (.tuple #[.string (sOf t), .int .i64 ee]) ∧ Below w.heap.size w w' := by
  have hwid : sWidth k = 4 := by unfold sWidth; rw [if_neg (by omega), if_neg (by omega)]
  have HWI := hd hwid
  have HP := hd (put_is hp (by show ¬ k < 1; omega) (by show ¬ 9 < k; omega))
  have HK := hd h
  have hk1 : ¬ k < 1 := by omega
  have hk9 : ¬ 9 < k := by omega
  have hkn : (k == 9) = false := by simp; omega
  have HW := hd hW
  have HE := hd hE
  clear hE hW hp hwid h
  have htg := toList_sOf g
  have htd := toList_sOf d
  have htop : sTop ⟨k, g, n, d⟩ = [rootT, g, sWord k, n] := by unfold sTop; have := HK.out; simp only; rw [if_neg (by omega), if_neg (by omega)]
  have hfree : sFree ⟨k, g, n, d⟩ = [g, n] := by unfold sFree; have := HK.out; simp only; rw [if_neg (by omega), if_neg (by omega)]
  rw [htop, hfree] at HP
  clear htop hfree
  unfold spV
  cases ed : d.isEmpty
  · have hr := HP.out.form (by unfold sBadForm; rw [HWI.out, ed]; simp)
    obtain ⟨rfl, rfl⟩ := hr
    clear HP
    go_enter Tryd.func34, Tryd.ntmps34
    go_wp2_with fail
    refine (width_c k _).mono ?_
    rw [HWI.out]
    rintro e9 w0 ⟨rfl, rfl⟩
    go_wp2_with fail
    exact bodyPost_ret (v := .tuple #[.string ⟨#[]⟩, .int .i64 4]) (by simp [results, Tryd.results34, go_sem]) rfl ⟨rfl, by go_grown⟩
  have hbad : sBadForm ⟨k, g, n, d⟩ = false := by unfold sBadForm; rw [HWI.out, ed]; have := HK.out; simp; omega
  rw [hbad] at HP
  have hF := HP.out.free rfl
  have hN := HP.out.name rfl
  have hG := HP.out.good rfl
  have hlen := @top4_len k g n
  have hparts := fun w => parts4_c k g n d w
  unfold spV at hparts
  have hsz : ∀ x ∈ [g, n], x.length ≤ 9223372036854775000 := by simp; omega
  have hpl : ([g, n] : List (List UInt8)).length = 2 := rfl
  have hql : ([rootT, g, sWord k, n] : List (List UInt8)).length ≤ 5 := by simp
  have HPA := hd hparts
  clear hparts hbad HP
  generalize hgt : [rootT, g, sWord k, n] = q at *
  clear hgt
  generalize hgf : [g, n] = p at *
  clear hgf
  have HF := hd hF; have HN := hd hN; have HG := hd hG; have HL := hd hlen; have HS := hd hsz; have HQ := hd hql
  clear hF hN hG hlen hsz hql
  go_enter Tryd.func34, Tryd.ntmps34
  go_wp2_with fail
  refine (width_c k _).mono ?_
  rw [HWI.out]
  rintro e9 w0 ⟨rfl, rfl⟩
  go_wp2_with fail
  have hb1 : Below w.heap.size w (w.alloc (.cells #[.int .i64 k, .string (sOf g), .string (sOf n), .string (sOf d)] 33)) := by go_grown
  refine (HPA.out _ (HW.out.below hb1 (Nat.le_refl _)) HK.out).mono ?_
  rintro e w1 ⟨va, vb, rfl, ha, hb, hB⟩
  replace hb1 := Below.up hb1 hB
  obtain ⟨aa, ac, rfl⟩ := ha.slice
  obtain ⟨ba, bc, rfl⟩ := hb.slice
  have HA := hd ha; have HB := hd hb
  clear ha hb hB htg htd
  obtain ⟨r, hr⟩ : ∃ r, p.all sPart = r := ⟨_, rfl⟩
  rw [hr] at HF HN HG HL
  rw [hpl] at HB ⊢
  go_wp2_with fail
  go_loopw [41] (fun i w' => ∃ j : Nat, i = .int .i64 j ∧ j ≤ p.length ∧ Below w1.heap.size w1 w' ∧ (p.drop j).all sPart = r) (fun i _ => leftL p.length i)
  case atStart => exact ⟨0, rfl, by omega, Below.refl _ _, hr⟩
  case round =>
    obtain ⟨j, rfl, hj, hB, hal⟩ := hrel
    clear hr
    by_cases hjp : j < p.length
    · obtain ⟨x, hx⟩ : ∃ x, p[j]? = some x := ⟨_, List.getElem?_eq_getElem hjp⟩
      obtain ⟨b, o, rfl, hbl, hc⟩ := HB.out.at hx
      replace hc := (bcell hB _ _ hbl).trans hc
      have hxl := HS.out x (List.mem_of_getElem? hx)
      rw [all_at hx] at hal
      have HAL := hd hal
      clear hal hx
      rw [hpl] at hj hjp
      go_wp2_with fail
      refine (part_c x _ ((HE.out.below hb1).below hB) hxl).mono ?_
      rintro e w2 ⟨rfl, hB2⟩
      replace hB := Below.up hB hB2
      clear hB2
      cases ex : sPart x
      · have hrf : r = false := by have := HAL.out; rw [ex, Bool.false_and] at this; exact this.symm
        obtain ⟨rfl, rfl⟩ := HF.out hrf
        clear HF HN HG HL HAL
        go_wp2_with fail
        exact bodyPost_ret (v := .tuple #[.string ⟨#[]⟩, .int .i64 13]) (by simp [results, Tryd.results34, go_sem]) rfl ⟨rfl, hb1.trans (hB.mono hb1.size)⟩
      · have HAL2 := hd (show (p.drop (j + 1)).all sPart = r by have := HAL.out; rw [ex, Bool.true_and] at this; exact this)
        clear HAL
        go_wp2_with fail
        go_roundw
        case rel => exact ⟨j + 1, by congr 1, by omega, hB, HAL2.out⟩
        case measure => simp [leftL]; omega
    · have hjl : j = p.length := by omega
      rw [hjl, List.drop_of_length_le (Nat.le_refl _)] at hal
      have hrt : true = r := hal
      subst hrt
      have hN := HN.out rfl
      have hG := HG.out rfl
      have hL := HL.out rfl
      have hQ := HQ.out
      rw [hpl] at hjl
      have HA2 := hd (HA.out.below' hB (Nat.le_refl _))
      have hbw := hb1.trans (hB.mono hb1.size)
      clear HF HN HG HL hal HA hpl
      subst hjl
      have HN := hd hN; have HG := hd hG
      clear hN hG
      go_wp2_with fail
      refine (Join_c q _ _ HA2.out (by omega) (by omega)).mono ?_
      rintro e w3 ⟨rfl, hB3⟩
      replace hbw := Below.up hbw hB3
      clear hB3
      go_wp2_with fail
      refine (Name_c (lJoin q) _ (HE.out.below hbw) (by omega)).mono ?_
      rintro e w4 ⟨rfl, hB3⟩
      replace hbw := Below.up hbw hB3
      clear hB3
      cases en : lName (lJoin q)
      · obtain ⟨rfl, rfl⟩ := HN.out en
        clear HN HG
        go_wp2_with fail
        exact bodyPost_ret (v := .tuple #[.string ⟨#[]⟩, .int .i64 13]) (by simp [results, Tryd.results34, go_sem]) rfl ⟨rfl, hbw⟩
      · obtain ⟨rfl, rfl⟩ := HG.out en
        clear HN HG
        go_wp2_with fail
        exact bodyPost_ret (v := .tuple #[.string (sOf (lJoin q)), .int .i64 0]) (by simp [results, Tryd.results34, go_sem]) rfl ⟨rfl, hbw⟩

set_option maxRecDepth 100000 in
set_option maxHeartbeats 4000000 in
theorem Put_c (s : SpS) (w : World) (hE : EnvU w) (hW : EnvW w) (hzg : s.g.length ≤ 9223372036854775000) (hzn : s.n.length ≤ 9223372036854775000) (hzd : s.d.length ≤ 9223372036854775000) :
    Calls Tryd.prog 34 #[spV s] w fun e w' => e = .returned (.tuple #[.string (sOf (sPut s).1), .int .i64 (sPut s).2]) ∧ Below w.heap.size w w' := by
  obtain ⟨t, ee, hp⟩ : ∃ t ee, sPut s = (t, ee) := ⟨_, _, rfl⟩
  rw [hp]
  obtain ⟨k, g, n, d⟩ := s
  simp only at hzg hzn hzd ⊢
  by_cases h1 : k < 1
  · have : t = [] ∧ ee = 11 := by
      unfold sPut at hp
      rw [if_pos (.inl h1)] at hp
      exact ⟨(Prod.mk.inj hp).1.symm, (Prod.mk.inj hp).2.symm⟩
    obtain ⟨rfl, rfl⟩ := this
    clear hp
    unfold spV
    go_enter Tryd.func34, Tryd.ntmps34
    go_wp2_with fail
    exact bodyPost_ret (v := .tuple #[.string ⟨#[]⟩, .int .i64 11]) (by simp [results, Tryd.results34, go_sem]) rfl ⟨rfl, by go_grown⟩
  by_cases h9 : 9 < k
  · have : t = [] ∧ ee = 11 := by
      unfold sPut at hp
      rw [if_pos (.inr h9)] at hp
      exact ⟨(Prod.mk.inj hp).1.symm, (Prod.mk.inj hp).2.symm⟩
    obtain ⟨rfl, rfl⟩ := this
    clear hp
    unfold spV
    go_enter Tryd.func34, Tryd.ntmps34
    go_wp2_with fail
    exact bodyPost_ret (v := .tuple #[.string ⟨#[]⟩, .int .i64 11]) (by simp [results, Tryd.results34, go_sem]) rfl ⟨rfl, by go_grown⟩
  by_cases e9 : k = 9
  · exact put9_c k g n d t ee w hp hE hW e9 hzg hzn hzd
  by_cases e5 : 5 ≤ k
  · exact put5_c k g n d t ee w hp hE hW (by omega) hzg hzn hzd
  · exact put4_c k g n d t ee w hp hE hW (by omega) hzg hzn hzd
end Go.Proofs.YtopopdghmfbciaaDoor
