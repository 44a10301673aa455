/- A bundle of texts (merged for the limit on files): SpPut, SpOf. -/
import Derived.Test.YtclicjokgfiegaaGreatDoorZa5
/- Spots and topics: a spot's topic: the walk. -/
namespace Go.Proofs.YtclicjokgfiegaaGreatDoor
open Go.RowKit
set_option linter.unusedVariables false
set_option linter.unusedSimpArgs false

structure PutIs (bad : Bool) (fr tp : List (List UInt8)) (t : List UInt8) (e : Int) : Prop where
  form : bad = true → t = [] ∧ e = 4
  free : bad = false → fr.all sPart = false → t = [] ∧ e = 13
  name : bad = false → fr.all sPart = true → lName (lJoin tp) = false → t = [] ∧ e = 13
  good : bad = false → fr.all sPart = true → lName (lJoin tp) = true → t = lJoin tp ∧ e = 0
theorem put_is {s : SpS} {t : List UInt8} {e : Int} (h : sPut s = (t, e)) (h1 : ¬ s.k < 1) (h9 : ¬ 9 < s.k) : PutIs (sBadForm s) (sFree s) (sTop s) t e := by
  unfold sPut at h
  rw [if_neg (by omega)] at h
  refine ⟨fun a => ?_, fun a b => ?_, fun a b c => ?_, fun a b c => ?_⟩
  · rw [if_pos a] at h
    exact ⟨(Prod.mk.inj h).1.symm, (Prod.mk.inj h).2.symm⟩
  · rw [if_neg (by simp [a]), if_neg (by simp [b])] at h
    exact ⟨(Prod.mk.inj h).1.symm, (Prod.mk.inj h).2.symm⟩
  · rw [if_neg (by simp [a]), if_pos b, if_neg (by simp [c])] at h
    exact ⟨(Prod.mk.inj h).1.symm, (Prod.mk.inj h).2.symm⟩
  · rw [if_neg (by simp [a]), if_pos b, if_pos c] at h
    exact ⟨(Prod.mk.inj h).1.symm, (Prod.mk.inj h).2.symm⟩
theorem word_len (k : Int) : (sWord k).length ≤ 6 := by
  unfold sWord
  split
  · rename_i h
    obtain ⟨n, rfl⟩ := Int.eq_ofNat_of_zero_le h.1
    have hn : n ≤ 9 := by omega
    rw [Int.toNat_natCast]
    match n, hn with
    | 0, _ => decide
    | 1, _ => decide
    | 2, _ => decide
    | 3, _ => decide
    | 4, _ => decide
    | 5, _ => decide
    | 6, _ => decide
    | 7, _ => decide
    | 8, _ => decide
    | 9, _ => decide
  · simp
theorem sPart_len {x : List UInt8} (h : sPart x = true) : x.length ≤ 96 := by
  rw [sPart_eq, Bool.and_eq_true] at h
  have h2 := h.1
  unfold lName at h2
  rw [Bool.and_eq_true] at h2
  exact (lSized_len h2.1).2.1
theorem top9_len {n : List UInt8} (h : [n].all sPart = true) : (lJoin [rootT, [83, 84, 65, 84, 69], n]).length ≤ 1000 := by
  have h1 := sPart_len (x := n) (by simpa using h)
  simp [lJoin_cons, Lib.joinTail, rootT]
  omega
theorem top5_len {k : Int} {g n d : List UInt8} (h : [g, n, d].all sPart = true) : (lJoin [rootT, g, sWord k, n, d]).length ≤ 1000 := by
  simp only [List.all_cons, List.all_nil, Bool.and_true, Bool.and_eq_true] at h
  have h1 := sPart_len h.1
  have h2 := sPart_len h.2.1
  have h3 := sPart_len h.2.2
  have h4 := word_len k
  simp [lJoin_cons, Lib.joinTail, rootT]
  omega
theorem top4_len {k : Int} {g n : List UInt8} (h : [g, n].all sPart = true) : (lJoin [rootT, g, sWord k, n]).length ≤ 1000 := by
  simp only [List.all_cons, List.all_nil, Bool.and_true, Bool.and_eq_true] at h
  have h1 := sPart_len h.1
  have h2 := sPart_len h.2
  have h4 := word_len k
  simp [lJoin_cons, Lib.joinTail, rootT]
  omega
theorem all_at {f : List UInt8 → Bool} {p : List (List UInt8)} {k : Nat} {x : List UInt8} (hk : p[k]? = some x) : (p.drop k).all f = (f x && (p.drop (k + 1)).all f) := by
  have hlt : k < p.length := (List.getElem?_eq_some_iff.1 hk).1
  have hpx : p[k] = x := (List.getElem?_eq_some_iff.1 hk).2
  rw [List.drop_eq_getElem_cons hlt, hpx, List.all_cons]

set_option maxRecDepth 100000 in
set_option maxHeartbeats 4000000 in
theorem put9_c (k : Int) (g n d t : List UInt8) (ee : Int) (w : World) (hp : sPut ⟨k, g, n, d⟩ = (t, ee)) (hE : EnvU w) (hW : EnvW w) (h : k = 9) (hzg : g.length ≤ 9223372036854775000) (hzn : n.length ≤ 9223372036854775000) (hzd : d.length ≤ 9223372036854775000) :
    Calls Tryz.prog 74 #[spV ⟨k, g, n, d⟩] w fun e w' => e = .returned (.tuple #[.string (sOf t), .int .i64 ee]) ∧ Below w.heap.size w w' := by
  have hwid : sWidth k = 3 := by unfold sWidth; rw [if_pos h]
  have HWI := hd hwid
  have HP := hd (put_is hp (by show ¬ k < 1; omega) (by show ¬ 9 < k; omega))
  have HK := hd h
  have hk1 : ¬ k < 1 := by omega
  have hk9 : ¬ 9 < k := by omega
  have hkn : (k == 9) = true := by simp; omega
  have HW := hd hW
  have HE := hd hE
  clear hE hW hp hwid h
  have htg := toList_sOf g
  have htd := toList_sOf d
  have htop : sTop ⟨k, g, n, d⟩ = [rootT, [83, 84, 65, 84, 69], n] := by unfold sTop; have := HK.out; simp only; rw [if_pos this]
  have hfree : sFree ⟨k, g, n, d⟩ = [n] := by unfold sFree; have := HK.out; simp only; rw [if_pos this]
  rw [htop, hfree] at HP
  clear htop hfree
  unfold spV
  cases ed : d.isEmpty
  · have hr := HP.out.form (by unfold sBadForm; rw [HWI.out, ed]; simp)
    obtain ⟨rfl, rfl⟩ := hr
    clear HP
    go_enter Tryz.func74, Tryz.ntmps74
    go_wp2_with fail
    refine (width_c k _).mono ?_
    rw [HWI.out]
    rintro e9 w0 ⟨rfl, rfl⟩
    go_wp2_with fail
    exact bodyPost_ret (v := .tuple #[.string ⟨#[]⟩, .int .i64 4]) (by simp [results, Tryz.results74, go_sem]) rfl ⟨rfl, by go_grown⟩
  cases eg : g.isEmpty
  · have hr := HP.out.form (by unfold sBadForm; rw [eg]; have := HK.out; simp [this])
    obtain ⟨rfl, rfl⟩ := hr
    clear HP
    go_enter Tryz.func74, Tryz.ntmps74
    go_wp2_with fail
    refine (width_c k _).mono ?_
    rw [HWI.out]
    rintro e9 w0 ⟨rfl, rfl⟩
    go_wp2_with fail
    exact bodyPost_ret (v := .tuple #[.string ⟨#[]⟩, .int .i64 4]) (by simp [results, Tryz.results74, go_sem]) rfl ⟨rfl, by go_grown⟩
  have hbad : sBadForm ⟨k, g, n, d⟩ = false := by unfold sBadForm; rw [HWI.out, ed, eg]; simp
  rw [hbad] at HP
  have hF := HP.out.free rfl
  have hN := HP.out.name rfl
  have hG := HP.out.good rfl
  have hlen := @top9_len  n
  have hparts := fun w => parts9_c k g n d w
  unfold spV at hparts
  have hsz : ∀ x ∈ [n], x.length ≤ 9223372036854775000 := by simp; omega
  have hpl : ([n] : List (List UInt8)).length = 1 := rfl
  have hql : ([rootT, [83, 84, 65, 84, 69], n] : List (List UInt8)).length ≤ 5 := by simp
  have HPA := hd hparts
  clear hparts hbad HP
  generalize hgt : [rootT, [83, 84, 65, 84, 69], n] = q at *
  clear hgt
  generalize hgf : [n] = p at *
  clear hgf
  have HF := hd hF; have HN := hd hN; have HG := hd hG; have HL := hd hlen; have HS := hd hsz; have HQ := hd hql
  clear hF hN hG hlen hsz hql
  go_enter Tryz.func74, Tryz.ntmps74
  go_wp2_with fail
  refine (width_c k _).mono ?_
  rw [HWI.out]
  rintro e9 w0 ⟨rfl, rfl⟩
  go_wp2_with fail
  have hb1 : Below w.heap.size w (w.alloc (.cells #[.int .i64 k, .string (sOf g), .string (sOf n), .string (sOf d)] 93)) := by go_grown
  refine (HPA.out _ (HW.out.below hb1 (Nat.le_refl _)) HK.out).mono ?_
  rintro e w1 ⟨va, vb, rfl, ha, hb, hB⟩
  replace hb1 := Below.up hb1 hB
  obtain ⟨aa, ac, rfl⟩ := ha.slice
  obtain ⟨ba, bc, rfl⟩ := hb.slice
  have HA := hd ha; have HB := hd hb
  clear ha hb hB htg htd
  obtain ⟨r, hr⟩ : ∃ r, p.all sPart = r := ⟨_, rfl⟩
  rw [hr] at HF HN HG HL
  rw [hpl] at HB ⊢
  go_wp2_with fail
  go_loopw [41] (fun i w' => ∃ j : Nat, i = .int .i64 j ∧ j ≤ p.length ∧ Below w1.heap.size w1 w' ∧ (p.drop j).all sPart = r) (fun i _ => leftL p.length i)
  case atStart => exact ⟨0, rfl, by omega, Below.refl _ _, hr⟩
  case round =>
    obtain ⟨j, rfl, hj, hB, hal⟩ := hrel
    clear hr
    by_cases hjp : j < p.length
    · obtain ⟨x, hx⟩ : ∃ x, p[j]? = some x := ⟨_, List.getElem?_eq_getElem hjp⟩
      obtain ⟨b, o, rfl, hbl, hc⟩ := HB.out.at hx
      replace hc := (bcell hB _ _ hbl).trans hc
      have hxl := HS.out x (List.mem_of_getElem? hx)
      rw [all_at hx] at hal
      have HAL := hd hal
      clear hal hx
      rw [hpl] at hj hjp
      go_wp2_with fail
      refine (part_c x _ ((HE.out.below hb1).below hB) hxl).mono ?_
      rintro e w2 ⟨rfl, hB2⟩
      replace hB := Below.up hB hB2
      clear hB2
      cases ex : sPart x
      · have hrf : r = false := by have := HAL.out; rw [ex, Bool.false_and] at this; exact this.symm
        obtain ⟨rfl, rfl⟩ := HF.out hrf
        clear HF HN HG HL HAL
        go_wp2_with fail
        exact bodyPost_ret (v := .tuple #[.string ⟨#[]⟩, .int .i64 13]) (by simp [results, Tryz.results74, go_sem]) rfl ⟨rfl, hb1.trans (hB.mono hb1.size)⟩
      · have HAL2 := hd (show (p.drop (j + 1)).all sPart = r by have := HAL.out; rw [ex, Bool.true_and] at this; exact this)
        clear HAL
        go_wp2_with fail
        go_roundw
        case rel => exact ⟨j + 1, by congr 1, by omega, hB, HAL2.out⟩
        case measure => simp [leftL]; omega
    · have hjl : j = p.length := by omega
      rw [hjl, List.drop_of_length_le (Nat.le_refl _)] at hal
      have hrt : true = r := hal
      subst hrt
      have hN := HN.out rfl
      have hG := HG.out rfl
      have hL := HL.out rfl
      have hQ := HQ.out
      rw [hpl] at hjl
      have HA2 := hd (HA.out.below' hB (Nat.le_refl _))
      have hbw := hb1.trans (hB.mono hb1.size)
      clear HF HN HG HL hal HA hpl
      subst hjl
      have HN := hd hN; have HG := hd hG
      clear hN hG
      go_wp2_with fail
      refine (Join_c q _ _ HA2.out (by omega) (by omega)).mono ?_
      rintro e w3 ⟨rfl, hB3⟩
      replace hbw := Below.up hbw hB3
      clear hB3
      go_wp2_with fail
      refine (Name_c (lJoin q) _ (HE.out.below hbw) (by omega)).mono ?_
      rintro e w4 ⟨rfl, hB3⟩
      replace hbw := Below.up hbw hB3
      clear hB3
      cases en : lName (lJoin q)
      · obtain ⟨rfl, rfl⟩ := HN.out en
        clear HN HG
        go_wp2_with fail
        exact bodyPost_ret (v := .tuple #[.string ⟨#[]⟩, .int .i64 13]) (by simp [results, Tryz.results74, go_sem]) rfl ⟨rfl, hbw⟩
      · obtain ⟨rfl, rfl⟩ := HG.out en
        clear HN HG
        go_wp2_with fail
        exact bodyPost_ret (v := .tuple #[.string (sOf (lJoin q)), .int .i64 0]) (by simp [results, Tryz.results74, go_sem]) rfl ⟨rfl, hbw⟩

set_option maxRecDepth 100000 in
set_option maxHeartbeats 4000000 in
theorem put5_c (k : Int) (g n d t : List UInt8) (ee : Int) (w : World) (hp : sPut ⟨k, g, n, d⟩ = (t, ee)) (hE : EnvU w) (hW : EnvW w) (h : 5 ≤ k ∧ k ≤ 8) (hzg : g.length ≤ 9223372036854775000) (hzn : n.length ≤ 9223372036854775000) (hzd : d.length ≤ 9223372036854775000) :
    Calls Tryz.prog 74 #[spV ⟨k, g, n, d⟩] w fun e w' => e = .returned (.tuple #[.string (sOf t), .int .i64 ee]) ∧ Below w.heap.size w w' := by
  have hwid : sWidth k = 5 := by unfold sWidth; rw [if_neg (by omega), if_pos (by omega)]
  have HWI := hd hwid
  have HP := hd (put_is hp (by show ¬ k < 1; omega) (by show ¬ 9 < k; omega))
  have HK := hd h
  have hk1 : ¬ k < 1 := by omega
  have hk9 : ¬ 9 < k := by omega
  have hkn : (k == 9) = false := by simp; omega
  have HW := hd hW
  have HE := hd hE
  clear hE hW hp hwid h
  have htg := toList_sOf g
  have htd := toList_sOf d
  have htop : sTop ⟨k, g, n, d⟩ = [rootT, g, sWord k, n, d] := by unfold sTop; have := HK.out; simp only; rw [if_neg (by omega), if_pos (by omega)]
  have hfree : sFree ⟨k, g, n, d⟩ = [g, n, d] := by unfold sFree; have := HK.out; simp only; rw [if_neg (by omega), if_pos (by omega)]
  rw [htop, hfree] at HP
  clear htop hfree
  unfold spV
  have hbad : sBadForm ⟨k, g, n, d⟩ = false := by unfold sBadForm; rw [HWI.out]; have := HK.out; simp; omega
  rw [hbad] at HP
  have hF := HP.out.free rfl
  have hN := HP.out.name rfl
  have hG := HP.out.good rfl
  have hlen := @top5_len k g n d
  have hparts := fun w => parts5_c k g n d w
  unfold spV at hparts
  have hsz : ∀ x ∈ [g, n, d], x.length ≤ 9223372036854775000 := by simp; omega
  have hpl : ([g, n, d] : List (List UInt8)).length = 3 := rfl
  have hql : ([rootT, g, sWord k, n, d] : List (List UInt8)).length ≤ 5 := by simp
  have HPA := hd hparts
  clear hparts hbad HP
  generalize hgt : [rootT, g, sWord k, n, d] = q at *
  clear hgt
  generalize hgf : [g, n, d] = p at *
  clear hgf
  have HF := hd hF; have HN := hd hN; have HG := hd hG; have HL := hd hlen; have HS := hd hsz; have HQ := hd hql
  clear hF hN hG hlen hsz hql
  go_enter Tryz.func74, Tryz.ntmps74
  go_wp2_with fail
  refine (width_c k _).mono ?_
  rw [HWI.out]
  rintro e9 w0 ⟨rfl, rfl⟩
  go_wp2_with fail
  have hb1 : Below w.heap.size w (w.alloc (.cells #[.int .i64 k, .string (sOf g), .string (sOf n), .string (sOf d)] 93)) := by go_grown
  refine (HPA.out _ (HW.out.below hb1 (Nat.le_refl _)) HK.out).mono ?_
  rintro e w1 ⟨va, vb, rfl, ha, hb, hB⟩
  replace hb1 := Below.up hb1 hB
  obtain ⟨aa, ac, rfl⟩ := ha.slice
  obtain ⟨ba, bc, rfl⟩ := hb.slice
  have HA := hd ha; have HB := hd hb
  clear ha hb hB htg htd
  obtain ⟨r, hr⟩ : ∃ r, p.all sPart = r := ⟨_, rfl⟩
  rw [hr] at HF HN HG HL
  rw [hpl] at HB ⊢
  go_wp2_with fail
  go_loopw [41] (fun i w' => ∃ j : Nat, i = .int .i64 j ∧ j ≤ p.length ∧ Below w1.heap.size w1 w' ∧ (p.drop j).all sPart = r) (fun i _ => leftL p.length i)
  case atStart => exact ⟨0, rfl, by omega, Below.refl _ _, hr⟩
  case round =>
    obtain ⟨j, rfl, hj, hB, hal⟩ := hrel
    clear hr
    by_cases hjp : j < p.length
    · obtain ⟨x, hx⟩ : ∃ x, p[j]? = some x := ⟨_, List.getElem?_eq_getElem hjp⟩
      obtain ⟨b, o, rfl, hbl, hc⟩ := HB.out.at hx
      replace hc := (bcell hB _ _ hbl).trans hc
      have hxl := HS.out x (List.mem_of_getElem? hx)
      rw [all_at hx] at hal
      have HAL := hd hal
      clear hal hx
      rw [hpl] at hj hjp
      go_wp2_with fail
      refine (part_c x _ ((HE.out.below hb1).below hB) hxl).mono ?_
      rintro e w2 ⟨rfl, hB2⟩
      replace hB := Below.up hB hB2
      clear hB2
      cases ex : sPart x
      · have hrf : r = false := by have := HAL.out; rw [ex, Bool.false_and] at this; exact this.symm
        obtain ⟨rfl, rfl⟩ := HF.out hrf
        clear HF HN HG HL HAL
        go_wp2_with fail
        exact bodyPost_ret (v := .tuple #[.string ⟨#[]⟩, .int .i64 13]) (by simp [results, Tryz.results74, go_sem]) rfl ⟨rfl, hb1.trans (hB.mono hb1.size)⟩
      · have HAL2 := hd (show (p.drop (j + 1)).all sPart = r by have := HAL.out; rw [ex, Bool.true_and] at this; exact this)
        clear HAL
        go_wp2_with fail
        go_roundw
        case rel => exact ⟨j + 1, by congr 1, by omega, hB, HAL2.out⟩
        case measure => simp [leftL]; omega
    · have hjl : j = p.length := by omega
      rw [hjl, List.drop_of_length_le (Nat.le_refl _)] at hal
      have hrt : true = r := hal
      subst hrt
      have hN := HN.out rfl
      have hG := HG.out rfl
      have hL := HL.out rfl
      have hQ := HQ.out
      rw [hpl] at hjl
      have HA2 := hd (HA.out.below' hB (Nat.le_refl _))
      have hbw := hb1.trans (hB.mono hb1.size)
      clear HF HN HG HL hal HA hpl
      subst hjl
      have HN := hd hN; have HG := hd hG
      clear hN hG
      go_wp2_with fail
      refine (Join_c q _ _ HA2.out (by omega) (by omega)).mono ?_
      rintro e w3 ⟨rfl, hB3⟩
      replace hbw := Below.up hbw hB3
      clear hB3
      go_wp2_with fail
      refine (Name_c (lJoin q) _ (HE.out.below hbw) (by omega)).mono ?_
      rintro e w4 ⟨rfl, hB3⟩
      replace hbw := Below.up hbw hB3
      clear hB3
      cases en : lName (lJoin q)
      · obtain ⟨rfl, rfl⟩ := HN.out en
        clear HN HG
        go_wp2_with fail
        exact bodyPost_ret (v := .tuple #[.string ⟨#[]⟩, .int .i64 13]) (by simp [results, Tryz.results74, go_sem]) rfl ⟨rfl, hbw⟩
      · obtain ⟨rfl, rfl⟩ := HG.out en
        clear HN HG
        go_wp2_with fail
        exact bodyPost_ret (v := .tuple #[.string (sOf (lJoin q)), .int .i64 0]) (by simp [results, Tryz.results74, go_sem]) rfl ⟨rfl, hbw⟩

set_option maxRecDepth 100000 in
set_option maxHeartbeats 4000000 in
theorem put4_c (k : Int) (g n d t : List UInt8) (ee : Int) (w : World) (hp : sPut ⟨k, g, n, d⟩ = (t, ee)) (hE : EnvU w) (hW : EnvW w) (h : 1 ≤ k ∧ k ≤ 4) (hzg : g.length ≤ 9223372036854775000) (hzn : n.length ≤ 9223372036854775000) (hzd : d.length ≤ 9223372036854775000) :
    Calls Tryz.prog 74 #[spV ⟨k, g, n, d⟩] w fun e w' => e = .returned (.tuple #[.string (sOf t), .int .i64 ee]) ∧ Below w.heap.size w w' := by
  have hwid : sWidth k = 4 := by unfold sWidth; rw [if_neg (by omega), if_neg (by omega)]
  have HWI := hd hwid
  have HP := hd (put_is hp (by show ¬ k < 1; omega) (by show ¬ 9 < k; omega))
  have HK := hd h
  have hk1 : ¬ k < 1 := by omega
  have hk9 : ¬ 9 < k := by omega
  have hkn : (k == 9) = false := by simp; omega
  have HW := hd hW
  have HE := hd hE
  clear hE hW hp hwid h
  have htg := toList_sOf g
  have htd := toList_sOf d
  have htop : sTop ⟨k, g, n, d⟩ = [rootT, g, sWord k, n] := by unfold sTop; have := HK.out; simp only; rw [if_neg (by omega), if_neg (by omega)]
  have hfree : sFree ⟨k, g, n, d⟩ = [g, n] := by unfold sFree; have := HK.out; simp only; rw [if_neg (by omega), if_neg (by omega)]
  rw [htop, hfree] at HP
  clear htop hfree
  unfold spV
  cases ed : d.isEmpty
  · have hr := HP.out.form (by unfold sBadForm; rw [HWI.out, ed]; simp)
    obtain ⟨rfl, rfl⟩ := hr
    clear HP
    go_enter Tryz.func74, Tryz.ntmps74
    go_wp2_with fail
    refine (width_c k _).mono ?_
    rw [HWI.out]
    rintro e9 w0 ⟨rfl, rfl⟩
    go_wp2_with fail
    exact bodyPost_ret (v := .tuple #[.string ⟨#[]⟩, .int .i64 4]) (by simp [results, Tryz.results74, go_sem]) rfl ⟨rfl, by go_grown⟩
  have hbad : sBadForm ⟨k, g, n, d⟩ = false := by unfold sBadForm; rw [HWI.out, ed]; have := HK.out; simp; omega
  rw [hbad] at HP
  have hF := HP.out.free rfl
  have hN := HP.out.name rfl
  have hG := HP.out.good rfl
  have hlen := @top4_len k g n
  have hparts := fun w => parts4_c k g n d w
  unfold spV at hparts
  have hsz : ∀ x ∈ [g, n], x.length ≤ 9223372036854775000 := by simp; omega
  have hpl : ([g, n] : List (List UInt8)).length = 2 := rfl
  have hql : ([rootT, g, sWord k, n] : List (List UInt8)).length ≤ 5 := by simp
  have HPA := hd hparts
  clear hparts hbad HP
  generalize hgt : [rootT, g, sWord k, n] = q at *
  clear hgt
  generalize hgf : [g, n] = p at *
  clear hgf
  have HF := hd hF; have HN := hd hN; have HG := hd hG; have HL := hd hlen; have HS := hd hsz; have HQ := hd hql
  clear hF hN hG hlen hsz hql
  go_enter Tryz.func74, Tryz.ntmps74
  go_wp2_with fail
  refine (width_c k _).mono ?_
  rw [HWI.out]
  rintro e9 w0 ⟨rfl, rfl⟩
  go_wp2_with fail
  have hb1 : Below w.heap.size w (w.alloc (.cells #[.int .i64 k, .string (sOf g), .string (sOf n), .string (sOf d)] 93)) := by go_grown
  refine (HPA.out _ (HW.out.below hb1 (Nat.le_refl _)) HK.out).mono ?_
  rintro e w1 ⟨va, vb, rfl, ha, hb, hB⟩
  replace hb1 := Below.up hb1 hB
  obtain ⟨aa, ac, rfl⟩ := ha.slice
  obtain ⟨ba, bc, rfl⟩ := hb.slice
  have HA := hd ha; have HB := hd hb
  clear ha hb hB htg htd
  obtain ⟨r, hr⟩ : ∃ r, p.all sPart = r := ⟨_, rfl⟩
  rw [hr] at HF HN HG HL
  rw [hpl] at HB ⊢
  go_wp2_with fail
  go_loopw [41] (fun i w' => ∃ j : Nat, i = .int .i64 j ∧ j ≤ p.length ∧ Below w1.heap.size w1 w' ∧ (p.drop j).all sPart = r) (fun i _ => leftL p.length i)
  case atStart => exact ⟨0, rfl, by omega, Below.refl _ _, hr⟩
  case round =>
    obtain ⟨j, rfl, hj, hB, hal⟩ := hrel
    clear hr
    by_cases hjp : j < p.length
    · obtain ⟨x, hx⟩ : ∃ x, p[j]? = some x := ⟨_, List.getElem?_eq_getElem hjp⟩
      obtain ⟨b, o, rfl, hbl, hc⟩ := HB.out.at hx
      replace hc := (bcell hB _ _ hbl).trans hc
      have hxl := HS.out x (List.mem_of_getElem? hx)
      rw [all_at hx] at hal
      have HAL := hd hal
      clear hal hx
      rw [hpl] at hj hjp
      go_wp2_with fail
      refine (part_c x _ ((HE.out.below hb1).below hB) hxl).mono ?_
      rintro e w2 ⟨rfl, hB2⟩
      replace hB := Below.up hB hB2
      clear hB2
      cases ex : sPart x
      · have hrf : r = false := by have := HAL.out; rw [ex, Bool.false_and] at this; exact this.symm
        obtain ⟨rfl, rfl⟩ := HF.out hrf
        clear HF HN HG HL HAL
        go_wp2_with fail
        exact bodyPost_ret (v := .tuple #[.string ⟨#[]⟩, .int .i64 13]) (by simp [results, Tryz.results74, go_sem]) rfl ⟨rfl, hb1.trans (hB.mono hb1.size)⟩
      · have HAL2 := hd (show (p.drop (j + 1)).all sPart = r by have := HAL.out; rw [ex, Bool.true_and] at this; exact this)
        clear HAL
        go_wp2_with fail
        go_roundw
        case rel => exact ⟨j + 1, by congr 1, by omega, hB, HAL2.out⟩
        case measure => simp [leftL]; omega
    · have hjl : j = p.length := by omega
      rw [hjl, List.drop_of_length_le (Nat.le_refl _)] at hal
      have hrt : true = r := hal
      subst hrt
      have hN := HN.out rfl
      have hG := HG.out rfl
      have hL := HL.out rfl
      have hQ := HQ.out
      rw [hpl] at hjl
      have HA2 := hd (HA.out.below' hB (Nat.le_refl _))
      have hbw := hb1.trans (hB.mono hb1.size)
      clear HF HN HG HL hal HA hpl
      subst hjl
      have HN := hd hN; have HG := hd hG
      clear hN hG
      go_wp2_with fail
      refine (Join_c q _ _ HA2.out (by omega) (by omega)).mono ?_
      rintro e w3 ⟨rfl, hB3⟩
      replace hbw := Below.up hbw hB3
      clear hB3
      go_wp2_with fail
      refine (Name_c (lJoin q) _ (HE.out.below hbw) (by omega)).mono ?_
      rintro e w4 ⟨rfl, hB3⟩
      replace hbw := Below.up hbw hB3
      clear hB3
      cases en : lName (lJoin q)
      · obtain ⟨rfl, rfl⟩ := HN.out en
        clear HN HG
        go_wp2_with fail
        exact bodyPost_ret (v := .tuple #[.string ⟨#[]⟩, .int .i64 13]) (by simp [results, Tryz.results74, go_sem]) rfl ⟨rfl, hbw⟩
      · obtain ⟨rfl, rfl⟩ := HG.out en
        clear HN HG
        go_wp2_with fail
        exact bodyPost_ret (v := .tuple #[.string (sOf (lJoin q)), .int .i64 0]) (by simp [results, Tryz.results74, go_sem]) rfl ⟨rfl, hbw⟩

set_option maxRecDepth 100000 in
set_option maxHeartbeats 4000000 in
theorem sPut_c (s : SpS) (w : World) (hE : EnvU w) (hW : EnvW w) (hzg : s.g.length ≤ 9223372036854775000) (hzn : s.n.length ≤ 9223372036854775000) (hzd : s.d.length ≤ 9223372036854775000) :
    Calls Tryz.prog 74 #[spV s] w fun e w' => e = .returned (.tuple #[.string (sOf (sPut s).1), .int .i64 (sPut s).2]) ∧ Below w.heap.size w w' := by
  obtain ⟨t, ee, hp⟩ : ∃ t ee, sPut s = (t, ee) := ⟨_, _, rfl⟩
  rw [hp]
  obtain ⟨k, g, n, d⟩ := s
  simp only at hzg hzn hzd ⊢
  by_cases h1 : k < 1
  · have : t = [] ∧ ee = 11 := by
      unfold sPut at hp
      rw [if_pos (.inl h1)] at hp
      exact ⟨(Prod.mk.inj hp).1.symm, (Prod.mk.inj hp).2.symm⟩
    obtain ⟨rfl, rfl⟩ := this
    clear hp
    unfold spV
    go_enter Tryz.func74, Tryz.ntmps74
    go_wp2_with fail
    exact bodyPost_ret (v := .tuple #[.string ⟨#[]⟩, .int .i64 11]) (by simp [results, Tryz.results74, go_sem]) rfl ⟨rfl, by go_grown⟩
  by_cases h9 : 9 < k
  · have : t = [] ∧ ee = 11 := by
      unfold sPut at hp
      rw [if_pos (.inr h9)] at hp
      exact ⟨(Prod.mk.inj hp).1.symm, (Prod.mk.inj hp).2.symm⟩
    obtain ⟨rfl, rfl⟩ := this
    clear hp
    unfold spV
    go_enter Tryz.func74, Tryz.ntmps74
    go_wp2_with fail
    exact bodyPost_ret (v := .tuple #[.string ⟨#[]⟩, .int .i64 11]) (by simp [results, Tryz.results74, go_sem]) rfl ⟨rfl, by go_grown⟩
  by_cases e9 : k = 9
  · exact put9_c k g n d t ee w hp hE hW e9 hzg hzn hzd
  by_cases e5 : 5 ≤ k
  · exact put5_c k g n d t ee w hp hE hW (by omega) hzg hzn hzd
  · exact put4_c k g n d t ee w hp hE hW (by omega) hzg hzn hzd
end Go.Proofs.YtclicjokgfiegaaGreatDoor

/- Spots and topics: the spot of a topic, births: the walks. -/
namespace Go.Proofs.YtclicjokgfiegaaGreatDoor
open Go.RowKit
set_option linter.unusedVariables false
set_option linter.unusedSimpArgs false

theorem guess_other {p : List (List UInt8)} (h3 : p.length ≠ 3) (h4 : p.length ≠ 4) (h5 : p.length ≠ 5) : sGuess p = .zero := by
  match p, h3, h4, h5 with
  | [], _, _, _ => rfl
  | [_], _, _, _ => rfl
  | [_, _], _, _, _ => rfl
  | [_, _, _], h, _, _ => exact absurd rfl h
  | [_, _, _, _], _, h, _ => exact absurd rfl h
  | [_, _, _, _, _], _, _, h => exact absurd rfl h
  | _ :: _ :: _ :: _ :: _ :: _ :: _, _, _, _ => rfl
theorem three {α : Type} {p : List α} (h : p.length = 3) : ∃ a b c, p = [a, b, c] := by
  match p, h with
  | [a, b, c], _ => exact ⟨a, b, c, rfl⟩
theorem four {α : Type} {p : List α} (h : p.length = 4) : ∃ a b c d, p = [a, b, c, d] := by
  match p, h with
  | [a, b, c, d], _ => exact ⟨a, b, c, d, rfl⟩
theorem five {α : Type} {p : List α} (h : p.length = 5) : ∃ a b c d e, p = [a, b, c, d, e] := by
  match p, h with
  | [a, b, c, d, e], _ => exact ⟨a, b, c, d, e, rfl⟩

set_option maxRecDepth 100000 in
set_option maxHeartbeats 4000000 in
theorem guess_c (p : List (List UInt8)) (v : Value) (w : World) (hW : EnvW w) (hp : Ls w v p) : Calls Tryz.prog 73 #[v] w fun e w' => e = .returned (spV (sGuess p)) ∧ Below w.heap.size w w' := by
  have HW := hd hW
  clear hW
  obtain ⟨a, c, rfl⟩ := hp.slice
  by_cases h3 : p.length = 3
  · obtain ⟨x0, x1, x2, rfl⟩ := three h3
    obtain ⟨b, o, rfl, hbl, hc2⟩ := hp.at (k := 2) (x := x2) rfl
    rw [show ([x0, x1, x2] : List (List UInt8)).length = 3 from rfl]
    clear hp h3
    go_enter Tryz.func73, Tryz.ntmps73
    go_wp2_with fail
    exact bodyPost_ret (v := spV ⟨9, [], x2, []⟩) (by simp [results, Tryz.results73, go_sem, spV, show sOf [] = ⟨#[]⟩ from rfl]) rfl ⟨rfl, by go_grown⟩
  by_cases h4 : p.length = 4
  · obtain ⟨x0, x1, x2, x3, rfl⟩ := four h4
    obtain ⟨b, o, rfl, hbl, hc1⟩ := hp.at (k := 1) (x := x1) rfl
    obtain ⟨b2, o2, ho2, hbl2, hc2⟩ := hp.at (k := 2) (x := x2) rfl
    obtain ⟨rfl, rfl⟩ : b = b2 ∧ o = o2 := by simpa using ho2
    clear ho2 hbl2
    obtain ⟨b2, o2, ho2, hbl2, hc3⟩ := hp.at (k := 3) (x := x3) rfl
    obtain ⟨rfl, rfl⟩ : b = b2 ∧ o = o2 := by simpa using ho2
    clear ho2 hbl2
    rw [show ([x0, x1, x2, x3] : List (List UInt8)).length = 4 from rfl]
    clear hp h3 h4
    obtain ⟨kd, hkd⟩ : ∃ kd, sKind x2 = kd := ⟨_, rfl⟩
    have HK := hd hkd
    rw [show sGuess [x0, x1, x2, x3] = ⟨sKind x2, x1, x3, []⟩ from rfl, hkd]
    clear hkd
    go_enter Tryz.func73, Tryz.ntmps73
    go_wp2_with fail
    refine wp_region_M (fun W => W.cell? ⟨b, o + 1, none⟩ = some (.string (sOf x1)) ∧ W.cell? ⟨b, o + 2, none⟩ = some (.string (sOf x2)) ∧ W.cell? ⟨b, o + 3, none⟩ = some (.string (sOf x3))) 11 [(0, false), (1, false), (2, false), (4, false), (5, false), (6, false), (7, false), (8, false), (9, false), (3, true), (10, false), (11, true)] (by kernel_rfl) (by kernel_rfl) (fun _ _ _ _ h => h) ⟨(World.cell?_alloc_lt _ _ ⟨b, _, none⟩ hbl).trans hc1, (World.cell?_alloc_lt _ _ ⟨b, _, none⟩ hbl).trans hc2, (World.cell?_alloc_lt _ _ ⟨b, _, none⟩ hbl).trans hc3⟩ ?_
    apply wpM_still (by rfl) (by rfl)
    · intro W hC
      obtain ⟨d1, d2, d3⟩ := hC
      go_simp
      rfl
    go_simp
    apply wpM_still (by rfl) (by rfl)
    · intro W hC
      obtain ⟨d1, d2, d3⟩ := hC
      go_simp
      rfl
    go_simp
    apply wpM_still (by rfl) (by rfl)
    · intro W hC
      obtain ⟨d1, d2, d3⟩ := hC
      go_simp
      rfl
    go_simp
    apply wpM_still (by rfl) (by rfl)
    · intro W hC
      obtain ⟨d1, d2, d3⟩ := hC
      go_simp
      rfl
    go_simp
    apply wpM_still (by rfl) (by rfl)
    · intro W hC
      obtain ⟨d1, d2, d3⟩ := hC
      go_simp
      rfl
    go_simp
    apply wpM_still (by rfl) (by rfl)
    · intro W hC
      obtain ⟨d1, d2, d3⟩ := hC
      go_simp
      rfl
    go_simp
    apply wpM_still (by rfl) (by rfl)
    · intro W hC
      obtain ⟨d1, d2, d3⟩ := hC
      go_simp
      rfl
    go_simp
    apply wpM_still (by rfl) (by rfl)
    · intro W hC
      obtain ⟨d1, d2, d3⟩ := hC
      go_simp
      rfl
    go_simp
    apply wpM_still (by rfl) (by rfl)
    · intro W hC
      obtain ⟨d1, d2, d3⟩ := hC
      go_simp
      rfl
    go_simp
    apply wpM_move (by rfl) (by rfl)
    intro K hK
    go_simp
    refine (Kind_c x2 _ (HW.out.below (B := w.heap.size) (by go_grown) (Nat.le_refl _))).mono ?_
    rw [HK.out]
    rintro e w' ⟨rfl, rfl⟩
    go_simp
    refine hK _ _ (fun _ => ⟨(World.cell?_alloc_lt _ _ ⟨b, _, none⟩ hbl).trans hc1, (World.cell?_alloc_lt _ _ ⟨b, _, none⟩ hbl).trans hc2, (World.cell?_alloc_lt _ _ ⟨b, _, none⟩ hbl).trans hc3⟩) ?_
    clear hK K
    apply wpM_still (by rfl) (by rfl)
    · intro W hC
      obtain ⟨d1, d2, d3⟩ := hC
      go_simp
      rfl
    go_simp
    apply wpM_move (by rfl) (by rfl)
    intro K hK
    go_simp
    refine hK _ _ (fun h => absurd h (by decide)) ?_
    clear hK K
    refine wpM_nil ?_
    go_wp2_with fail
    exact bodyPost_ret (v := spV ⟨kd, x1, x3, []⟩) (by simp [results, Tryz.results73, go_sem, spV, show sOf [] = ⟨#[]⟩ from rfl]) rfl ⟨rfl, by go_grown⟩
  by_cases h5 : p.length = 5
  · obtain ⟨x0, x1, x2, x3, x4, rfl⟩ := five h5
    obtain ⟨b, o, rfl, hbl, hc1⟩ := hp.at (k := 1) (x := x1) rfl
    obtain ⟨b2, o2, ho2, hbl2, hc2⟩ := hp.at (k := 2) (x := x2) rfl
    obtain ⟨rfl, rfl⟩ : b = b2 ∧ o = o2 := by simpa using ho2
    clear ho2 hbl2
    obtain ⟨b2, o2, ho2, hbl2, hc3⟩ := hp.at (k := 3) (x := x3) rfl
    obtain ⟨rfl, rfl⟩ : b = b2 ∧ o = o2 := by simpa using ho2
    clear ho2 hbl2
    obtain ⟨b2, o2, ho2, hbl2, hc4⟩ := hp.at (k := 4) (x := x4) rfl
    obtain ⟨rfl, rfl⟩ : b = b2 ∧ o = o2 := by simpa using ho2
    clear ho2 hbl2
    rw [show ([x0, x1, x2, x3, x4] : List (List UInt8)).length = 5 from rfl]
    clear hp h3 h4 h5
    obtain ⟨kd, hkd⟩ : ∃ kd, sKind x2 = kd := ⟨_, rfl⟩
    have HK := hd hkd
    rw [show sGuess [x0, x1, x2, x3, x4] = ⟨sKind x2, x1, x3, x4⟩ from rfl, hkd]
    clear hkd
    go_enter Tryz.func73, Tryz.ntmps73
    go_wp2_with fail
    refine wp_region_M (fun W => W.cell? ⟨b, o + 1, none⟩ = some (.string (sOf x1)) ∧ W.cell? ⟨b, o + 2, none⟩ = some (.string (sOf x2)) ∧ W.cell? ⟨b, o + 3, none⟩ = some (.string (sOf x3)) ∧ W.cell? ⟨b, o + 4, none⟩ = some (.string (sOf x4))) 14 [(0, false), (1, false), (2, false), (4, false), (5, false), (6, false), (7, false), (8, false), (9, false), (10, false), (11, false), (12, false), (3, true), (13, false), (14, true)] (by kernel_rfl) (by kernel_rfl) (fun _ _ _ _ h => h) ⟨(World.cell?_alloc_lt _ _ ⟨b, _, none⟩ hbl).trans hc1, (World.cell?_alloc_lt _ _ ⟨b, _, none⟩ hbl).trans hc2, (World.cell?_alloc_lt _ _ ⟨b, _, none⟩ hbl).trans hc3, (World.cell?_alloc_lt _ _ ⟨b, _, none⟩ hbl).trans hc4⟩ ?_
    apply wpM_still (by rfl) (by rfl)
    · intro W hC
      obtain ⟨d1, d2, d3, d4⟩ := hC
      go_simp
      rfl
    go_simp
    apply wpM_still (by rfl) (by rfl)
    · intro W hC
      obtain ⟨d1, d2, d3, d4⟩ := hC
      go_simp
      rfl
    go_simp
    apply wpM_still (by rfl) (by rfl)
    · intro W hC
      obtain ⟨d1, d2, d3, d4⟩ := hC
      go_simp
      rfl
    go_simp
    apply wpM_still (by rfl) (by rfl)
    · intro W hC
      obtain ⟨d1, d2, d3, d4⟩ := hC
      go_simp
      rfl
    go_simp
    apply wpM_still (by rfl) (by rfl)
    · intro W hC
      obtain ⟨d1, d2, d3, d4⟩ := hC
      go_simp
      rfl
    go_simp
    apply wpM_still (by rfl) (by rfl)
    · intro W hC
      obtain ⟨d1, d2, d3, d4⟩ := hC
      go_simp
      rfl
    go_simp
    apply wpM_still (by rfl) (by rfl)
    · intro W hC
      obtain ⟨d1, d2, d3, d4⟩ := hC
      go_simp
      rfl
    go_simp
    apply wpM_still (by rfl) (by rfl)
    · intro W hC
      obtain ⟨d1, d2, d3, d4⟩ := hC
      go_simp
      rfl
    go_simp
    apply wpM_still (by rfl) (by rfl)
    · intro W hC
      obtain ⟨d1, d2, d3, d4⟩ := hC
      go_simp
      rfl
    go_simp
    apply wpM_still (by rfl) (by rfl)
    · intro W hC
      obtain ⟨d1, d2, d3, d4⟩ := hC
      go_simp
      rfl
    go_simp
    apply wpM_still (by rfl) (by rfl)
    · intro W hC
      obtain ⟨d1, d2, d3, d4⟩ := hC
      go_simp
      rfl
    go_simp
    apply wpM_still (by rfl) (by rfl)
    · intro W hC
      obtain ⟨d1, d2, d3, d4⟩ := hC
      go_simp
      rfl
    go_simp
    apply wpM_move (by rfl) (by rfl)
    intro K hK
    go_simp
    refine (Kind_c x2 _ (HW.out.below (B := w.heap.size) (by go_grown) (Nat.le_refl _))).mono ?_
    rw [HK.out]
    rintro e w' ⟨rfl, rfl⟩
    go_simp
    refine hK _ _ (fun _ => ⟨(World.cell?_alloc_lt _ _ ⟨b, _, none⟩ hbl).trans hc1, (World.cell?_alloc_lt _ _ ⟨b, _, none⟩ hbl).trans hc2, (World.cell?_alloc_lt _ _ ⟨b, _, none⟩ hbl).trans hc3, (World.cell?_alloc_lt _ _ ⟨b, _, none⟩ hbl).trans hc4⟩) ?_
    clear hK K
    apply wpM_still (by rfl) (by rfl)
    · intro W hC
      obtain ⟨d1, d2, d3, d4⟩ := hC
      go_simp
      rfl
    go_simp
    apply wpM_move (by rfl) (by rfl)
    intro K hK
    go_simp
    refine hK _ _ (fun h => absurd h (by decide)) ?_
    clear hK K
    refine wpM_nil ?_
    go_wp2_with fail
    exact bodyPost_ret (v := spV ⟨kd, x1, x3, x4⟩) (by simp [results, Tryz.results73, go_sem, spV, show sOf [] = ⟨#[]⟩ from rfl]) rfl ⟨rfl, by go_grown⟩
  rw [guess_other h3 h4 h5]
  have h3b : ((p.length : Int) == 3) = false := by simp; omega
  have h4b : ((p.length : Int) == 4) = false := by simp; omega
  have h5b : ((p.length : Int) == 5) = false := by simp; omega
  clear h3 h4 h5 hp
  go_enter Tryz.func73, Tryz.ntmps73
  go_wp2_with fail
  exact bodyPost_ret (v := spV .zero) (by simp [results, Tryz.results73, go_sem, spV, SpS.zero, sOf]) rfl ⟨rfl, by go_grown⟩

theorem guess_len {M : Nat} : ∀ {p : List (List UInt8)}, (∀ x ∈ p, x.length ≤ M) → (sGuess p).g.length ≤ M ∧ (sGuess p).n.length ≤ M ∧ (sGuess p).d.length ≤ M
  | [], _ => by simp [sGuess, SpS.zero]
  | [_], _ => by simp [sGuess, SpS.zero]
  | [_, _], _ => by simp [sGuess, SpS.zero]
  | [_, _, c], h => ⟨by simp [sGuess], h c (by simp), by simp [sGuess]⟩
  | [_, b, _, d], h => ⟨h b (by simp), h d (by simp), by simp [sGuess]⟩
  | [_, b, _, d, e], h => ⟨h b (by simp), h d (by simp), h e (by simp)⟩
  | _ :: _ :: _ :: _ :: _ :: _ :: _, _ => by simp [sGuess, SpS.zero]
theorem SpAt.new (w : World) (k : Int) (g n d : List UInt8) : SpAt (w.alloc (.cells #[.int .i64 k, .string (sOf g), .string (sOf n), .string (sOf d)] 93)) w.heap.size k g n d :=
  ⟨World.cell?_alloc_new _ _ _ 0, World.cell?_alloc_new _ _ _ 1, World.cell?_alloc_new _ _ _ 2, World.cell?_alloc_new _ _ _ 3, by simp [go_sem]⟩
def SpFree (w : World) (b : Nat) : Prop := ∀ o, w.frozen? ⟨b, o, none⟩ = false
theorem SpAt.put {W : World} {b : Nat} {k k0 : Int} {g n d g0 n0 d0 : List UInt8} (h : SpAt W b k0 g0 n0 d0) : SpAt ((((W.setCell ⟨b, 0, none⟩ (.int .i64 k)).setCell ⟨b, 1, none⟩ (.string (sOf g))).setCell ⟨b, 2, none⟩ (.string (sOf n))).setCell ⟨b, 3, none⟩ (.string (sOf d))) b k g n d := by
  obtain ⟨h0, h1, h2, h3, h4⟩ := h
  exact ⟨by simp [go_sem, h0], by simp [go_sem, h1], by simp [go_sem, h2], by simp [go_sem, h3], by simpa [go_sem] using h4⟩
theorem below_put4 {w W : World} {b : Nat} {v0 v1 v2 v3 : Value} (h : Below w.heap.size w W) (hb : w.heap.size ≤ b) : Below w.heap.size w ((((W.setCell ⟨b, 0, none⟩ v0).setCell ⟨b, 1, none⟩ v1).setCell ⟨b, 2, none⟩ v2).setCell ⟨b, 3, none⟩ v3) := by
  iterate 4 refine Below.setCell ?_ hb _
  exact h
theorem sOfRead {w' : World} {gr : Nat} {tmps : Array Value} {k : Int} {g n d : List UInt8} (h2 : tmps[2]?.getD undef = .pointer (some ⟨gr, 0, none⟩)) (hc : SpAt w' gr k g n d) :
    (results Tryz.f40 tmps).run Tryz.prog w' = .ok (spV ⟨k, g, n, d⟩) w' := by
  obtain ⟨d0, d1, d2, d3, _⟩ := hc
  simp [results, Tryz.results40, go_sem, h2, d0, d1, d2, d3, spV]
set_option maxRecDepth 100000 in
set_option maxHeartbeats 4000000 in
theorem Of_c (l : List UInt8) (w : World) (hE : EnvU w) (hW : EnvW w) (hs : l.length ≤ 100000000) : Calls Tryz.prog 40 #[.string (sOf l)] w fun e w' => e = .returned (spV (sTell l)) ∧ Below w.heap.size w w' := by
  have HE := hd hE; have HW := hd hW
  clear hE hW
  have htl := toList_sOf l
  have hgl := guess_len (M := l.length) (p := lSplit l) (fun x hx => (lSplit_parts l x hx).2)
  obtain ⟨X, hX⟩ : ∃ X, sTell l = X := ⟨_, rfl⟩
  rw [hX]
  unfold sTell at hX
  have HX := hd hX; have HGL := hd hgl
  clear hX hgl
  go_enter Tryz.func40, Tryz.ntmps40
  go_wp2_with fail
  have hb : Below w.heap.size w (w.alloc (.cells #[.int .i64 0, .string ⟨#[]⟩, .string ⟨#[]⟩, .string ⟨#[]⟩] 93)) := by go_grown
  have hR : SpAt (w.alloc (.cells #[.int .i64 0, .string ⟨#[]⟩, .string ⟨#[]⟩, .string ⟨#[]⟩] 93)) w.heap.size 0 [] [] [] := SpAt.new w 0 [] [] []
  have hF : SpFree (w.alloc (.cells #[.int .i64 0, .string ⟨#[]⟩, .string ⟨#[]⟩, .string ⟨#[]⟩] 93)) w.heap.size := fun o => by simp [go_sem]
  have hlt := hR.2.2.2.2
  refine (Split_c l _ hs).mono ?_
  rintro e w1 ⟨v1, rfl, ho, hB⟩
  replace hF : SpFree w1 w.heap.size := fun o => (bfree hB _ _ hlt).trans (hF o)
  replace hR := hR.keep hB hlt
  replace hb := Below.up hb hB
  replace hlt := hR.2.2.2.2
  have HL := hd ho.ls
  clear ho hB
  have HR := hd hR; have HF := hd hF
  clear hR hF
  go_wp2_with fail
  refine (guess_c _ _ _ (HW.out.below hb (Nat.le_refl _)) HL.out).mono ?_
  rintro e w2 ⟨rfl, hB⟩
  replace HF : Hd (SpFree w2 w.heap.size) := hd fun o => (bfree hB _ _ hlt).trans (HF.out o)
  replace HR := hd (HR.out.keep hB hlt)
  replace hb := Below.up hb hB
  clear hlt HL hB
  have hlt := HR.out.2.2.2.2
  generalize sGuess (lSplit l) = s at *
  obtain ⟨k, g, n, d⟩ := s
  simp only [spV] at HX HGL ⊢
  obtain ⟨z1, z2, z3⟩ := HGL.out
  clear HGL
  go_wp2_with fail
  have hA := SpAt.new w2 k g n d
  have hal : Below w2.heap.size w2 (w2.alloc (.cells #[.int .i64 k, .string (sOf g), .string (sOf n), .string (sOf d)] 93)) := by go_grown
  have hS := hd hA
  have hF : SpFree (w2.alloc (.cells #[.int .i64 k, .string (sOf g), .string (sOf n), .string (sOf d)] 93)) w.heap.size := fun o => (bfree hal _ _ hlt).trans (HF.out o)
  have hR := HR.out.keep hal hlt
  replace hb := Below.up hb hal
  clear HF HR hal hA
  refine (sPut_c ⟨k, g, n, d⟩ _ (HE.out.below hb) (HW.out.below hb (Nat.le_refl _)) (by simp only; omega) (by simp only; omega) (by simp only; omega)).mono ?_
  rintro e w3 ⟨rfl, hB⟩
  have hlt2 := hS.out.2.2.2.2
  have hS2 := hS.out.keep hB hlt2
  have hF2 : SpFree w3 w.heap.size := fun o => (bfree hB _ _ hR.2.2.2.2).trans (hF o)
  have hR2 := hR.keep hB hR.2.2.2.2
  replace hb := Below.up hb hB
  clear hS hF hR hB hlt hlt2 z1 z2 z3
  generalize sPut ⟨k, g, n, d⟩ = pe at *
  obtain ⟨t, ee⟩ := pe
  simp only at HX ⊢
  have htt := toList_sOf t
  have HR := hd hR2; have HF := hd hF2
  obtain ⟨r0, r1, r2, r3, r4⟩ := hR2
  have f0 := hF2 0; have f1 := hF2 1; have f2 := hF2 2; have f3 := hF2 3
  obtain ⟨s0, s1, s2, s3, s4⟩ := hS2
  clear hF2
  by_cases he : ee = 0
  rotate_left
  · have he1 : (ee != 0) = true := by simpa using he
    have hx : X = .zero := by rw [← HX.out, if_pos (.inl he)]
    have Hx := hd hx
    clear hx he HX
    go_wp2_with fail
    exact bodyPost_ret (sOfRead rfl (HR.out.put (k := 0) (g := []) (n := []) (d := []))) rfl ⟨by rw [Hx.out]; rfl, below_put4 hb (Nat.le_refl _)⟩
  subst he
  cases ht : (t == l)
  · have ht1 : (t != l) = true := by simp [bne, ht]
    have hx : X = .zero := by rw [← HX.out, if_pos (.inr (by simpa using ht))]
    have Hx := hd hx
    clear hx HX
    go_wp2_with fail
    exact bodyPost_ret (sOfRead rfl (HR.out.put (k := 0) (g := []) (n := []) (d := []))) rfl ⟨by rw [Hx.out]; rfl, below_put4 hb (Nat.le_refl _)⟩
  · have ht1 : (t != l) = false := by simp [bne, ht]
    have hx : X = ⟨k, g, n, d⟩ := by rw [← HX.out, if_neg (by simpa using ht)]
    have Hx := hd hx
    clear hx HX
    go_wp2_with fail
    exact bodyPost_ret (sOfRead rfl (HR.out.put (k := k) (g := g) (n := n) (d := d))) rfl ⟨by rw [Hx.out], below_put4 hb (Nat.le_refl _)⟩
end Go.Proofs.YtclicjokgfiegaaGreatDoor
