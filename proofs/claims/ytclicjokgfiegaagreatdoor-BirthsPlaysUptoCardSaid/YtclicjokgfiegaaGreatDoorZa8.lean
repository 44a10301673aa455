/- A bundle of texts (merged for the limit on files): SpRef, RowOpen, UtfVars, SpOpen. -/
import Derived.Test.YtclicjokgfiegaaGreatDoorZa6
import Derived.Test.YtclicjokgfiegaaGreatDoorZa4
import Derived.BigQuiet
import Derived.Test.YtclicjokgfiegaaGreatDoorZa1
import Derived.Deep.Slices
import Derived.Test.YtclicjokgfiegaaGreatDoorZa3
import Derived.Lib.LaidU8T
/- Spots and topics: the reference: the walks. -/
namespace Go.Proofs.YtclicjokgfiegaaGreatDoor
open Go.RowKit
set_option linter.unusedVariables false
set_option linter.unusedSimpArgs false

set_option maxRecDepth 100000 in
set_option maxHeartbeats 4000000 in
theorem refWord_c (k : Int) (w : World) : Calls Tryz.prog 116 #[.int .i64 k] w fun e w' => e = .returned (.string (sOf (sWord k))) ∧ w = w' := by
  by_cases h1 : k = 1
  · subst h1
    rw [show sWord 1 = [78, 66, 73, 82, 84, 72] from rfl]
    go_enter Tryz.func116, Tryz.ntmps116
    go_wp2_with fail
    go_ret
    exact ⟨rfl, rfl⟩
  by_cases h2 : k = 2
  · subst h2
    rw [show sWord 2 = [78, 68, 69, 65, 84, 72] from rfl]
    clear h1
    go_enter Tryz.func116, Tryz.ntmps116
    go_wp2_with fail
    go_ret
    exact ⟨rfl, rfl⟩
  by_cases h3 : k = 3
  · subst h3
    rw [show sWord 3 = [78, 68, 65, 84, 65] from rfl]
    clear h1 h2
    go_enter Tryz.func116, Tryz.ntmps116
    go_wp2_with fail
    go_ret
    exact ⟨rfl, rfl⟩
  by_cases h4 : k = 4
  · subst h4
    rw [show sWord 4 = [78, 67, 77, 68] from rfl]
    clear h1 h2 h3
    go_enter Tryz.func116, Tryz.ntmps116
    go_wp2_with fail
    go_ret
    exact ⟨rfl, rfl⟩
  by_cases h5 : k = 5
  · subst h5
    rw [show sWord 5 = [68, 66, 73, 82, 84, 72] from rfl]
    clear h1 h2 h3 h4
    go_enter Tryz.func116, Tryz.ntmps116
    go_wp2_with fail
    go_ret
    exact ⟨rfl, rfl⟩
  by_cases h6 : k = 6
  · subst h6
    rw [show sWord 6 = [68, 68, 69, 65, 84, 72] from rfl]
    clear h1 h2 h3 h4 h5
    go_enter Tryz.func116, Tryz.ntmps116
    go_wp2_with fail
    go_ret
    exact ⟨rfl, rfl⟩
  by_cases h7 : k = 7
  · subst h7
    rw [show sWord 7 = [68, 68, 65, 84, 65] from rfl]
    clear h1 h2 h3 h4 h5 h6
    go_enter Tryz.func116, Tryz.ntmps116
    go_wp2_with fail
    go_ret
    exact ⟨rfl, rfl⟩
  by_cases h8 : k = 8
  · subst h8
    rw [show sWord 8 = [68, 67, 77, 68] from rfl]
    clear h1 h2 h3 h4 h5 h6 h7
    go_enter Tryz.func116, Tryz.ntmps116
    go_wp2_with fail
    go_ret
    exact ⟨rfl, rfl⟩
  by_cases h9 : k = 9
  · subst h9
    rw [show sWord 9 = [83, 84, 65, 84, 69] from rfl]
    clear h1 h2 h3 h4 h5 h6 h7 h8
    go_enter Tryz.func116, Tryz.ntmps116
    go_wp2_with fail
    go_ret
    exact ⟨rfl, rfl⟩
  have hz : sWord k = [] := by
    unfold sWord
    split
    · have : k = 0 := by omega
      subst this
      rfl
    · rfl
  rw [hz]
  have b1 : (k == 1) = false := by simpa using h1
  have b2 : (k == 2) = false := by simpa using h2
  have b3 : (k == 3) = false := by simpa using h3
  have b4 : (k == 4) = false := by simpa using h4
  have b5 : (k == 5) = false := by simpa using h5
  have b6 : (k == 6) = false := by simpa using h6
  have b7 : (k == 7) = false := by simpa using h7
  have b8 : (k == 8) = false := by simpa using h8
  have b9 : (k == 9) = false := by simpa using h9
  clear hz h1 h2 h3 h4 h5 h6 h7 h8 h9
  go_enter Tryz.func116, Tryz.ntmps116
  go_wp2_with fail
  go_ret
  exact ⟨rfl, rfl⟩

set_option maxRecDepth 100000 in
set_option maxHeartbeats 4000000 in
theorem refKind_c (l : List UInt8) (w : World) : Calls Tryz.prog 79 #[.string (sOf l)] w fun e w' => e = .returned (.int .i64 (sKind l)) ∧ w = w' := by
  obtain ⟨r, hr⟩ : ∃ r, kFrom l 9 1 = r := ⟨_, rfl⟩
  have : sKind l = (r : Nat) := by unfold sKind; rw [hr]
  rw [this]
  clear this
  have htl := toList_sOf l
  go_enter Tryz.func79, Tryz.ntmps79
  go_wp2_with fail
  go_loopw [3] (fun i w' => ∃ k : Nat, i = .int .i64 k ∧ 1 ≤ k ∧ k ≤ 10 ∧ kFrom l (10 - k) k = r ∧ w = w') (fun i _ => leftL 10 i)
  case atStart => exact ⟨1, rfl, by omega, by omega, hr, rfl⟩
  case round =>
    obtain ⟨k, rfl, hk1, hk, hf, rfl⟩ := hrel
    by_cases hk9 : k ≤ 9
    · have hwk : sWord (k : Int) = wordT.getD k [] := by unfold sWord; rw [if_pos (by omega), Int.toNat_natCast]
      have htx := toList_sOf (wordT.getD k [])
      rw [show 10 - k = (10 - (k + 1)) + 1 by omega, kFrom] at hf
      have h9 : (k : Int) ≤ 9 := by omega
      have HF := hd hf
      have HWK := hd hwk
      clear hf hwk
      generalize hgx : wordT.getD k [] = x at *
      clear hgx
      go_wp2_with fail
      refine (refWord_c k _).mono ?_
      rw [HWK.out]
      rintro e9 w9 ⟨rfl, rfl⟩
      cases e : (x == l)
      · have hne : ¬ x = l := by simpa using e
        have hf := HF.out
        rw [if_neg hne] at hf
        have HF2 := hd hf
        clear HF hf hne
        go_wp2_with fail
        go_roundw
        case rel => exact ⟨k + 1, by congr 1, by omega, by omega, HF2.out, trivial⟩
        case measure => simp [leftL]; omega
      · have hne : x = l := by simpa using e
        have hf := HF.out
        rw [if_pos hne] at hf
        have HF2 := hd hf
        clear HF hf hne
        go_wp2_with fail
        go_ret
        exact ⟨by rw [HF2.out]; rfl, rfl⟩
    · have : k = 10 := by omega
      subst this
      have hf2 : 0 = r := hf
      subst hf2
      clear hf
      go_wp2_with fail
      go_ret
      exact ⟨rfl, rfl⟩

set_option maxRecDepth 100000 in
set_option maxHeartbeats 4000000 in
theorem ofDevice_c (k : Int) (b : Bool) (w : World) (hb : decide (5 ≤ k ∧ k ≤ 8) = b) : Calls Tryz.prog 117 #[.int .i64 k] w fun e w' => e = .returned (.bool b) ∧ w = w' := by
  by_cases h5 : 5 ≤ k
  · have hb2 : decide (k ≤ 8) = b := by rw [← hb]; simp [h5]
    clear hb
    subst hb2
    go_enter Tryz.func117, Tryz.ntmps117
    go_wp2_with fail
    go_ret
    exact ⟨rfl, rfl⟩
  · have hb2 : false = b := by rw [← hb]; simp [h5]
    clear hb
    subst hb2
    go_enter Tryz.func117, Tryz.ntmps117
    go_wp2_with fail
    go_ret
    exact ⟨rfl, rfl⟩

set_option maxRecDepth 100000 in
set_option maxHeartbeats 4000000 in
theorem refPart_c (l : List UInt8) (w : World) (hs : l.length ≤ 9223372036854775000) : Calls Tryz.prog 118 #[.string (sOf l)] w fun e w' => e = .returned (.bool (sPart l)) ∧ Below w.heap.size w w' := by
  obtain ⟨r, hr⟩ : ∃ r, sPart l = r := ⟨_, rfl⟩
  rw [hr]
  unfold sPart at hr
  have Hr := hd hr; clear hr
  go_enter Tryz.func118, Tryz.ntmps118
  go_wp2_with fail
  refine (refName_c l _ hs).mono ?_
  rintro e w1 ⟨rfl, hb1⟩
  cases hu : lName l
  · have hr := Hr.out; rw [hu, Bool.false_and] at hr; subst hr; clear Hr
    go_wp2_with fail
    go_ret
    exact ⟨rfl, hb1⟩
  have H1 := hd (show (decide ((lSplit l).length = 1)) = r by have hr := Hr.out; rw [hu, Bool.true_and] at hr; exact hr)
  have hl96 : l.length ≤ 96 := by
    unfold lName at hu
    rw [Bool.and_eq_true] at hu
    exact (lSized_len hu.1).2.1
  clear Hr hu
  go_wp2_with fail
  refine (refSplit_c l _ (by omega)).mono ?_
  rintro e w2 ⟨v2, rfl, ho2, hb2⟩
  obtain ⟨a2, c2, rfl⟩ := ho2.ls.slice
  replace hb1 := Below.up hb1 hb2
  clear ho2 hb2
  have h2 : (((lSplit l).length : Int) == 1) = r := by rw [← H1.out, Bool.eq_iff_iff]; simp; omega
  generalize (lSplit l).length = m at *
  clear H1
  go_wp2_with fail
  go_ret
  exact ⟨rfl, hb1⟩

set_option maxRecDepth 100000 in
set_option maxHeartbeats 4000000 in
theorem refPut9_c (k : Int) (g n d t : List UInt8) (ee : Int) (w : World) (hp : sPut ⟨k, g, n, d⟩ = (t, ee)) (h : k = 9) (hzg : g.length ≤ 9223372036854775000) (hzn : n.length ≤ 9223372036854775000) (hzd : d.length ≤ 9223372036854775000) :
    Calls Tryz.prog 80 #[spV ⟨k, g, n, d⟩] w fun e w' => e = .returned (.tuple #[.string (sOf t), .int .i64 ee]) ∧ Below w.heap.size w w' := by
  have hwid : sWidth k = 3 := by unfold sWidth; rw [if_pos h]
  have HWI := hd hwid
  have HP := hd (put_is hp (by show ¬ k < 1; omega) (by show ¬ 9 < k; omega))
  have HK := hd h
  have HD := hd (show decide (5 ≤ k ∧ k ≤ 8) = false by simp; omega)
  have hk1 : ¬ k < 1 := by omega
  have hk9 : ¬ 9 < k := by omega
  have hkn : (k == 9) = true := by simp; omega
  have hkm : (k != 9) = false := by simp; omega
  clear hp hwid h
  have htg := toList_sOf g
  have htd := toList_sOf d
  have htop : sTop ⟨k, g, n, d⟩ = [rootT, [83, 84, 65, 84, 69], n] := by unfold sTop; have := HK.out; simp only; rw [if_pos this]
  have hfree : sFree ⟨k, g, n, d⟩ = [n] := by unfold sFree; have := HK.out; simp only; rw [if_pos this]
  rw [htop, hfree] at HP
  clear htop hfree
  unfold spV
  cases ed : d.isEmpty
  · have hr := HP.out.form (by unfold sBadForm; rw [HWI.out, ed]; simp)
    obtain ⟨rfl, rfl⟩ := hr
    clear HP
    go_enter Tryz.func80, Tryz.ntmps80
    go_wp2_with fail
    refine (ofDevice_c k _ _ HD.out).mono ?_
    rintro e9 w9 ⟨rfl, rfl⟩
    go_wp2_with fail
    exact bodyPost_ret (v := .tuple #[.string ⟨#[]⟩, .int .i64 4]) (by simp [results, Tryz.results80, go_sem]) rfl ⟨rfl, by go_grown⟩
  cases eg : g.isEmpty
  · have hr := HP.out.form (by unfold sBadForm; rw [eg]; have := HK.out; simp [this])
    obtain ⟨rfl, rfl⟩ := hr
    clear HP
    go_enter Tryz.func80, Tryz.ntmps80
    go_wp2_with fail
    refine (ofDevice_c k _ _ HD.out).mono ?_
    rintro e9 w9 ⟨rfl, rfl⟩
    go_wp2_with fail
    exact bodyPost_ret (v := .tuple #[.string ⟨#[]⟩, .int .i64 4]) (by simp [results, Tryz.results80, go_sem]) rfl ⟨rfl, by go_grown⟩
  have hbad : sBadForm ⟨k, g, n, d⟩ = false := by unfold sBadForm; rw [HWI.out, ed, eg]; simp
  rw [hbad] at HP
  have HF := hd (HP.out.free rfl)
  have HN := hd (HP.out.name rfl)
  have HG := hd (HP.out.good rfl)
  clear hbad HP
  have hb : Below w.heap.size w (w.alloc (.cells #[.int .i64 k, .string (sOf g), .string (sOf n), .string (sOf d)] 93)) := by go_grown
  have hS := SpAt.new w k g n d
  go_enter Tryz.func80, Tryz.ntmps80
  go_wp2_with fail
  refine (ofDevice_c k _ _ HD.out).mono ?_
  rintro e9 w9 ⟨rfl, rfl⟩
  go_wp2_with fail
  refine (refPart_c n _ hzn).mono ?_
  rintro e9 wn ⟨rfl, hB9⟩
  replace hS := hS.keep hB9 hS.2.2.2.2
  have HS := hd hS
  obtain ⟨d0, d1, d2, d3, d4⟩ := hS
  replace hb := Below.up hb hB9
  clear hB9
  cases en : sPart n
  · obtain ⟨rfl, rfl⟩ := HF.out (by simp [en])
    clear HF HN HG
    go_wp2_with fail
    exact bodyPost_ret (v := .tuple #[.string ⟨#[]⟩, .int .i64 13]) (by simp [results, Tryz.results80, go_sem]) rfl ⟨rfl, hb⟩
  go_wp2_with fail
  refine (ofDevice_c k _ _ HD.out).mono ?_
  rintro e9 w9 ⟨rfl, rfl⟩
  have hall : ([n] : List (List UInt8)).all sPart = true := by simp [en]
  have HN2 := hd (HN.out hall)
  have HG2 := hd (HG.out hall)
  have h96n := sPart_len en
  have hszn := sOf_sizeL n
  clear HF HN HG hall en
  obtain ⟨A1, hA1⟩ : ∃ A, (rootT ++ [47] ++ [83, 84, 65, 84, 69] ++ [47]) ++ n = A := ⟨_, rfl⟩
  have E1 : (⟨#[115, 112, 66, 118, 49, 46, 48, 47, 83, 84, 65, 84, 69, 47]⟩ : ByteArray) ++ sOf n = sOf A1 := by rw [← hA1]; exact sOf_add _ _
  have S1 := sOf_sizeL A1
  have L1 : A1.length ≤ 400 := by rw [← hA1]; simp only [rootT, List.length_append, List.length_cons, List.length_nil]; omega
  have hfin : lJoin [rootT, [83, 84, 65, 84, 69], n] = A1 := by simp [lJoin_cons, Lib.joinTail, ← hA1]
  rw [hfin] at HN2 HG2
  clear hfin hA1
  go_wp2_with fail
  refine (ofDevice_c k _ _ HD.out).mono ?_
  rintro e9 w9 ⟨rfl, rfl⟩
  go_wp2_with fail
  refine (refName_c A1 _ (by omega)).mono ?_
  rintro e9 w9 ⟨rfl, hB9⟩
  have hb2 := Below.up hb hB9
  clear hB9
  cases en : lName A1
  · obtain ⟨rfl, rfl⟩ := HN2.out en
    clear HN2 HG2
    go_wp2_with fail
    exact bodyPost_ret (v := .tuple #[.string ⟨#[]⟩, .int .i64 13]) (by simp [results, Tryz.results80, go_sem]) rfl ⟨rfl, hb2⟩
  · obtain ⟨rfl, rfl⟩ := HG2.out en
    clear HN2 HG2
    go_wp2_with fail
    exact bodyPost_ret (v := .tuple #[.string (sOf t), .int .i64 0]) (by simp [results, Tryz.results80, go_sem]) rfl ⟨rfl, hb2⟩

set_option maxRecDepth 100000 in
set_option maxHeartbeats 4000000 in
theorem refPut5_c (k : Int) (g n d t : List UInt8) (ee : Int) (w : World) (hp : sPut ⟨k, g, n, d⟩ = (t, ee)) (h : 5 ≤ k ∧ k ≤ 8) (hzg : g.length ≤ 9223372036854775000) (hzn : n.length ≤ 9223372036854775000) (hzd : d.length ≤ 9223372036854775000) :
    Calls Tryz.prog 80 #[spV ⟨k, g, n, d⟩] w fun e w' => e = .returned (.tuple #[.string (sOf t), .int .i64 ee]) ∧ Below w.heap.size w w' := by
  have hwid : sWidth k = 5 := by unfold sWidth; rw [if_neg (by omega), if_pos (by omega)]
  have HWI := hd hwid
  have HP := hd (put_is hp (by show ¬ k < 1; omega) (by show ¬ 9 < k; omega))
  have HK := hd h
  have HD := hd (show decide (5 ≤ k ∧ k ≤ 8) = true by simp; omega)
  have hk1 : ¬ k < 1 := by omega
  have hk9 : ¬ 9 < k := by omega
  have hkn : (k == 9) = false := by simp; omega
  have hkm : (k != 9) = true := by simp; omega
  clear hp hwid h
  have htg := toList_sOf g
  have htd := toList_sOf d
  have htop : sTop ⟨k, g, n, d⟩ = [rootT, g, sWord k, n, d] := by unfold sTop; have := HK.out; simp only; rw [if_neg (by omega), if_pos (by omega)]
  have hfree : sFree ⟨k, g, n, d⟩ = [g, n, d] := by unfold sFree; have := HK.out; simp only; rw [if_neg (by omega), if_pos (by omega)]
  rw [htop, hfree] at HP
  clear htop hfree
  unfold spV
  have hbad : sBadForm ⟨k, g, n, d⟩ = false := by unfold sBadForm; rw [HWI.out]; have := HK.out; simp; omega
  rw [hbad] at HP
  have HF := hd (HP.out.free rfl)
  have HN := hd (HP.out.name rfl)
  have HG := hd (HP.out.good rfl)
  clear hbad HP
  have hb : Below w.heap.size w (w.alloc (.cells #[.int .i64 k, .string (sOf g), .string (sOf n), .string (sOf d)] 93)) := by go_grown
  have hS := SpAt.new w k g n d
  go_enter Tryz.func80, Tryz.ntmps80
  go_wp2_with fail
  refine (ofDevice_c k _ _ HD.out).mono ?_
  rintro e9 w9 ⟨rfl, rfl⟩
  go_wp2_with fail
  refine (refPart_c n _ hzn).mono ?_
  rintro e9 wn ⟨rfl, hB9⟩
  replace hS := hS.keep hB9 hS.2.2.2.2
  have HS := hd hS
  obtain ⟨d0, d1, d2, d3, d4⟩ := hS
  replace hb := Below.up hb hB9
  clear hB9
  cases en : sPart n
  · obtain ⟨rfl, rfl⟩ := HF.out (by simp [en])
    clear HF HN HG
    go_wp2_with fail
    exact bodyPost_ret (v := .tuple #[.string ⟨#[]⟩, .int .i64 13]) (by simp [results, Tryz.results80, go_sem]) rfl ⟨rfl, hb⟩
  go_wp2_with fail
  have hS := HS.out
  clear HS d0 d1 d2 d3 d4
  refine (refPart_c g _ hzg).mono ?_
  rintro e9 wg ⟨rfl, hB9⟩
  replace hS := hS.keep hB9 hS.2.2.2.2
  have HS := hd hS
  obtain ⟨d0, d1, d2, d3, d4⟩ := hS
  replace hb := Below.up hb hB9
  clear hB9
  cases eg : sPart g
  · obtain ⟨rfl, rfl⟩ := HF.out (by simp [eg])
    clear HF HN HG
    go_wp2_with fail
    exact bodyPost_ret (v := .tuple #[.string ⟨#[]⟩, .int .i64 13]) (by simp [results, Tryz.results80, go_sem]) rfl ⟨rfl, hb⟩
  go_wp2_with fail
  refine (ofDevice_c k _ _ HD.out).mono ?_
  rintro e9 w9 ⟨rfl, rfl⟩
  go_wp2_with fail
  have hS := HS.out
  clear HS d0 d1 d2 d3 d4
  refine (refPart_c d _ hzd).mono ?_
  rintro e9 wd ⟨rfl, hB9⟩
  replace hS := hS.keep hB9 hS.2.2.2.2
  have HS := hd hS
  obtain ⟨d0, d1, d2, d3, d4⟩ := hS
  replace hb := Below.up hb hB9
  clear hB9
  cases ed : sPart d
  · obtain ⟨rfl, rfl⟩ := HF.out (by simp [ed])
    clear HF HN HG
    go_wp2_with fail
    exact bodyPost_ret (v := .tuple #[.string ⟨#[]⟩, .int .i64 13]) (by simp [results, Tryz.results80, go_sem]) rfl ⟨rfl, hb⟩
  have hall : ([g, n, d] : List (List UInt8)).all sPart = true := by simp [en, eg, ed]
  have HN2 := hd (HN.out hall)
  have HG2 := hd (HG.out hall)
  have h96n := sPart_len en
  have hszn := sOf_sizeL n
  have h96g := sPart_len eg
  have hszg := sOf_sizeL g
  have h96d := sPart_len ed
  have hszd := sOf_sizeL d
  clear HF HN HG hall en eg ed
  obtain ⟨A1, hA1⟩ : ∃ A, (rootT ++ [47] ++ [83, 84, 65, 84, 69] ++ [47]) ++ n = A := ⟨_, rfl⟩
  have E1 : (⟨#[115, 112, 66, 118, 49, 46, 48, 47, 83, 84, 65, 84, 69, 47]⟩ : ByteArray) ++ sOf n = sOf A1 := by rw [← hA1]; exact sOf_add _ _
  have S1 := sOf_sizeL A1
  have L1 : A1.length ≤ 400 := by rw [← hA1]; simp only [rootT, List.length_append, List.length_cons, List.length_nil]; omega
  obtain ⟨wd, hwd⟩ : ∃ wd, sWord k = wd := ⟨_, rfl⟩
  have hwl := word_len k
  have hWc := refWord_c k
  rw [hwd] at hwl hWc HN2 HG2
  have HWc := hd hWc
  have HWD := hd hwd
  have hszw := sOf_sizeL wd
  clear hWc hwd
  obtain ⟨A2, hA2⟩ : ∃ A, (rootT ++ [47]) ++ g = A := ⟨_, rfl⟩
  have E2 : (⟨#[115, 112, 66, 118, 49, 46, 48, 47]⟩ : ByteArray) ++ sOf g = sOf A2 := by rw [← hA2]; exact sOf_add _ _
  have S2 := sOf_sizeL A2
  have L2 : A2.length ≤ 400 := by rw [← hA2]; simp only [rootT, List.length_append, List.length_cons, List.length_nil]; omega
  obtain ⟨A3, hA3⟩ : ∃ A, A2 ++ [47] = A := ⟨_, rfl⟩
  have E3 : sOf A2 ++ (⟨#[47]⟩ : ByteArray) = sOf A3 := by rw [← hA3]; exact sOf_add _ _
  have S3 := sOf_sizeL A3
  have L3 : A3.length ≤ 500 := by rw [← hA3]; simp only [rootT, List.length_append, List.length_cons, List.length_nil]; omega
  obtain ⟨A4, hA4⟩ : ∃ A, A3 ++ wd = A := ⟨_, rfl⟩
  have E4 : sOf A3 ++ sOf wd = sOf A4 := by rw [← hA4]; exact sOf_add _ _
  have S4 := sOf_sizeL A4
  have L4 : A4.length ≤ 600 := by rw [← hA4]; simp only [rootT, List.length_append, List.length_cons, List.length_nil]; omega
  obtain ⟨A5, hA5⟩ : ∃ A, A4 ++ [47] = A := ⟨_, rfl⟩
  have E5 : sOf A4 ++ (⟨#[47]⟩ : ByteArray) = sOf A5 := by rw [← hA5]; exact sOf_add _ _
  have S5 := sOf_sizeL A5
  have L5 : A5.length ≤ 700 := by rw [← hA5]; simp only [rootT, List.length_append, List.length_cons, List.length_nil]; omega
  obtain ⟨A6, hA6⟩ : ∃ A, A5 ++ n = A := ⟨_, rfl⟩
  have E6 : sOf A5 ++ sOf n = sOf A6 := by rw [← hA6]; exact sOf_add _ _
  have S6 := sOf_sizeL A6
  have L6 : A6.length ≤ 800 := by rw [← hA6]; simp only [rootT, List.length_append, List.length_cons, List.length_nil]; omega
  obtain ⟨A7, hA7⟩ : ∃ A, A6 ++ [47] = A := ⟨_, rfl⟩
  have E7 : sOf A6 ++ (⟨#[47]⟩ : ByteArray) = sOf A7 := by rw [← hA7]; exact sOf_add _ _
  have S7 := sOf_sizeL A7
  have L7 : A7.length ≤ 900 := by rw [← hA7]; simp only [rootT, List.length_append, List.length_cons, List.length_nil]; omega
  obtain ⟨A8, hA8⟩ : ∃ A, A7 ++ d = A := ⟨_, rfl⟩
  have E8 : sOf A7 ++ sOf d = sOf A8 := by rw [← hA8]; exact sOf_add _ _
  have S8 := sOf_sizeL A8
  have L8 : A8.length ≤ 1000 := by rw [← hA8]; simp only [rootT, List.length_append, List.length_cons, List.length_nil]; omega
  have hfin : lJoin [rootT, g, wd, n, d] = A8 := by simp [lJoin_cons, Lib.joinTail, ← hA2, ← hA3, ← hA4, ← hA5, ← hA6, ← hA7, ← hA8]
  rw [hfin] at HN2 HG2
  clear hfin hA1 hA2 hA3 hA4 hA5 hA6 hA7 hA8
  go_wp2_with fail
  go_quiet (first | exact quiet_leftM (HWc.out _))
  go_wp2_with fail
  refine (ofDevice_c k _ _ HD.out).mono ?_
  rintro e9 w9 ⟨rfl, rfl⟩
  go_wp2_with fail
  refine (refName_c A8 _ (by omega)).mono ?_
  rintro e9 w9 ⟨rfl, hB9⟩
  have hb2 := Below.up (below_dn hb _) hB9
  clear hB9
  cases en : lName A8
  · obtain ⟨rfl, rfl⟩ := HN2.out en
    clear HN2 HG2
    go_wp2_with fail
    exact bodyPost_ret (v := .tuple #[.string ⟨#[]⟩, .int .i64 13]) (by simp [results, Tryz.results80, go_sem]) rfl ⟨rfl, hb2⟩
  · obtain ⟨rfl, rfl⟩ := HG2.out en
    clear HN2 HG2
    go_wp2_with fail
    exact bodyPost_ret (v := .tuple #[.string (sOf t), .int .i64 0]) (by simp [results, Tryz.results80, go_sem]) rfl ⟨rfl, hb2⟩

set_option maxRecDepth 100000 in
set_option maxHeartbeats 4000000 in
theorem refPut4_c (k : Int) (g n d t : List UInt8) (ee : Int) (w : World) (hp : sPut ⟨k, g, n, d⟩ = (t, ee)) (h : 1 ≤ k ∧ k ≤ 4) (hzg : g.length ≤ 9223372036854775000) (hzn : n.length ≤ 9223372036854775000) (hzd : d.length ≤ 9223372036854775000) :
    Calls Tryz.prog 80 #[spV ⟨k, g, n, d⟩] w fun e w' => e = .returned (.tuple #[.string (sOf t), .int .i64 ee]) ∧ Below w.heap.size w w' := by
  have hwid : sWidth k = 4 := by unfold sWidth; rw [if_neg (by omega), if_neg (by omega)]
  have HWI := hd hwid
  have HP := hd (put_is hp (by show ¬ k < 1; omega) (by show ¬ 9 < k; omega))
  have HK := hd h
  have HD := hd (show decide (5 ≤ k ∧ k ≤ 8) = false by simp; omega)
  have hk1 : ¬ k < 1 := by omega
  have hk9 : ¬ 9 < k := by omega
  have hkn : (k == 9) = false := by simp; omega
  have hkm : (k != 9) = true := by simp; omega
  clear hp hwid h
  have htg := toList_sOf g
  have htd := toList_sOf d
  have htop : sTop ⟨k, g, n, d⟩ = [rootT, g, sWord k, n] := by unfold sTop; have := HK.out; simp only; rw [if_neg (by omega), if_neg (by omega)]
  have hfree : sFree ⟨k, g, n, d⟩ = [g, n] := by unfold sFree; have := HK.out; simp only; rw [if_neg (by omega), if_neg (by omega)]
  rw [htop, hfree] at HP
  clear htop hfree
  unfold spV
  cases ed : d.isEmpty
  · have hr := HP.out.form (by unfold sBadForm; rw [HWI.out, ed]; simp)
    obtain ⟨rfl, rfl⟩ := hr
    clear HP
    go_enter Tryz.func80, Tryz.ntmps80
    go_wp2_with fail
    refine (ofDevice_c k _ _ HD.out).mono ?_
    rintro e9 w9 ⟨rfl, rfl⟩
    go_wp2_with fail
    exact bodyPost_ret (v := .tuple #[.string ⟨#[]⟩, .int .i64 4]) (by simp [results, Tryz.results80, go_sem]) rfl ⟨rfl, by go_grown⟩
  have hbad : sBadForm ⟨k, g, n, d⟩ = false := by unfold sBadForm; rw [HWI.out, ed]; have := HK.out; simp; omega
  rw [hbad] at HP
  have HF := hd (HP.out.free rfl)
  have HN := hd (HP.out.name rfl)
  have HG := hd (HP.out.good rfl)
  clear hbad HP
  have hb : Below w.heap.size w (w.alloc (.cells #[.int .i64 k, .string (sOf g), .string (sOf n), .string (sOf d)] 93)) := by go_grown
  have hS := SpAt.new w k g n d
  go_enter Tryz.func80, Tryz.ntmps80
  go_wp2_with fail
  refine (ofDevice_c k _ _ HD.out).mono ?_
  rintro e9 w9 ⟨rfl, rfl⟩
  go_wp2_with fail
  refine (refPart_c n _ hzn).mono ?_
  rintro e9 wn ⟨rfl, hB9⟩
  replace hS := hS.keep hB9 hS.2.2.2.2
  have HS := hd hS
  obtain ⟨d0, d1, d2, d3, d4⟩ := hS
  replace hb := Below.up hb hB9
  clear hB9
  cases en : sPart n
  · obtain ⟨rfl, rfl⟩ := HF.out (by simp [en])
    clear HF HN HG
    go_wp2_with fail
    exact bodyPost_ret (v := .tuple #[.string ⟨#[]⟩, .int .i64 13]) (by simp [results, Tryz.results80, go_sem]) rfl ⟨rfl, hb⟩
  go_wp2_with fail
  have hS := HS.out
  clear HS d0 d1 d2 d3 d4
  refine (refPart_c g _ hzg).mono ?_
  rintro e9 wg ⟨rfl, hB9⟩
  replace hS := hS.keep hB9 hS.2.2.2.2
  have HS := hd hS
  obtain ⟨d0, d1, d2, d3, d4⟩ := hS
  replace hb := Below.up hb hB9
  clear hB9
  cases eg : sPart g
  · obtain ⟨rfl, rfl⟩ := HF.out (by simp [eg])
    clear HF HN HG
    go_wp2_with fail
    exact bodyPost_ret (v := .tuple #[.string ⟨#[]⟩, .int .i64 13]) (by simp [results, Tryz.results80, go_sem]) rfl ⟨rfl, hb⟩
  go_wp2_with fail
  refine (ofDevice_c k _ _ HD.out).mono ?_
  rintro e9 w9 ⟨rfl, rfl⟩
  have hall : ([g, n] : List (List UInt8)).all sPart = true := by simp [en, eg]
  have HN2 := hd (HN.out hall)
  have HG2 := hd (HG.out hall)
  have h96n := sPart_len en
  have hszn := sOf_sizeL n
  have h96g := sPart_len eg
  have hszg := sOf_sizeL g
  clear HF HN HG hall en eg
  obtain ⟨A1, hA1⟩ : ∃ A, (rootT ++ [47] ++ [83, 84, 65, 84, 69] ++ [47]) ++ n = A := ⟨_, rfl⟩
  have E1 : (⟨#[115, 112, 66, 118, 49, 46, 48, 47, 83, 84, 65, 84, 69, 47]⟩ : ByteArray) ++ sOf n = sOf A1 := by rw [← hA1]; exact sOf_add _ _
  have S1 := sOf_sizeL A1
  have L1 : A1.length ≤ 400 := by rw [← hA1]; simp only [rootT, List.length_append, List.length_cons, List.length_nil]; omega
  obtain ⟨wd, hwd⟩ : ∃ wd, sWord k = wd := ⟨_, rfl⟩
  have hwl := word_len k
  have hWc := refWord_c k
  rw [hwd] at hwl hWc HN2 HG2
  have HWc := hd hWc
  have HWD := hd hwd
  have hszw := sOf_sizeL wd
  clear hWc hwd
  obtain ⟨A2, hA2⟩ : ∃ A, (rootT ++ [47]) ++ g = A := ⟨_, rfl⟩
  have E2 : (⟨#[115, 112, 66, 118, 49, 46, 48, 47]⟩ : ByteArray) ++ sOf g = sOf A2 := by rw [← hA2]; exact sOf_add _ _
  have S2 := sOf_sizeL A2
  have L2 : A2.length ≤ 400 := by rw [← hA2]; simp only [rootT, List.length_append, List.length_cons, List.length_nil]; omega
  obtain ⟨A3, hA3⟩ : ∃ A, A2 ++ [47] = A := ⟨_, rfl⟩
  have E3 : sOf A2 ++ (⟨#[47]⟩ : ByteArray) = sOf A3 := by rw [← hA3]; exact sOf_add _ _
  have S3 := sOf_sizeL A3
  have L3 : A3.length ≤ 500 := by rw [← hA3]; simp only [rootT, List.length_append, List.length_cons, List.length_nil]; omega
  obtain ⟨A4, hA4⟩ : ∃ A, A3 ++ wd = A := ⟨_, rfl⟩
  have E4 : sOf A3 ++ sOf wd = sOf A4 := by rw [← hA4]; exact sOf_add _ _
  have S4 := sOf_sizeL A4
  have L4 : A4.length ≤ 600 := by rw [← hA4]; simp only [rootT, List.length_append, List.length_cons, List.length_nil]; omega
  obtain ⟨A5, hA5⟩ : ∃ A, A4 ++ [47] = A := ⟨_, rfl⟩
  have E5 : sOf A4 ++ (⟨#[47]⟩ : ByteArray) = sOf A5 := by rw [← hA5]; exact sOf_add _ _
  have S5 := sOf_sizeL A5
  have L5 : A5.length ≤ 700 := by rw [← hA5]; simp only [rootT, List.length_append, List.length_cons, List.length_nil]; omega
  obtain ⟨A6, hA6⟩ : ∃ A, A5 ++ n = A := ⟨_, rfl⟩
  have E6 : sOf A5 ++ sOf n = sOf A6 := by rw [← hA6]; exact sOf_add _ _
  have S6 := sOf_sizeL A6
  have L6 : A6.length ≤ 800 := by rw [← hA6]; simp only [rootT, List.length_append, List.length_cons, List.length_nil]; omega
  have hfin : lJoin [rootT, g, wd, n] = A6 := by simp [lJoin_cons, Lib.joinTail, ← hA2, ← hA3, ← hA4, ← hA5, ← hA6]
  rw [hfin] at HN2 HG2
  clear hfin hA1 hA2 hA3 hA4 hA5 hA6
  go_wp2_with fail
  go_quiet (first | exact quiet_leftM (HWc.out _))
  go_wp2_with fail
  refine (ofDevice_c k _ _ HD.out).mono ?_
  rintro e9 w9 ⟨rfl, rfl⟩
  go_wp2_with fail
  refine (refName_c A6 _ (by omega)).mono ?_
  rintro e9 w9 ⟨rfl, hB9⟩
  have hb2 := Below.up (below_dn hb _) hB9
  clear hB9
  cases en : lName A6
  · obtain ⟨rfl, rfl⟩ := HN2.out en
    clear HN2 HG2
    go_wp2_with fail
    exact bodyPost_ret (v := .tuple #[.string ⟨#[]⟩, .int .i64 13]) (by simp [results, Tryz.results80, go_sem]) rfl ⟨rfl, hb2⟩
  · obtain ⟨rfl, rfl⟩ := HG2.out en
    clear HN2 HG2
    go_wp2_with fail
    exact bodyPost_ret (v := .tuple #[.string (sOf t), .int .i64 0]) (by simp [results, Tryz.results80, go_sem]) rfl ⟨rfl, hb2⟩

set_option maxRecDepth 100000 in
set_option maxHeartbeats 4000000 in
theorem sRefPut_c (s : SpS) (w : World) (hzg : s.g.length ≤ 9223372036854775000) (hzn : s.n.length ≤ 9223372036854775000) (hzd : s.d.length ≤ 9223372036854775000) :
    Calls Tryz.prog 80 #[spV s] w fun e w' => e = .returned (.tuple #[.string (sOf (sPut s).1), .int .i64 (sPut s).2]) ∧ Below w.heap.size w w' := by
  obtain ⟨t, ee, hp⟩ : ∃ t ee, sPut s = (t, ee) := ⟨_, _, rfl⟩
  rw [hp]
  obtain ⟨k, g, n, d⟩ := s
  simp only at hzg hzn hzd ⊢
  by_cases h1 : k < 1
  · have : t = [] ∧ ee = 11 := by
      unfold sPut at hp
      rw [if_pos (.inl h1)] at hp
      exact ⟨(Prod.mk.inj hp).1.symm, (Prod.mk.inj hp).2.symm⟩
    obtain ⟨rfl, rfl⟩ := this
    clear hp
    unfold spV
    go_enter Tryz.func80, Tryz.ntmps80
    go_wp2_with fail
    exact bodyPost_ret (v := .tuple #[.string ⟨#[]⟩, .int .i64 11]) (by simp [results, Tryz.results80, go_sem]) rfl ⟨rfl, by go_grown⟩
  by_cases h9 : 9 < k
  · have : t = [] ∧ ee = 11 := by
      unfold sPut at hp
      rw [if_pos (.inr h9)] at hp
      exact ⟨(Prod.mk.inj hp).1.symm, (Prod.mk.inj hp).2.symm⟩
    obtain ⟨rfl, rfl⟩ := this
    clear hp
    unfold spV
    go_enter Tryz.func80, Tryz.ntmps80
    go_wp2_with fail
    exact bodyPost_ret (v := .tuple #[.string ⟨#[]⟩, .int .i64 11]) (by simp [results, Tryz.results80, go_sem]) rfl ⟨rfl, by go_grown⟩
  by_cases e9 : k = 9
  · exact refPut9_c k g n d t ee w hp e9 hzg hzn hzd
  by_cases e5 : 5 ≤ k
  · exact refPut5_c k g n d t ee w hp (by omega) hzg hzn hzd
  · exact refPut4_c k g n d t ee w hp (by omega) hzg hzn hzd
end Go.Proofs.YtclicjokgfiegaaGreatDoor

/- What rows of structs that came in read as: for whatever struct. Of no function of the program. -/
namespace Go.Proofs.YtclicjokgfiegaaGreatDoor
open Go.ChangeShapes Go.WideShapes Go.ChangeAt Go.RowKit
set_option linter.unusedVariables false
set_option linter.unusedSimpArgs false

theorem flat_at {α : Type} (cells : α → List Value) (K : Nat) (hK0 : 0 < K) (hK : ∀ x, (cells x).length = K) : ∀ (l : List α) (j : Nat) (u : Value), (l.flatMap cells)[j]? = some u → ∃ x, l[j / K]? = some x ∧ (cells x)[j % K]? = some u
  | [], j, u, h => by simp at h
  | y :: t, j, u, h => by
    rw [List.flatMap_cons] at h
    by_cases hj : j < K
    · rw [List.getElem?_append_left (by rw [hK]; exact hj)] at h
      exact ⟨y, by rw [Nat.div_eq_of_lt hj]; rfl, by rw [Nat.mod_eq_of_lt hj]; exact h⟩
    · rw [List.getElem?_append_right (by rw [hK]; omega), hK] at h
      obtain ⟨x, h1, h2⟩ := flat_at cells K hK0 hK t (j - K) u h
      refine ⟨x, ?_, ?_⟩
      · have e : j / K = (j - K) / K + 1 := by
          have := Nat.add_div_right (j - K) hK0
          rw [Nat.sub_add_cancel (by omega)] at this
          exact this
        rw [e]; simpa using h1
      · have e : j % K = (j - K) % K := by rw [Nat.mod_eq_sub_mod (by omega)]
        rw [e]; exact h2

theorem rows_weights_mem {H : Type} {P : Program} {e : TypeId} : ∀ {ds : List (DataW H)} {d : DataW H}, (DataW.weightsAll P e ds).all (· ≤ reachBytes) = true → d ∈ ds → (d.weights P e).all (· ≤ reachBytes) = true
  | d0 :: ds, d, h, hm => by
    rw [DataW.weightsAll, List.all_append, Bool.and_eq_true] at h
    rcases List.mem_cons.1 hm with rfl | hm
    · exact h.1
    · exact rows_weights_mem h.2 hm
theorem rows_weights {H : Type} {P : Program} {t e : TypeId} (ht : P.underlying t = some (.slice e)) {es sp : List (DataW H)} {d : DataW H} (h : ((DataW.slice es sp).weights P t).all (· ≤ reachBytes) = true) (hm : d ∈ es) : (d.weights P e).all (· ≤ reachBytes) = true := by
  simp only [DataW.weights, ht, List.all_cons, List.all_append, Bool.and_eq_true] at h
  exact rows_weights_mem h.2.1 hm

section
variable {H : Type} {enc : TypeId × Value → H} {w : World}
set_option maxRecDepth 100000 in
theorem open_rows {α : Type} [Inhabited α] (cells : α → List Value) (K : Nat) (hK0 : 0 < K) (hK : ∀ x, (cells x).length = K) {t e : TypeId} (ht : Tryz.prog.underlying t = some (.slice e)) (hc : Tryz.prog.cellsOf e = K) (Good : α → Prop)
    (one : ∀ n cs d p, DataW.trod enc Tryz.prog w 0 (fun _ => true) true n e cs = some (d, p) → (d.weights Tryz.prog e).all (· ≤ reachBytes) = true → ∃ x, cs = cells x ∧ Good x)
    {r : Reach} {b0 : Nat} {v : Value} {d : DataW H} {ps : List MemPlace} (hval : Value.okWide Tryz.prog w r b0 t v)
    (h : DataW.Trod enc Tryz.prog w 0 (fun _ => true) true t v d ps) (hz : (d.weights Tryz.prog t).all (· ≤ reachBytes) = true) : ∃ l : List α, Rd w v l.length (l.flatMap cells) ∧ ∀ x ∈ l, Good x := by
  obtain ⟨a, len, cap, rfl⟩ := okWide_slice ht hval
  obtain ⟨fuel, hf⟩ := h
  have hf' : DataW.trod enc Tryz.prog w 0 (fun _ => true) true fuel t [.slice a len cap] = some (d, ps) := by simpa [Value.cells] using hf
  rcases Go.Deep.open_slice ht hf' with ⟨hcs, hx⟩ | ⟨ad, len', cap', m, n, D, Pl, hcs, _, hl, hm, hmm, hx, hcell⟩
  · simp only [List.cons.injEq, Value.slice.injEq, and_true] at hcs
    obtain ⟨rfl, rfl, rfl⟩ := hcs
    exact ⟨[], Rd.nil w, by simp⟩
  · simp only [List.cons.injEq, Value.slice.injEq, and_true] at hcs
    obtain ⟨rfl, rfl, rfl⟩ := hcs
    simp only [if_true] at hmm
    subst hmm
    simp only [Prod.mk.injEq] at hx
    obtain ⟨rfl, _⟩ := hx
    have each : ∀ i, i < len → ∃ x : α, w.cells? 0 (ad.add (i * K)) K = some (cells x) ∧ Good x := by
      intro i hi
      obtain ⟨cs', h1, h2⟩ := hcell i (by omega)
      have hmem : D i ∈ (List.range len).map D := List.mem_map.2 ⟨i, List.mem_range.2 hi, rfl⟩
      obtain ⟨x, rfl, hg⟩ := one _ _ _ _ h2 (rows_weights ht hz hmem)
      rw [hc] at h1
      exact ⟨x, h1, hg⟩
    obtain ⟨g, hg⟩ := Go.Deep.choose_lt each
    have hlen : ((List.range len).map g).length = len := by simp
    refine ⟨(List.range len).map g, ?_, ?_⟩
    · rw [hlen]
      refine ⟨some ad, _, rfl, hl, hm, (fun e => by cases e), fun ad' e j u hu => ?_⟩
      cases e
      obtain ⟨x, h1, h2⟩ := flat_at cells K hK0 hK _ j u hu
      have hi : j / K < len := by
        have := (List.getElem?_eq_some_iff.1 h1).1
        simpa using this
      have hgx : g (j / K) = x := by
        have : ((List.range len).map g)[j / K]? = some (g (j / K)) := by simp [hi]
        rw [this] at h1; exact Option.some.inj h1
      obtain ⟨_, _, hcc⟩ := World.cells?_some (hg (j / K) hi).1
      have hcj := hcc (j % K) (Nat.mod_lt _ hK0)
      rw [Go.Deep.add_add, hgx, h2, Nat.mul_comm, Nat.div_add_mod] at hcj
      exact hcj
    · intro f hf
      obtain ⟨i, hi, rfl⟩ := List.mem_map.1 hf
      exact (hg i (List.mem_range.1 hi)).2
end
end Go.Proofs.YtclicjokgfiegaaGreatDoor

/- The tables of utf8, out of a row's list. -/
namespace Go.Proofs.YtclicjokgfiegaaGreatDoor
open Go.RowKit

theorem u8extra : U8Extra Tryz.prog Tryz.laysValid_ren := {
  n3 := by kernel_rfl
  n4 := by kernel_rfl
  y3 := by kernel_rfl
  y4 := by kernel_rfl
  c5 := by kernel_rfl
  c119 := by kernel_rfl
  c138 := by kernel_rfl }

theorem envU_of {W : World} {l : List (String × DataW Unit)} (h : laidMetH Tryz.prog l W) (i j : Nat) (dF dA : DataW Unit)
    (hi : (l.filter fun x => x.2.handleName?.isNone)[i]? = some ("unicode/utf8.first", dF)) (hj : (l.filter fun x => x.2.handleName?.isNone)[j]? = some ("unicode/utf8.acceptRanges", dA))
    (hF : dF = Lib.firstData) (hA : dA = Lib.acceptData) : EnvU W := by
  subst hF hA
  obtain ⟨h1, _⟩ := laidMetH_iff.1 h
  obtain ⟨ps, hv, _⟩ := h1
  exact utf8Tabs_of_readsT (U8Types.of196 Tryz.laysValid) u8extra (laidVars_get _ ps hv i _ _ hi) (laidVars_get _ ps hv j _ _ hj)
theorem first_is : Go.Pinned.utf8First = Lib.firstData := by kernel_rfl
/-- The tables, laid into a heap. -/
def layFirst : Obj → Obj
  | .cells _ t frozen => .cells ((List.range 256).map fun c => Value.int .u8 (Lib.firstT c : Int)).toArray t frozen
  | o => o
def layAccept : Obj → Obj
  | .cells _ t frozen => .cells ((List.range 16).flatMap fun i => [Value.int .u8 (Lib.accLo i : Int), Value.int .u8 (Lib.accHi i : Int)]).toArray t frozen
  | o => o
def layU (h : Array Obj) : Array Obj := (h.modify 3 layFirst).modify 4 layAccept

end Go.Proofs.YtclicjokgfiegaaGreatDoor

/- What spots that came in read as; the words out of a row's list. Of no function of the program. -/
namespace Go.Proofs.YtclicjokgfiegaaGreatDoor
open Go.ChangeShapes Go.WideShapes Go.ChangeAt Go.RowKit
set_option linter.unusedVariables false
set_option linter.unusedSimpArgs false

theorem cells_spot : Tryz.prog.cellsOf 93 = 4 := by kernel_rfl
theorem sp_cells_int : Tryz.prog.cellsOf 3 = 1 := by kernel_rfl
theorem sp_cells_string : Tryz.prog.cellsOf 9 = 1 := by kernel_rfl
section
variable {H : Type} {enc : TypeId × Value → H} {w : World} {base : Nat} {sp : Nat → Bool} {held : Bool}
set_option maxRecDepth 100000 in
theorem spot_cells {n : Nat} {cs : List Value} {d : DataW H} {p : List MemPlace} (h : DataW.trod enc Tryz.prog w base sp held n 93 cs = some (d, p)) (hz : (d.weights Tryz.prog 93).all (· ≤ reachBytes) = true) :
    ∃ (k : Int) (x1 x2 x3 : ByteArray), cs = [.int .i64 k, .string x1, .string x2, .string x3] ∧ x1.size ≤ 140737488351232 ∧ x2.size ≤ 140737488351232 ∧ x3.size ≤ 140737488351232 := by
  obtain ⟨xs, n', _, hx, hlen, hxl, hf⟩ := DataW.trod_struct Tryz.underlying93 h
  simp only [Prod.mk.injEq] at hx
  obtain ⟨rfl, rfl⟩ := hx
  rw [cells_spot] at hlen
  match cs, hlen, xs, hxl with
  | [c0, c1, c2, c3], _, [y0, y1, y2, y3], _ =>
    have g0 : DataW.trod enc Tryz.prog w base sp held n' 3 [c0] = some y0 := by have := hf 0 _ rfl; simpa [sp_cells_int] using this
    have g1 : DataW.trod enc Tryz.prog w base sp held n' 9 [c1] = some y1 := by have := hf 1 _ rfl; simpa [sp_cells_string] using this
    have g2 : DataW.trod enc Tryz.prog w base sp held n' 9 [c2] = some y2 := by have := hf 2 _ rfl; simpa [sp_cells_string] using this
    have g3 : DataW.trod enc Tryz.prog w base sp held n' 9 [c3] = some y3 := by have := hf 3 _ rfl; simpa [sp_cells_string] using this
    obtain ⟨x0, e0, rfl, _⟩ := DataW.trod_int Tryz.underlying3 g0
    obtain ⟨x1, e1, rfl, _⟩ := DataW.trod_string Tryz.underlying9 g1
    obtain ⟨x2, e2, rfl, _⟩ := DataW.trod_string Tryz.underlying9 g2
    obtain ⟨x3, e3, rfl, _⟩ := DataW.trod_string Tryz.underlying9 g3
    have hw : (DataW.weightsEach Tryz.prog [3, 9, 9, 9] [(DataW.lit (.int .i64 x0) : DataW H), DataW.lit (.string x1.data.toList), DataW.lit (.string x2.data.toList), DataW.lit (.string x3.data.toList)]).all (· ≤ reachBytes) = true := by
      simpa [DataW.weights, Tryz.underlying93] using hz
    simp only [List.cons.injEq, and_true] at e0 e1 e2 e3
    subst e0 e1 e2 e3
    exact ⟨x0, x1, x2, x3, rfl, sized_string hw (j := 1) (t := 9) rfl rfl, sized_string hw (j := 2) (t := 9) rfl rfl, sized_string hw (j := 3) (t := 9) rfl rfl⟩

/-- Sizes that a spot's parts keep to. -/
def SpS.sized (s : SpS) : Prop := s.g.length ≤ 140737488351232 ∧ s.n.length ≤ 140737488351232 ∧ s.d.length ≤ 140737488351232
set_option maxRecDepth 100000 in
theorem open_spot {r : Reach} {b0 : Nat} {v : Value} {d : DataW H} {p : List MemPlace} (hv : Value.okWide Tryz.prog w r b0 93 v) (h : DataW.Trod enc Tryz.prog w base sp held 93 v d p) (hz : (d.weights Tryz.prog 93).all (· ≤ reachBytes) = true) :
    ∃ s : SpS, v = spV s ∧ s.sized := by
  obtain ⟨cs, rfl, hsz⟩ := okWide_struct Tryz.underlying93 hv
  obtain ⟨fuel, hf⟩ := h
  obtain ⟨k, x1, x2, x3, hc, h1, h2, h3⟩ := spot_cells hf hz
  refine ⟨⟨k, sB x1, sB x2, sB x3⟩, ?_, by unfold SpS.sized; simp only [sB_len]; exact ⟨h1, h2, h3⟩⟩
  have : cs.toList = [.int .i64 k, .string x1, .string x2, .string x3] := by simpa [Value.cells] using hc
  unfold spV
  simp only [sOf_sBL]
  rw [← Array.toArray_toList (xs := cs), this]
end

/-- The words, as a row's list says them. -/
def wordLits : List Lit := wordT.map Lit.string
set_option maxRecDepth 100000 in
theorem envW_of {W : World} {l : List (String × DataW Unit)} (h : laidMetH Tryz.prog l W) (i : Nat) (hi : (l.filter fun x => x.2.handleName?.isNone)[i]? = some ("crier/space.words", .agg (wordLits.map DataW.lit))) : EnvW W := by
  obtain ⟨h1, h2⟩ := laid_lits h i hi (g := 0) (t := 174) (e := 9) (k := 10) (by kernel_rfl) (by kernel_rfl) Tryz.underlying174 (.inr (.inr Tryz.underlying9)) (by kernel_rfl) (by kernel_rfl)
  refine ⟨h1, fun i hi => ?_⟩
  rw [h2 i (by simpa [wordLits, wordT] using hi)]
  match i, hi with
  | 0, _ => rfl
  | 1, _ => rfl
  | 2, _ => rfl
  | 3, _ => rfl
  | 4, _ => rfl
  | 5, _ => rfl
  | 6, _ => rfl
  | 7, _ => rfl
  | 8, _ => rfl
  | 9, _ => rfl
  | n + 10, h => exact absurd h (by omega)
/-- The variables of these laws, laid. -/
def layWords : Obj → Obj
  | .cells _ t frozen => .cells (wordT.map fun x => Value.string (sOf x)).toArray t frozen
  | o => o
def laySp (h : Array Obj) : Array Obj := (layU h).modify 0 layWords
end Go.Proofs.YtclicjokgfiegaaGreatDoor
