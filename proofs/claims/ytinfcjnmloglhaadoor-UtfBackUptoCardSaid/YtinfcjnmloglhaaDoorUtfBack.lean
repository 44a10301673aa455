/- The law of texts there and back: the walk (what comes in is of bulk at most 1048576). -/
import Derived.Test.YtinfcjnmloglhaaDoorUtfBackPlain
import Derived.Test.YtinfcjnmloglhaaDoorUtfLaws
namespace Go.Proofs.YtinfcjnmloglhaaDoor
open Go.RowKit
set_option linter.unusedVariables false

set_option maxRecDepth 100000 in
set_option maxHeartbeats 1600000 in
theorem UtfBack_w (s : ByteArray) (va vc : Value) (A C : List UInt8) (w : World) (hE : EnvU w) (hA : Bs w va A) (hC : Bs w vc C) (hAl : A.length ≤ 1048576) (hCl : C.length ≤ 1048576) (hs : s.size ≤ 140737488351232) :
    Calls Tryd.prog 6 #[.string s, va, vc] w fun e w' => e = .returned (.bool true) ∧ Below w.heap.size w w' := by
  have HE := hd hE; clear hE
  by_cases hl : s.size ≤ 65535
  · have hlB : (sB s).length ≤ 65535 := by rw [sB_len]; exact hl
    have hL : (uPutRawB (sB s)).length = s.size + 2 := by rw [uPutRawB_len hlB, sB_len]
    have hEr : uPutRawE (sB s) = 0 := by unfold uPutRawE; rw [if_neg (by omega)]
    have hraw : uGetRaw (A ++ uPutRawB (sB s) ++ C) A.length = (sB s, (A.length : Int) + 2 + s.size, 0) := by rw [uGetRaw_at A (sB s) C hlB, sB_len]
    have hget : uGet (A ++ uPutRawB (sB s) ++ C) A.length = if uRight (sB s) = true then (sB s, (A.length : Int) + 2 + s.size, 0) else ([], 0, 9) := by rw [uGet_at A (sB s) C hlB, sB_len]
    generalize hLd : uPutRawB (sB s) = L at hL hraw hget
    have Hraw := hd hraw; have Hget := hd hget; have HEr := hd hEr; have HLd := hd hLd
    clear hraw hget hEr hLd
    have hso : sOf (sB s) = s := rfl
    go_enter Tryd.func6, Tryd.ntmps6
    go_wp2_with fail
    refine (PutRaw_c s _ (by omega)).mono ?_
    rw [HEr.out, HLd.out]
    rintro e w1 ⟨v, rfl, hown, hb01⟩
    obtain ⟨a, c, rfl⟩ := Owns.slice hown
    have hbL := hown.bs
    rw [hL] at hbL
    have hA1 := hA.below' hb01 (Nat.le_refl _)
    have hC1 := hC.below' hb01 (Nat.le_refl _)
    clear hown hA hC
    obtain ⟨aa, ca, rfl⟩ := hA1.slice
    have tok1 : True := trivial
    have tok2 : True := trivial
    have tok3 : True := trivial
    have hbz : Below w1.heap.size w1 (w1.alloc (Obj.cells #[] 5)) := (Below.refl _ _).alloc (Nat.le_refl _) _
    have ho0 : Owned w1.heap.size (w1.alloc (Obj.cells #[] 5)) (.slice (some ⟨w1.heap.size, 0, none⟩) 0 0) [] := owned_lit w1.heap.size w1 [] w1.heap.size rfl (Nat.le_refl _) (by unfold maxLen; simp) [] rfl 0 rfl
    go_wp2_with (first
      | (at_builtin; have _t := tok1; refine wp_appB rfl _ _ rfl w1.heap.size _ [] rfl ho0 _ A rfl (hA1.below' hbz (Nat.le_refl _)) (by simp; omega) hbz.size ?_; intro v1 w2 ho1 hb1; clear tok1)
      | (at_builtin; have _t := tok2; refine wp_appB rfl _ _ rfl w1.heap.size _ ([] ++ A) rfl ho1 _ L rfl (hbL.below' (hbz.trans hb1) (Nat.le_refl _)) (by simp; omega) (hbz.trans hb1).size ?_; intro v2 w3 ho2 hb2; clear tok2)
      | (at_builtin; have _t := tok3; refine wp_appB rfl _ _ rfl w1.heap.size _ ([] ++ A ++ L) rfl ho2 vc C rfl (hC1.below' ((hbz.trans hb1).trans hb2) (Nat.le_refl _)) (by simp; omega) ((hbz.trans hb1).trans hb2).size ?_; intro v3 w4 ho3 hb3; clear tok3))
    rw [List.nil_append] at ho3
    have hb14 : Below w1.heap.size w1 w4 := ((hbz.trans hb1).trans hb2).trans hb3
    have hb04 : Below w.heap.size w w4 := hb01.trans (hb14.mono hb01.size)
    have hm := ho3.bs
    clear hb1 hb2 hb3 ho1 ho2 hbz ho0 hb14 hA1 hC1 hbL ho3 hb01
    refine (GetRaw_c _ _ _ _ hm).mono ?_
    rintro e w5 ⟨rfl, hb5⟩
    rw [Hraw.out]
    have hm5 := hm.below' hb5 (Nat.le_refl _)
    have hb05 : Below w.heap.size w w5 := hb04.trans (hb5.mono hb04.size)
    clear hm hb04 hb5
    simp only [hso]
    go_wp2_with fail
    refine (Get_c _ _ _ _ (HE.out.below hb05) hm5).mono ?_
    rintro e w6 ⟨rfl, hb6⟩
    have hb06 : Below w.heap.size w w6 := hb05.trans (hb6.mono hb05.size)
    clear hm5 hb05 hb6
    cases hr : uRight (sB s) with
    | true =>
      rw [Hget.out, hr, if_pos rfl]
      simp only [hso]
      go_wp2_with fail
      refine (Right_c s _ (HE.out.below hb06) (by omega)).mono ?_
      rw [hr]
      rintro e w7 ⟨rfl, hb7⟩
      have hb07 : Below w.heap.size w w7 := hb06.trans (hb7.mono hb06.size)
      go_wp2_with fail
      refine (awake_c _ (HE.out.below hb07)).mono ?_
      rintro e w8 ⟨rfl, hb8⟩
      have hb08 : Below w.heap.size w w8 := hb07.trans (hb8.mono hb07.size)
      go_wp2_with fail
      go_ret
      exact ⟨ret_bool (by simp), hb08⟩
    | false =>
      rw [Hget.out, hr, if_neg (by decide)]
      simp only
      have hem : (sOf []).toList = [] := ByteArray.toList_mk []
      go_wp2_with fail
      refine (Right_c s _ (HE.out.below hb06) (by omega)).mono ?_
      rw [hr]
      rintro e w7 ⟨rfl, hb7⟩
      have hb07 : Below w.heap.size w w7 := hb06.trans (hb7.mono hb06.size)
      go_wp2_with fail
      refine (awake_c _ (HE.out.below hb07)).mono ?_
      rintro e w8 ⟨rfl, hb8⟩
      have hb08 : Below w.heap.size w w8 := hb07.trans (hb8.mono hb07.size)
      go_wp2_with fail
      go_ret
      exact ⟨rfl, hb08⟩
  · have hEr : uPutRawE (sB s) = 3 := by unfold uPutRawE; rw [sB_len, if_pos (by omega)]
    have hBr : uPutRawB (sB s) = [] := by unfold uPutRawB; rw [sB_len, if_pos (by omega)]
    have hr : uRight (sB s) = false := by
      cases h : uRight (sB s) with
      | false => rfl
      | true => have := uRight_len h; rw [sB_len] at this; omega
    have HEr := hd hEr; have HBr := hd hBr
    clear hEr hBr
    go_enter Tryd.func6, Tryd.ntmps6
    go_wp2_with fail
    refine (PutRaw_c s _ (by omega)).mono ?_
    rw [HEr.out, HBr.out]
    rintro e w1 ⟨v, rfl, hown, hb01⟩
    go_wp2_with fail
    refine (Right_c s _ (HE.out.below hb01) (by omega)).mono ?_
    rw [hr]
    rintro e w7 ⟨rfl, hb7⟩
    have hb07 : Below w.heap.size w w7 := hb01.trans (hb7.mono hb01.size)
    go_wp2_with fail
    refine (awake_c _ (HE.out.below hb07)).mono ?_
    rintro e w8 ⟨rfl, hb8⟩
    have hb08 : Below w.heap.size w w8 := hb07.trans (hb8.mono hb07.size)
    go_wp2_with fail
    go_ret
    exact ⟨rfl, hb08⟩

end Go.Proofs.YtinfcjnmloglhaaDoor
