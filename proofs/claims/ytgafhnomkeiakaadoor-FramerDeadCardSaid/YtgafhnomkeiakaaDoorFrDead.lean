/- Dead for good: plain facts and the walk. -/
import Derived.Test.YtgafhnomkeiakaaDoorFrLaws
import Derived.Test.YtgafhnomkeiakaaDoorStrOpen
namespace Go.Proofs.YtgafhnomkeiakaaDoor
open Go.RowKit
set_option linter.unusedVariables false
set_option linter.unusedSimpArgs false

/-- the error of a head of one byte and no length -/
def fdG (n : Nat) : (Int × Int × Int) × Int × Int := hGet [B8 n, 0] 0
theorem fdAll : ((List.range 256).all fun n => decide (frNext ([192, 0, B8 n, 0], 0, 0) = ((((12, 0, 0), []), true, 0), ([B8 n, 0], 1, 0))) &&
    (if (fdG n).2.2 = 0 then decide (frNext ([B8 n, 0], 1, 0) = ((((fdG n).1, []), true, 0), ([], 2, 0))) && decide ((fdG n).1.1 = ((n / 16 : Nat) : Int))
      else decide (frNext ([B8 n, 0], 1, 0) = ((pk0, false, (fdG n).2.2), ([], 1, (fdG n).2.2))))) = true := by decide +kernel
theorem fd0 (n : Nat) (hn : n < 256) : frNext ([192, 0, B8 n, 0], 0, 0) = ((((12, 0, 0), []), true, 0), ([B8 n, 0], 1, 0)) ∧
    (if (fdG n).2.2 = 0 then decide (frNext ([B8 n, 0], 1, 0) = ((((fdG n).1, []), true, 0), ([], 2, 0))) && decide ((fdG n).1.1 = ((n / 16 : Nat) : Int))
      else decide (frNext ([B8 n, 0], 1, 0) = ((pk0, false, (fdG n).2.2), ([], 1, (fdG n).2.2)))) = true := by
  have h := (List.all_eq_true.1 fdAll) n (List.mem_range.2 hn)
  rw [Bool.and_eq_true] at h
  exact ⟨of_decide_eq_true h.1, h.2⟩
theorem fd1 (n : Nat) (hn : n < 256) : frNext ([192, 0, B8 n, 0], 0, 0) = ((((12, 0, 0), []), true, 0), ([B8 n, 0], 1, 0)) := (fd0 n hn).1
theorem fd2 (n : Nat) (hn : n < 256) (h : (fdG n).2.2 = 0) : frNext ([B8 n, 0], 1, 0) = ((((fdG n).1, []), true, 0), ([], 2, 0)) ∧ (fdG n).1.1 = ((n / 16 : Nat) : Int) := by
  have h2 := (fd0 n hn).2
  rw [if_pos h, Bool.and_eq_true] at h2
  exact ⟨of_decide_eq_true h2.1, of_decide_eq_true h2.2⟩
theorem fd3 (n : Nat) (hn : n < 256) (h : (fdG n).2.2 ≠ 0) : frNext ([B8 n, 0], 1, 0) = ((pk0, false, (fdG n).2.2), ([], 1, (fdG n).2.2)) := by
  have h2 := (fd0 n hn).2
  rw [if_neg h] at h2
  exact of_decide_eq_true h2
theorem fdNext (e : Int) (he : e ≠ 0) : frNext ([], 1, e) = ((pk0, false, e), ([], 1, e)) := by rw [frNext, if_pos he]

theorem bs_lit2 (x : Int) (hx : 0 ≤ x ∧ x ≤ 255) (W : World) : Bs (W.alloc (.cells #[.int .u8 x, .int .u8 0] 5)) (.slice (some ⟨W.heap.size, 0, none⟩) 2 2) [B8 x.toNat, 0] :=
  (owned_lit W.heap.size W [B8 x.toNat, 0] W.heap.size rfl (Nat.le_refl _) (by unfold maxLen; simp) _ (by simp only [List.map]; rw [byteV_B8 (x := x) (by omega) (by omega)]; rfl) 2 rfl).bs
theorem byte_litD (x : Int) (hx : 0 ≤ x ∧ x ≤ 255) (W : World) : (convert 23 9 (.slice (some ⟨W.heap.size, 0, none⟩) 1 1)).run Tryd.prog (W.alloc (.cells #[.int .u8 x] 5)) = .ok (.string (sOf [B8 x.toNat])) (W.alloc (.cells #[.int .u8 x] 5)) :=
  run_str (owned_lit W.heap.size W [B8 x.toNat] W.heap.size rfl (Nat.le_refl _) (by unfold maxLen; simp) _ (by simp only [List.map]; rw [byteV_B8 (x := x) (by omega) (by omega)]) 1 rfl).bs

theorem fdStr (b : UInt8) : sB (⟨#[192, 0]⟩ ++ sOf [b] ++ ⟨#[0]⟩) = [192, 0, b, 0] := by simp [sB, sOf]
theorem fdSize (b : UInt8) : ([] : List UInt8).length + (⟨#[192, 0]⟩ ++ sOf [b] ++ ⟨#[0]⟩ : ByteArray).size ≤ 140737488355328 := by
  rw [← sB_len, fdStr]; simp

set_option maxRecDepth 100000 in
set_option maxHeartbeats 4000000 in
theorem FramerDead_w (x : Int) (v : Value) (l : List ByteArray) (w : World) (hE : EnvF w) (hx : 0 ≤ x ∧ x ≤ 255) (hv : Ts w v l) (hsz : ∀ s ∈ l, s.size ≤ 140737488351232) :
    Calls Tryd.prog 10 #[.int .u8 x, v] w fun e w' => e = .returned (.bool true) ∧ Below w.heap.size w w' := by
  have HE := hd hE; clear hE
  have HV := hd hv; have HS := hd hsz; clear hsz
  obtain ⟨a, c, rfl⟩ := hv.slice
  clear hv
  have hn : x.toNat < 256 := by omega
  have h1 := hd (fd1 x.toNat hn)
  have h2 := hd (fd2 x.toNat hn)
  have h3 := hd (fd3 x.toNat hn)
  have hlit := byte_litD x hx
  have hG : hGet [B8 x.toNat, 0] 0 = fdG x.toNat := rfl
  have HG := hd hG; clear hG
  have hdiv : ((x.toNat / 16 : Nat) : Int) = x / 16 := by omega
  have hbl := bs_lit2 x hx w
  have HBL := hd hbl; clear hbl
  generalize fdG x.toNat = G at *
  obtain ⟨⟨k, f, n⟩, p, E⟩ := G
  simp only at h2 h3
  go_enter Tryd.func10, Tryd.ntmps10
  go_wp2_with fail
  refine (refHGet_c _ _ 0 _ HBL.out).mono ?_
  rw [HG.out]
  rintro e w1 ⟨rfl, hb1⟩
  have hb : Below w.heap.size w w1 := Below.up (by go_grown) hb1
  clear hb1 HBL HG
  simp only []
  go_wp2_with fail
  refine (frNew_c _).mono ?_
  have hbx := Below.up hb ((Below.refl w1.heap.size w1).alloc (Nat.le_refl _) (.cells #[.int .i64 k, .int .i64 f, .int .i64 n] 52))
  generalize (w1.alloc (Obj.cells #[.int .i64 k, .int .i64 f, .int .i64 n] 52)) = w2 at *
  rintro e w3 ⟨rfl, hf3, hb3⟩
  have hl2 : w.heap.size ≤ w2.heap.size := hbx.size
  replace hb := Below.up hbx hb3
  clear hbx hb3
  generalize w2.heap.size = g at *
  go_wp2_with fail
  have hbx : Below w3.heap.size w3 (w3.alloc (Obj.cells #[.int .u8 x] 5)) := (Below.refl _ _).alloc (Nat.le_refl _) _
  replace hf3 := hf3.below hbx
  replace hb := Below.up hb hbx
  clear hbx
  refine (feed_c g [] 0 0 _ _ hf3 (fdSize _)).mono ?_
  generalize (w3.alloc (Obj.cells #[.int .u8 x] 5)) = w4 at *
  rintro e w5 ⟨rfl, hf5, hk5⟩
  rw [if_pos rfl, List.nil_append, fdStr] at hf5
  replace hb := hb.trans (hk5.toBelow hb.size (by simpa using hl2))
  clear hf3 hk5 hlit
  go_wp2_with fail
  refine (next_c _ ([192, 0, B8 x.toNat, 0], 0, 0) _ (HE.out.below hb) hf5 (by simp) (by simp)).mono ?_
  rw [h1.out]; simp only [GivesNext, pkV, sOf_nil]
  rintro e w6 ⟨rfl, hf6, hk6⟩
  replace hb := hb.trans (hk6.toBelow hb.size (by simpa using hl2))
  clear hf5 hk6 h1
  go_wp2_with fail
  have hbx : Below w6.heap.size w6 (w6.alloc (Obj.cells #[.int .i64 12, .int .i64 0, .int .i64 0, .string ⟨#[]⟩] 54)) := (Below.refl _ _).alloc (Nat.le_refl _) _
  replace hf6 := hf6.below hbx
  replace hb := Below.up hb hbx
  have hc6 : (w6.alloc (Obj.cells #[.int .i64 12, .int .i64 0, .int .i64 0, .string ⟨#[]⟩] 54)).heap.size = w6.heap.size + 1 := by simp
  clear hbx
  refine (next_c _ ([B8 x.toNat, 0], 1, 0) _ (HE.out.below hb) hf6 (by simp) (by simp)).mono ?_
  generalize (w6.alloc (Obj.cells #[.int .i64 12, .int .i64 0, .int .i64 0, .string ⟨#[]⟩] 54)) = w7 at *
  by_cases hE0 : E = 0
  · obtain ⟨e1, e2⟩ := h2.out hE0
    rw [e1]; simp only [GivesNext, pkV, sOf_nil]
    rintro e w8 ⟨rfl, hf8, hk8⟩
    replace hb := hb.trans (hk8.toBelow hb.size (by simpa using hl2))
    have hkx : k = x / 16 := e2.trans hdiv
    have htd : x.tdiv 16 = x / 16 := Int.tdiv_eq_ediv_of_nonneg (by omega)
    clear hk8 e1 h3 hf6 hf8 hdiv e2 h2
    subst hkx hE0
    go_wp2_with fail
    have hbx : Below w8.heap.size w8 (w8.alloc (Obj.cells #[.int .i64 (x / 16), .int .i64 f, .int .i64 n, .string ⟨#[]⟩] 54)) := (Below.refl _ _).alloc (Nat.le_refl _) _
    replace hb := Below.up hb hbx
    clear hbx
    refine (awake12_c _ (HE.out.below hb)).mono ?_
    rintro e w9 ⟨rfl, hb9⟩
    replace hb := Below.up hb hb9
    go_wp2_with fail
    go_ret
    exact ⟨rfl, by go_grown⟩
  · rw [h3.out hE0]; simp only [GivesNext, pkV, pk0, sOf_nil]
    rintro e w8 ⟨rfl, hf8, hk8⟩
    replace hb := hb.trans (hk8.toBelow hb.size (by simpa using hl2))
    have heb : (E == 0) = false := by simpa using hE0
    clear hk8 h2 h3 hf6 hdiv hc6
    have HF8 := hd hf8; clear hf8
    have hll : l.length ≤ 9223372036854775807 := by
      have := Rd.len HV.out
      unfold maxLen at this
      omega
    go_wp2_with fail
    go_loopw [14] (fun n w' => ∃ k : Nat, n = .int .i64 k ∧ k ≤ l.length ∧ FrAt w' g [] 1 E ∧ Below w.heap.size w w') (fun n _ => leftTo l.length n)
    case atStart => exact ⟨0, rfl, by omega, HF8.out.below ((Below.refl _ _).alloc (Nat.le_refl _) _), hb.alloc hb.size _⟩
    case round =>
      obtain ⟨k, rfl, hk, hfk, hbk⟩ := hrel
      clear hb HF8
      by_cases hk1 : k < l.length
      · by_cases hk2 : k < 20
        · obtain ⟨s, hs⟩ : ∃ s, l[k]? = some s := ⟨_, List.getElem?_eq_getElem hk1⟩
          have hss : ([] : List UInt8).length + s.size ≤ 140737488355328 := by
            have := HS.out s (List.mem_of_getElem? hs)
            simp; omega
          have HSS := hd hss; clear hss
          obtain ⟨b, o, c', hv, hbl, hc⟩ := HV.out.at hs
          cases hv
          replace hc := (bcell hbk _ _ hbl).trans hc
          have hFk := hd hfk; clear hfk
          go_wp2_with fail
          refine (feed_c g [] 1 E s _ hFk.out HSS.out).mono ?_
          rintro e w9 ⟨rfl, hf9, hk9⟩
          rw [if_neg hE0] at hf9
          replace hbk := hbk.trans (hk9.toBelow hbk.size (by simpa using hl2))
          clear hc hk9 HSS hFk
          go_wp2_with fail
          refine (waits_c g [] 1 E _ hf9).mono ?_
          rintro e w10 ⟨rfl, rfl⟩
          simp only [List.length_nil]
          have hF9 := hd hf9; clear hf9
          go_wp2_with fail
          refine (next_c _ ([], 1, E) _ (HE.out.below hbk) hF9.out (by simp) (by simp)).mono ?_
          rw [fdNext E hE0]; simp only [GivesNext, pkV, pk0, sOf_nil]
          rintro e w11 ⟨rfl, hf11, hk11⟩
          replace hbk := hbk.trans (hk11.toBelow hbk.size (by simpa using hl2))
          clear hk11 hF9
          have hF11 := hd hf11; clear hf11
          go_wp2_with fail
          go_roundw
          case rel => exact ⟨k + 1, by congr 1, by omega, hF11.out.below ((Below.refl _ _).alloc (Nat.le_refl _) _), hbk.alloc hbk.size _⟩
          case measure => simp [leftTo]; omega
        · skip
          go_wp2_with fail
          refine (dead_c g [] 1 E _ hfk).mono ?_
          rintro e w9 ⟨rfl, rfl⟩
          have hdb : (E != 0) = true := by simpa using hE0
          rw [hdb]
          go_wp2_with fail
          refine (taken_c g [] 1 E _ hfk).mono ?_
          rintro e w9 ⟨rfl, rfl⟩
          go_wp2_with fail
          refine (awake12_c _ (HE.out.below hbk)).mono ?_
          rintro e w9 ⟨rfl, hb9⟩
          replace hbk := Below.up hbk hb9
          go_wp2_with fail
          go_ret
          exact ⟨rfl, by go_grown⟩
      · skip
        go_wp2_with fail
        refine (dead_c g [] 1 E _ hfk).mono ?_
        rintro e w9 ⟨rfl, rfl⟩
        have hdb : (E != 0) = true := by simpa using hE0
        rw [hdb]
        go_wp2_with fail
        refine (taken_c g [] 1 E _ hfk).mono ?_
        rintro e w9 ⟨rfl, rfl⟩
        go_wp2_with fail
        refine (awake12_c _ (HE.out.below hbk)).mono ?_
        rintro e w9 ⟨rfl, hb9⟩
        replace hbk := Below.up hbk hb9
        go_wp2_with fail
        go_ret
        exact ⟨rfl, by go_grown⟩
end Go.Proofs.YtgafhnomkeiakaaDoor
