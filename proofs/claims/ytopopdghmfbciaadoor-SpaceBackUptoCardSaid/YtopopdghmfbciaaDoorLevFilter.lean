/- Levels of texts: Filter: the walk. -/
import Derived.Test.YtopopdghmfbciaaDoorLevSplit
namespace Go.Proofs.YtopopdghmfbciaaDoor
open Go.RowKit
set_option linter.unusedVariables false
set_option linter.unusedSimpArgs false

def leftL (n : Nat) : Value → Nat
  | .int _ k => ((n : Int) - k).toNat
  | _ => 0
theorem toList_sOf (x : List UInt8) : (sOf x).toList = x := by rw [ByteArray.toList_eq]; rfl
theorem lSized_len {l : List UInt8} (h : lSized l = true) : l ≠ [] ∧ l.length ≤ 96 ∧ (lSplit l).length ≤ 12 := by
  unfold lSized at h
  simp at h
  exact ⟨h.1, h.2.1, h.2.2.2⟩

set_option maxRecDepth 100000 in
set_option maxHeartbeats 4000000 in
theorem Filter_c (l : List UInt8) (w : World) (hE : EnvU w) (hs : l.length ≤ 9223372036854775000) : Calls Tryd.prog 16 #[.string (sOf l)] w fun e w' => e = .returned (.bool (lFilter l)) ∧ Below w.heap.size w w' := by
  obtain ⟨r, hr⟩ : ∃ r, lFilter l = r := ⟨_, rfl⟩
  rw [hr]
  unfold lFilter at hr
  go_enter Tryd.func16, Tryd.ntmps16
  go_wp2_with fail
  refine (sized_c l _ hE hs).mono ?_
  rintro e w1 ⟨rfl, hb1⟩
  cases hu : lSized l
  · go_wp2_with fail
    go_ret
    exact ⟨ret_bool (by rw [← hr, hu]; rfl), hb1⟩
  rw [hu, Bool.true_and] at hr
  obtain ⟨hl0, hl96, hl12⟩ := lSized_len hu
  go_wp2_with fail
  refine (Split_c l _ (by omega)).mono ?_
  rintro e w2 ⟨v2, rfl, ho2, hb2⟩
  have hlx := fun x (hx : x ∈ lSplit l) => (lSplit_parts l x hx).2
  have HLX := hd hlx
  have hbw := Below.up hb1 hb2
  clear hu
  generalize lSplit l = p at *
  have HL2 := hd ho2.ls
  obtain ⟨a2, c2, rfl⟩ := ho2.ls.slice
  clear ho2 hb1 hb2 hlx
  go_wp2_with fail
  go_loopw [13] (fun n w' => ∃ k : Nat, n = .int .i64 k ∧ k ≤ p.length ∧ Below w2.heap.size w2 w' ∧ okLevels (p.drop k) = r) (fun n _ => leftL p.length n)
  case atStart => exact ⟨0, rfl, by omega, Below.refl _ _, hr⟩
  case round =>
    obtain ⟨k, rfl, hk, hB, hok⟩ := hrel
    by_cases hkl : k < p.length
    · obtain ⟨x, hx⟩ : ∃ x, p[k]? = some x := ⟨_, List.getElem?_eq_getElem hkl⟩
      obtain ⟨b, o, rfl, hbl, hc⟩ := HL2.out.at hx
      replace hc := (bcell hB _ _ hbl).trans hc
      have hxl := HLX.out x (List.mem_of_getElem? hx)
      rw [okLevels_at hx] at hok
      have HOK := hd hok
      have hsx := sOf_sizeL x
      clear hok hx hr
      have htl := toList_sOf x
      have HL := hd hxl; clear hxl hsx
      have HB := hd hB; have HHB := hd hbw
      cases e43 : (x == [43])
      · go_wp2_with fail
        refine (wild_c x _ (by have := HL.out; omega)).mono ?_
        rintro e w3 ⟨rfl, hb3⟩
        have hb3' := Below.up hbw (Below.up hB hb3)
        have hB3 := Below.up hB hb3
        cases ew : wildL x
        · go_wp2_with fail
          go_roundw
          case rel => exact ⟨k + 1, by congr 1, by omega, hB3, by have := HOK.out; rw [ew] at this; simpa using this⟩
          case measure => simp [leftL]; omega
        · cases e35 : (x == [35])
          · have hrf : r = false := by have := HOK.out; rw [e43, ew, e35] at this; simpa using this.symm
            go_wp2_with fail
            go_ret
            exact ⟨ret_bool hrf.symm, hb3'⟩
          · by_cases hlast : k + 1 = p.length
            · have hkb : ((k : Int) == (p.length : Int) - 1) = true := by simp; omega
              go_wp2_with fail
              go_roundw
              case rel => exact ⟨k + 1, by congr 1, by omega, hB3, by have := HOK.out; rw [e35, decide_eq_true hlast] at this; simpa using this⟩
              case measure => simp [leftL]; omega
            · have hkb : ((k : Int) == (p.length : Int) - 1) = false := by simp; omega
              have hrf : r = false := by have := HOK.out; rw [e43, ew, e35, decide_eq_false hlast] at this; simpa using this.symm
              go_wp2_with fail
              go_ret
              exact ⟨ret_bool hrf.symm, hb3'⟩
      · go_wp2_with fail
        go_roundw
        case rel => exact ⟨k + 1, by congr 1, by omega, hB, by have := HOK.out; rw [e43] at this; simpa using this⟩
        case measure => simp [leftL]; omega
    · have hke : k = p.length := by omega
      subst hke
      rw [List.drop_of_length_le (Nat.le_refl _)] at hok
      have hok2 : true = r := hok
      subst hok2
      go_wp2_with fail
      go_ret
      exact ⟨rfl, hbw.trans (hB.mono hbw.size)⟩
end Go.Proofs.YtopopdghmfbciaaDoor
