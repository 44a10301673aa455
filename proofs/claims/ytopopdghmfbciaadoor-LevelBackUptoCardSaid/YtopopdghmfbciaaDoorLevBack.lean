/- Levels of texts: joined again: the walk. -/
import Derived.Test.YtopopdghmfbciaaDoorLevJoin
namespace Go.Proofs.YtopopdghmfbciaaDoor
open Go.RowKit
set_option linter.unusedVariables false
set_option linter.unusedSimpArgs false

theorem count_hit {l : List UInt8} {k : Nat} (hk : k < l.length) (h : bN l k = 47) : (l.drop k).count 47 = (l.drop (k + 1)).count 47 + 1 := by
  rw [List.drop_eq_getElem_cons hk, (b8_of_bN hk (c := 47)).1 h]; simp
theorem count_miss {l : List UInt8} {k : Nat} (hk : k < l.length) (h : bN l k ≠ 47) : (l.drop k).count 47 = (l.drop (k + 1)).count 47 := by
  have : ¬ l[k] = 47 := fun e => h ((b8_of_bN hk (c := 47)).2 e)
  rw [List.drop_eq_getElem_cons hk, List.count_cons_of_ne (by simpa using this)]

set_option maxRecDepth 100000 in
set_option maxHeartbeats 4000000 in
theorem LevelBack_w (l : List UInt8) (w : World) (hE : EnvU w) (hs : l.length ≤ 100000000) :
    Calls Tryd.prog 8 #[.string (sOf l)] w fun e w' => e = .returned (.bool true) ∧ Below w.heap.size w w' := by
  have HE := hd hE; clear hE
  have hsz := sOf_sizeL l
  have hlen := lSplit_len l
  have hparts := lSplit_parts l
  have hjoin := lJoin_split l
  go_enter Tryd.func8, Tryd.ntmps8
  go_wp2_with fail
  refine (Split_c l _ hs).mono ?_
  rintro e w1 ⟨v1, rfl, ho, hb1⟩
  have hcl : l.count 47 ≤ l.length := List.count_le_length
  have HPT := hd hparts
  have HL := hd ho.ls
  have HLEN := hd hlen; have HJ := hd hjoin
  clear hparts hlen hjoin
  obtain ⟨p, hp⟩ : ∃ p, lSplit l = p := ⟨_, rfl⟩
  rw [hp] at ho HL HPT HLEN HJ
  obtain ⟨aa, ac, rfl⟩ := ho.ls.slice
  clear ho hp
  go_wp2_with fail
  go_loopw [4, 5] (fun n i w' => ∃ k m : Nat, i = .int .i64 k ∧ n = .int .i64 m ∧ k ≤ l.length ∧ m + (l.drop k).count 47 = l.count 47 + 1 ∧ w' = w1) (fun _ i _ => leftL l.length i)
  case atStart => exact ⟨0, 1, rfl, rfl, by omega, by rw [List.drop_zero]; omega, rfl⟩
  case round =>
    obtain ⟨k, m, rfl, rfl, hk, hm, rfl⟩ := hrel
    by_cases hks : k < l.length
    · have hx : ∀ W : World, (Instr.index 9 (.string (sOf l)) (.int .i64 (k : Int))).run Tryd.prog W = .ok (.int .u8 (bN l k)) W := at_sOf l k hks
      have hb0 := bN_lt l k
      obtain ⟨x, hxe⟩ : ∃ x, bN l k = x := ⟨_, rfl⟩
      have hH := fun h => count_hit hks h
      have hM := fun h => count_miss hks h
      rw [hxe] at hx hb0 hH hM
      have HH := hd hH; have HM := hd hM
      have HCM := hd hm
      clear hxe hH hM hm
      have hml : m ≤ l.length + 1 := by have := HCM.out; omega
      by_cases h47 : x = 47
      · subst h47
        go_wp2_with fail
        go_roundw
        case rel => exact ⟨k + 1, m + 1, by congr 1, by congr 1, by omega, by have := HCM.out; have := HH.out rfl; omega, trivial⟩
        case measure => simp [leftL]; omega
      · have hr0b : ((x : Int) == 47) = false := by simp; omega
        have H47 := hd h47
        clear h47
        go_wp2_with fail
        go_roundw
        case rel => exact ⟨k + 1, m, by congr 1, rfl, by omega, by have := HCM.out; have := HM.out H47.out; omega, trivial⟩
        case measure => simp [leftL]; omega
    · have hke : k = l.length := by omega
      rw [hke, List.drop_of_length_le (Nat.le_refl _)] at hm
      have hmp : m = p.length := by rw [HLEN.out]; simpa using hm
      subst hmp
      clear hm hke
      have hpb : p.length ≤ l.length + 1 := by have := HLEN.out; omega
      go_wp2_with fail
      go_loopw [6] (fun i w' => ∃ j : Nat, i = .int .i64 j ∧ j ≤ p.length ∧ w' = wr) (fun i _ => leftL p.length i)
      case atStart => exact ⟨0, rfl, by omega, rfl⟩
      case round =>
        obtain ⟨j, rfl, hj, rfl⟩ := hrel
        by_cases hjp : j < p.length
        · obtain ⟨y, hy⟩ : ∃ y, p[j]? = some y := ⟨_, List.getElem?_eq_getElem hjp⟩
          obtain ⟨b, o, rfl, hbl, hc⟩ := HL.out.at hy
          have hp1 := HPT.out y (List.mem_of_getElem? hy)
          have hsy := sOf_sizeL y
          have hyl : y.length ≤ l.length := hp1.2
          have HN := hd hp1.1
          clear hp1 hy
          go_wp2_with fail
          go_loopw [7] (fun i w' => ∃ q : Nat, i = .int .i64 q ∧ q ≤ y.length ∧ w' = wr) (fun i _ => leftL y.length i)
          case atStart => exact ⟨0, rfl, by omega, rfl⟩
          case round =>
            obtain ⟨q, rfl, hq, rfl⟩ := hrel
            by_cases hqy : q < y.length
            · have hx : ∀ W : World, (Instr.index 9 (.string (sOf y)) (.int .i64 (q : Int))).run Tryd.prog W = .ok (.int .u8 (bN y q)) W := at_sOf y q hqy
              have hb0 := bN_lt y q
              have hne : ((bN y q : Int) == 47) = false := by
                have : bN y q ≠ 47 := fun e => HN.out (by
                  have h := (b8_of_bN hqy (c := 47)).1 e
                  rw [← h]; exact List.getElem_mem hqy)
                simp; omega
              generalize bN y q = x at *
              go_wp2_with fail
              go_roundw
              case rel => exact ⟨q + 1, by congr 1, by omega, trivial⟩
              case measure => simp [leftL]; omega
            · go_wp2_with fail
              go_roundw
              case rel => exact ⟨j + 1, by congr 1, by omega, trivial⟩
              case measure => simp [leftL]; omega
        · have : j = p.length := by omega
          subst this
          have hls := HL.out
          have hpl := HLEN.out
          have hll : (l == l) = true := by simp
          have htl := toList_sOf l
          have HPL := hd hpl
          have HLS := hd hls
          clear hpl hls
          go_wp2_with fail
          refine (Join_c p _ _ HLS.out (by have := HPL.out; omega) (by rw [HJ.out]; omega)).mono ?_
          rw [HJ.out]
          rintro e w2 ⟨rfl, hb2⟩
          replace hb1 := Below.up hb1 hb2
          clear hb2
          go_wp2_with fail
          refine (awake17_c _ (HE.out.below hb1)).mono ?_
          rintro e w3 ⟨rfl, hb2⟩
          go_wp2_with fail
          go_ret
          exact ⟨rfl, Below.up hb1 hb2⟩

theorem LevelBack_s (a : ByteArray) (w : World) (hE : EnvU w) (ha : a.size ≤ 100000000) :
    Calls Tryd.prog 8 #[.string a] w fun e w' => e = .returned (.bool true) ∧ Below w.heap.size w w' := by
  have h := LevelBack_w (sB a) w hE (by rw [sB_len]; omega)
  rwa [sOf_sBL] at h
end Go.Proofs.YtopopdghmfbciaaDoor
