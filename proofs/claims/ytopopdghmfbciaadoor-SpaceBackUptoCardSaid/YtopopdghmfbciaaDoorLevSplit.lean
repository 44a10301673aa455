/- Levels of texts: Split: the walk. -/
import Derived.Test.YtopopdghmfbciaaDoorLev
import Derived.Test.YtopopdghmfbciaaDoorTxts
import Derived.Test.YtopopdghmfbciaaDoorRegion
import Derived.WalkMore
import Derived.ScopeJumps
import Derived.BigQuiet
namespace Go.Proofs.YtopopdghmfbciaaDoor
open Go.RowKit
set_option linter.unusedVariables false
set_option linter.unusedSimpArgs false

/-- A scope whose one label stands behind its first part, and to which its rest jumps back. -/
theorem wp_scope_label {P : Program} {a : Act} {w : World} {Q : Exit → Act → World → Prop} {c1 rest : Code} (l : Nat) (J : Act → World → Prop) (μ : Act → World → Nat)
    (hf : findLabel (c1.seq ((Code.label l).seq rest)) l = some (Code.skip.seq rest))
    (pre : c1.wp P (fun e a w => e = .normal ∧ J a w) a w)
    (pass : ∀ a w, J a w → rest.wp P (Exit.jump l (fun a' w' => J a' w' ∧ μ a' w' < μ a w) Q) a w) : (Code.scope (c1.seq ((Code.label l).seq rest))).wp P Q a w := by
  refine wp_scope_jumps l J μ hf ?_ (fun a w h => wp_seq (wp_skip (pass a w h)))
  refine wp_seq (wp_mono pre ?_)
  rintro e a w ⟨rfl, hJ⟩
  refine wp_seq (wp_label ?_)
  refine wp_mono (pass a w hJ) (fun e a w h => ?_)
  cases e with
  | goto l' => exact ⟨h.1, h.2.1⟩
  | normal => exact h
  | exit id => exact h
  | ret => exact h
  | panic ch => exact h
  | outgrown => exact h

def strSize : Value → Nat
  | .string s => s.size
  | _ => 0
structure SplitI (l : List UInt8) (w : World) (l' : List UInt8) (p : List (List UInt8)) (v : Value) (w' : World) : Prop where
  own : OwnL w.heap.size w' v p
  below : Below w.heap.size w w'
  eq : lSplit l = p ++ lSplit l'
  len : l'.length + p.length ≤ l.length

set_option maxRecDepth 100000 in
set_option maxHeartbeats 8000000 in
theorem Split_c (l : List UInt8) (w : World) (hs : l.length ≤ 100000000) : Calls Tryd.prog 21 #[.string (sOf l)] w (GivesL w (lSplit l)) := by
  have hsz := sOf_sizeL l
  go_enter Tryd.func21, Tryd.ntmps21
  go_wp2_with fail
  refine wp_scope_label 0 (fun a' w' => ∃ (l' : List UInt8) (p : List (List UInt8)) (v : Value) (u4 u5 u6 u7 u8 u9 u10 u11 u12 u13 u14 u15 u16 u17 u18 u19 u20 u21 u22 u23 u24 u25 u26 u27 u28 u29 u30 u31 : Value), a' = { tmps := #[.string (sOf l'), undef, .slice none 0 0, v, u4, u5, u6, u7, u8, u9, u10, u11, u12, u13, u14, u15, u16, u17, u18, u19, u20, u21, u22, u23, u24, u25, u26, u27, u28, u29, u30, u31], defers := [] } ∧ SplitI l w l' p v w') (fun a' _ => strSize (a'.tmps.getD 0 undef)) rfl ?_ ?_
  · go_wp2_with fail
    refine (Tryd.strings_Count_one (sOf l) 47 _).mono ?_
    rintro e w2 ⟨rfl, rfl⟩
    have hc : Lib.countByte (sOf l).data.toList 47 = l.count 47 := rfl
    have hcl : l.count 47 ≤ l.length := List.count_le_length
    rw [hc]
    clear hc
    obtain ⟨i0, hi, hz0, hz1, hz2⟩ := info_parts info_string
    obtain ⟨wm, hmr, hmo, hmg⟩ := run_make_own (P := Tryd.prog) w2 w2.heap.size 26 9 i0 (.string ⟨#[]⟩) 1 Tryd.underlying26 hi hz0 hz1 .i64 .i64 (l.count 47 + 1) (by rw [hz2]; omega) (by unfold maxLen; omega) (Nat.le_refl _)
    have hbm : Below w2.heap.size w2 wm := (Below.refl _ w2).grown hmg (Nat.le_refl _) (fun k e => by cases e)
    have hmr2 : (Instr.makeSlice 26 (.int .i64 0) (.int .i64 ((l.count 47 : Int) + 1))).run Tryd.prog w2 = .ok (.slice (some ⟨w2.heap.size, 0, none⟩) 0 (l.count 47 + 1)) wm := by
      have e : ((l.count 47 + 1 : Nat) : Int) = (l.count 47 : Int) + 1 := by push_cast; rfl
      rw [← e]; exact hmr
    clear hmr hmg hi hz0 hz1 hz2
    go_wp2_with fail
    exact ⟨l, [], _, ⟨rfl, rfl⟩, hmo, hbm, by simp, by simp⟩
  · rintro a' w' ⟨l', p, v, u4, u5, u6, u7, u8, u9, u10, u11, u12, u13, u14, u15, u16, u17, u18, u19, u20, u21, u22, u23, u24, u25, u26, u27, u28, u29, u30, u31, rfl, I⟩
    have hsl := sOf_sizeL l'
    have hll := I.len
    obtain ⟨va, vc, rfl⟩ := I.own.ls.slice
    have HI := hd I; clear I
    go_wp2_with fail
    go_loopw [0, 3] (fun a0 a3 W => a0 = .string (sOf l') ∧ a3 = .slice va p.length vc ∧ ∃ pos : Nat, W = w'.iter (sOf l') pos ∧ pos ≤ l'.length ∧ ∀ j, j < pos → bN l' j ≠ 47) (fun _ _ W => l'.length - W.iterPos w'.heap.size)
    case atStart => exact ⟨rfl, rfl, 0, rfl, by omega, fun j hj => by omega⟩
    case round =>
      obtain ⟨rfl, rfl, pos, rfl, hp1, hno⟩ := hrel
      have hbi : Below w'.heap.size w' (w'.iter (sOf l') pos) := (Below.refl _ _).alloc (Nat.le_refl _) (.stringIter (sOf l') pos)
      by_cases hp : pos < l'.length
      · have hnx : ∀ ty, (Instr.next (.pointer (some ⟨w'.heap.size, 0, none⟩)) true ty).run Tryd.prog (w'.iter (sOf l') pos) = _ := fun ty => run_next_any w' (sOf l') pos ty (by omega)
        have h47 := range_asc l' pos hp 47 (by omega)
        have hdd : Lib.decodeL (l'.drop pos) = Utf8.decode (sOf l') pos := Lib.decodeL_drop (sOf l') pos
        rw [hdd] at h47
        generalize Utf8.decode (sOf l') pos = q at h47 hnx
        obtain ⟨qr, qn⟩ := q
        simp only at h47 hnx
        obtain ⟨a0, a1, hn1, hn2, hq⟩ := h47
        by_cases hr0 : qr = 47
        · obtain ⟨rfl, hb47⟩ := a0 hr0
          subst hr0
          have hl1 := fun W => sl_to l' pos (by omega) (by omega) W
          have hl2 := fun W => sl_from l' (pos + 1) (by omega) (by omega) W
          push_cast at hl2
          have hwr : IntKind.i64.wrap ((pos : Int) + 1) = (pos : Int) + 1 := IntWalk.i64_in _ (by omega)
          have hsp := lSplit_hit pos l' hp hno hb47
          have HSP := hd hsp; have HNO := hd hno
          clear a1 hsp hno
          have hB : Below w.heap.size w (w'.iter (sOf l') (pos + 1)) := Below.up HI.out.below ((Below.refl _ _).alloc (Nat.le_refl _) (.stringIter (sOf l') (pos + 1)))
          have hO : OwnL w.heap.size (w'.iter (sOf l') (pos + 1)).drew (.slice va p.length vc) p := HI.out.own.kept (((Below.refl _ _).alloc (Nat.le_refl _) (.stringIter (sOf l') (pos + 1))).drew) (Nat.le_refl _)
          have hBs := hB.size
          have HB := hd hB; have HO := hd hO
          clear hB hO
          go_wp2_with fail
          refine wp_region_M (fun _ => True) 11 [(0, false), (1, false), (2, false), (3, false), (6, false), (7, false), (8, false), (9, false), (4, true), (5, true), (10, false), (11, true)] (by kernel_rfl) (by kernel_rfl) (fun _ _ _ _ h => h) trivial ?_
          iterate 8
            apply wpM_still (by rfl) (by rfl)
            · intro W hC
              go_simp
              rfl
            go_simp
          apply wpM_move (by rfl) (by rfl)
          intro K hK
          go_simp
          refine hK _ _ (fun _ => trivial) ?_
          clear hK K
          go_simp
          apply wpM_move (by rfl) (by rfl)
          intro K hK
          refine wpo_appL (w := (w'.iter (sOf l') (pos + 1)).drew) _ _ (by rfl) w.heap.size (.slice va p.length vc) p (by rfl) HO.out (l'.take pos) (by rfl) (by omega) hBs ?_
          intro v4 w4 ho4 hb4
          obtain ⟨a4, c4, rfl⟩ := ho4.ls.slice
          generalize hm4 : (p ++ [l'.take pos]).length = m4 at *
          have HM := hd hm4; clear hm4
          have hbw4 : Below w.heap.size w w4 := HB.out.trans ⟨hb4.os, hb4.tape, hb4.output, hb4.size, hb4.block⟩
          have HO4 := hd ho4; have HBW := hd hbw4
          clear ho4 hb4 hbw4
          refine hK _ _ (fun _ => trivial) ?_
          clear hK K
          go_simp
          apply wpM_still (by rfl) (by rfl)
          · intro W hC
            go_simp
            rfl
          go_simp
          apply wpM_move (by rfl) (by rfl)
          intro K hK
          go_simp
          refine hK _ _ (fun h => absurd h (by decide)) ?_
          clear hK K
          refine wpM_nil ?_
          go_wp2_with fail
          go_step3
          refine ⟨rfl, ⟨l'.drop (pos + 1), p ++ [l'.take pos], _, _, _, _, _, _, _, _, _, _, _, _, _, _, _, _, _, _, _, _, _, _, _, _, _, _, _, _, _, rfl, ⟨HO4.out, HBW.out, ?_, ?_⟩⟩, ?_⟩
          · rw [HI.out.eq, HSP.out]; simp
          · have := HI.out.len; simp; omega
          · show (sOf (l'.drop (pos + 1))).size < (sOf l').size
            rw [sOf_sizeL, sOf_sizeL]; simp; omega
        · have hno2 : ∀ j, j < pos + qn → bN l' j ≠ 47 := fun j hj => by
            by_cases hj2 : j < pos
            · exact hno j hj2
            · have := a1 hr0 (j - pos) (by omega)
              rwa [show pos + (j - pos) = j by omega] at this
          have hr0b : ((qr : Int) == 47) = false := by simp; omega
          have HNO := hd hno2
          clear a0 a1 hno hno2
          go_wp2_with fail
          go_roundw
          case rel => exact ⟨rfl, rfl, pos + qn, rfl, by omega, HNO.out⟩
          case measure => simp; omega
      · have hnx : ∀ ty, (Instr.next (.pointer (some ⟨w'.heap.size, 0, none⟩)) true ty).run Tryd.prog (w'.iter (sOf l') pos) = _ := fun ty => run_next_end w' (sOf l') pos ty (by omega)
        have : pos = l'.length := by omega
        subst this
        have hsp := lSplit_none l' hno
        have HSP := hd hsp
        have hO := HI.out.own.kept hbi (Nat.le_refl _)
        have hB : Below w.heap.size w (w'.iter (sOf l') l'.length) := Below.up HI.out.below hbi
        have hBs := hB.size
        have HB := hd hB
        clear hno hsp hB
        go_wp2_with (at_builtin; refine wp_appL rfl _ _ rfl w.heap.size _ p rfl hO l' rfl (by omega) hBs ?_; intro v4 w4 ho4 hb4)
        simp only [Exit.jump]
        go_ret
        exact ⟨_, rfl, by rw [HI.out.eq, HSP.out]; exact ho4, HB.out.trans hb4⟩
end Go.Proofs.YtopopdghmfbciaaDoor
