/- Any chunks, any takes: the walk. -/
import Derived.Test.YtgafhnomkeiakaaDoorFrRefNext
import Derived.Test.YtgafhnomkeiakaaDoorStrOpen
import Derived.BigQuiet
namespace Go.Proofs.YtgafhnomkeiakaaDoor
open Go.RowKit Go.ChangeShapes Go.WideShapes Go.ChangeAt
set_option linter.unusedVariables false
set_option linter.unusedSimpArgs false

def tot (l : List ByteArray) : Nat := (l.map ByteArray.size).sum
theorem tot_take {l : List ByteArray} {k : Nat} {s : ByteArray} (h : l[k]? = some s) : tot (l.take (k + 1)) = tot (l.take k) + s.size := by
  unfold tot; rw [List.take_add_one, h]; simp
theorem tot_le (l : List ByteArray) (k : Nat) : tot (l.take k) ≤ tot l := by
  have h : tot l = tot (l.take k) + tot (l.drop k) := by
    unfold tot
    rw [← List.sum_append, ← List.map_append, List.take_append_drop]
  omega

theorem strs_bulk {H : Type} : ∀ l : List ByteArray, tot l ≤ Rows.uptoBulkAll (strs l : List (DataW H))
  | [] => by simp [tot]
  | s :: t => by
    have ih := strs_bulk (H := H) t
    have e : (s.data.toList).length = s.size := Array.length_toList
    have e1 : tot (s :: t) = s.size + tot t := by simp [tot]
    have e2 : Rows.uptoBulkAll (strs (s :: t) : List (DataW H)) = (s.data.toList.length + 1) + Rows.uptoBulkAll (strs t : List (DataW H)) := by
      simp [strs, Rows.uptoBulkAll, Rows.uptoBulk]
    rw [e1, e2, e]
    omega
theorem texts_bulk {H : Type} {d : DataW H} {l : List ByteArray} {v : Value} (h : v = .slice none 0 0 ∧ l = [] ∨ ∃ sp, d = .slice (strs l) sp) : tot l ≤ Rows.uptoBulk d := by
  rcases h with ⟨_, rfl⟩ | ⟨sp, rfl⟩
  · simp [tot]
  · have := strs_bulk (H := H) l
    rw [Rows.uptoBulk]
    omega
theorem quiet_leftF {P : Program} {f : FuncId} {args : Array Value} {w : World} {n : Nat} {v : Value} (h : Calls P f args (w.drewN n) fun e w' => e = .returned v ∧ w.drewN n = w') : Calls P f args (w.drewN n) fun e w' => e = .returned v ∧ ∃ m, w' = w.drewN m :=
  h.mono fun e w' h => ⟨h.1, n, h.2.symm⟩
/-- Both framers. -/
structure Pl (w : World) (g1 g2 : Nat) (sf sr : FrS) (v : Value) (w' : World) : Prop where
  f : FrAt w' g1 sf.1 sf.2.1 sf.2.2 (g2 :: blk v)
  r : RefAt w' g2 sr v
  ne : g1 ≠ g2 ∧ g1 ∉ blk v ∧ w.heap.size ≤ g1 ∧ w.heap.size ≤ g2
  new : ∀ i, i ∈ blk v → w.heap.size ≤ i
  below : Below w.heap.size w w'
theorem Pl.stepF {w : World} {g1 g2 : Nat} {sf sf' sr : FrS} {v : Value} {w1 w2 : World} (h : Pl w g1 g2 sf sr v w1) (hk : Keeps [g1] w1 w2) (hf : FrAt w2 g1 sf'.1 sf'.2.1 sf'.2.2 (g2 :: blk v)) : Pl w g1 g2 sf' sr v w2 :=
  ⟨hf, h.r.keeps hk (by simp; exact fun e => h.ne.1 e.symm) (fun i hi => by simp; rintro rfl; exact h.ne.2.1 hi), h.ne, h.new, h.below.trans (hk.toBelow h.below.size (by simpa using h.ne.2.2.1))⟩
theorem Pl.stepR {w : World} {g1 g2 : Nat} {sf sr sr' : FrS} {v v' : Value} {w1 w2 : World} (h : Pl w g1 g2 sf sr v w1) (hk : Keeps (g2 :: blk v) w1 w2) (hr : RefAt w2 g2 sr' v') (hn : ∀ i, i ∈ blk v' → i ∈ blk v ∨ w1.heap.size ≤ i) : Pl w g1 g2 sf sr' v' w2 := by
  obtain ⟨n1, n2, n3, n4⟩ := h.ne
  have hs := h.below.size
  have hlt := h.f.lt
  refine ⟨h.f.after hk ?_ (fun k hk' => ?_) (fun k hk' => ?_), hr, ⟨n1, ?_, n3, n4⟩, fun i hi => ?_, h.below.trans (hk.toBelow hs (fun k hk' => ?_))⟩
  · intro hm
    rcases List.mem_cons.1 hm with e | hm
    · exact n1 e
    · exact n2 hm
  · rcases List.mem_cons.1 hk' with rfl | hk'
    · exact .inl (by simp)
    · rcases hn k hk' with h9 | h9
      · exact .inl (by simp [h9])
      · exact .inr h9
  · rcases List.mem_cons.1 hk' with rfl | hk'
    · exact hr.lt
    · exact blk_lt hr.own hk'
  · intro hm
    rcases hn g1 hm with h9 | h9
    · exact n2 h9
    · omega
  · rcases hn i hi with h9 | h9
    · exact h.new i h9
    · omega
  · rcases List.mem_cons.1 hk' with rfl | hk'
    · exact n4
    · exact h.new k hk'
theorem Pl.fresh {w : World} {g1 g2 : Nat} {sf sr : FrS} {v : Value} {w1 w2 : World} (h : Pl w g1 g2 sf sr v w1) (hb : Below w1.heap.size w1 w2) : Pl w g1 g2 sf sr v w2 := h.stepF (Keeps.below hb) (h.f.below hb)

set_option maxRecDepth 100000 in
set_option maxHeartbeats 8000000 in
theorem FramerPlays_w (va vb : Value) (l : List ByteArray) (tk : List UInt8) (w : World) (hE : EnvF w) (ha : Ts w va l) (hb : Bs w vb tk) (htot : tot l ≤ 1048576) :
    Calls Tryd.prog 9 #[va, vb] w fun e w' => e = .returned (.bool true) ∧ Below w.heap.size w w' := by
  have HE := hd hE; clear hE
  have HA := hd ha; have HB := hd hb; have HT := hd htot; clear htot
  have hl1 : l.length ≤ 9223372036854775807 := by
    have := Rd.len ha
    unfold maxLen at this
    omega
  have hl2 : tk.length ≤ 9223372036854775807 := by
    have := Rd.len hb
    unfold maxLen at this
    omega
  obtain ⟨a, c, rfl⟩ := ha.slice
  obtain ⟨b, d, rfl⟩ := hb.slice
  clear ha hb
  go_enter Tryd.func9, Tryd.ntmps9
  go_wp2_with fail
  refine (frNew_c _).mono ?_
  rintro e w1 ⟨rfl, hf1, hb1⟩
  obtain ⟨g1, hg1⟩ : ∃ g, g = w.heap.size := ⟨_, rfl⟩
  have hw1 : w.heap.size ≤ g1 := by omega
  rw [← hg1] at hf1
  rw [← hg1]
  clear hg1
  have hg1l := hf1.lt
  have hb2 : Below w.heap.size w (w1.alloc (.cells #[.slice none 0 0, .int .i64 0, .int .i64 0] 68)) := hb1.alloc hb1.size _
  have P0 : Pl w g1 w1.heap.size ([], 0, 0) ([], 0, 0) (.slice none 0 0) (w1.alloc (.cells #[.slice none 0 0, .int .i64 0, .int .i64 0] 68)) :=
    ⟨hf1.after (S := []) ((Keeps.refl _ _).alloc _) (by simp) (fun k hk => by right; simp [blk, Value.ownBlock] at hk; omega) (fun k hk => by simp [blk, Value.ownBlock] at hk; simp; omega),
      ⟨Owned.nil _ _, by simp [blk, Value.ownBlock], by simp [go_sem], by simp [go_sem], by simp [go_sem], fun o => by simp [go_sem], by simp⟩, ⟨by omega, by simp [blk, Value.ownBlock], hw1, hb1.size⟩, fun i hi => by simp [blk, Value.ownBlock] at hi, hb2⟩
  have HP0 := hd P0; clear P0 hf1 hb1 hb2
  go_wp2_with fail
  generalize (w1.alloc (.cells #[.slice none 0 0, .int .i64 0, .int .i64 0] 68)) = w2 at *
  generalize w1.heap.size = g2 at *
  go_loopw [7] (fun i w' => ∃ (k : Nat) (s : FrS) (v : Value), i = .int .i64 k ∧ k ≤ l.length ∧ k ≤ 40 ∧ Pl w g1 g2 s s v w' ∧ s.1.length ≤ tot (l.take k) ∧ 0 ≤ s.2.1 ∧ s.2.1 ≤ 3 * k) (fun i _ => leftN l.length i)
  case atStart => exact ⟨0, ([], 0, 0), .slice none 0 0, rfl, by omega, by omega, HP0.out, by simp, by simp, by simp⟩
  case round =>
    obtain ⟨k, s, v, rfl, hk, hk40, P, hsl, ht0, ht1⟩ := hrel
    clear HP0
    have HP := hd P; have HSL := hd hsl; have HT1 := hd (And.intro ht0 ht1)
    clear P hsl ht0 ht1
    by_cases hk1 : k < l.length
    · by_cases hk2 : k < tk.length
      · by_cases hk3 : k < 40
        · obtain ⟨B, hBk⟩ : ∃ s, l[k]? = some s := ⟨_, List.getElem?_eq_getElem hk1⟩
          obtain ⟨ba, oa, ca, hva, hbla, hcA⟩ := HA.out.at hBk
          cases hva
          obtain ⟨bb, ob, rfl, hblb, hcB⟩ : ∃ bb ob, b = some ⟨bb, ob, none⟩ ∧ bb < w.heap.size ∧ w.cell? ⟨bb, ob + k, none⟩ = some (.int .u8 (bN tk k)) := by
            rcases HB.out.split with ⟨hn, _⟩ | ⟨_, b, o, c', hv, h1, h2, h3, hcell⟩
            · rw [hn] at hk2; simp at hk2
            · simp only [Value.slice.injEq] at hv
              exact ⟨b, o, hv.1, h3, hcell k hk2⟩
          have hx := bN_lt tk k
          have htt := tot_take hBk
          have htl := tot_le l (k + 1)
          have hbw := HP.out.below
          have hcA1 := (bcell hbw _ _ hbla).trans hcA
          have HTT := hd htt; have HTL := hd htl
          clear htt htl hbw
          go_wp2_with fail
          have hlenB : s.1.length + B.size ≤ 1048576 := by have := HSL.out; have := HTT.out; have := HTL.out; have := HT.out; omega
          have HLB := hd hlenB; clear hlenB
          refine (feed_c g1 s.1 s.2.1 s.2.2 B _ HP.out.f (by have := HLB.out; omega)).mono ?_
          rintro e w3 ⟨rfl, hf3, hk3'⟩
          have P3 : Pl w g1 g2 (feedR s (sB B)) s v w3 := HP.out.stepF hk3' hf3
          have hcA3 := (bcell P3.below _ _ hbla).trans hcA
          have HP3 := hd P3
          clear hf3 hk3' P3 HP hcA1
          go_wp2_with fail
          refine (refFeed_c g2 s v B _ HP3.out.r (by have := HLB.out; omega)).mono ?_
          rintro e w4 ⟨rfl, v4, hr4, hk4, hn4⟩
          have P4 : Pl w g1 g2 (feedR s (sB B)) (feedR s (sB B)) v4 w4 := HP3.out.stepR hk4 hr4 hn4
          have hs4 : (feedR s (sB B)).1.length ≤ tot (l.take (k + 1)) := by
            have h1 := HSL.out; have h2 := HTT.out
            have h3 := sB_len B
            unfold feedR
            simp only
            split
            · simp; omega
            · omega
          have ht4 : 0 ≤ (feedR s (sB B)).2.1 ∧ (feedR s (sB B)).2.1 ≤ 3 * k := HT1.out
          have hlt : tot (l.take (k + 1)) ≤ 1048576 := by have := HTL.out; have := HT.out; omega
          have HP4 := hd P4; have HS4 := hd hs4; have HT4 := hd ht4; have HLT := hd hlt
          clear hr4 hk4 hn4 P4 hs4 ht4 hlt HP3 HLB HTT HTL hcA3
          generalize feedR s (sB B) = s4 at *
          go_wp2_with fail
          go_loopw [8] (fun j w' => ∃ (q : Nat) (s' : FrS) (v' : Value), j = .int .i64 q ∧ q ≤ bN tk k % 4 ∧ Pl w g1 g2 s' s' v' w' ∧ s'.1.length ≤ tot (l.take (k + 1)) ∧ 0 ≤ s'.2.1 ∧ s'.2.1 ≤ 3 * k + q) (fun j _ => leftN 3 j)
          case atStart => exact ⟨0, s4, v4, rfl, by omega, HP4.out, HS4.out, HT4.out.1, by have := HT4.out.2; push_cast; omega⟩
          case round =>
            obtain ⟨q, s', v', rfl, hq, P, hsl, ht0, ht1⟩ := hrel
            clear HP4 HS4 HT4
            have hcB1 := (bcell P.below _ _ hblb).trans hcB
            obtain ⟨va', vc', rfl⟩ := P.r.own.bs.slice
            have HQ := hd P
            clear P
            by_cases hqq : q < bN tk k % 4
            · have hrg := frNext_rng s'
              have hlt := HLT.out
              have HR := hd (fun (W : World) (hr : RefAt W g2 s' (.slice va' s'.1.length vc')) => refNext_c g2 s' (.slice va' s'.1.length vc') W hr (by omega) (by omega))
              have hN := fun (W : World) (hE : EnvF W) (hf : FrAt W g1 s'.1 s'.2.1 s'.2.2 (g2 :: blk (.slice va' s'.1.length vc'))) => next_c g1 s' W hE hf (by omega) (by omega)
              have HN := hd hN
              generalize frNext s' = N at *
              obtain ⟨⟨⟨⟨K, F, L⟩, Bd⟩, ok, e0⟩, s5⟩ := N
              have hb5 : s5.1.length ≤ tot (l.take (k + 1)) := Nat.le_trans hrg.1 hsl
              have hb6 : 0 ≤ s5.2.1 := by have := hrg.2.1; simp only at this; omega
              have hb7 : s5.2.1 ≤ 3 * k + (q + 1) := by have := hrg.2.2; simp only at this; omega
              have H5 := hd hb5; have H6 := hd hb6; have H7 := hd hb7
              clear hN hrg hb5 hb6 hb7 hlt ht0 ht1 hsl
              have hqm : (q : Int) < (bN tk k : Int) % 4 := by omega
              go_wp2_with fail
              refine (HN.out _ (HE.out.below HQ.out.below) HQ.out.f).mono ?_
              simp only [GivesNext, pkV]
              rintro e w5 ⟨rfl, hf5, hk5⟩
              have P5 := HQ.out.stepF (sf' := s5) hk5 hf5
              have P5' := P5.fresh ((Below.refl _ _).alloc (Nat.le_refl _) (.cells #[.int .i64 K, .int .i64 F, .int .i64 L, .string (sOf Bd)] 54))
              have hg5 : g2 < w5.heap.size := P5.r.lt
              have HP5 := hd P5'
              clear hf5 hk5 P5 P5' HQ HN hcB1
              go_wp2_with fail
              refine (HR.out _ HP5.out.r).mono ?_
              simp only [GivesRNext, pkV]
              rintro e w6 ⟨rfl, v6, hr6, hk6, hn6⟩
              have P6 := HP5.out.stepR (hk6.mono (fun i hi => by simp at hi; simp [hi])) hr6 hn6
              have x0 : w6.cell? ⟨w5.heap.size, 0, none⟩ = some (.int .i64 K) := (hk6.cell (b := w5.heap.size) (o := 0) (by simp) (by simp; omega)).trans (World.cell?_alloc_new w5 _ _ 0)
              have x1 : w6.cell? ⟨w5.heap.size, 1, none⟩ = some (.int .i64 F) := (hk6.cell (b := w5.heap.size) (o := 1) (by simp) (by simp; omega)).trans (World.cell?_alloc_new w5 _ _ 1)
              have x2 : w6.cell? ⟨w5.heap.size, 2, none⟩ = some (.int .i64 L) := (hk6.cell (b := w5.heap.size) (o := 2) (by simp) (by simp; omega)).trans (World.cell?_alloc_new w5 _ _ 2)
              have x3 : w6.cell? ⟨w5.heap.size, 3, none⟩ = some (.string (sOf Bd)) := (hk6.cell (b := w5.heap.size) (o := 3) (by simp) (by simp; omega)).trans (World.cell?_alloc_new w5 _ _ 3)
              have hl6 : w5.heap.size < w6.heap.size := by have := hk6.size; simp at this; omega
              have HP6 := hd P6
              clear hr6 hk6 hn6 P6 HP5 HR
              go_wp2_with fail
              go_roundw
              case rel =>
                exact ⟨q + 1, s5, v6, by congr 1, by omega, HP6.out.fresh ((Below.refl _ _).alloc (Nat.le_refl _) _), H5.out, H6.out, by have := H7.out; push_cast; omega⟩
              case measure => simp [leftN]; omega
            · have hqe : q = bN tk k % 4 := by omega
              have hqm : ¬ (q : Int) < (bN tk k : Int) % 4 := by omega
              have HS := hd (And.intro hsl (And.intro ht0 ht1))
              have c0 := HQ.out.r.c0; have c1 := HQ.out.r.c1; have c2 := HQ.out.r.c2
              have hg2l := HQ.out.r.lt
              clear hsl ht0 ht1 hqe
              go_wp2_with fail
              go_quiet (first
                | (go_at_call 28; exact quiet_leftF (waits_c g1 _ _ _ _ (HQ.out.f.below (below_dn (Below.refl _ _) _))))
                | (go_at_call 32; exact quiet_leftF (taken_c g1 _ _ _ _ (HQ.out.f.below (below_dn (Below.refl _ _) _))))
                | (go_at_call 29; exact quiet_leftF (dead_c g1 _ _ _ _ (HQ.out.f.below (below_dn (Below.refl _ _) _)))))
              go_wp2_with fail
              go_roundw
              case rel =>
                obtain ⟨e1, e2, e3⟩ := HS.out
                exact ⟨k + 1, s', _, by congr 1, by omega, by omega, HQ.out.fresh (below_dn (Below.refl _ _) _), e1, e2, by push_cast; omega⟩
              case measure => simp [leftN]; omega
        · go_wp2_with fail
          refine (awake12_c _ (HE.out.below HP.out.below)).mono ?_
          rintro e w9 ⟨rfl, hb9⟩
          have hbw := Below.up HP.out.below hb9
          go_wp2_with fail
          go_ret
          exact ⟨rfl, by go_grown⟩
      · go_wp2_with fail
        refine (awake12_c _ (HE.out.below HP.out.below)).mono ?_
        rintro e w9 ⟨rfl, hb9⟩
        have hbw := Below.up HP.out.below hb9
        go_wp2_with fail
        go_ret
        exact ⟨rfl, by go_grown⟩
    · go_wp2_with fail
      refine (awake12_c _ (HE.out.below HP.out.below)).mono ?_
      rintro e w9 ⟨rfl, hb9⟩
      have hbw := Below.up HP.out.below hb9
      go_wp2_with fail
      go_ret
      exact ⟨rfl, by go_grown⟩
end Go.Proofs.YtgafhnomkeiakaaDoor
