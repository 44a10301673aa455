/- A bundle of texts (merged for the limit on files): Bir13. -/
import Derived.Test.YtclicjokgfiegaaGreatDoorZb2
import Derived.Test.YtclicjokgfiegaaGreatDoorZa15
/- Births: any births that come and go, any filters: the law. -/
namespace Go.Proofs.YtclicjokgfiegaaGreatDoor
open Go.RowKit
set_option linter.unusedVariables false
set_option linter.unusedSimpArgs false

/-- The births, and the document's beside them. -/
structure PlI (w : World) (gb gr : Nat) (l : List Bir) (R : List BTold) (v vr : Value) (w' : World) : Prop where
  b : BsAt w' gb v l
  r : RfAt w' gr vr R
  ne : gb ≠ gr
  a1 : gr ∉ blk v
  a2 : gb ∉ blk vr
  a3 : ∀ k, k ∈ blk vr → k ∉ blk v
  gb' : w.heap.size ≤ gb
  gr' : w.heap.size ≤ gr
  nb : ∀ k, k ∈ blk v → w.heap.size ≤ k
  nr : ∀ k, k ∈ blk vr → w.heap.size ≤ k
  below : Below w.heap.size w w'
theorem PlI.stepB {w w1 w2 : World} {gb gr : Nat} {l l' : List Bir} {R : List BTold} {v vr v' : Value} (h : PlI w gb gr l R v vr w1) (k : Bd w1 gb v v' l' w2) : PlI w gb gr l' R v' vr w2 := by
  have hs := h.below.size
  have hlt : ∀ i, i ∈ blk vr → i < w1.heap.size := fun i hi => (h.r.own.lt i (by simpa [blk] using hi)).2
  refine ⟨k.at', h.r.keeps k.keeps ?_ ?_, h.ne, fun hm => ?_, h.a2, fun i hi hm => ?_, h.gb', h.gr', fun i hi => ?_, h.nr, h.below.trans (k.keeps.toBelow hs ?_)⟩
  · intro hm
    rcases List.mem_cons.1 hm with e | hm
    · exact h.ne e.symm
    · exact h.a1 hm
  · intro i hi hm
    rcases List.mem_cons.1 hm with e | hm
    · exact h.a2 (e ▸ hi)
    · exact h.a3 i hi hm
  · rcases k.new gr hm with h1 | h1
    · exact h.a1 h1
    · have := h.r.lt; omega
  · rcases k.new i hm with h1 | h1
    · exact h.a3 i hi h1
    · have := hlt i hi; omega
  · rcases k.new i hi with h1 | h1
    · exact h.nb i h1
    · omega
  · intro i hi
    rcases List.mem_cons.1 hi with rfl | hi
    · exact h.gb'
    · exact h.nb i hi
theorem PlI.stepR {w w1 w2 : World} {gb gr : Nat} {l : List Bir} {R R' : List BTold} {v vr vr' : Value} (h : PlI w gb gr l R v vr w1) (k : Rf w1 gr vr vr' R' w2) : PlI w gb gr l R' v vr' w2 := by
  have hs := h.below.size
  have hlt : ∀ i, i ∈ blk v → i < w1.heap.size := fun i hi => h.b.own.lt hi
  have hblt := h.b.lt
  refine ⟨h.b.keeps k.keeps (by simpa using h.ne) (fun i hi hm => by simp at hm; exact h.a1 (hm ▸ hi)), k.at', h.ne, h.a1, fun hm => ?_, fun i hi hm => ?_, h.gb', h.gr', h.nb, fun i hi => ?_, h.below.trans (k.keeps.toBelow hs (by intro i hi; simp at hi; subst hi; exact h.gr'))⟩
  · rcases k.new gb hm with h1 | h1
    · exact h.a2 h1
    · omega
  · rcases k.new i hi with h1 | h1
    · exact h.a3 i h1 hm
    · have := hlt i hm; omega
  · rcases k.new i hi with h1 | h1
    · exact h.nr i h1
    · omega
theorem PlI.on {w w1 w2 : World} {gb gr : Nat} {l : List Bir} {R : List BTold} {v vr : Value} (h : PlI w gb gr l R v vr w1) (hb : Below w1.heap.size w1 w2) : PlI w gb gr l R v vr w2 :=
  ⟨h.b.below hb, h.r.below hb, h.ne, h.a1, h.a2, h.a3, h.gb', h.gr', h.nb, h.nr, h.below.trans (hb.mono h.below.size)⟩

theorem told_short {l : List Bir} (h : Good l) : ∀ y ∈ l.map bTold, y.1.length ≤ 100000000 := fun y hy => by
  obtain ⟨x, hx, rfl⟩ := List.mem_map.1 hy
  have := rank_len (h.2 x hx)
  show (bTopic x.1).length ≤ _
  omega
def actZ : Array Value := #[.int .i64 0, .string ⟨#[]⟩, .string ⟨#[]⟩]
set_option maxRecDepth 100000 in
set_option maxHeartbeats 16000000 in
theorem BirthsPlays_s (va vf : Value) (acts : List BAct) (fl : List BFlt) (w : World) (hE : EnvU w) (hW : EnvW w) (hva : Acts w va acts) (hac : ∀ a ∈ acts, a.2.1.length ≤ 1048576) (hvf : Flts w vf fl) (hfl : ∀ f ∈ fl, f.1.length ≤ 1048576) :
    Calls Tryz.prog 3 #[va, vf] w fun e w' => e = .returned (.bool true) ∧ Below w.heap.size w w' := by
  obtain ⟨a, ca, rfl⟩ := hva.slice
  obtain ⟨fa, fc, rfl⟩ := hvf.slice
  have hm := hva.len
  have hmf := hvf.len
  unfold maxLen at hm hmf
  have HE := hd hE; have HW := hd hW; have HVA := hd hva; have HAC := hd hac; have HVF := hd hvf; have HFL := hd hfl
  clear hE hW hva hac hvf hfl
  go_enter Tryz.func3, Tryz.ntmps3
  go_wp2_with fail
  refine (bNew_c _).mono ?_
  rintro e w3 ⟨rfl, hat, hb3⟩
  obtain ⟨gb, hgb⟩ : ∃ gb, w.heap.size = gb := ⟨_, rfl⟩
  rw [hgb] at hat ⊢
  have hgl := hat.lt
  have hb4 : Below w3.heap.size w3 (w3.alloc (.cells #[.slice none 0 0] 29)) := (Below.refl _ _).alloc (Nat.le_refl _) _
  have I0 : PlI w gb w3.heap.size [] [] (.slice none 0 0) (.slice none 0 0) (w3.alloc (.cells #[.slice none 0 0] 29)) :=
    ⟨hat.below hb4, ⟨by simp [go_sem], by simp [go_sem], OwnT.nil _ _, by simp [blk, Value.ownBlock], by simp [go_sem]⟩, by omega, by simp [blk, Value.ownBlock], by simp [blk, Value.ownBlock], by simp [blk, Value.ownBlock], by omega, hb3.size, by simp [blk, Value.ownBlock], by simp [blk, Value.ownBlock], hb3.trans (hb4.mono hb3.size)⟩
  have G0 : Good [] := ⟨List.Pairwise.nil, by simp⟩
  have HI0 := hd I0
  clear hat hb3 hb4 I0
  go_wp2_with fail
  generalize (w3.alloc (.cells #[.slice none 0 0] 29)) = w4 at *
  generalize w3.heap.size = gr at *
  go_loopw [7] (fun i w' => ∃ (j : Nat) (l : List Bir) (v vr : Value), i = .int .i64 j ∧ j ≤ 60 ∧ j ≤ acts.length ∧ PlI w gb gr l (l.map bTold) v vr w' ∧ Good l ∧ l.length ≤ j) (fun i _ => leftB 60 i)
  case atStart => exact ⟨0, [], _, _, rfl, by omega, by omega, HI0.out, G0, by simp⟩
  case round =>
    obtain ⟨j, l, v, vr, rfl, hj, hja, I, hgd, hll⟩ := hrel
    clear HI0 G0
    have HI := hd I; have HG := hd hgd
    obtain ⟨vra, vrc, rfl⟩ := I.r.own.slice
    have hbw := I.below
    clear I hgd
    by_cases hgo : j < acts.length ∧ j < 60
    · obtain ⟨hj1, hj2⟩ := hgo
      obtain ⟨x, hx⟩ : ∃ x, acts[j]? = some x := ⟨_, List.getElem?_eq_getElem hj1⟩
      obtain ⟨b, o, rfl, hbl, x0, x1, x2⟩ := HVA.out.at hx
      have hxt := HAC.out x (List.mem_of_getElem? hx)
      replace x0 := (bcell hbw _ _ hbl).trans x0
      replace x1 := (bcell hbw _ _ hbl).trans x1
      replace x2 := (bcell hbw _ _ hbl).trans x2
      obtain ⟨ak, at', au⟩ := x
      simp only at x0 x1 x2 hxt
      have hj3 : (j : Int) < 60 := by omega
      have hbs := hbw.size
      obtain ⟨w8, hw8⟩ : ∃ w8, wr.alloc (.cells #[.int .i64 ak, .string (sOf at'), .string au] 31) = w8 := ⟨_, rfl⟩
      have y0 : w8.cell? ⟨wr.heap.size, 0, none⟩ = some (.int .i64 ak) := by rw [← hw8]; simp [go_sem]
      have y1 : w8.cell? ⟨wr.heap.size, 1, none⟩ = some (.string (sOf at')) := by rw [← hw8]; simp [go_sem]
      have y2 : w8.cell? ⟨wr.heap.size, 2, none⟩ = some (.string au) := by rw [← hw8]; simp [go_sem]
      have hb8 : Below wr.heap.size wr w8 := by rw [← hw8]; go_grown
      have hz8 : w8.heap.size = wr.heap.size + 1 := by rw [← hw8]; simp [go_sem]
      have HI8 := hd (HI.out.on hb8)
      have HB8 := hd (hbw.trans (hb8.mono hbs))
      have hgbl := HI.out.b.lt; have hgrl := HI.out.r.lt
      have hvl : ∀ k, k ∈ blk v → k < wr.heap.size := fun k hk => HI.out.b.own.lt hk
      clear HI hx hbw
      obtain ⟨ab, hab⟩ : ∃ ab, wr.heap.size = ab := ⟨_, rfl⟩
      rw [hab] at y0 y1 y2
      have hres := fun (W : World) (h : Below w.heap.size w W) => HE.out.below h
      have HRES := hd hres
      clear hres
      by_cases k0 : ak = 0
      · have kb0 : (ak == 0) = true := by simpa using k0
        clear k0
        go_wp2_with fail
        have D8 : w8.drew.cell? ⟨ab, 1, none⟩ = some (.string (sOf at')) ∧ w8.drew.cell? ⟨ab, 2, none⟩ = some (.string au) := ⟨y1, y2⟩
        have I8 := hd (HI8.out.on ((Below.refl w8.heap.size w8).drew))
        have zd8 : w8.drew.heap.size = w8.heap.size := rfl
        refine wp_region_M (fun W => W.cell? ⟨ab, 1, none⟩ = some (.string (sOf at')) ∧ W.cell? ⟨ab, 2, none⟩ = some (.string au)) 13 [(0, false), (1, false), (2, false), (3, false), (4, false), (6, false), (7, false), (8, false), (9, false), (10, false), (5, true), (11, true), (12, false), (13, true)] (by kernel_rfl) (by kernel_rfl) (fun _ _ _ _ h => h) D8 ?_
        clear HI8 y0 y1 y2 hw8 hb8
        generalize w8.drew = w9 at *
        apply wpM_still (by rfl) (by rfl)
        · intro W hC
          obtain ⟨g1, g2⟩ := hC
          go_simp
          rfl
        go_simp
        apply wpM_still (by rfl) (by rfl)
        · intro W hC
          obtain ⟨g1, g2⟩ := hC
          go_simp
          rfl
        go_simp
        apply wpM_still (by rfl) (by rfl)
        · intro W hC
          obtain ⟨g1, g2⟩ := hC
          go_simp
          rfl
        go_simp
        apply wpM_still (by rfl) (by rfl)
        · intro W hC
          obtain ⟨g1, g2⟩ := hC
          go_simp
          rfl
        go_simp
        apply wpM_still (by rfl) (by rfl)
        · intro W hC
          obtain ⟨g1, g2⟩ := hC
          go_simp
          rfl
        go_simp
        apply wpM_still (by rfl) (by rfl)
        · intro W hC
          obtain ⟨g1, g2⟩ := hC
          go_simp
          rfl
        go_simp
        apply wpM_still (by rfl) (by rfl)
        · intro W hC
          obtain ⟨g1, g2⟩ := hC
          go_simp
          rfl
        go_simp
        apply wpM_still (by rfl) (by rfl)
        · intro W hC
          obtain ⟨g1, g2⟩ := hC
          go_simp
          rfl
        go_simp
        apply wpM_still (by rfl) (by rfl)
        · intro W hC
          obtain ⟨g1, g2⟩ := hC
          go_simp
          rfl
        go_simp
        apply wpM_still (by rfl) (by rfl)
        · intro W hC
          obtain ⟨g1, g2⟩ := hC
          go_simp
          rfl
        go_simp
        apply wpM_move (by rfl) (by rfl)
        intro K hK
        go_simp
        refine (bPut_c gb v l at' au w9 (HE.out.below I8.out.below) (HW.out.below I8.out.below (Nat.le_refl _)) (by omega) I8.out.b HG.out.1 (by omega)).mono ?_
        rintro e w5 ⟨rfl, v5, hbd⟩
        go_simp
        have I5 := hd (I8.out.stepB hbd)
        have hnab : ab ∉ gb :: blk v := by
          intro hm
          rcases List.mem_cons.1 hm with e | hm
          · omega
          · have := hvl _ hm; omega
        have E1 := (hbd.keeps.cell (b := ab) (o := 1) (by omega) hnab).trans D8.1
        have E2 := (hbd.keeps.cell (b := ab) (o := 2) (by omega) hnab).trans D8.2
        have z5 := hbd.keeps.size
        refine hK _ _ (fun _ => ⟨E1, E2⟩) ?_
        clear hK K hbd
        apply wpM_move (by rfl) (by rfl)
        intro K hK
        go_simp
        refine (refPut36_c gr _ _ at' au w5 I5.out.r (by omega) (told_short HG.out) (by rw [List.length_map]; omega)).mono ?_
        rw [rPut_eq HG.out at' au]
        rintro e w6 ⟨rfl, v6, hrf⟩
        go_simp
        have I9 := hd (I5.out.stepR hrf)
        have G9 := hd (putL_good HG.out at' au)
        have hpl := putL_len l at' au
        have hng : ab ∉ [gr] := by simp; omega
        have F1 := (hrf.keeps.cell (b := ab) (o := 1) (by omega) hng).trans E1
        have F2 := (hrf.keeps.cell (b := ab) (o := 2) (by omega) hng).trans E2
        have z6 := hrf.keeps.size
        refine hK _ _ (fun _ => ⟨F1, F2⟩) ?_
        clear hK K hrf I5 I8
        have y1 := F1
        generalize bPutE l at' = pe at *
        apply wpM_still (by rfl) (by rfl)
        · intro W hC
          skip
          go_simp
          rfl
        go_simp
        apply wpM_move (by rfl) (by rfl)
        intro K hK
        go_simp
        refine hK _ _ (fun h => absurd h (by decide)) ?_
        clear hK K
        refine wpM_nil ?_
        go_wp2_with fail
        obtain ⟨vsa, vsc, rfl⟩ := I9.out.r.own.slice
        obtain ⟨L9, hL9⟩ : ∃ L9, bPutL l at' au = L9 := ⟨_, rfl⟩
        have hL : L9.length ≤ j + 1 := by rw [← hL9]; omega
        obtain ⟨R9, hR9⟩ : ∃ R9, L9.map bTold = R9 := ⟨_, rfl⟩
        rw [hL9, hR9] at I9
        rw [hL9] at G9
        have hRl : R9.length = L9.length := by rw [← hR9, List.length_map]
        have hne : ((L9.length : Int) != (R9.length : Int)) = false := by rw [hRl]; simp
        have hR61 : R9.length ≤ 61 := by omega
        have HRE := hd hR9
        obtain ⟨ro, hro⟩ : ∃ ro, (bRank at').bind (bGet L9) = ro := ⟨_, rfl⟩
        have hgp := rGetP_eq G9.out at'
        rw [hro, hR9] at hgp
        clear hL9 hR9 hRl
        refine (bGet_c gb _ L9 at' _ (HE.out.below I9.out.below) (HW.out.below I9.out.below (Nat.le_refl _)) (by omega) I9.out.b G9.out.1 (by omega)).mono ?_
        rw [hro]
        rintro e w10 ⟨rfl, b10⟩
        have I10 := hd (I9.out.on b10)
        replace y1 := (bcell b10 _ _ (by omega)).trans y1
        have z10 := b10.size
        clear I9
        go_wp2_with fail
        refine (refGet36_c gr _ _ at' _ I10.out.r (by omega)).mono ?_
        rw [hgp]
        rintro e w11 ⟨rfl, b11⟩
        have I11 := hd (I10.out.on b11)
        clear I10 hgp hro
        generalize ro.getD ⟨#[]⟩ = so at *
        generalize ro.isSome = bo at *
        have D0 : w11.drew.cell? ⟨gr, 0, none⟩ = some (.slice vsa R9.length vsc) := I11.out.r.c0
        have ID := hd (I11.out.on ((Below.refl w11.heap.size w11).drew))
        go_wp2_with fail
        refine wp_region_M (fun W => W.cell? ⟨gr, 0, none⟩ = some (.slice vsa R9.length vsc)) 31 [(0, false), (1, false), (2, false), (3, false), (4, false), (5, false), (6, false), (7, false), (8, false), (9, false), (10, false), (11, false), (12, false), (13, false), (15, false), (16, false), (17, false), (18, false), (14, true), (19, true), (20, false), (21, false), (22, false), (23, false), (25, false), (26, false), (27, false), (28, false), (29, false), (24, true), (30, false), (31, true)] (by kernel_rfl) (by kernel_rfl) (fun _ _ _ _ h => h) D0 ?_
        generalize w11.drew = w12 at *
        clear I11
        apply wpM_still (by rfl) (by rfl)
        · intro W hC
          skip
          go_simp
          rfl
        go_simp
        apply wpM_still (by rfl) (by rfl)
        · intro W hC
          skip
          go_simp
          rfl
        go_simp
        apply wpM_still (by rfl) (by rfl)
        · intro W hC
          skip
          go_simp
          rfl
        go_simp
        apply wpM_still (by rfl) (by rfl)
        · intro W hC
          skip
          go_simp
          rfl
        go_simp
        apply wpM_still (by rfl) (by rfl)
        · intro W hC
          skip
          go_simp
          rfl
        go_simp
        apply wpM_still (by rfl) (by rfl)
        · intro W hC
          skip
          go_simp
          rfl
        go_simp
        apply wpM_still (by rfl) (by rfl)
        · intro W hC
          skip
          go_simp
          rfl
        go_simp
        apply wpM_still (by rfl) (by rfl)
        · intro W hC
          skip
          go_simp
          rfl
        go_simp
        apply wpM_still (by rfl) (by rfl)
        · intro W hC
          skip
          go_simp
          rfl
        go_simp
        apply wpM_still (by rfl) (by rfl)
        · intro W hC
          skip
          go_simp
          rfl
        go_simp
        apply wpM_still (by rfl) (by rfl)
        · intro W hC
          skip
          go_simp
          rfl
        go_simp
        apply wpM_still (by rfl) (by rfl)
        · intro W hC
          skip
          go_simp
          rfl
        go_simp
        apply wpM_still (by rfl) (by rfl)
        · intro W hC
          skip
          go_simp
          rfl
        go_simp
        apply wpM_still (by rfl) (by rfl)
        · intro W hC
          skip
          go_simp
          rfl
        go_simp
        apply wpM_still (by rfl) (by rfl)
        · intro W hC
          skip
          go_simp
          rfl
        go_simp
        apply wpM_still (by rfl) (by rfl)
        · intro W hC
          skip
          go_simp
          rfl
        go_simp
        apply wpM_still (by rfl) (by rfl)
        · intro W hC
          skip
          go_simp
          rfl
        go_simp
        apply wpM_still (by rfl) (by rfl)
        · intro W hC
          skip
          go_simp
          rfl
        go_simp
        apply wpM_move (by rfl) (by rfl)
        intro K hK
        go_simp
        refine (bAll_c gb _ L9 _ ID.out.b G9.out (by omega)).mono ?_
        rintro e w13 ⟨v13, rfl, o13, b13⟩
        go_simp
        rw [those_all, HRE.out] at o13
        have I13 := hd (ID.out.on b13)
        refine hK _ _ (fun _ => I13.out.r.c0) ?_
        clear hK K ID
        apply wpM_move (by rfl) (by rfl)
        intro K hK
        go_simp
        refine (same36_c _ _ R9 _ (Owns.rd o13) (Owns.rd I13.out.r.own)).mono ?_
        rintro e w14 ⟨rfl, b14⟩
        go_simp
        have I14 := hd (I13.out.on b14)
        refine hK _ _ (fun _ => I14.out.r.c0) ?_
        clear hK K I13 o13
        apply wpM_still (by rfl) (by rfl)
        · intro W hC
          skip
          go_simp
          rfl
        go_simp
        apply wpM_still (by rfl) (by rfl)
        · intro W hC
          skip
          go_simp
          rfl
        go_simp
        apply wpM_still (by rfl) (by rfl)
        · intro W hC
          skip
          go_simp
          rfl
        go_simp
        apply wpM_still (by rfl) (by rfl)
        · intro W hC
          skip
          go_simp
          rfl
        go_simp
        apply wpM_still (by rfl) (by rfl)
        · intro W hC
          skip
          go_simp
          rfl
        go_simp
        apply wpM_still (by rfl) (by rfl)
        · intro W hC
          skip
          go_simp
          rfl
        go_simp
        apply wpM_still (by rfl) (by rfl)
        · intro W hC
          skip
          go_simp
          rfl
        go_simp
        apply wpM_still (by rfl) (by rfl)
        · intro W hC
          skip
          go_simp
          rfl
        go_simp
        apply wpM_still (by rfl) (by rfl)
        · intro W hC
          skip
          go_simp
          rfl
        go_simp
        apply wpM_move (by rfl) (by rfl)
        intro K hK
        go_simp
        refine (bLen_c gb _ L9 _ I14.out.b).mono ?_
        rintro e w15 ⟨rfl, rfl⟩
        go_simp
        refine hK _ _ (fun _ => I14.out.r.c0) ?_
        clear hK K
        apply wpM_still (by rfl) (by rfl)
        · intro W hC
          skip
          go_simp
          rfl
        go_simp
        apply wpM_move (by rfl) (by rfl)
        intro K hK
        go_simp
        refine hK _ _ (fun h => absurd h (by decide)) ?_
        clear hK K
        refine wpM_nil ?_
        go_wp2_with fail
        go_roundw
        case rel => exact ⟨j + 1, L9, _, _, by congr 1, by omega, by omega, (by rw [HRE.out]; exact I14.out), G9.out, hL⟩
        case measure => simp [leftB]; omega
      have kb0 : (ak == 0) = false := by simpa using k0
      by_cases k1 : ak = 1
      · have kb1 : (ak == 1) = true := by simpa using k1
        clear k0 k1
        go_wp2_with fail
        have D8 : w8.drew.cell? ⟨ab, 1, none⟩ = some (.string (sOf at')) ∧ w8.drew.cell? ⟨ab, 2, none⟩ = some (.string au) := ⟨y1, y2⟩
        have I8 := hd (HI8.out.on ((Below.refl w8.heap.size w8).drew))
        have zd8 : w8.drew.heap.size = w8.heap.size := rfl
        refine wp_region_M (fun W => W.cell? ⟨ab, 1, none⟩ = some (.string (sOf at')) ∧ W.cell? ⟨ab, 2, none⟩ = some (.string au)) 13 [(0, false), (1, false), (2, false), (3, false), (4, false), (6, false), (7, false), (8, false), (9, false), (10, false), (5, true), (11, true), (12, false), (13, true)] (by kernel_rfl) (by kernel_rfl) (fun _ _ _ _ h => h) D8 ?_
        clear HI8 y0 y1 y2 hw8 hb8
        generalize w8.drew = w9 at *
        apply wpM_still (by rfl) (by rfl)
        · intro W hC
          obtain ⟨g1, g2⟩ := hC
          go_simp
          rfl
        go_simp
        apply wpM_still (by rfl) (by rfl)
        · intro W hC
          obtain ⟨g1, g2⟩ := hC
          go_simp
          rfl
        go_simp
        apply wpM_still (by rfl) (by rfl)
        · intro W hC
          obtain ⟨g1, g2⟩ := hC
          go_simp
          rfl
        go_simp
        apply wpM_still (by rfl) (by rfl)
        · intro W hC
          obtain ⟨g1, g2⟩ := hC
          go_simp
          rfl
        go_simp
        apply wpM_still (by rfl) (by rfl)
        · intro W hC
          obtain ⟨g1, g2⟩ := hC
          go_simp
          rfl
        go_simp
        apply wpM_still (by rfl) (by rfl)
        · intro W hC
          obtain ⟨g1, g2⟩ := hC
          go_simp
          rfl
        go_simp
        apply wpM_still (by rfl) (by rfl)
        · intro W hC
          obtain ⟨g1, g2⟩ := hC
          go_simp
          rfl
        go_simp
        apply wpM_still (by rfl) (by rfl)
        · intro W hC
          obtain ⟨g1, g2⟩ := hC
          go_simp
          rfl
        go_simp
        apply wpM_still (by rfl) (by rfl)
        · intro W hC
          obtain ⟨g1, g2⟩ := hC
          go_simp
          rfl
        go_simp
        apply wpM_still (by rfl) (by rfl)
        · intro W hC
          obtain ⟨g1, g2⟩ := hC
          go_simp
          rfl
        go_simp
        apply wpM_move (by rfl) (by rfl)
        intro K hK
        go_simp
        refine (bPut_c gb v l at' au w9 (HE.out.below I8.out.below) (HW.out.below I8.out.below (Nat.le_refl _)) (by omega) I8.out.b HG.out.1 (by omega)).mono ?_
        rintro e w5 ⟨rfl, v5, hbd⟩
        go_simp
        have I5 := hd (I8.out.stepB hbd)
        have hnab : ab ∉ gb :: blk v := by
          intro hm
          rcases List.mem_cons.1 hm with e | hm
          · omega
          · have := hvl _ hm; omega
        have E1 := (hbd.keeps.cell (b := ab) (o := 1) (by omega) hnab).trans D8.1
        have E2 := (hbd.keeps.cell (b := ab) (o := 2) (by omega) hnab).trans D8.2
        have z5 := hbd.keeps.size
        refine hK _ _ (fun _ => ⟨E1, E2⟩) ?_
        clear hK K hbd
        apply wpM_move (by rfl) (by rfl)
        intro K hK
        go_simp
        refine (refPut36_c gr _ _ at' au w5 I5.out.r (by omega) (told_short HG.out) (by rw [List.length_map]; omega)).mono ?_
        rw [rPut_eq HG.out at' au]
        rintro e w6 ⟨rfl, v6, hrf⟩
        go_simp
        have I9 := hd (I5.out.stepR hrf)
        have G9 := hd (putL_good HG.out at' au)
        have hpl := putL_len l at' au
        have hng : ab ∉ [gr] := by simp; omega
        have F1 := (hrf.keeps.cell (b := ab) (o := 1) (by omega) hng).trans E1
        have F2 := (hrf.keeps.cell (b := ab) (o := 2) (by omega) hng).trans E2
        have z6 := hrf.keeps.size
        refine hK _ _ (fun _ => ⟨F1, F2⟩) ?_
        clear hK K hrf I5 I8
        have y1 := F1
        generalize bPutE l at' = pe at *
        apply wpM_still (by rfl) (by rfl)
        · intro W hC
          skip
          go_simp
          rfl
        go_simp
        apply wpM_move (by rfl) (by rfl)
        intro K hK
        go_simp
        refine hK _ _ (fun h => absurd h (by decide)) ?_
        clear hK K
        refine wpM_nil ?_
        go_wp2_with fail
        obtain ⟨vsa, vsc, rfl⟩ := I9.out.r.own.slice
        obtain ⟨L9, hL9⟩ : ∃ L9, bPutL l at' au = L9 := ⟨_, rfl⟩
        have hL : L9.length ≤ j + 1 := by rw [← hL9]; omega
        obtain ⟨R9, hR9⟩ : ∃ R9, L9.map bTold = R9 := ⟨_, rfl⟩
        rw [hL9, hR9] at I9
        rw [hL9] at G9
        have hRl : R9.length = L9.length := by rw [← hR9, List.length_map]
        have hne : ((L9.length : Int) != (R9.length : Int)) = false := by rw [hRl]; simp
        have hR61 : R9.length ≤ 61 := by omega
        have HRE := hd hR9
        obtain ⟨ro, hro⟩ : ∃ ro, (bRank at').bind (bGet L9) = ro := ⟨_, rfl⟩
        have hgp := rGetP_eq G9.out at'
        rw [hro, hR9] at hgp
        clear hL9 hR9 hRl
        refine (bGet_c gb _ L9 at' _ (HE.out.below I9.out.below) (HW.out.below I9.out.below (Nat.le_refl _)) (by omega) I9.out.b G9.out.1 (by omega)).mono ?_
        rw [hro]
        rintro e w10 ⟨rfl, b10⟩
        have I10 := hd (I9.out.on b10)
        replace y1 := (bcell b10 _ _ (by omega)).trans y1
        have z10 := b10.size
        clear I9
        go_wp2_with fail
        refine (refGet36_c gr _ _ at' _ I10.out.r (by omega)).mono ?_
        rw [hgp]
        rintro e w11 ⟨rfl, b11⟩
        have I11 := hd (I10.out.on b11)
        clear I10 hgp hro
        generalize ro.getD ⟨#[]⟩ = so at *
        generalize ro.isSome = bo at *
        have D0 : w11.drew.cell? ⟨gr, 0, none⟩ = some (.slice vsa R9.length vsc) := I11.out.r.c0
        have ID := hd (I11.out.on ((Below.refl w11.heap.size w11).drew))
        go_wp2_with fail
        refine wp_region_M (fun W => W.cell? ⟨gr, 0, none⟩ = some (.slice vsa R9.length vsc)) 31 [(0, false), (1, false), (2, false), (3, false), (4, false), (5, false), (6, false), (7, false), (8, false), (9, false), (10, false), (11, false), (12, false), (13, false), (15, false), (16, false), (17, false), (18, false), (14, true), (19, true), (20, false), (21, false), (22, false), (23, false), (25, false), (26, false), (27, false), (28, false), (29, false), (24, true), (30, false), (31, true)] (by kernel_rfl) (by kernel_rfl) (fun _ _ _ _ h => h) D0 ?_
        generalize w11.drew = w12 at *
        clear I11
        apply wpM_still (by rfl) (by rfl)
        · intro W hC
          skip
          go_simp
          rfl
        go_simp
        apply wpM_still (by rfl) (by rfl)
        · intro W hC
          skip
          go_simp
          rfl
        go_simp
        apply wpM_still (by rfl) (by rfl)
        · intro W hC
          skip
          go_simp
          rfl
        go_simp
        apply wpM_still (by rfl) (by rfl)
        · intro W hC
          skip
          go_simp
          rfl
        go_simp
        apply wpM_still (by rfl) (by rfl)
        · intro W hC
          skip
          go_simp
          rfl
        go_simp
        apply wpM_still (by rfl) (by rfl)
        · intro W hC
          skip
          go_simp
          rfl
        go_simp
        apply wpM_still (by rfl) (by rfl)
        · intro W hC
          skip
          go_simp
          rfl
        go_simp
        apply wpM_still (by rfl) (by rfl)
        · intro W hC
          skip
          go_simp
          rfl
        go_simp
        apply wpM_still (by rfl) (by rfl)
        · intro W hC
          skip
          go_simp
          rfl
        go_simp
        apply wpM_still (by rfl) (by rfl)
        · intro W hC
          skip
          go_simp
          rfl
        go_simp
        apply wpM_still (by rfl) (by rfl)
        · intro W hC
          skip
          go_simp
          rfl
        go_simp
        apply wpM_still (by rfl) (by rfl)
        · intro W hC
          skip
          go_simp
          rfl
        go_simp
        apply wpM_still (by rfl) (by rfl)
        · intro W hC
          skip
          go_simp
          rfl
        go_simp
        apply wpM_still (by rfl) (by rfl)
        · intro W hC
          skip
          go_simp
          rfl
        go_simp
        apply wpM_still (by rfl) (by rfl)
        · intro W hC
          skip
          go_simp
          rfl
        go_simp
        apply wpM_still (by rfl) (by rfl)
        · intro W hC
          skip
          go_simp
          rfl
        go_simp
        apply wpM_still (by rfl) (by rfl)
        · intro W hC
          skip
          go_simp
          rfl
        go_simp
        apply wpM_still (by rfl) (by rfl)
        · intro W hC
          skip
          go_simp
          rfl
        go_simp
        apply wpM_move (by rfl) (by rfl)
        intro K hK
        go_simp
        refine (bAll_c gb _ L9 _ ID.out.b G9.out (by omega)).mono ?_
        rintro e w13 ⟨v13, rfl, o13, b13⟩
        go_simp
        rw [those_all, HRE.out] at o13
        have I13 := hd (ID.out.on b13)
        refine hK _ _ (fun _ => I13.out.r.c0) ?_
        clear hK K ID
        apply wpM_move (by rfl) (by rfl)
        intro K hK
        go_simp
        refine (same36_c _ _ R9 _ (Owns.rd o13) (Owns.rd I13.out.r.own)).mono ?_
        rintro e w14 ⟨rfl, b14⟩
        go_simp
        have I14 := hd (I13.out.on b14)
        refine hK _ _ (fun _ => I14.out.r.c0) ?_
        clear hK K I13 o13
        apply wpM_still (by rfl) (by rfl)
        · intro W hC
          skip
          go_simp
          rfl
        go_simp
        apply wpM_still (by rfl) (by rfl)
        · intro W hC
          skip
          go_simp
          rfl
        go_simp
        apply wpM_still (by rfl) (by rfl)
        · intro W hC
          skip
          go_simp
          rfl
        go_simp
        apply wpM_still (by rfl) (by rfl)
        · intro W hC
          skip
          go_simp
          rfl
        go_simp
        apply wpM_still (by rfl) (by rfl)
        · intro W hC
          skip
          go_simp
          rfl
        go_simp
        apply wpM_still (by rfl) (by rfl)
        · intro W hC
          skip
          go_simp
          rfl
        go_simp
        apply wpM_still (by rfl) (by rfl)
        · intro W hC
          skip
          go_simp
          rfl
        go_simp
        apply wpM_still (by rfl) (by rfl)
        · intro W hC
          skip
          go_simp
          rfl
        go_simp
        apply wpM_still (by rfl) (by rfl)
        · intro W hC
          skip
          go_simp
          rfl
        go_simp
        apply wpM_move (by rfl) (by rfl)
        intro K hK
        go_simp
        refine (bLen_c gb _ L9 _ I14.out.b).mono ?_
        rintro e w15 ⟨rfl, rfl⟩
        go_simp
        refine hK _ _ (fun _ => I14.out.r.c0) ?_
        clear hK K
        apply wpM_still (by rfl) (by rfl)
        · intro W hC
          skip
          go_simp
          rfl
        go_simp
        apply wpM_move (by rfl) (by rfl)
        intro K hK
        go_simp
        refine hK _ _ (fun h => absurd h (by decide)) ?_
        clear hK K
        refine wpM_nil ?_
        go_wp2_with fail
        go_roundw
        case rel => exact ⟨j + 1, L9, _, _, by congr 1, by omega, by omega, (by rw [HRE.out]; exact I14.out), G9.out, hL⟩
        case measure => simp [leftB]; omega
      have kb1 : (ak == 1) = false := by simpa using k1
      by_cases k2 : ak = 2
      · have kb2 : (ak == 2) = true := by simpa using k2
        clear k0 k1 k2
        go_wp2_with fail
        have D8 : w8.drew.cell? ⟨ab, 1, none⟩ = some (.string (sOf at')) := y1
        have I8 := hd (HI8.out.on ((Below.refl w8.heap.size w8).drew))
        have zd8 : w8.drew.heap.size = w8.heap.size := rfl
        refine wp_region_M (fun W => W.cell? ⟨ab, 1, none⟩ = some (.string (sOf at'))) 9 [(0, false), (1, false), (2, false), (4, false), (5, false), (6, false), (3, true), (7, true), (8, false), (9, true)] (by kernel_rfl) (by kernel_rfl) (fun _ _ _ _ h => h) D8 ?_
        clear HI8 y0 y1 y2 hw8 hb8
        generalize w8.drew = w9 at *
        apply wpM_still (by rfl) (by rfl)
        · intro W hC
          skip
          go_simp
          rfl
        go_simp
        apply wpM_still (by rfl) (by rfl)
        · intro W hC
          skip
          go_simp
          rfl
        go_simp
        apply wpM_still (by rfl) (by rfl)
        · intro W hC
          skip
          go_simp
          rfl
        go_simp
        apply wpM_still (by rfl) (by rfl)
        · intro W hC
          skip
          go_simp
          rfl
        go_simp
        apply wpM_still (by rfl) (by rfl)
        · intro W hC
          skip
          go_simp
          rfl
        go_simp
        apply wpM_still (by rfl) (by rfl)
        · intro W hC
          skip
          go_simp
          rfl
        go_simp
        apply wpM_move (by rfl) (by rfl)
        intro K hK
        go_simp
        refine (bDrop_c gb v l at' w9 (HE.out.below I8.out.below) (HW.out.below I8.out.below (Nat.le_refl _)) (by omega) I8.out.b (by omega)).mono ?_
        rintro e w5 ⟨rfl, v5, hbd⟩
        go_simp
        have I5 := hd (I8.out.stepB hbd)
        have hnab : ab ∉ gb :: blk v := by
          intro hm
          rcases List.mem_cons.1 hm with e | hm
          · omega
          · have := hvl _ hm; omega
        have E1 := (hbd.keeps.cell (b := ab) (o := 1) (by omega) hnab).trans D8
        have z5 := hbd.keeps.size
        refine hK _ _ (fun _ => E1) ?_
        clear hK K hbd
        apply wpM_move (by rfl) (by rfl)
        intro K hK
        go_simp
        refine (refDrop36_c gr _ _ at' w5 I5.out.r (by omega) (told_short HG.out) (by rw [List.length_map]; omega)).mono ?_
        rw [rDropP_eq HG.out at']
        rintro e w6 ⟨rfl, v6, hrf⟩
        go_simp
        have I9 := hd (I5.out.stepR hrf)
        have G9 := hd (dropL_good HG.out at')
        have hpl := dropL_len l at'
        have hng : ab ∉ [gr] := by simp; omega
        have F1 := (hrf.keeps.cell (b := ab) (o := 1) (by omega) hng).trans E1
        have z6 := hrf.keeps.size
        refine hK _ _ (fun _ => F1) ?_
        clear hK K hrf I5 I8
        have y1 := F1
        generalize bDropN l at' = pe at *
        apply wpM_still (by rfl) (by rfl)
        · intro W hC
          skip
          go_simp
          rfl
        go_simp
        apply wpM_move (by rfl) (by rfl)
        intro K hK
        go_simp
        refine hK _ _ (fun h => absurd h (by decide)) ?_
        clear hK K
        refine wpM_nil ?_
        go_wp2_with fail
        obtain ⟨vsa, vsc, rfl⟩ := I9.out.r.own.slice
        obtain ⟨L9, hL9⟩ : ∃ L9, bDropL l at' = L9 := ⟨_, rfl⟩
        have hL : L9.length ≤ j + 1 := by rw [← hL9]; omega
        obtain ⟨R9, hR9⟩ : ∃ R9, L9.map bTold = R9 := ⟨_, rfl⟩
        rw [hL9, hR9] at I9
        rw [hL9] at G9
        have hRl : R9.length = L9.length := by rw [← hR9, List.length_map]
        have hne : ((L9.length : Int) != (R9.length : Int)) = false := by rw [hRl]; simp
        have hR61 : R9.length ≤ 61 := by omega
        have HRE := hd hR9
        obtain ⟨ro, hro⟩ : ∃ ro, (bRank at').bind (bGet L9) = ro := ⟨_, rfl⟩
        have hgp := rGetP_eq G9.out at'
        rw [hro, hR9] at hgp
        clear hL9 hR9 hRl
        refine (bGet_c gb _ L9 at' _ (HE.out.below I9.out.below) (HW.out.below I9.out.below (Nat.le_refl _)) (by omega) I9.out.b G9.out.1 (by omega)).mono ?_
        rw [hro]
        rintro e w10 ⟨rfl, b10⟩
        have I10 := hd (I9.out.on b10)
        replace y1 := (bcell b10 _ _ (by omega)).trans y1
        have z10 := b10.size
        clear I9
        go_wp2_with fail
        refine (refGet36_c gr _ _ at' _ I10.out.r (by omega)).mono ?_
        rw [hgp]
        rintro e w11 ⟨rfl, b11⟩
        have I11 := hd (I10.out.on b11)
        clear I10 hgp hro
        generalize ro.getD ⟨#[]⟩ = so at *
        generalize ro.isSome = bo at *
        have D0 : w11.drew.cell? ⟨gr, 0, none⟩ = some (.slice vsa R9.length vsc) := I11.out.r.c0
        have ID := hd (I11.out.on ((Below.refl w11.heap.size w11).drew))
        go_wp2_with fail
        refine wp_region_M (fun W => W.cell? ⟨gr, 0, none⟩ = some (.slice vsa R9.length vsc)) 31 [(0, false), (1, false), (2, false), (3, false), (4, false), (5, false), (6, false), (7, false), (8, false), (9, false), (10, false), (11, false), (12, false), (13, false), (15, false), (16, false), (17, false), (18, false), (14, true), (19, true), (20, false), (21, false), (22, false), (23, false), (25, false), (26, false), (27, false), (28, false), (29, false), (24, true), (30, false), (31, true)] (by kernel_rfl) (by kernel_rfl) (fun _ _ _ _ h => h) D0 ?_
        generalize w11.drew = w12 at *
        clear I11
        apply wpM_still (by rfl) (by rfl)
        · intro W hC
          skip
          go_simp
          rfl
        go_simp
        apply wpM_still (by rfl) (by rfl)
        · intro W hC
          skip
          go_simp
          rfl
        go_simp
        apply wpM_still (by rfl) (by rfl)
        · intro W hC
          skip
          go_simp
          rfl
        go_simp
        apply wpM_still (by rfl) (by rfl)
        · intro W hC
          skip
          go_simp
          rfl
        go_simp
        apply wpM_still (by rfl) (by rfl)
        · intro W hC
          skip
          go_simp
          rfl
        go_simp
        apply wpM_still (by rfl) (by rfl)
        · intro W hC
          skip
          go_simp
          rfl
        go_simp
        apply wpM_still (by rfl) (by rfl)
        · intro W hC
          skip
          go_simp
          rfl
        go_simp
        apply wpM_still (by rfl) (by rfl)
        · intro W hC
          skip
          go_simp
          rfl
        go_simp
        apply wpM_still (by rfl) (by rfl)
        · intro W hC
          skip
          go_simp
          rfl
        go_simp
        apply wpM_still (by rfl) (by rfl)
        · intro W hC
          skip
          go_simp
          rfl
        go_simp
        apply wpM_still (by rfl) (by rfl)
        · intro W hC
          skip
          go_simp
          rfl
        go_simp
        apply wpM_still (by rfl) (by rfl)
        · intro W hC
          skip
          go_simp
          rfl
        go_simp
        apply wpM_still (by rfl) (by rfl)
        · intro W hC
          skip
          go_simp
          rfl
        go_simp
        apply wpM_still (by rfl) (by rfl)
        · intro W hC
          skip
          go_simp
          rfl
        go_simp
        apply wpM_still (by rfl) (by rfl)
        · intro W hC
          skip
          go_simp
          rfl
        go_simp
        apply wpM_still (by rfl) (by rfl)
        · intro W hC
          skip
          go_simp
          rfl
        go_simp
        apply wpM_still (by rfl) (by rfl)
        · intro W hC
          skip
          go_simp
          rfl
        go_simp
        apply wpM_still (by rfl) (by rfl)
        · intro W hC
          skip
          go_simp
          rfl
        go_simp
        apply wpM_move (by rfl) (by rfl)
        intro K hK
        go_simp
        refine (bAll_c gb _ L9 _ ID.out.b G9.out (by omega)).mono ?_
        rintro e w13 ⟨v13, rfl, o13, b13⟩
        go_simp
        rw [those_all, HRE.out] at o13
        have I13 := hd (ID.out.on b13)
        refine hK _ _ (fun _ => I13.out.r.c0) ?_
        clear hK K ID
        apply wpM_move (by rfl) (by rfl)
        intro K hK
        go_simp
        refine (same36_c _ _ R9 _ (Owns.rd o13) (Owns.rd I13.out.r.own)).mono ?_
        rintro e w14 ⟨rfl, b14⟩
        go_simp
        have I14 := hd (I13.out.on b14)
        refine hK _ _ (fun _ => I14.out.r.c0) ?_
        clear hK K I13 o13
        apply wpM_still (by rfl) (by rfl)
        · intro W hC
          skip
          go_simp
          rfl
        go_simp
        apply wpM_still (by rfl) (by rfl)
        · intro W hC
          skip
          go_simp
          rfl
        go_simp
        apply wpM_still (by rfl) (by rfl)
        · intro W hC
          skip
          go_simp
          rfl
        go_simp
        apply wpM_still (by rfl) (by rfl)
        · intro W hC
          skip
          go_simp
          rfl
        go_simp
        apply wpM_still (by rfl) (by rfl)
        · intro W hC
          skip
          go_simp
          rfl
        go_simp
        apply wpM_still (by rfl) (by rfl)
        · intro W hC
          skip
          go_simp
          rfl
        go_simp
        apply wpM_still (by rfl) (by rfl)
        · intro W hC
          skip
          go_simp
          rfl
        go_simp
        apply wpM_still (by rfl) (by rfl)
        · intro W hC
          skip
          go_simp
          rfl
        go_simp
        apply wpM_still (by rfl) (by rfl)
        · intro W hC
          skip
          go_simp
          rfl
        go_simp
        apply wpM_move (by rfl) (by rfl)
        intro K hK
        go_simp
        refine (bLen_c gb _ L9 _ I14.out.b).mono ?_
        rintro e w15 ⟨rfl, rfl⟩
        go_simp
        refine hK _ _ (fun _ => I14.out.r.c0) ?_
        clear hK K
        apply wpM_still (by rfl) (by rfl)
        · intro W hC
          skip
          go_simp
          rfl
        go_simp
        apply wpM_move (by rfl) (by rfl)
        intro K hK
        go_simp
        refine hK _ _ (fun h => absurd h (by decide)) ?_
        clear hK K
        refine wpM_nil ?_
        go_wp2_with fail
        go_roundw
        case rel => exact ⟨j + 1, L9, _, _, by congr 1, by omega, by omega, (by rw [HRE.out]; exact I14.out), G9.out, hL⟩
        case measure => simp [leftB]; omega
      have kb2 : (ak == 2) = false := by simpa using k2
      clear k0 k1 k2
      have I9 := HI8
      have G9 := HG
      go_wp2_with fail
      obtain ⟨vsa, hvsa⟩ : ∃ x, vra = x := ⟨_, rfl⟩
      obtain ⟨vsc, hvsc⟩ : ∃ x, vrc = x := ⟨_, rfl⟩
      rw [hvsa, hvsc] at I9
      obtain ⟨L9, hL9⟩ : ∃ L9, l = L9 := ⟨_, rfl⟩
      have hL : L9.length ≤ j + 1 := by rw [← hL9]; omega
      obtain ⟨R9, hR9⟩ : ∃ R9, L9.map bTold = R9 := ⟨_, rfl⟩
      rw [hL9, hR9] at I9
      rw [hL9] at G9
      have hRl : R9.length = L9.length := by rw [← hR9, List.length_map]
      have hne : ((L9.length : Int) != (R9.length : Int)) = false := by rw [hRl]; simp
      have hR61 : R9.length ≤ 61 := by omega
      have HRE := hd hR9
      obtain ⟨ro, hro⟩ : ∃ ro, (bRank at').bind (bGet L9) = ro := ⟨_, rfl⟩
      have hgp := rGetP_eq G9.out at'
      rw [hro, hR9] at hgp
      clear hL9 hR9 hRl
      refine (bGet_c gb _ L9 at' _ (HE.out.below I9.out.below) (HW.out.below I9.out.below (Nat.le_refl _)) (by omega) I9.out.b G9.out.1 (by omega)).mono ?_
      rw [hro]
      rintro e w10 ⟨rfl, b10⟩
      have I10 := hd (I9.out.on b10)
      replace y1 := (bcell b10 _ _ (by omega)).trans y1
      have z10 := b10.size
      clear I9
      go_wp2_with fail
      refine (refGet36_c gr _ _ at' _ I10.out.r (by omega)).mono ?_
      rw [hgp]
      rintro e w11 ⟨rfl, b11⟩
      have I11 := hd (I10.out.on b11)
      clear I10 hgp hro
      generalize ro.getD ⟨#[]⟩ = so at *
      generalize ro.isSome = bo at *
      have D0 : w11.drew.cell? ⟨gr, 0, none⟩ = some (.slice vsa R9.length vsc) := I11.out.r.c0
      have ID := hd (I11.out.on ((Below.refl w11.heap.size w11).drew))
      go_wp2_with fail
      refine wp_region_M (fun W => W.cell? ⟨gr, 0, none⟩ = some (.slice vsa R9.length vsc)) 31 [(0, false), (1, false), (2, false), (3, false), (4, false), (5, false), (6, false), (7, false), (8, false), (9, false), (10, false), (11, false), (12, false), (13, false), (15, false), (16, false), (17, false), (18, false), (14, true), (19, true), (20, false), (21, false), (22, false), (23, false), (25, false), (26, false), (27, false), (28, false), (29, false), (24, true), (30, false), (31, true)] (by kernel_rfl) (by kernel_rfl) (fun _ _ _ _ h => h) D0 ?_
      generalize w11.drew = w12 at *
      clear I11
      apply wpM_still (by rfl) (by rfl)
      · intro W hC
        skip
        go_simp
        rfl
      go_simp
      apply wpM_still (by rfl) (by rfl)
      · intro W hC
        skip
        go_simp
        rfl
      go_simp
      apply wpM_still (by rfl) (by rfl)
      · intro W hC
        skip
        go_simp
        rfl
      go_simp
      apply wpM_still (by rfl) (by rfl)
      · intro W hC
        skip
        go_simp
        rfl
      go_simp
      apply wpM_still (by rfl) (by rfl)
      · intro W hC
        skip
        go_simp
        rfl
      go_simp
      apply wpM_still (by rfl) (by rfl)
      · intro W hC
        skip
        go_simp
        rfl
      go_simp
      apply wpM_still (by rfl) (by rfl)
      · intro W hC
        skip
        go_simp
        rfl
      go_simp
      apply wpM_still (by rfl) (by rfl)
      · intro W hC
        skip
        go_simp
        rfl
      go_simp
      apply wpM_still (by rfl) (by rfl)
      · intro W hC
        skip
        go_simp
        rfl
      go_simp
      apply wpM_still (by rfl) (by rfl)
      · intro W hC
        skip
        go_simp
        rfl
      go_simp
      apply wpM_still (by rfl) (by rfl)
      · intro W hC
        skip
        go_simp
        rfl
      go_simp
      apply wpM_still (by rfl) (by rfl)
      · intro W hC
        skip
        go_simp
        rfl
      go_simp
      apply wpM_still (by rfl) (by rfl)
      · intro W hC
        skip
        go_simp
        rfl
      go_simp
      apply wpM_still (by rfl) (by rfl)
      · intro W hC
        skip
        go_simp
        rfl
      go_simp
      apply wpM_still (by rfl) (by rfl)
      · intro W hC
        skip
        go_simp
        rfl
      go_simp
      apply wpM_still (by rfl) (by rfl)
      · intro W hC
        skip
        go_simp
        rfl
      go_simp
      apply wpM_still (by rfl) (by rfl)
      · intro W hC
        skip
        go_simp
        rfl
      go_simp
      apply wpM_still (by rfl) (by rfl)
      · intro W hC
        skip
        go_simp
        rfl
      go_simp
      apply wpM_move (by rfl) (by rfl)
      intro K hK
      go_simp
      refine (bAll_c gb _ L9 _ ID.out.b G9.out (by omega)).mono ?_
      rintro e w13 ⟨v13, rfl, o13, b13⟩
      go_simp
      rw [those_all, HRE.out] at o13
      have I13 := hd (ID.out.on b13)
      refine hK _ _ (fun _ => I13.out.r.c0) ?_
      clear hK K ID
      apply wpM_move (by rfl) (by rfl)
      intro K hK
      go_simp
      refine (same36_c _ _ R9 _ (Owns.rd o13) (Owns.rd I13.out.r.own)).mono ?_
      rintro e w14 ⟨rfl, b14⟩
      go_simp
      have I14 := hd (I13.out.on b14)
      refine hK _ _ (fun _ => I14.out.r.c0) ?_
      clear hK K I13 o13
      apply wpM_still (by rfl) (by rfl)
      · intro W hC
        skip
        go_simp
        rfl
      go_simp
      apply wpM_still (by rfl) (by rfl)
      · intro W hC
        skip
        go_simp
        rfl
      go_simp
      apply wpM_still (by rfl) (by rfl)
      · intro W hC
        skip
        go_simp
        rfl
      go_simp
      apply wpM_still (by rfl) (by rfl)
      · intro W hC
        skip
        go_simp
        rfl
      go_simp
      apply wpM_still (by rfl) (by rfl)
      · intro W hC
        skip
        go_simp
        rfl
      go_simp
      apply wpM_still (by rfl) (by rfl)
      · intro W hC
        skip
        go_simp
        rfl
      go_simp
      apply wpM_still (by rfl) (by rfl)
      · intro W hC
        skip
        go_simp
        rfl
      go_simp
      apply wpM_still (by rfl) (by rfl)
      · intro W hC
        skip
        go_simp
        rfl
      go_simp
      apply wpM_still (by rfl) (by rfl)
      · intro W hC
        skip
        go_simp
        rfl
      go_simp
      apply wpM_move (by rfl) (by rfl)
      intro K hK
      go_simp
      refine (bLen_c gb _ L9 _ I14.out.b).mono ?_
      rintro e w15 ⟨rfl, rfl⟩
      go_simp
      refine hK _ _ (fun _ => I14.out.r.c0) ?_
      clear hK K
      apply wpM_still (by rfl) (by rfl)
      · intro W hC
        skip
        go_simp
        rfl
      go_simp
      apply wpM_move (by rfl) (by rfl)
      intro K hK
      go_simp
      refine hK _ _ (fun h => absurd h (by decide)) ?_
      clear hK K
      refine wpM_nil ?_
      go_wp2_with fail
      go_roundw
      case rel => exact ⟨j + 1, L9, _, _, by congr 1, by omega, by omega, (by rw [HRE.out]; exact I14.out), G9.out, hL⟩
      case measure => simp [leftB]; omega
    · have hge : acts.length ≤ j ∨ 60 ≤ j := by omega
      have hng : ¬ ((j : Int) < (acts.length : Int) ∧ (j : Int) < 60) := by omega
      by_cases hj1 : j < acts.length
      all_goals try (have hj60 : ¬ (j : Int) < 60 := by omega)
      all_goals
        go_wp2_with fail
        refine (bFind_c gb v l fl (.slice fa fl.length fc) wr (HE.out.below HI.out.below) HI.out.b HG.out (Rd.below' HVF.out HI.out.below (Nat.le_refl _)) HFL.out (by omega)).mono ?_
        rintro e w20 ⟨v20, rfl, o20, b20⟩
        have I20 := hd (HI.out.on b20)
        have O20 := hd o20
        clear o20
        go_wp2_with fail
        refine (refFind36_c gr _ (.slice fa fl.length fc) (l.map bTold) fl w20 I20.out.r (Rd.below' HVF.out I20.out.below (Nat.le_refl _)) HFL.out (told_short HG.out) (by rw [List.length_map]; omega)).mono ?_
        rintro e w21 ⟨v21, rfl, o21, b21⟩
        have I21 := hd (I20.out.on b21)
        have O21 := hd o21
        have P20 := hd (O20.out.kept b21 (Nat.le_refl _))
        clear o21 O20
        go_wp2_with fail
        refine (same36_c _ _ (rFind (l.map bTold) fl) w21 (Owns.rd P20.out) (Owns.rd O21.out)).mono ?_
        rintro e w22 ⟨rfl, b22⟩
        have I22 := hd (I21.out.on b22)
        go_wp2_with fail
        refine (awake36_c _ (HE.out.below I22.out.below) (HW.out.below I22.out.below (Nat.le_refl _))).mono ?_
        rintro e w23 ⟨rfl, b23⟩
        have B23 := Below.up I22.out.below b23
        go_wp2_with fail
        go_ret
        exact ⟨rfl, B23⟩
end Go.Proofs.YtclicjokgfiegaaGreatDoor
