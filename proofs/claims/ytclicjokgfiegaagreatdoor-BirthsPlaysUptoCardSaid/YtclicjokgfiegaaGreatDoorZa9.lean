/- A bundle of texts (merged for the limit on files): SpOf2. -/
import Derived.Test.YtclicjokgfiegaaGreatDoorZa8
/- Spots and topics: the reference's spot of a topic; births; awake: the walks. -/
namespace Go.Proofs.YtclicjokgfiegaaGreatDoor
open Go.RowKit
set_option linter.unusedVariables false
set_option linter.unusedSimpArgs false

theorem refOfRead {w' : World} {gr : Nat} {tmps : Array Value} {k : Int} {g n d : List UInt8} (h2 : tmps[2]?.getD undef = .pointer (some ⟨gr, 0, none⟩)) (hc : SpAt w' gr k g n d) :
    (results Tryz.f51 tmps).run Tryz.prog w' = .ok (spV ⟨k, g, n, d⟩) w' := by
  obtain ⟨d0, d1, d2, d3, _⟩ := hc
  simp [results, Tryz.results51, go_sem, h2, d0, d1, d2, d3, spV]

set_option maxRecDepth 100000 in
set_option maxHeartbeats 4000000 in
theorem refOf_c (l : List UInt8) (w : World) (hs : l.length ≤ 100000000) : Calls Tryz.prog 51 #[.string (sOf l)] w fun e w' => e = .returned (spV (sTell l)) ∧ Below w.heap.size w w' := by
  have htl := toList_sOf l
  have hgl := guess_len (M := l.length) (p := lSplit l) (fun x hx => (lSplit_parts l x hx).2)
  obtain ⟨X, hX⟩ : ∃ X, sTell l = X := ⟨_, rfl⟩
  rw [hX]
  unfold sTell at hX
  have HX := hd hX; have HGL := hd hgl
  clear hX hgl
  go_enter Tryz.func51, Tryz.ntmps51
  go_wp2_with fail
  have hb : Below w.heap.size w (w.alloc (.cells #[.int .i64 0, .string ⟨#[]⟩, .string ⟨#[]⟩, .string ⟨#[]⟩] 93)) := by go_grown
  have hR : SpAt (w.alloc (.cells #[.int .i64 0, .string ⟨#[]⟩, .string ⟨#[]⟩, .string ⟨#[]⟩] 93)) w.heap.size 0 [] [] [] := SpAt.new w 0 [] [] []
  have hF : SpFree (w.alloc (.cells #[.int .i64 0, .string ⟨#[]⟩, .string ⟨#[]⟩, .string ⟨#[]⟩] 93)) w.heap.size := fun o => by simp [go_sem]
  have hlt := hR.2.2.2.2
  refine (refSplit_c l _ hs).mono ?_
  rintro e w1 ⟨v1, rfl, ho, hB⟩
  replace hF : SpFree w1 w.heap.size := fun o => (bfree hB _ _ hlt).trans (hF o)
  replace hR := hR.keep hB hlt
  replace hb := Below.up hb hB
  replace hlt := hR.2.2.2.2
  have HL := hd ho.ls
  clear ho hB
  have HR := hd hR; have HF := hd hF
  clear hR hF
  generalize lSplit l = p at *
  obtain ⟨a, c, rfl⟩ := HL.out.slice
  by_cases h3 : p.length = 3
  · obtain ⟨x0, x1, x2, rfl⟩ := three h3
    obtain ⟨b, o, rfl, hbl, hc2⟩ := HL.out.at (k := 2) (x := x2) rfl
    rw [show ([x0, x1, x2] : List (List UInt8)).length = 3 from rfl]
    clear HL h3
    rw [show sGuess [x0, x1, x2] = ⟨9, [], x2, []⟩ from rfl] at HX
    obtain ⟨z1, z2, z3⟩ := HGL.out
    have hz1 : ([] : List UInt8).length ≤ l.length := z1
    have hz2 : (x2 : List UInt8).length ≤ l.length := z2
    have hz3 : ([] : List UInt8).length ≤ l.length := z3
    have HZ := hd (And.intro hz1 (And.intro hz2 hz3))
    clear z1 z2 z3 hz1 hz2 hz3 HGL
    go_wp2_with fail
    refine (sRefPut_c ⟨9, [], x2, []⟩ _ (by have := HZ.out; simp only at this ⊢; omega) (by have := HZ.out; simp only at this ⊢; omega) (by have := HZ.out; simp only at this ⊢; omega)).mono ?_
    rintro e w3 ⟨rfl, hB⟩
    have hS2 : SpAt w3 w1.heap.size 9 [] x2 [] := SpAt.keep (by refine ⟨?_, ?_, ?_, ?_, ?_⟩ <;> simp [go_sem, show sOf [] = ⟨#[]⟩ from rfl]) hB (by simp [go_sem])
    have hB2 : Below w1.heap.size w1 w3 := Below.up (by go_grown) hB
    have hF2 : SpFree w3 w.heap.size := fun o => (bfree hB2 _ _ hlt).trans (HF.out o)
    have HR2 := hd (HR.out.keep hB2 hlt)
    replace hb := Below.up hb hB2
    clear hB hB2 HF HR hlt
    generalize sPut ⟨9, [], x2, []⟩ = pe at *
    obtain ⟨t, ee⟩ := pe
    simp only at HX ⊢
    have htt := toList_sOf t
    have hR2 := HR2.out
    obtain ⟨r0, r1, r2, r3, r4⟩ := hR2
    have f0 := hF2 0; have f1 := hF2 1; have f2 := hF2 2; have f3 := hF2 3
    obtain ⟨s0, s1, s2, s3, s4⟩ := hS2
    clear hF2
    by_cases he : ee = 0
    rotate_left
    · have he1 : (ee != 0) = true := by simpa using he
      have hx : X = .zero := by rw [← HX.out, if_pos (.inl he)]
      have Hx := hd hx
      clear hx he HX
      go_wp2_with fail
      exact bodyPost_ret (refOfRead rfl (HR2.out.put (k := 0) (g := []) (n := []) (d := []))) rfl ⟨by rw [Hx.out]; rfl, below_put4 hb (Nat.le_refl _)⟩
    subst he
    cases ht : (t == l)
    · have ht1 : (t != l) = true := by simp [bne, ht]
      have hx : X = .zero := by rw [← HX.out, if_pos (.inr (by simpa using ht))]
      have Hx := hd hx
      clear hx HX
      go_wp2_with fail
      exact bodyPost_ret (refOfRead rfl (HR2.out.put (k := 0) (g := []) (n := []) (d := []))) rfl ⟨by rw [Hx.out]; rfl, below_put4 hb (Nat.le_refl _)⟩
    · have ht1 : (t != l) = false := by simp [bne, ht]
      have hx : X = ⟨9, [], x2, []⟩ := by rw [← HX.out, if_neg (by simpa using ht)]
      have Hx := hd hx
      clear hx HX
      go_wp2_with fail
      exact bodyPost_ret (refOfRead rfl (HR2.out.put (k := 9) (g := []) (n := x2) (d := []))) rfl ⟨by rw [Hx.out], below_put4 hb (Nat.le_refl _)⟩
  by_cases h4 : p.length = 4
  · obtain ⟨x0, x1, x2, x3, rfl⟩ := four h4
    obtain ⟨b, o, rfl, hbl, hc1⟩ := HL.out.at (k := 1) (x := x1) rfl
    obtain ⟨b2, o2, ho2, hbl2, hc2⟩ := HL.out.at (k := 2) (x := x2) rfl
    obtain ⟨rfl, rfl⟩ : b = b2 ∧ o = o2 := by simpa using ho2
    clear ho2 hbl2
    obtain ⟨b2, o2, ho2, hbl2, hc3⟩ := HL.out.at (k := 3) (x := x3) rfl
    obtain ⟨rfl, rfl⟩ : b = b2 ∧ o = o2 := by simpa using ho2
    clear ho2 hbl2
    rw [show ([x0, x1, x2, x3] : List (List UInt8)).length = 4 from rfl]
    clear HL h3 h4
    obtain ⟨kd, hkd⟩ : ∃ kd, sKind x2 = kd := ⟨_, rfl⟩
    have HK := hd hkd
    rw [show sGuess [x0, x1, x2, x3] = ⟨sKind x2, x1, x3, []⟩ from rfl, hkd] at HX
    clear hkd
    obtain ⟨z1, z2, z3⟩ := HGL.out
    have hz1 : (x1 : List UInt8).length ≤ l.length := z1
    have hz2 : (x3 : List UInt8).length ≤ l.length := z2
    have hz3 : ([] : List UInt8).length ≤ l.length := z3
    have HZ := hd (And.intro hz1 (And.intro hz2 hz3))
    clear z1 z2 z3 hz1 hz2 hz3 HGL
    go_wp2_with fail
    refine wp_region_M (fun W => W.cell? ⟨b, o + 1, none⟩ = some (.string (sOf x1)) ∧ W.cell? ⟨b, o + 2, none⟩ = some (.string (sOf x2)) ∧ W.cell? ⟨b, o + 3, none⟩ = some (.string (sOf x3))) 11 [(0, false), (1, false), (2, false), (4, false), (5, false), (6, false), (7, false), (8, false), (9, false), (3, true), (10, false), (11, true)] (by kernel_rfl) (by kernel_rfl) (fun _ _ _ _ h => h) ⟨(World.cell?_alloc_lt _ _ ⟨b, _, none⟩ hbl).trans hc1, (World.cell?_alloc_lt _ _ ⟨b, _, none⟩ hbl).trans hc2, (World.cell?_alloc_lt _ _ ⟨b, _, none⟩ hbl).trans hc3⟩ ?_
    apply wpM_still (by rfl) (by rfl)
    · intro W hC
      obtain ⟨d1, d2, d3⟩ := hC
      go_simp
      rfl
    go_simp
    apply wpM_still (by rfl) (by rfl)
    · intro W hC
      obtain ⟨d1, d2, d3⟩ := hC
      go_simp
      rfl
    go_simp
    apply wpM_still (by rfl) (by rfl)
    · intro W hC
      obtain ⟨d1, d2, d3⟩ := hC
      go_simp
      rfl
    go_simp
    apply wpM_still (by rfl) (by rfl)
    · intro W hC
      obtain ⟨d1, d2, d3⟩ := hC
      go_simp
      rfl
    go_simp
    apply wpM_still (by rfl) (by rfl)
    · intro W hC
      obtain ⟨d1, d2, d3⟩ := hC
      go_simp
      rfl
    go_simp
    apply wpM_still (by rfl) (by rfl)
    · intro W hC
      obtain ⟨d1, d2, d3⟩ := hC
      go_simp
      rfl
    go_simp
    apply wpM_still (by rfl) (by rfl)
    · intro W hC
      obtain ⟨d1, d2, d3⟩ := hC
      go_simp
      rfl
    go_simp
    apply wpM_still (by rfl) (by rfl)
    · intro W hC
      obtain ⟨d1, d2, d3⟩ := hC
      go_simp
      rfl
    go_simp
    apply wpM_still (by rfl) (by rfl)
    · intro W hC
      obtain ⟨d1, d2, d3⟩ := hC
      go_simp
      rfl
    go_simp
    apply wpM_move (by rfl) (by rfl)
    intro K hK
    go_simp
    refine (refKind_c x2 _).mono ?_
    rw [HK.out]
    rintro e w' ⟨rfl, rfl⟩
    go_simp
    refine hK _ _ (fun _ => ⟨(World.cell?_alloc_lt _ _ ⟨b, _, none⟩ hbl).trans hc1, (World.cell?_alloc_lt _ _ ⟨b, _, none⟩ hbl).trans hc2, (World.cell?_alloc_lt _ _ ⟨b, _, none⟩ hbl).trans hc3⟩) ?_
    clear hK K
    apply wpM_still (by rfl) (by rfl)
    · intro W hC
      obtain ⟨d1, d2, d3⟩ := hC
      go_simp
      rfl
    go_simp
    apply wpM_move (by rfl) (by rfl)
    intro K hK
    go_simp
    refine hK _ _ (fun h => absurd h (by decide)) ?_
    clear hK K
    refine wpM_nil ?_
    go_wp2_with fail
    refine (sRefPut_c ⟨kd, x1, x3, []⟩ _ (by have := HZ.out; simp only at this ⊢; omega) (by have := HZ.out; simp only at this ⊢; omega) (by have := HZ.out; simp only at this ⊢; omega)).mono ?_
    rintro e w3 ⟨rfl, hB⟩
    have hS2 : SpAt w3 w1.heap.size kd x1 x3 [] := SpAt.keep (by refine ⟨?_, ?_, ?_, ?_, ?_⟩ <;> simp [go_sem, show sOf [] = ⟨#[]⟩ from rfl]) hB (by simp [go_sem])
    have hB2 : Below w1.heap.size w1 w3 := Below.up (by go_grown) hB
    have hF2 : SpFree w3 w.heap.size := fun o => (bfree hB2 _ _ hlt).trans (HF.out o)
    have HR2 := hd (HR.out.keep hB2 hlt)
    replace hb := Below.up hb hB2
    clear hB hB2 HF HR hlt
    generalize sPut ⟨kd, x1, x3, []⟩ = pe at *
    obtain ⟨t, ee⟩ := pe
    simp only at HX ⊢
    have htt := toList_sOf t
    have hR2 := HR2.out
    obtain ⟨r0, r1, r2, r3, r4⟩ := hR2
    have f0 := hF2 0; have f1 := hF2 1; have f2 := hF2 2; have f3 := hF2 3
    obtain ⟨s0, s1, s2, s3, s4⟩ := hS2
    clear hF2
    by_cases he : ee = 0
    rotate_left
    · have he1 : (ee != 0) = true := by simpa using he
      have hx : X = .zero := by rw [← HX.out, if_pos (.inl he)]
      have Hx := hd hx
      clear hx he HX
      go_wp2_with fail
      exact bodyPost_ret (refOfRead rfl (HR2.out.put (k := 0) (g := []) (n := []) (d := []))) rfl ⟨by rw [Hx.out]; rfl, below_put4 hb (Nat.le_refl _)⟩
    subst he
    cases ht : (t == l)
    · have ht1 : (t != l) = true := by simp [bne, ht]
      have hx : X = .zero := by rw [← HX.out, if_pos (.inr (by simpa using ht))]
      have Hx := hd hx
      clear hx HX
      go_wp2_with fail
      exact bodyPost_ret (refOfRead rfl (HR2.out.put (k := 0) (g := []) (n := []) (d := []))) rfl ⟨by rw [Hx.out]; rfl, below_put4 hb (Nat.le_refl _)⟩
    · have ht1 : (t != l) = false := by simp [bne, ht]
      have hx : X = ⟨kd, x1, x3, []⟩ := by rw [← HX.out, if_neg (by simpa using ht)]
      have Hx := hd hx
      clear hx HX
      go_wp2_with fail
      exact bodyPost_ret (refOfRead rfl (HR2.out.put (k := kd) (g := x1) (n := x3) (d := []))) rfl ⟨by rw [Hx.out], below_put4 hb (Nat.le_refl _)⟩
  by_cases h5 : p.length = 5
  · obtain ⟨x0, x1, x2, x3, x4, rfl⟩ := five h5
    obtain ⟨b, o, rfl, hbl, hc1⟩ := HL.out.at (k := 1) (x := x1) rfl
    obtain ⟨b2, o2, ho2, hbl2, hc2⟩ := HL.out.at (k := 2) (x := x2) rfl
    obtain ⟨rfl, rfl⟩ : b = b2 ∧ o = o2 := by simpa using ho2
    clear ho2 hbl2
    obtain ⟨b2, o2, ho2, hbl2, hc3⟩ := HL.out.at (k := 3) (x := x3) rfl
    obtain ⟨rfl, rfl⟩ : b = b2 ∧ o = o2 := by simpa using ho2
    clear ho2 hbl2
    obtain ⟨b2, o2, ho2, hbl2, hc4⟩ := HL.out.at (k := 4) (x := x4) rfl
    obtain ⟨rfl, rfl⟩ : b = b2 ∧ o = o2 := by simpa using ho2
    clear ho2 hbl2
    rw [show ([x0, x1, x2, x3, x4] : List (List UInt8)).length = 5 from rfl]
    clear HL h3 h4 h5
    obtain ⟨kd, hkd⟩ : ∃ kd, sKind x2 = kd := ⟨_, rfl⟩
    have HK := hd hkd
    rw [show sGuess [x0, x1, x2, x3, x4] = ⟨sKind x2, x1, x3, x4⟩ from rfl, hkd] at HX
    clear hkd
    obtain ⟨z1, z2, z3⟩ := HGL.out
    have hz1 : (x1 : List UInt8).length ≤ l.length := z1
    have hz2 : (x3 : List UInt8).length ≤ l.length := z2
    have hz3 : (x4 : List UInt8).length ≤ l.length := z3
    have HZ := hd (And.intro hz1 (And.intro hz2 hz3))
    clear z1 z2 z3 hz1 hz2 hz3 HGL
    go_wp2_with fail
    refine wp_region_M (fun W => W.cell? ⟨b, o + 1, none⟩ = some (.string (sOf x1)) ∧ W.cell? ⟨b, o + 2, none⟩ = some (.string (sOf x2)) ∧ W.cell? ⟨b, o + 3, none⟩ = some (.string (sOf x3)) ∧ W.cell? ⟨b, o + 4, none⟩ = some (.string (sOf x4))) 14 [(0, false), (1, false), (2, false), (4, false), (5, false), (6, false), (7, false), (8, false), (9, false), (10, false), (11, false), (12, false), (3, true), (13, false), (14, true)] (by kernel_rfl) (by kernel_rfl) (fun _ _ _ _ h => h) ⟨(World.cell?_alloc_lt _ _ ⟨b, _, none⟩ hbl).trans hc1, (World.cell?_alloc_lt _ _ ⟨b, _, none⟩ hbl).trans hc2, (World.cell?_alloc_lt _ _ ⟨b, _, none⟩ hbl).trans hc3, (World.cell?_alloc_lt _ _ ⟨b, _, none⟩ hbl).trans hc4⟩ ?_
    apply wpM_still (by rfl) (by rfl)
    · intro W hC
      obtain ⟨d1, d2, d3, d4⟩ := hC
      go_simp
      rfl
    go_simp
    apply wpM_still (by rfl) (by rfl)
    · intro W hC
      obtain ⟨d1, d2, d3, d4⟩ := hC
      go_simp
      rfl
    go_simp
    apply wpM_still (by rfl) (by rfl)
    · intro W hC
      obtain ⟨d1, d2, d3, d4⟩ := hC
      go_simp
      rfl
    go_simp
    apply wpM_still (by rfl) (by rfl)
    · intro W hC
      obtain ⟨d1, d2, d3, d4⟩ := hC
      go_simp
      rfl
    go_simp
    apply wpM_still (by rfl) (by rfl)
    · intro W hC
      obtain ⟨d1, d2, d3, d4⟩ := hC
      go_simp
      rfl
    go_simp
    apply wpM_still (by rfl) (by rfl)
    · intro W hC
      obtain ⟨d1, d2, d3, d4⟩ := hC
      go_simp
      rfl
    go_simp
    apply wpM_still (by rfl) (by rfl)
    · intro W hC
      obtain ⟨d1, d2, d3, d4⟩ := hC
      go_simp
      rfl
    go_simp
    apply wpM_still (by rfl) (by rfl)
    · intro W hC
      obtain ⟨d1, d2, d3, d4⟩ := hC
      go_simp
      rfl
    go_simp
    apply wpM_still (by rfl) (by rfl)
    · intro W hC
      obtain ⟨d1, d2, d3, d4⟩ := hC
      go_simp
      rfl
    go_simp
    apply wpM_still (by rfl) (by rfl)
    · intro W hC
      obtain ⟨d1, d2, d3, d4⟩ := hC
      go_simp
      rfl
    go_simp
    apply wpM_still (by rfl) (by rfl)
    · intro W hC
      obtain ⟨d1, d2, d3, d4⟩ := hC
      go_simp
      rfl
    go_simp
    apply wpM_still (by rfl) (by rfl)
    · intro W hC
      obtain ⟨d1, d2, d3, d4⟩ := hC
      go_simp
      rfl
    go_simp
    apply wpM_move (by rfl) (by rfl)
    intro K hK
    go_simp
    refine (refKind_c x2 _).mono ?_
    rw [HK.out]
    rintro e w' ⟨rfl, rfl⟩
    go_simp
    refine hK _ _ (fun _ => ⟨(World.cell?_alloc_lt _ _ ⟨b, _, none⟩ hbl).trans hc1, (World.cell?_alloc_lt _ _ ⟨b, _, none⟩ hbl).trans hc2, (World.cell?_alloc_lt _ _ ⟨b, _, none⟩ hbl).trans hc3, (World.cell?_alloc_lt _ _ ⟨b, _, none⟩ hbl).trans hc4⟩) ?_
    clear hK K
    apply wpM_still (by rfl) (by rfl)
    · intro W hC
      obtain ⟨d1, d2, d3, d4⟩ := hC
      go_simp
      rfl
    go_simp
    apply wpM_move (by rfl) (by rfl)
    intro K hK
    go_simp
    refine hK _ _ (fun h => absurd h (by decide)) ?_
    clear hK K
    refine wpM_nil ?_
    go_wp2_with fail
    refine (sRefPut_c ⟨kd, x1, x3, x4⟩ _ (by have := HZ.out; simp only at this ⊢; omega) (by have := HZ.out; simp only at this ⊢; omega) (by have := HZ.out; simp only at this ⊢; omega)).mono ?_
    rintro e w3 ⟨rfl, hB⟩
    have hS2 : SpAt w3 w1.heap.size kd x1 x3 x4 := SpAt.keep (by refine ⟨?_, ?_, ?_, ?_, ?_⟩ <;> simp [go_sem, show sOf [] = ⟨#[]⟩ from rfl]) hB (by simp [go_sem])
    have hB2 : Below w1.heap.size w1 w3 := Below.up (by go_grown) hB
    have hF2 : SpFree w3 w.heap.size := fun o => (bfree hB2 _ _ hlt).trans (HF.out o)
    have HR2 := hd (HR.out.keep hB2 hlt)
    replace hb := Below.up hb hB2
    clear hB hB2 HF HR hlt
    generalize sPut ⟨kd, x1, x3, x4⟩ = pe at *
    obtain ⟨t, ee⟩ := pe
    simp only at HX ⊢
    have htt := toList_sOf t
    have hR2 := HR2.out
    obtain ⟨r0, r1, r2, r3, r4⟩ := hR2
    have f0 := hF2 0; have f1 := hF2 1; have f2 := hF2 2; have f3 := hF2 3
    obtain ⟨s0, s1, s2, s3, s4⟩ := hS2
    clear hF2
    by_cases he : ee = 0
    rotate_left
    · have he1 : (ee != 0) = true := by simpa using he
      have hx : X = .zero := by rw [← HX.out, if_pos (.inl he)]
      have Hx := hd hx
      clear hx he HX
      go_wp2_with fail
      exact bodyPost_ret (refOfRead rfl (HR2.out.put (k := 0) (g := []) (n := []) (d := []))) rfl ⟨by rw [Hx.out]; rfl, below_put4 hb (Nat.le_refl _)⟩
    subst he
    cases ht : (t == l)
    · have ht1 : (t != l) = true := by simp [bne, ht]
      have hx : X = .zero := by rw [← HX.out, if_pos (.inr (by simpa using ht))]
      have Hx := hd hx
      clear hx HX
      go_wp2_with fail
      exact bodyPost_ret (refOfRead rfl (HR2.out.put (k := 0) (g := []) (n := []) (d := []))) rfl ⟨by rw [Hx.out]; rfl, below_put4 hb (Nat.le_refl _)⟩
    · have ht1 : (t != l) = false := by simp [bne, ht]
      have hx : X = ⟨kd, x1, x3, x4⟩ := by rw [← HX.out, if_neg (by simpa using ht)]
      have Hx := hd hx
      clear hx HX
      go_wp2_with fail
      exact bodyPost_ret (refOfRead rfl (HR2.out.put (k := kd) (g := x1) (n := x3) (d := x4))) rfl ⟨by rw [Hx.out], below_put4 hb (Nat.le_refl _)⟩
  rw [guess_other h3 h4 h5] at HX
  have h3b : ((p.length : Int) == 3) = false := by simp; omega
  have h4b : ((p.length : Int) == 4) = false := by simp; omega
  have h5b : ((p.length : Int) == 5) = false := by simp; omega
  clear h3 h4 h5 HL HGL
  unfold SpS.zero at HX
  go_wp2_with fail
  refine (sRefPut_c ⟨0, [], [], []⟩ _ (by simp) (by simp) (by simp)).mono ?_
  rintro e w3 ⟨rfl, hB⟩
  have hS2 : SpAt w3 w1.heap.size 0 [] [] [] := SpAt.keep (by refine ⟨?_, ?_, ?_, ?_, ?_⟩ <;> simp [go_sem, show sOf [] = ⟨#[]⟩ from rfl]) hB (by simp [go_sem])
  have hB2 : Below w1.heap.size w1 w3 := Below.up (by go_grown) hB
  have hF2 : SpFree w3 w.heap.size := fun o => (bfree hB2 _ _ hlt).trans (HF.out o)
  have HR2 := hd (HR.out.keep hB2 hlt)
  replace hb := Below.up hb hB2
  clear hB hB2 HF HR hlt
  generalize sPut ⟨0, [], [], []⟩ = pe at *
  obtain ⟨t, ee⟩ := pe
  simp only at HX ⊢
  have htt := toList_sOf t
  have hR2 := HR2.out
  obtain ⟨r0, r1, r2, r3, r4⟩ := hR2
  have f0 := hF2 0; have f1 := hF2 1; have f2 := hF2 2; have f3 := hF2 3
  obtain ⟨s0, s1, s2, s3, s4⟩ := hS2
  clear hF2
  by_cases he : ee = 0
  rotate_left
  · have he1 : (ee != 0) = true := by simpa using he
    have hx : X = ⟨0, [], [], []⟩ := by rw [← HX.out, if_pos (.inl he)]
    have Hx := hd hx
    clear hx he HX
    go_wp2_with fail
    exact bodyPost_ret (refOfRead rfl (HR2.out.put (k := 0) (g := []) (n := []) (d := []))) rfl ⟨by rw [Hx.out], below_put4 hb (Nat.le_refl _)⟩
  subst he
  cases ht : (t == l)
  · have ht1 : (t != l) = true := by simp [bne, ht]
    have hx : X = ⟨0, [], [], []⟩ := by rw [← HX.out, if_pos (.inr (by simpa using ht))]
    have Hx := hd hx
    clear hx HX
    go_wp2_with fail
    exact bodyPost_ret (refOfRead rfl (HR2.out.put (k := 0) (g := []) (n := []) (d := []))) rfl ⟨by rw [Hx.out], below_put4 hb (Nat.le_refl _)⟩
  · have ht1 : (t != l) = false := by simp [bne, ht]
    have hx : X = ⟨0, [], [], []⟩ := by rw [← HX.out, if_neg (by simpa using ht)]
    have Hx := hd hx
    clear hx HX
    go_wp2_with fail
    exact bodyPost_ret (refOfRead rfl (HR2.out.put (k := 0) (g := []) (n := []) (d := []))) rfl ⟨by rw [Hx.out], below_put4 hb (Nat.le_refl _)⟩

set_option maxRecDepth 100000 in
set_option maxHeartbeats 4000000 in
theorem Births_c (s : SpS) (w : World) (hE : EnvU w) (hW : EnvW w) (hzg : s.g.length ≤ 9223372036854775000) (hzn : s.n.length ≤ 9223372036854775000) (hzd : s.d.length ≤ 9223372036854775000) :
    Calls Tryz.prog 41 #[spV s] w fun e w' => e = .returned (.tuple #[.string (sOf (sBirths s).1), .string (sOf (sBirths s).2)]) ∧ Below w.heap.size w w' := by
  obtain ⟨X, Y, hX⟩ : ∃ X Y, sBirths s = (X, Y) := ⟨_, _, rfl⟩
  rw [hX]
  obtain ⟨k, g, n, d⟩ := s
  unfold sBirths at hX
  simp only at hzg hzn hzd hX ⊢
  have htd := toList_sOf d
  have HE := hd hE; have HW := hd hW
  clear hE hW
  obtain ⟨t0, e0, hp0⟩ : ∃ t e, sPut ⟨k, g, n, d⟩ = (t, e) := ⟨_, _, rfl⟩
  obtain ⟨t1, e1, hp1⟩ : ∃ t e, sPut ⟨1, g, n, []⟩ = (t, e) := ⟨_, _, rfl⟩
  obtain ⟨t5, e5, hp5⟩ : ∃ t e, sPut ⟨5, g, n, d⟩ = (t, e) := ⟨_, _, rfl⟩
  rw [hp0, hp1, hp5] at hX
  simp only at hX
  have HX := hd hX; have HP0 := hd hp0; have HP1 := hd hp1; have HP5 := hd hp5
  clear hX hp0 hp1 hp5
  unfold spV
  have hb : Below w.heap.size w (w.alloc (.cells #[.int .i64 k, .string (sOf g), .string (sOf n), .string (sOf d)] 93)) := by go_grown
  have hS := SpAt.new w k g n d
  by_cases h9 : k = 9
  · have h9b : (k == 9) = true := by simpa using h9
    obtain ⟨rfl, rfl⟩ : X = [] ∧ Y = [] := by
      have h := HX.out
      rw [if_pos (.inr h9)] at h
      exact ⟨(Prod.mk.inj h).1.symm, (Prod.mk.inj h).2.symm⟩
    clear HX h9
    go_enter Tryz.func41, Tryz.ntmps41
    go_wp2_with fail
    refine (sPut_c ⟨k, g, n, d⟩ _ (HE.out.below hb) (HW.out.below hb (Nat.le_refl _)) (by simp only; first | omega | (rw [List.length_nil]; omega)) (by simp only; first | omega | (rw [List.length_nil]; omega)) (by simp only; first | omega | (rw [List.length_nil]; omega))).mono ?_
    rw [HP0.out]
    rintro e w1 ⟨rfl, hB⟩
    replace hS := hS.keep hB hS.2.2.2.2
    have HS := hd hS
    obtain ⟨d0, d1, d2, d3, d4⟩ := hS
    replace hb := Below.up hb hB
    clear hB
    by_cases he : e0 = 0
    · subst he
      go_wp2_with fail
      exact bodyPost_ret (v := .tuple #[.string ⟨#[]⟩, .string ⟨#[]⟩]) (by simp [results, Tryz.results41, go_sem]) rfl ⟨rfl, hb⟩
    · have he1 : (e0 != 0) = true := by simpa using he
      clear he
      go_wp2_with fail
      exact bodyPost_ret (v := .tuple #[.string ⟨#[]⟩, .string ⟨#[]⟩]) (by simp [results, Tryz.results41, go_sem]) rfl ⟨rfl, hb⟩
  have h9b : (k == 9) = false := by simpa using h9
  have H9 := hd h9
  clear h9
  go_enter Tryz.func41, Tryz.ntmps41
  go_wp2_with fail
  refine (sPut_c ⟨k, g, n, d⟩ _ (HE.out.below hb) (HW.out.below hb (Nat.le_refl _)) (by simp only; first | omega | (rw [List.length_nil]; omega)) (by simp only; first | omega | (rw [List.length_nil]; omega)) (by simp only; first | omega | (rw [List.length_nil]; omega))).mono ?_
  rw [HP0.out]
  rintro e w1 ⟨rfl, hB⟩
  replace hS := hS.keep hB hS.2.2.2.2
  have HS := hd hS
  obtain ⟨d0, d1, d2, d3, d4⟩ := hS
  replace hb := Below.up hb hB
  clear hB
  by_cases he : e0 = 0
  rotate_left
  · have he1 : (e0 != 0) = true := by simpa using he
    obtain ⟨rfl, rfl⟩ : X = [] ∧ Y = [] := by
      have h := HX.out
      rw [if_pos (.inl he)] at h
      exact ⟨(Prod.mk.inj h).1.symm, (Prod.mk.inj h).2.symm⟩
    clear HX he
    go_wp2_with fail
    exact bodyPost_ret (v := .tuple #[.string ⟨#[]⟩, .string ⟨#[]⟩]) (by simp [results, Tryz.results41, go_sem]) rfl ⟨rfl, hb⟩
  subst he
  have HX2 := hd (show (if e1 ≠ 0 then ([], []) else if d = [] then (t1, []) else if e5 ≠ 0 then ([], []) else (t1, t5)) = (X, Y) by have h := HX.out; rw [if_neg (by have := H9.out; simpa using this)] at h; exact h)
  clear HX
  go_wp2_with fail
  have hS := HS.out
  clear HS d0 d1 d2 d3 d4
  refine (sPut_c ⟨1, g, n, []⟩ _ (HE.out.below hb) (HW.out.below hb (Nat.le_refl _)) (by simp only; first | omega | (rw [List.length_nil]; omega)) (by simp only; first | omega | (rw [List.length_nil]; omega)) (by simp only; first | omega | (rw [List.length_nil]; omega))).mono ?_
  rw [HP1.out]
  rintro e w2 ⟨rfl, hB⟩
  replace hS := hS.keep hB hS.2.2.2.2
  have HS := hd hS
  obtain ⟨d0, d1, d2, d3, d4⟩ := hS
  replace hb := Below.up hb hB
  clear hB
  by_cases he : e1 = 0
  rotate_left
  · have he1 : (e1 != 0) = true := by simpa using he
    obtain ⟨rfl, rfl⟩ : X = [] ∧ Y = [] := by
      have h := HX2.out
      rw [if_pos he] at h
      exact ⟨(Prod.mk.inj h).1.symm, (Prod.mk.inj h).2.symm⟩
    clear HX2 he
    go_wp2_with fail
    exact bodyPost_ret (v := .tuple #[.string ⟨#[]⟩, .string ⟨#[]⟩]) (by simp [results, Tryz.results41, go_sem]) rfl ⟨rfl, hb⟩
  subst he
  have HX := hd (show (if d = [] then (t1, []) else if e5 ≠ 0 then ([], []) else (t1, t5)) = (X, Y) by have h := HX2.out; rw [if_neg (by simp)] at h; exact h)
  clear HX2
  cases ed : d.isEmpty
  rotate_left
  · have hd0 : d = [] := by simpa using ed
    obtain ⟨rfl, rfl⟩ : X = t1 ∧ Y = [] := by
      have h := HX.out
      rw [if_pos hd0] at h
      exact ⟨(Prod.mk.inj h).1.symm, (Prod.mk.inj h).2.symm⟩
    clear HX hd0
    go_wp2_with fail
    exact bodyPost_ret (v := .tuple #[.string (sOf X), .string ⟨#[]⟩]) (by simp [results, Tryz.results41, go_sem]) rfl ⟨rfl, hb⟩
  have HX2 := hd (show (if e5 ≠ 0 then ([], []) else (t1, t5)) = (X, Y) by have h := HX.out; rw [if_neg (by intro e; rw [e] at ed; simp at ed)] at h; exact h)
  clear HX
  go_wp2_with fail
  have hS := HS.out
  clear HS d0 d1 d2 d3 d4
  refine (sPut_c ⟨5, g, n, d⟩ _ (HE.out.below hb) (HW.out.below hb (Nat.le_refl _)) (by simp only; first | omega | (rw [List.length_nil]; omega)) (by simp only; first | omega | (rw [List.length_nil]; omega)) (by simp only; first | omega | (rw [List.length_nil]; omega))).mono ?_
  rw [HP5.out]
  rintro e w3 ⟨rfl, hB⟩
  replace hS := hS.keep hB hS.2.2.2.2
  have HS := hd hS
  obtain ⟨d0, d1, d2, d3, d4⟩ := hS
  replace hb := Below.up hb hB
  clear hB
  by_cases he : e5 = 0
  rotate_left
  · have he1 : (e5 != 0) = true := by simpa using he
    obtain ⟨rfl, rfl⟩ : X = [] ∧ Y = [] := by
      have h := HX2.out
      rw [if_pos he] at h
      exact ⟨(Prod.mk.inj h).1.symm, (Prod.mk.inj h).2.symm⟩
    clear HX2 he
    go_wp2_with fail
    exact bodyPost_ret (v := .tuple #[.string ⟨#[]⟩, .string ⟨#[]⟩]) (by simp [results, Tryz.results41, go_sem]) rfl ⟨rfl, hb⟩
  subst he
  obtain ⟨rfl, rfl⟩ : X = t1 ∧ Y = t5 := by
    have h := HX2.out
    rw [if_neg (by simp)] at h
    exact ⟨(Prod.mk.inj h).1.symm, (Prod.mk.inj h).2.symm⟩
  clear HX2
  go_wp2_with fail
  exact bodyPost_ret (v := .tuple #[.string (sOf X), .string (sOf Y)]) (by simp [results, Tryz.results41, go_sem]) rfl ⟨rfl, hb⟩

set_option maxRecDepth 100000 in
set_option maxHeartbeats 4000000 in
theorem refBirths_c (s : SpS) (w : World) (hzg : s.g.length ≤ 9223372036854775000) (hzn : s.n.length ≤ 9223372036854775000) (hzd : s.d.length ≤ 9223372036854775000) :
    Calls Tryz.prog 52 #[spV s] w fun e w' => e = .returned (.tuple #[.string (sOf (sBirths s).1), .string (sOf (sBirths s).2)]) ∧ Below w.heap.size w w' := by
  obtain ⟨X, Y, hX⟩ : ∃ X Y, sBirths s = (X, Y) := ⟨_, _, rfl⟩
  rw [hX]
  obtain ⟨k, g, n, d⟩ := s
  unfold sBirths at hX
  simp only at hzg hzn hzd hX ⊢
  have htd := toList_sOf d
  
  
  obtain ⟨t0, e0, hp0⟩ : ∃ t e, sPut ⟨k, g, n, d⟩ = (t, e) := ⟨_, _, rfl⟩
  obtain ⟨t1, e1, hp1⟩ : ∃ t e, sPut ⟨1, g, n, []⟩ = (t, e) := ⟨_, _, rfl⟩
  obtain ⟨t5, e5, hp5⟩ : ∃ t e, sPut ⟨5, g, n, d⟩ = (t, e) := ⟨_, _, rfl⟩
  rw [hp0, hp1, hp5] at hX
  simp only at hX
  have HX := hd hX; have HP0 := hd hp0; have HP1 := hd hp1; have HP5 := hd hp5
  clear hX hp0 hp1 hp5
  unfold spV
  have hb : Below w.heap.size w (w.alloc (.cells #[.int .i64 k, .string (sOf g), .string (sOf n), .string (sOf d)] 93)) := by go_grown
  have hS := SpAt.new w k g n d
  by_cases h9 : k = 9
  · have h9b : (k == 9) = true := by simpa using h9
    obtain ⟨rfl, rfl⟩ : X = [] ∧ Y = [] := by
      have h := HX.out
      rw [if_pos (.inr h9)] at h
      exact ⟨(Prod.mk.inj h).1.symm, (Prod.mk.inj h).2.symm⟩
    clear HX h9
    go_enter Tryz.func52, Tryz.ntmps52
    go_wp2_with fail
    exact bodyPost_ret (v := .tuple #[.string ⟨#[]⟩, .string ⟨#[]⟩]) (by simp [results, Tryz.results52, go_sem]) rfl ⟨rfl, hb⟩
  have h9b : (k == 9) = false := by simpa using h9
  have H9 := hd h9
  clear h9
  go_enter Tryz.func52, Tryz.ntmps52
  go_wp2_with fail
  refine (sRefPut_c ⟨k, g, n, d⟩ _ (by simp only; first | omega | (rw [List.length_nil]; omega)) (by simp only; first | omega | (rw [List.length_nil]; omega)) (by simp only; first | omega | (rw [List.length_nil]; omega))).mono ?_
  rw [HP0.out]
  rintro e w1 ⟨rfl, hB⟩
  replace hS := hS.keep hB hS.2.2.2.2
  have HS := hd hS
  obtain ⟨d0, d1, d2, d3, d4⟩ := hS
  replace hb := Below.up hb hB
  clear hB
  by_cases he : e0 = 0
  rotate_left
  · have he1 : (e0 != 0) = true := by simpa using he
    obtain ⟨rfl, rfl⟩ : X = [] ∧ Y = [] := by
      have h := HX.out
      rw [if_pos (.inl he)] at h
      exact ⟨(Prod.mk.inj h).1.symm, (Prod.mk.inj h).2.symm⟩
    clear HX he
    go_wp2_with fail
    exact bodyPost_ret (v := .tuple #[.string ⟨#[]⟩, .string ⟨#[]⟩]) (by simp [results, Tryz.results52, go_sem]) rfl ⟨rfl, hb⟩
  subst he
  have HX2 := hd (show (if e1 ≠ 0 then ([], []) else if d = [] then (t1, []) else if e5 ≠ 0 then ([], []) else (t1, t5)) = (X, Y) by have h := HX.out; rw [if_neg (by have := H9.out; simpa using this)] at h; exact h)
  clear HX
  go_wp2_with fail
  have hS := HS.out
  clear HS d0 d1 d2 d3 d4
  refine (sRefPut_c ⟨1, g, n, []⟩ _ (by simp only; first | omega | (rw [List.length_nil]; omega)) (by simp only; first | omega | (rw [List.length_nil]; omega)) (by simp only; first | omega | (rw [List.length_nil]; omega))).mono ?_
  rw [HP1.out]
  rintro e w2 ⟨rfl, hB⟩
  replace hS := hS.keep hB hS.2.2.2.2
  have HS := hd hS
  obtain ⟨d0, d1, d2, d3, d4⟩ := hS
  replace hb := Below.up hb hB
  clear hB
  by_cases he : e1 = 0
  rotate_left
  · have he1 : (e1 != 0) = true := by simpa using he
    obtain ⟨rfl, rfl⟩ : X = [] ∧ Y = [] := by
      have h := HX2.out
      rw [if_pos he] at h
      exact ⟨(Prod.mk.inj h).1.symm, (Prod.mk.inj h).2.symm⟩
    clear HX2 he
    go_wp2_with fail
    exact bodyPost_ret (v := .tuple #[.string ⟨#[]⟩, .string ⟨#[]⟩]) (by simp [results, Tryz.results52, go_sem]) rfl ⟨rfl, hb⟩
  subst he
  have HX := hd (show (if d = [] then (t1, []) else if e5 ≠ 0 then ([], []) else (t1, t5)) = (X, Y) by have h := HX2.out; rw [if_neg (by simp)] at h; exact h)
  clear HX2
  cases ed : d.isEmpty
  rotate_left
  · have hd0 : d = [] := by simpa using ed
    obtain ⟨rfl, rfl⟩ : X = t1 ∧ Y = [] := by
      have h := HX.out
      rw [if_pos hd0] at h
      exact ⟨(Prod.mk.inj h).1.symm, (Prod.mk.inj h).2.symm⟩
    clear HX hd0
    go_wp2_with fail
    exact bodyPost_ret (v := .tuple #[.string (sOf X), .string ⟨#[]⟩]) (by simp [results, Tryz.results52, go_sem]) rfl ⟨rfl, hb⟩
  have HX2 := hd (show (if e5 ≠ 0 then ([], []) else (t1, t5)) = (X, Y) by have h := HX.out; rw [if_neg (by intro e; rw [e] at ed; simp at ed)] at h; exact h)
  clear HX
  go_wp2_with fail
  have hS := HS.out
  clear HS d0 d1 d2 d3 d4
  refine (sRefPut_c ⟨5, g, n, d⟩ _ (by simp only; first | omega | (rw [List.length_nil]; omega)) (by simp only; first | omega | (rw [List.length_nil]; omega)) (by simp only; first | omega | (rw [List.length_nil]; omega))).mono ?_
  rw [HP5.out]
  rintro e w3 ⟨rfl, hB⟩
  replace hS := hS.keep hB hS.2.2.2.2
  have HS := hd hS
  obtain ⟨d0, d1, d2, d3, d4⟩ := hS
  replace hb := Below.up hb hB
  clear hB
  by_cases he : e5 = 0
  rotate_left
  · have he1 : (e5 != 0) = true := by simpa using he
    obtain ⟨rfl, rfl⟩ : X = [] ∧ Y = [] := by
      have h := HX2.out
      rw [if_pos he] at h
      exact ⟨(Prod.mk.inj h).1.symm, (Prod.mk.inj h).2.symm⟩
    clear HX2 he
    go_wp2_with fail
    exact bodyPost_ret (v := .tuple #[.string ⟨#[]⟩, .string ⟨#[]⟩]) (by simp [results, Tryz.results52, go_sem]) rfl ⟨rfl, hb⟩
  subst he
  obtain ⟨rfl, rfl⟩ : X = t1 ∧ Y = t5 := by
    have h := HX2.out
    rw [if_neg (by simp)] at h
    exact ⟨(Prod.mk.inj h).1.symm, (Prod.mk.inj h).2.symm⟩
  clear HX2
  go_wp2_with fail
  exact bodyPost_ret (v := .tuple #[.string (sOf X), .string (sOf Y)]) (by simp [results, Tryz.results52, go_sem]) rfl ⟨rfl, hb⟩

theorem aw20a : sTell [115, 112, 66, 118, 49, 46, 48, 47, 103, 47, 78, 66, 73, 82, 84, 72, 47, 110] = ⟨1, [103], [110], []⟩ := by decide +kernel
end Go.Proofs.YtclicjokgfiegaaGreatDoor
