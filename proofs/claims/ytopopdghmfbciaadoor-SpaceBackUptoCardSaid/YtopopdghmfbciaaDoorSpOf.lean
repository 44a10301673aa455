/- Spots and topics: the spot of a topic, births: the walks. -/
import Derived.Test.YtopopdghmfbciaaDoorSpPut
namespace Go.Proofs.YtopopdghmfbciaaDoor
open Go.RowKit
set_option linter.unusedVariables false
set_option linter.unusedSimpArgs false

theorem guess_other {p : List (List UInt8)} (h3 : p.length ≠ 3) (h4 : p.length ≠ 4) (h5 : p.length ≠ 5) : sGuess p = .zero := by
  match p, h3, h4, h5 with
  | [], _, _, _ => rfl
  | [_], _, _, _ => rfl
  | [_, _], _, _, _ => rfl
  | [_, _, _], h, _, _ => exact absurd rfl h
  | [_, _, _, _], _, h, _ => exact absurd rfl h
  | [_, _, _, _, _], _, _, h => exact absurd rfl h
  | _ :: _ :: _ :: _ :: _ :: _ :: _, _, _, _ => rfl
theorem three {α : Type} {p : List α} (h : p.length = 3) : ∃ a b c, p = [a, b, c] := by
  match p, h with
  | [a, b, c], _ => exact ⟨a, b, c, rfl⟩
theorem four {α : Type} {p : List α} (h : p.length = 4) : ∃ a b c d, p = [a, b, c, d] := by
  match p, h with
  | [a, b, c, d], _ => exact ⟨a, b, c, d, rfl⟩
theorem five {α : Type} {p : List α} (h : p.length = 5) : ∃ a b c d e, p = [a, b, c, d, e] := by
  match p, h with
  | [a, b, c, d, e], _ => exact ⟨a, b, c, d, e, rfl⟩

set_option maxRecDepth 100000 in
set_option maxHeartbeats 4000000 in
theorem guess_c (p : List (List UInt8)) (v : Value) (w : World) (hW : EnvW w) (hp : Ls w v p) : Calls Tryd.prog 62 #[v] w fun e w' => e = .returned (spV (sGuess p)) ∧ Below w.heap.size w w' := by
  have HW := hd hW
  clear hW
  obtain ⟨a, c, rfl⟩ := hp.slice
  by_cases h3 : p.length = 3
  · obtain ⟨x0, x1, x2, rfl⟩ := three h3
    obtain ⟨b, o, rfl, hbl, hc2⟩ := hp.at (k := 2) (x := x2) rfl
    rw [show ([x0, x1, x2] : List (List UInt8)).length = 3 from rfl]
    clear hp h3
    go_enter Tryd.func62, Tryd.ntmps62
    go_wp2_with fail
    exact bodyPost_ret (v := spV ⟨9, [], x2, []⟩) (by simp [results, Tryd.results62, go_sem, spV, show sOf [] = ⟨#[]⟩ from rfl]) rfl ⟨rfl, by go_grown⟩
  by_cases h4 : p.length = 4
  · obtain ⟨x0, x1, x2, x3, rfl⟩ := four h4
    obtain ⟨b, o, rfl, hbl, hc1⟩ := hp.at (k := 1) (x := x1) rfl
    obtain ⟨b2, o2, ho2, hbl2, hc2⟩ := hp.at (k := 2) (x := x2) rfl
    obtain ⟨rfl, rfl⟩ : b = b2 ∧ o = o2 := by simpa using ho2
    clear ho2 hbl2
    obtain ⟨b2, o2, ho2, hbl2, hc3⟩ := hp.at (k := 3) (x := x3) rfl
    obtain ⟨rfl, rfl⟩ : b = b2 ∧ o = o2 := by simpa using ho2
    clear ho2 hbl2
    rw [show ([x0, x1, x2, x3] : List (List UInt8)).length = 4 from rfl]
    clear hp h3 h4
    obtain ⟨kd, hkd⟩ : ∃ kd, sKind x2 = kd := ⟨_, rfl⟩
    have HK := hd hkd
    rw [show sGuess [x0, x1, x2, x3] = ⟨sKind x2, x1, x3, []⟩ from rfl, hkd]
    clear hkd
    go_enter Tryd.func62, Tryd.ntmps62
    go_wp2_with fail
    refine wp_region_M (fun W => W.cell? ⟨b, o + 1, none⟩ = some (.string (sOf x1)) ∧ W.cell? ⟨b, o + 2, none⟩ = some (.string (sOf x2)) ∧ W.cell? ⟨b, o + 3, none⟩ = some (.string (sOf x3))) 11 [(0, false), (1, false), (2, false), (4, false), (5, false), (6, false), (7, false), (8, false), (9, false), (3, true), (10, false), (11, true)] (by kernel_rfl) (by kernel_rfl) (fun _ _ _ _ h => h) ⟨(World.cell?_alloc_lt _ _ ⟨b, _, none⟩ hbl).trans hc1, (World.cell?_alloc_lt _ _ ⟨b, _, none⟩ hbl).trans hc2, (World.cell?_alloc_lt _ _ ⟨b, _, none⟩ hbl).trans hc3⟩ ?_
    apply wpM_still (by rfl) (by rfl)
    · intro W hC
      obtain ⟨d1, d2, d3⟩ := hC
      go_simp
      rfl
    go_simp
    apply wpM_still (by rfl) (by rfl)
    · intro W hC
      obtain ⟨d1, d2, d3⟩ := hC
      go_simp
      rfl
    go_simp
    apply wpM_still (by rfl) (by rfl)
    · intro W hC
      obtain ⟨d1, d2, d3⟩ := hC
      go_simp
      rfl
    go_simp
    apply wpM_still (by rfl) (by rfl)
    · intro W hC
      obtain ⟨d1, d2, d3⟩ := hC
      go_simp
      rfl
    go_simp
    apply wpM_still (by rfl) (by rfl)
    · intro W hC
      obtain ⟨d1, d2, d3⟩ := hC
      go_simp
      rfl
    go_simp
    apply wpM_still (by rfl) (by rfl)
    · intro W hC
      obtain ⟨d1, d2, d3⟩ := hC
      go_simp
      rfl
    go_simp
    apply wpM_still (by rfl) (by rfl)
    · intro W hC
      obtain ⟨d1, d2, d3⟩ := hC
      go_simp
      rfl
    go_simp
    apply wpM_still (by rfl) (by rfl)
    · intro W hC
      obtain ⟨d1, d2, d3⟩ := hC
      go_simp
      rfl
    go_simp
    apply wpM_still (by rfl) (by rfl)
    · intro W hC
      obtain ⟨d1, d2, d3⟩ := hC
      go_simp
      rfl
    go_simp
    apply wpM_move (by rfl) (by rfl)
    intro K hK
    go_simp
    refine (Kind_c x2 _ (HW.out.below (B := w.heap.size) (by go_grown) (Nat.le_refl _))).mono ?_
    rw [HK.out]
    rintro e w' ⟨rfl, rfl⟩
    go_simp
    refine hK _ _ (fun _ => ⟨(World.cell?_alloc_lt _ _ ⟨b, _, none⟩ hbl).trans hc1, (World.cell?_alloc_lt _ _ ⟨b, _, none⟩ hbl).trans hc2, (World.cell?_alloc_lt _ _ ⟨b, _, none⟩ hbl).trans hc3⟩) ?_
    clear hK K
    apply wpM_still (by rfl) (by rfl)
    · intro W hC
      obtain ⟨d1, d2, d3⟩ := hC
      go_simp
      rfl
    go_simp
    apply wpM_move (by rfl) (by rfl)
    intro K hK
    go_simp
    refine hK _ _ (fun h => absurd h (by decide)) ?_
    clear hK K
    refine wpM_nil ?_
    go_wp2_with fail
    exact bodyPost_ret (v := spV ⟨kd, x1, x3, []⟩) (by simp [results, Tryd.results62, go_sem, spV, show sOf [] = ⟨#[]⟩ from rfl]) rfl ⟨rfl, by go_grown⟩
  by_cases h5 : p.length = 5
  · obtain ⟨x0, x1, x2, x3, x4, rfl⟩ := five h5
    obtain ⟨b, o, rfl, hbl, hc1⟩ := hp.at (k := 1) (x := x1) rfl
    obtain ⟨b2, o2, ho2, hbl2, hc2⟩ := hp.at (k := 2) (x := x2) rfl
    obtain ⟨rfl, rfl⟩ : b = b2 ∧ o = o2 := by simpa using ho2
    clear ho2 hbl2
    obtain ⟨b2, o2, ho2, hbl2, hc3⟩ := hp.at (k := 3) (x := x3) rfl
    obtain ⟨rfl, rfl⟩ : b = b2 ∧ o = o2 := by simpa using ho2
    clear ho2 hbl2
    obtain ⟨b2, o2, ho2, hbl2, hc4⟩ := hp.at (k := 4) (x := x4) rfl
    obtain ⟨rfl, rfl⟩ : b = b2 ∧ o = o2 := by simpa using ho2
    clear ho2 hbl2
    rw [show ([x0, x1, x2, x3, x4] : List (List UInt8)).length = 5 from rfl]
    clear hp h3 h4 h5
    obtain ⟨kd, hkd⟩ : ∃ kd, sKind x2 = kd := ⟨_, rfl⟩
    have HK := hd hkd
    rw [show sGuess [x0, x1, x2, x3, x4] = ⟨sKind x2, x1, x3, x4⟩ from rfl, hkd]
    clear hkd
    go_enter Tryd.func62, Tryd.ntmps62
    go_wp2_with fail
    refine wp_region_M (fun W => W.cell? ⟨b, o + 1, none⟩ = some (.string (sOf x1)) ∧ W.cell? ⟨b, o + 2, none⟩ = some (.string (sOf x2)) ∧ W.cell? ⟨b, o + 3, none⟩ = some (.string (sOf x3)) ∧ W.cell? ⟨b, o + 4, none⟩ = some (.string (sOf x4))) 14 [(0, false), (1, false), (2, false), (4, false), (5, false), (6, false), (7, false), (8, false), (9, false), (10, false), (11, false), (12, false), (3, true), (13, false), (14, true)] (by kernel_rfl) (by kernel_rfl) (fun _ _ _ _ h => h) ⟨(World.cell?_alloc_lt _ _ ⟨b, _, none⟩ hbl).trans hc1, (World.cell?_alloc_lt _ _ ⟨b, _, none⟩ hbl).trans hc2, (World.cell?_alloc_lt _ _ ⟨b, _, none⟩ hbl).trans hc3, (World.cell?_alloc_lt _ _ ⟨b, _, none⟩ hbl).trans hc4⟩ ?_
    apply wpM_still (by rfl) (by rfl)
    · intro W hC
      obtain ⟨d1, d2, d3, d4⟩ := hC
      go_simp
      rfl
    go_simp
    apply wpM_still (by rfl) (by rfl)
    · intro W hC
      obtain ⟨d1, d2, d3, d4⟩ := hC
      go_simp
      rfl
    go_simp
    apply wpM_still (by rfl) (by rfl)
    · intro W hC
      obtain ⟨d1, d2, d3, d4⟩ := hC
      go_simp
      rfl
    go_simp
    apply wpM_still (by rfl) (by rfl)
    · intro W hC
      obtain ⟨d1, d2, d3, d4⟩ := hC
      go_simp
      rfl
    go_simp
    apply wpM_still (by rfl) (by rfl)
    · intro W hC
      obtain ⟨d1, d2, d3, d4⟩ := hC
      go_simp
      rfl
    go_simp
    apply wpM_still (by rfl) (by rfl)
    · intro W hC
      obtain ⟨d1, d2, d3, d4⟩ := hC
      go_simp
      rfl
    go_simp
    apply wpM_still (by rfl) (by rfl)
    · intro W hC
      obtain ⟨d1, d2, d3, d4⟩ := hC
      go_simp
      rfl
    go_simp
    apply wpM_still (by rfl) (by rfl)
    · intro W hC
      obtain ⟨d1, d2, d3, d4⟩ := hC
      go_simp
      rfl
    go_simp
    apply wpM_still (by rfl) (by rfl)
    · intro W hC
      obtain ⟨d1, d2, d3, d4⟩ := hC
      go_simp
      rfl
    go_simp
    apply wpM_still (by rfl) (by rfl)
    · intro W hC
      obtain ⟨d1, d2, d3, d4⟩ := hC
      go_simp
      rfl
    go_simp
    apply wpM_still (by rfl) (by rfl)
    · intro W hC
      obtain ⟨d1, d2, d3, d4⟩ := hC
      go_simp
      rfl
    go_simp
    apply wpM_still (by rfl) (by rfl)
    · intro W hC
      obtain ⟨d1, d2, d3, d4⟩ := hC
      go_simp
      rfl
    go_simp
    apply wpM_move (by rfl) (by rfl)
    intro K hK
    go_simp
    refine (Kind_c x2 _ (HW.out.below (B := w.heap.size) (by go_grown) (Nat.le_refl _))).mono ?_
    rw [HK.out]
    rintro e w' ⟨rfl, rfl⟩
    go_simp
    refine hK _ _ (fun _ => ⟨(World.cell?_alloc_lt _ _ ⟨b, _, none⟩ hbl).trans hc1, (World.cell?_alloc_lt _ _ ⟨b, _, none⟩ hbl).trans hc2, (World.cell?_alloc_lt _ _ ⟨b, _, none⟩ hbl).trans hc3, (World.cell?_alloc_lt _ _ ⟨b, _, none⟩ hbl).trans hc4⟩) ?_
    clear hK K
    apply wpM_still (by rfl) (by rfl)
    · intro W hC
      obtain ⟨d1, d2, d3, d4⟩ := hC
      go_simp
      rfl
    go_simp
    apply wpM_move (by rfl) (by rfl)
    intro K hK
    go_simp
    refine hK _ _ (fun h => absurd h (by decide)) ?_
    clear hK K
    refine wpM_nil ?_
    go_wp2_with fail
    exact bodyPost_ret (v := spV ⟨kd, x1, x3, x4⟩) (by simp [results, Tryd.results62, go_sem, spV, show sOf [] = ⟨#[]⟩ from rfl]) rfl ⟨rfl, by go_grown⟩
  rw [guess_other h3 h4 h5]
  have h3b : ((p.length : Int) == 3) = false := by simp; omega
  have h4b : ((p.length : Int) == 4) = false := by simp; omega
  have h5b : ((p.length : Int) == 5) = false := by simp; omega
  clear h3 h4 h5 hp
  go_enter Tryd.func62, Tryd.ntmps62
  go_wp2_with fail
  exact bodyPost_ret (v := spV .zero) (by simp [results, Tryd.results62, go_sem, spV, SpS.zero, sOf]) rfl ⟨rfl, by go_grown⟩

theorem guess_len {M : Nat} : ∀ {p : List (List UInt8)}, (∀ x ∈ p, x.length ≤ M) → (sGuess p).g.length ≤ M ∧ (sGuess p).n.length ≤ M ∧ (sGuess p).d.length ≤ M
  | [], _ => by simp [sGuess, SpS.zero]
  | [_], _ => by simp [sGuess, SpS.zero]
  | [_, _], _ => by simp [sGuess, SpS.zero]
  | [_, _, c], h => ⟨by simp [sGuess], h c (by simp), by simp [sGuess]⟩
  | [_, b, _, d], h => ⟨h b (by simp), h d (by simp), by simp [sGuess]⟩
  | [_, b, _, d, e], h => ⟨h b (by simp), h d (by simp), h e (by simp)⟩
  | _ :: _ :: _ :: _ :: _ :: _ :: _, _ => by simp [sGuess, SpS.zero]
theorem SpAt.new (w : World) (k : Int) (g n d : List UInt8) : SpAt (w.alloc (.cells #[.int .i64 k, .string (sOf g), .string (sOf n), .string (sOf d)] 33)) w.heap.size k g n d :=
  ⟨World.cell?_alloc_new _ _ _ 0, World.cell?_alloc_new _ _ _ 1, World.cell?_alloc_new _ _ _ 2, World.cell?_alloc_new _ _ _ 3, by simp [go_sem]⟩
def SpFree (w : World) (b : Nat) : Prop := ∀ o, w.frozen? ⟨b, o, none⟩ = false
theorem SpAt.put {W : World} {b : Nat} {k k0 : Int} {g n d g0 n0 d0 : List UInt8} (h : SpAt W b k0 g0 n0 d0) : SpAt ((((W.setCell ⟨b, 0, none⟩ (.int .i64 k)).setCell ⟨b, 1, none⟩ (.string (sOf g))).setCell ⟨b, 2, none⟩ (.string (sOf n))).setCell ⟨b, 3, none⟩ (.string (sOf d))) b k g n d := by
  obtain ⟨h0, h1, h2, h3, h4⟩ := h
  exact ⟨by simp [go_sem, h0], by simp [go_sem, h1], by simp [go_sem, h2], by simp [go_sem, h3], by simpa [go_sem] using h4⟩
theorem below_put4 {w W : World} {b : Nat} {v0 v1 v2 v3 : Value} (h : Below w.heap.size w W) (hb : w.heap.size ≤ b) : Below w.heap.size w ((((W.setCell ⟨b, 0, none⟩ v0).setCell ⟨b, 1, none⟩ v1).setCell ⟨b, 2, none⟩ v2).setCell ⟨b, 3, none⟩ v3) := by
  iterate 4 refine Below.setCell ?_ hb _
  exact h
theorem ofRead {w' : World} {gr : Nat} {tmps : Array Value} {k : Int} {g n d : List UInt8} (h2 : tmps[2]?.getD undef = .pointer (some ⟨gr, 0, none⟩)) (hc : SpAt w' gr k g n d) :
    (results Tryd.f35 tmps).run Tryd.prog w' = .ok (spV ⟨k, g, n, d⟩) w' := by
  obtain ⟨d0, d1, d2, d3, _⟩ := hc
  simp [results, Tryd.results35, go_sem, h2, d0, d1, d2, d3, spV]
set_option maxRecDepth 100000 in
set_option maxHeartbeats 4000000 in
theorem Of_c (l : List UInt8) (w : World) (hE : EnvU w) (hW : EnvW w) (hs : l.length ≤ 100000000) : Calls Tryd.prog 35 #[.string (sOf l)] w fun e w' => e = .returned (spV (sTell l)) ∧ Below w.heap.size w w' := by
  have HE := hd hE; have HW := hd hW
  clear hE hW
  have htl := toList_sOf l
  have hgl := guess_len (M := l.length) (p := lSplit l) (fun x hx => (lSplit_parts l x hx).2)
  obtain ⟨X, hX⟩ : ∃ X, sTell l = X := ⟨_, rfl⟩
  rw [hX]
  unfold sTell at hX
  have HX := hd hX; have HGL := hd hgl
  clear hX hgl
  go_enter Tryd.func35, Tryd.ntmps35
  go_wp2_with fail
  have hb : Below w.heap.size w (w.alloc (.cells #[.int .i64 0, .string ⟨#[]⟩, .string ⟨#[]⟩, .string ⟨#[]⟩] 33)) := by go_grown
  have hR : SpAt (w.alloc (.cells #[.int .i64 0, .string ⟨#[]⟩, .string ⟨#[]⟩, .string ⟨#[]⟩] 33)) w.heap.size 0 [] [] [] := SpAt.new w 0 [] [] []
  have hF : SpFree (w.alloc (.cells #[.int .i64 0, .string ⟨#[]⟩, .string ⟨#[]⟩, .string ⟨#[]⟩] 33)) w.heap.size := fun o => by simp [go_sem]
  have hlt := hR.2.2.2.2
  refine (Split_c l _ hs).mono ?_
  rintro e w1 ⟨v1, rfl, ho, hB⟩
  replace hF : SpFree w1 w.heap.size := fun o => (bfree hB _ _ hlt).trans (hF o)
  replace hR := hR.keep hB hlt
  replace hb := Below.up hb hB
  replace hlt := hR.2.2.2.2
  have HL := hd ho.ls
  clear ho hB
  have HR := hd hR; have HF := hd hF
  clear hR hF
  go_wp2_with fail
  refine (guess_c _ _ _ (HW.out.below hb (Nat.le_refl _)) HL.out).mono ?_
  rintro e w2 ⟨rfl, hB⟩
  replace HF : Hd (SpFree w2 w.heap.size) := hd fun o => (bfree hB _ _ hlt).trans (HF.out o)
  replace HR := hd (HR.out.keep hB hlt)
  replace hb := Below.up hb hB
  clear hlt HL hB
  have hlt := HR.out.2.2.2.2
  generalize sGuess (lSplit l) = s at *
  obtain ⟨k, g, n, d⟩ := s
  simp only [spV] at HX HGL ⊢
  obtain ⟨z1, z2, z3⟩ := HGL.out
  clear HGL
  go_wp2_with fail
  have hA := SpAt.new w2 k g n d
  have hal : Below w2.heap.size w2 (w2.alloc (.cells #[.int .i64 k, .string (sOf g), .string (sOf n), .string (sOf d)] 33)) := by go_grown
  have hS := hd hA
  have hF : SpFree (w2.alloc (.cells #[.int .i64 k, .string (sOf g), .string (sOf n), .string (sOf d)] 33)) w.heap.size := fun o => (bfree hal _ _ hlt).trans (HF.out o)
  have hR := HR.out.keep hal hlt
  replace hb := Below.up hb hal
  clear HF HR hal hA
  refine (Put_c ⟨k, g, n, d⟩ _ (HE.out.below hb) (HW.out.below hb (Nat.le_refl _)) (by simp only; omega) (by simp only; omega) (by simp only; omega)).mono ?_
  rintro e w3 ⟨rfl, hB⟩
  have hlt2 := hS.out.2.2.2.2
  have hS2 := hS.out.keep hB hlt2
  have hF2 : SpFree w3 w.heap.size := fun o => (bfree hB _ _ hR.2.2.2.2).trans (hF o)
  have hR2 := hR.keep hB hR.2.2.2.2
  replace hb := Below.up hb hB
  clear hS hF hR hB hlt hlt2 z1 z2 z3
  generalize sPut ⟨k, g, n, d⟩ = pe at *
  obtain ⟨t, ee⟩ := pe
  simp only at HX ⊢
  have htt := toList_sOf t
  have HR := hd hR2; have HF := hd hF2
  obtain ⟨r0, r1, r2, r3, r4⟩ := hR2
  have f0 := hF2 0; have f1 := hF2 1; have f2 := hF2 2; have f3 := hF2 3
  obtain ⟨s0, s1, s2, s3, s4⟩ := hS2
  clear hF2
  by_cases he : ee = 0
  rotate_left
  · have he1 : (ee != 0) = true := by simpa using he
    have hx : X = .zero := by rw [← HX.out, if_pos (.inl he)]
    have Hx := hd hx
    clear hx he HX
    go_wp2_with fail
    exact bodyPost_ret (ofRead rfl (HR.out.put (k := 0) (g := []) (n := []) (d := []))) rfl ⟨by rw [Hx.out]; rfl, below_put4 hb (Nat.le_refl _)⟩
  subst he
  cases ht : (t == l)
  · have ht1 : (t != l) = true := by simp [bne, ht]
    have hx : X = .zero := by rw [← HX.out, if_pos (.inr (by simpa using ht))]
    have Hx := hd hx
    clear hx HX
    go_wp2_with fail
    exact bodyPost_ret (ofRead rfl (HR.out.put (k := 0) (g := []) (n := []) (d := []))) rfl ⟨by rw [Hx.out]; rfl, below_put4 hb (Nat.le_refl _)⟩
  · have ht1 : (t != l) = false := by simp [bne, ht]
    have hx : X = ⟨k, g, n, d⟩ := by rw [← HX.out, if_neg (by simpa using ht)]
    have Hx := hd hx
    clear hx HX
    go_wp2_with fail
    exact bodyPost_ret (ofRead rfl (HR.out.put (k := k) (g := g) (n := n) (d := d))) rfl ⟨by rw [Hx.out], below_put4 hb (Nat.le_refl _)⟩
end Go.Proofs.YtopopdghmfbciaaDoor
