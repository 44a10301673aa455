/- A bundle of texts (merged for the limit on files): ConRefOf. -/
import Derived.Test.YtjlnlgemngpelaaGreatDoorZa27
import Derived.Test.YtjlnlgemngpelaaGreatDoorZa28
import Derived.Test.YtjlnlgemngpelaaGreatDoorZa29
/- Who comes: what bytes tell, by the reference: the walk of Of. -/
namespace Go.Proofs.YtjlnlgemngpelaaGreatDoor
open Go.RowKit
set_option linter.unusedVariables false
set_option linter.unusedSimpArgs false

theorem refRest_c (c : Con) (v : Value) (l : List UInt8) (at' q : Int) (r : Bool) (w : World) (hv : Bs w v l) :
    Calls Tryz.prog 135 #[.agg c.cells.toArray, v, .int .i64 at', .int .i64 q, .bool r] w (GivesQ w (qRest c l (at', 0) q r)) := by
  cases h : c.hasWill
  · exact refRestF_c c v l at' q r w hv h
  · exact refRestT_c c v l at' q r w hv h
theorem oRead {w' : World} {gr : Nat} {tmps : Array Value} {C : Con} {x : Int} (h2 : tmps[2]?.getD undef = .pointer (some ⟨gr, 0, none⟩)) (h3 : tmps[3]?.getD undef = .int .i64 x) (hc : ConAt w' gr C) :
    (results Tryz.f96 tmps).run Tryz.prog w' = .ok (.tuple #[.agg C.cells.toArray, .int .i64 x]) w' := by
  simp only [ConAt] at hc
  obtain ⟨d0, d1, d2, d3, d4, d5, d6, d7, d8, d9, d10, d11, d12, dl⟩ := hc
  simp [results, Tryz.results96, go_sem, h2, h3, d0, d1, d2, d3, d4, d5, d6, d7, d8, d9, d10, d11, d12, Con.cells]
theorem oDone {w w' : World} {l : List UInt8} {X : Con} {e : Int} (h : cOf l = (X, e)) (hb : Below w.heap.size w w') : GivesC w l (.returned (.tuple #[.agg X.cells.toArray, .int .i64 e])) w' := by
  unfold GivesC; rw [h]; exact ⟨rfl, hb⟩

/-- The state of the reference's Of: its result's block. -/
structure OQ (w W : World) (gr : Nat) : Prop where
  cr : ConAt W gr Con.zero
  fr : Free W gr
  b : Below w.heap.size w W
theorem OQ.call {w W W' : World} {gr : Nat} (h : OQ w W gr) (hb : Below W.heap.size W W') : OQ w W' gr :=
  ⟨h.cr.keep hb h.cr.lt, h.fr.below hb h.cr.lt, Below.up h.b hb⟩

set_option maxRecDepth 100000 in
set_option maxHeartbeats 16000000 in
theorem refConOf_c (b : ByteArray) (w : World) (hs : b.size ≤ 140737488351232) :
    Calls Tryz.prog 96 #[.string b] w (GivesC w (sB b)) := by
  go_enter Tryz.func96, Tryz.ntmps96
  go_wp2_with fail
  refine upon_bytes2 (by omega) fun d1 k1 w1 hs1 hb1 hd0 hd1 => ?_
  have hS : OQ w w1 w.heap.size := ⟨(ConAt.new w Con.zero).keep hb1 (by simp), fun o => (bfree hb1 _ _ (by simp)).trans (by simp [go_sem]), Below.up (by go_grown) hb1⟩
  have hsl : Hd ((sB b).length = b.size) := sB_len b
  clear hb1 hd0 hd1
  generalize sB b = l at *
  go_wp2_with fail
  refine (refGet_c _ l 0 _ hs1).mono ?_
  rintro e w2 ⟨rfl, hb⟩
  replace hS := hS.call hb
  have hs2 := hs1.below' hb (Nat.le_refl _)
  clear hb hs1
  have hrg := @uGet_rng l 0
  have g1 := @cOf_get l
  have g2 := @cOf_name l
  have g3 := @cOf_lv l
  have g4 := @cOf_lv4 l
  have g5 := @cOf_4 l
  generalize uGet l 0 = g at *
  obtain ⟨nm, n, e⟩ := g
  simp only at hrg g1 g2 ⊢
  by_cases he : e = 0
  rotate_left
  · have heb : (e != 0) = true := by simpa using he
    have hQ := hd (g1 rfl he)
    clear g1 g2 g3 g4 g5 hrg
    have hccd := hS.cr
    simp only [ConAt, Con.zero] at hccd
    obtain ⟨d0, d1, d2, d3, d4, d5, d6, d7, d8, d9, d10, d11, d12, -⟩ := hccd
    have z0 := hS.fr 0; have z1 := hS.fr 1; have z2 := hS.fr 2; have z3 := hS.fr 3; have z4 := hS.fr 4; have z5 := hS.fr 5; have z6 := hS.fr 6; have z7 := hS.fr 7; have z8 := hS.fr 8; have z9 := hS.fr 9; have z10 := hS.fr 10; have z11 := hS.fr 11; have z12 := hS.fr 12
    go_wp2_with fail
    exact bodyPost_ret (oRead rfl rfl (hS.cr.put Con.zero)) rfl (oDone hQ.out (below_put hS.b (Nat.le_refl _) Con.zero))
  -- PRINTED by wip/gen/conrefof.py
  subst he
  obtain ⟨-, hn2, -⟩ := hrg rfl
  by_cases hnm : nm = [77, 81, 84, 84]
  rotate_left
  · have hx : (!(sOf nm).toList == [77, 81, 84, 84]) = true := by rw [sOf_toList]; simpa using hnm
    have hQ := hd (g2 rfl hnm)
    clear g1 g2 g3 g4 g5
    have hccd := hS.cr
    simp only [ConAt, Con.zero] at hccd
    obtain ⟨d0, d1', d2, d3, d4, d5, d6, d7, d8, d9, d10, d11, d12, -⟩ := hccd
    have z0 := hS.fr 0; have z1 := hS.fr 1; have z2 := hS.fr 2; have z3 := hS.fr 3; have z4 := hS.fr 4; have z5 := hS.fr 5; have z6 := hS.fr 6; have z7 := hS.fr 7; have z8 := hS.fr 8; have z9 := hS.fr 9; have z10 := hS.fr 10; have z11 := hS.fr 11; have z12 := hS.fr 12
    go_wp2_with fail
    exact bodyPost_ret (oRead rfl rfl (hS.cr.put Con.zero)) rfl (oDone hQ.out (below_put hS.b (Nat.le_refl _) Con.zero))
  subst hnm
  have hx : (!(sOf [77, 81, 84, 84]).toList == [77, 81, 84, 84]) = false := by rw [sOf_toList]; rfl
  obtain ⟨k, rfl⟩ := Int.eq_ofNat_of_zero_le (show 0 ≤ n by have := hrg rfl; omega)
  clear hrg hn2
  have hlb : l.length ≤ 140737488351232 := by have := hsl.out; omega
  by_cases hlen : (l.length : Int) ≤ k
  · skip
    have hQ := hd (g3 rfl hlen)
    clear g1 g2 g3 g4 g5
    have hccd := hS.cr
    simp only [ConAt, Con.zero] at hccd
    obtain ⟨d0, d1', d2, d3, d4, d5, d6, d7, d8, d9, d10, d11, d12, -⟩ := hccd
    have z0 := hS.fr 0; have z1 := hS.fr 1; have z2 := hS.fr 2; have z3 := hS.fr 3; have z4 := hS.fr 4; have z5 := hS.fr 5; have z6 := hS.fr 6; have z7 := hS.fr 7; have z8 := hS.fr 8; have z9 := hS.fr 9; have z10 := hS.fr 10; have z11 := hS.fr 11; have z12 := hS.fr 12
    go_wp2_with fail
    exact bodyPost_ret (oRead rfl rfl (hS.cr.put Con.zero)) rfl (oDone hQ.out (below_put hS.b (Nat.le_refl _) Con.zero))
  have hkl : k < l.length := by omega
  obtain ⟨bb, oo, rfl, hcell⟩ : ∃ bb oo, d1 = ⟨bb, oo, none⟩ ∧ ∀ j, j < l.length → w2.cell? ⟨bb, oo + j, none⟩ = some (.int .u8 (bN l j)) := by
    rcases hs2.split with ⟨hn, _⟩ | ⟨_, b, o, c, hv, _, _, _, hcell⟩
    · rw [hn] at hkl; simp at hkl
    · simp only [Value.slice.injEq, Option.some.injEq] at hv; exact ⟨b, o, hv.1, hcell⟩
  have hk0 := hcell k hkl
  have hl0 : w.heap.size < w2.heap.size := hS.cr.lt
  clear hlen
  by_cases hb4 : (bN l k : Int) = 4
  rotate_left
  · have hb4b : ((bN l k : Int) != 4) = true := by simpa using hb4
    clear hcell
    have hbk := bN_lt l k
    have hQ := hd (show cOf l = ((⟨(bN l k : Int), false, 0, ⟨#[]⟩, false, ⟨#[]⟩, ⟨#[]⟩, 0, false, false, ⟨#[]⟩, false, ⟨#[]⟩⟩ : Con), (0 : Int)) from g4 rfl (by omega) hb4)
    clear g1 g2 g3 g4 g5
    have hccd := hS.cr
    simp only [ConAt, Con.zero] at hccd
    obtain ⟨d0, d1', d2, d3, d4, d5, d6, d7, d8, d9, d10, d11, d12, -⟩ := hccd
    have z0 := hS.fr 0; have z1 := hS.fr 1; have z2 := hS.fr 2; have z3 := hS.fr 3; have z4 := hS.fr 4; have z5 := hS.fr 5; have z6 := hS.fr 6; have z7 := hS.fr 7; have z8 := hS.fr 8; have z9 := hS.fr 9; have z10 := hS.fr 10; have z11 := hS.fr 11; have z12 := hS.fr 12
    go_wp2_with fail
    exact bodyPost_ret (oRead rfl rfl (hS.cr.put (⟨(bN l k : Int), false, 0, ⟨#[]⟩, false, ⟨#[]⟩, ⟨#[]⟩, 0, false, false, ⟨#[]⟩, false, ⟨#[]⟩⟩ : Con))) rfl (oDone hQ.out (below_put hS.b (Nat.le_refl _) (⟨(bN l k : Int), false, 0, ⟨#[]⟩, false, ⟨#[]⟩, ⟨#[]⟩, 0, false, false, ⟨#[]⟩, false, ⟨#[]⟩⟩ : Con)))
  have hb4b : ((bN l k : Int) != 4) = false := by simpa using hb4
  by_cases hl2 : (l.length : Int) ≤ k + 1
  · clear hcell
    have hQ := hd ((g5 rfl (by omega) hb4).trans (c4_short hl2))
    clear g1 g2 g3 g4 g5
    have hccd := hS.cr
    simp only [ConAt, Con.zero] at hccd
    obtain ⟨d0, d1', d2, d3, d4, d5, d6, d7, d8, d9, d10, d11, d12, -⟩ := hccd
    have z0 := hS.fr 0; have z1 := hS.fr 1; have z2 := hS.fr 2; have z3 := hS.fr 3; have z4 := hS.fr 4; have z5 := hS.fr 5; have z6 := hS.fr 6; have z7 := hS.fr 7; have z8 := hS.fr 8; have z9 := hS.fr 9; have z10 := hS.fr 10; have z11 := hS.fr 11; have z12 := hS.fr 12
    go_wp2_with fail
    exact bodyPost_ret (oRead rfl rfl (hS.cr.put Con.zero)) rfl (oDone hQ.out (below_put hS.b (Nat.le_refl _) Con.zero))
  have hkl2 : k + 1 < l.length := by omega
  have hk1 := hcell (k + 1) hkl2
  have hof := g5 rfl (by omega) hb4
  have hfr := bN_lt l (k + 1)
  rw [hb4] at hk0
  have hm1 := @c4_flags l ((k : Int) + 1) (by omega)
  have hm2 := @c4_two l ((k : Int) + 1) (by omega)
  have hm3 := fun (N m : Int) => @c4_rest l ((k : Int) + 1) m N (by omega)
  simp only [show ((k : Int) + 1).toNat = k + 1 from by omega] at hm1 hm2 hm3
  obtain ⟨fb2, fb4, fb32, fb64, fb128⟩ := fb_of (f := (bN l (k + 1) : Int)) (by omega) (by omega)
  obtain ⟨-, -, -, -, -, -, fb8⟩ := bits_of (f := (bN l (k + 1) : Int)) (by omega) (by omega)
  simp only [fb2, fb4, fb32, fb64, fb128, fb8] at hm3
  clear fb2 fb4 fb32 fb64 fb128 fb8 g1 g2 g3 g4 g5 hcell hb4 hb4b hl2
  have HM2 := hd hm2; have HM3 := hd hm3; have HO := hd hof; have HM1 := hd hm1; clear hm1 hm2 hm3 hof
  obtain ⟨F, hF⟩ : ∃ F : Int, (bN l (k + 1) : Int) = F := ⟨_, rfl⟩
  have F0 : 0 ≤ F := by omega
  have F1 : F ≤ 255 := by omega
  rw [hF] at hk1 HM1 HM2 HM3
  clear hF hfr
  have hl2 : ¬ (l.length : Int) ≤ k + 1 := by omega
  have e2 : (k : Int) + 1 + 1 = k + 2 := by omega
  have hm2 := HM2.out
  have hm3 := HM3.out
  rw [e2] at hm2
  simp only [e2] at hm3
  have HM2 := hd hm2
  have HM3 := hd hm3
  clear hm2 hm3 e2
  rcases (show F % 2 = 0 ∨ F % 2 = 1 by omega) with a1 | a1
  · skip
    rcases (show F / 4 % 2 = 0 ∨ F / 4 % 2 = 1 by omega) with a4 | a4
    · skip
      by_cases a8 : F / 8 % 4 = 0
      · skip
        rcases (show F / 32 % 2 = 0 ∨ F / 32 % 2 = 1 by omega) with a32 | a32
        · skip
          rcases (show F / 64 % 2 = 0 ∨ F / 64 % 2 = 1 by omega) with a64 | a64
          · skip
            have hmay := hd (show cMay F = true by unfold cMay; simp [a1, a4, a8, a32, a64])
            have hm3 := HM3.out
            have e4 : (F / 4 % 2 == 1) = false := by simp [a1, a4, a8, a32, a64]
            have e8 : F / 8 % 4 = 0 := by simp [a1, a4, a8, a32, a64]
            have e32 : (F / 32 % 2 == 1) = false := by simp [a1, a4, a8, a32, a64]
            have e64 : (F / 64 % 2 == 1) = false := by simp [a1, a4, a8, a32, a64]
            simp only [e4, e8, e32, e64] at hm3
            have HM3 := hd hm3
            clear hm3 e4 e8 e32 e64
            go_wp2_with fail
            have hcon := (ConAt.new w2 ⟨4, (F / 2 % 2 == 1), 0, ⟨#[]⟩, false, ⟨#[]⟩, ⟨#[]⟩, 0, false, (decide (128 ≤ F)), ⟨#[]⟩, false, ⟨#[]⟩⟩)
            have hfr : Free (w2.alloc (Obj.cells (Con.cells ⟨4, (F / 2 % 2 == 1), 0, ⟨#[]⟩, false, ⟨#[]⟩, ⟨#[]⟩, 0, false, (decide (128 ≤ F)), ⟨#[]⟩, false, ⟨#[]⟩⟩).toArray 32)) w2.heap.size := fun o => by simp [go_sem]
            replace hS := hS.call ((Below.refl w2.heap.size w2).alloc (Nat.le_refl _) (Obj.cells (Con.cells ⟨4, (F / 2 % 2 == 1), 0, ⟨#[]⟩, false, ⟨#[]⟩, ⟨#[]⟩, 0, false, (decide (128 ≤ F)), ⟨#[]⟩, false, ⟨#[]⟩⟩).toArray 32))
            have hs3 := hs2.below' ((Below.refl w2.heap.size w2).alloc (Nat.le_refl _) (Obj.cells (Con.cells ⟨4, (F / 2 % 2 == 1), 0, ⟨#[]⟩, false, ⟨#[]⟩, ⟨#[]⟩, 0, false, (decide (128 ≤ F)), ⟨#[]⟩, false, ⟨#[]⟩⟩).toArray 32)) (Nat.le_refl _)
            have hgw : w.heap.size < w2.heap.size := hl0
            refine (refGet2_c _ l (k + 2) _ hs3).mono ?_
            rintro e w3 ⟨rfl, hb⟩
            replace hcon := hcon.keep hb hcon.lt
            replace hfr := hfr.below hb (by simp)
            replace hS := hS.call hb
            replace hs3 := hs3.below' hb (Nat.le_refl _)
            have hb23 : Below w2.heap.size w2 w3 := ((Below.refl w2.heap.size w2).alloc (Nat.le_refl _) _).trans (hb.mono (by simp))
            clear hb
            have hm2 := HM2.out hmay.out
            have hm3 := fun N m => HM3.out N m hmay.out
            clear HM2 HM3
            generalize uGet2 l ((k : Int) + 2) = g at hm2 hm3 ⊢
            obtain ⟨N, m, e⟩ := g
            simp only at hm2 ⊢
            by_cases he : e = 0
            rotate_left
            · have heb : (e != 0) = true := by simpa using he
              clear hm3 hcon hfr
              have hQ := hd (HO.out.trans (hm2 he))
              have hccd := hS.cr
              simp only [ConAt, Con.zero] at hccd
              obtain ⟨d0, d1', d2, d3, d4, d5, d6, d7, d8, d9, d10, d11, d12, -⟩ := hccd
              have z0 := hS.fr 0; have z1 := hS.fr 1; have z2 := hS.fr 2; have z3 := hS.fr 3; have z4 := hS.fr 4; have z5 := hS.fr 5; have z6 := hS.fr 6; have z7 := hS.fr 7; have z8 := hS.fr 8; have z9 := hS.fr 9; have z10 := hS.fr 10; have z11 := hS.fr 11; have z12 := hS.fr 12
              go_wp2_with fail
              exact bodyPost_ret (oRead rfl rfl (hS.cr.put Con.zero)) rfl (oDone hQ.out (below_put hS.b (Nat.le_refl _) Con.zero))
            subst he
            replace hm3 := HO.out.trans (hm3 N m rfl)
            have HM3 := hd hm3
            clear hm3 hm2
            have hk := hcon
            simp only [ConAt] at hk
            obtain ⟨k0, k1', k2, k3, k4, k5, k6, k7, k8, k9, k10, k11, k12, -⟩ := hk
            have y2 := hfr 2
            clear hcon hfr
            replace hS := hd hS
            go_wp2_with fail
            have hkx : Below w3.heap.size w3 w3 := Below.refl _ _
            have hS := hS.out
            have hS2 : OQ w (w3.setCell ⟨w2.heap.size, 2, none⟩ (.int .i64 N)) w.heap.size := ⟨hS.cr.keeps ((Keeps.refl [w2.heap.size] w3).setCell (.inl (by simp)) _) (by simp; omega), hS.fr.set _ _, hS.b.setCell (by simp; omega) _⟩
            have hs4 : Bs (w3.setCell ⟨w2.heap.size, 2, none⟩ (.int .i64 N)) (.slice (some ⟨bb, oo, none⟩) l.length k1) l := hs2.below' (Below.setCell (hb23) (by simp) _) (Nat.le_refl _)
            refine (refRest_c ⟨4, (F / 2 % 2 == 1), N, ⟨#[]⟩, false, ⟨#[]⟩, ⟨#[]⟩, 0, false, (decide (128 ≤ F)), ⟨#[]⟩, false, ⟨#[]⟩⟩ _ l m 0 false _ hs4).mono ?_
            have hQ := hd (show cOf l = qRest ⟨4, (F / 2 % 2 == 1), N, ⟨#[]⟩, false, ⟨#[]⟩, ⟨#[]⟩, 0, false, (decide (128 ≤ F)), ⟨#[]⟩, false, ⟨#[]⟩⟩ l (m, 0) 0 false from HM3.out)
            generalize qRest ⟨4, (F / 2 % 2 == 1), N, ⟨#[]⟩, false, ⟨#[]⟩, ⟨#[]⟩, 0, false, (decide (128 ≤ F)), ⟨#[]⟩, false, ⟨#[]⟩⟩ l (m, 0) 0 false = X at hQ ⊢
            obtain ⟨⟨x0, x1, x2, x3, x4, x5, x6, x7, x8, x9, x10, x11, x12⟩, xe⟩ := X
            rintro e w4 ⟨rfl, hb⟩
            replace hS := hS2.call hb
            simp only [Con.cells]
            clear hb hS2 HM3 k0 k1' k2 k3 k4 k5 k6 k7 k8 k9 k10 k11 k12 y2
            have hccd := hS.cr
            simp only [ConAt, Con.zero] at hccd
            obtain ⟨d0, d1', d2, d3, d4, d5, d6, d7, d8, d9, d10, d11, d12, -⟩ := hccd
            have z0 := hS.fr 0; have z1 := hS.fr 1; have z2 := hS.fr 2; have z3 := hS.fr 3; have z4 := hS.fr 4; have z5 := hS.fr 5; have z6 := hS.fr 6; have z7 := hS.fr 7; have z8 := hS.fr 8; have z9 := hS.fr 9; have z10 := hS.fr 10; have z11 := hS.fr 11; have z12 := hS.fr 12
            go_wp2_with fail
            exact bodyPost_ret (oRead rfl rfl (hS.cr.put ⟨x0, x1, x2, x3, x4, x5, x6, x7, x8, x9, x10, x11, x12⟩)) rfl (oDone hQ.out (below_put hS.b (Nat.le_refl _) ⟨x0, x1, x2, x3, x4, x5, x6, x7, x8, x9, x10, x11, x12⟩))
          · skip
            by_cases a128 : F < 128
            · have a128' : F / 128 % 2 = 0 := by omega
              have hQ := hd (HO.out.trans (HM1.out (by unfold cMay; simp [a1, a4, a8, a32, a64, a128'])))
              have hccd := hS.cr
              simp only [ConAt, Con.zero] at hccd
              obtain ⟨d0, d1', d2, d3, d4, d5, d6, d7, d8, d9, d10, d11, d12, -⟩ := hccd
              have z0 := hS.fr 0; have z1 := hS.fr 1; have z2 := hS.fr 2; have z3 := hS.fr 3; have z4 := hS.fr 4; have z5 := hS.fr 5; have z6 := hS.fr 6; have z7 := hS.fr 7; have z8 := hS.fr 8; have z9 := hS.fr 9; have z10 := hS.fr 10; have z11 := hS.fr 11; have z12 := hS.fr 12
              go_wp2_with fail
              exact bodyPost_ret (oRead rfl rfl (hS.cr.put Con.zero)) rfl (oDone hQ.out (below_put hS.b (Nat.le_refl _) Con.zero))
            · skip
              have a128' : F / 128 % 2 = 1 := by omega
              have a128b : 128 ≤ F := by omega
              have hmay := hd (show cMay F = true by unfold cMay; simp [a1, a4, a8, a32, a64, a128', a128b])
              have hm3 := HM3.out
              have e4 : (F / 4 % 2 == 1) = false := by simp [a1, a4, a8, a32, a64, a128', a128b]
              have e8 : F / 8 % 4 = 0 := by simp [a1, a4, a8, a32, a64, a128', a128b]
              have e32 : (F / 32 % 2 == 1) = false := by simp [a1, a4, a8, a32, a64, a128', a128b]
              have e64 : (F / 64 % 2 == 1) = true := by simp [a1, a4, a8, a32, a64, a128', a128b]
              have e128 : decide (128 ≤ F) = true := by simp [a1, a4, a8, a32, a64, a128', a128b]
              simp only [e4, e8, e32, e64, e128] at hm3
              have HM3 := hd hm3
              clear hm3 e4 e8 e32 e64 e128
              go_wp2_with fail
              have hcon := (ConAt.new w2 ⟨4, (F / 2 % 2 == 1), 0, ⟨#[]⟩, false, ⟨#[]⟩, ⟨#[]⟩, 0, false, true, ⟨#[]⟩, true, ⟨#[]⟩⟩)
              have hfr : Free (w2.alloc (Obj.cells (Con.cells ⟨4, (F / 2 % 2 == 1), 0, ⟨#[]⟩, false, ⟨#[]⟩, ⟨#[]⟩, 0, false, true, ⟨#[]⟩, true, ⟨#[]⟩⟩).toArray 32)) w2.heap.size := fun o => by simp [go_sem]
              replace hS := hS.call ((Below.refl w2.heap.size w2).alloc (Nat.le_refl _) (Obj.cells (Con.cells ⟨4, (F / 2 % 2 == 1), 0, ⟨#[]⟩, false, ⟨#[]⟩, ⟨#[]⟩, 0, false, true, ⟨#[]⟩, true, ⟨#[]⟩⟩).toArray 32))
              have hs3 := hs2.below' ((Below.refl w2.heap.size w2).alloc (Nat.le_refl _) (Obj.cells (Con.cells ⟨4, (F / 2 % 2 == 1), 0, ⟨#[]⟩, false, ⟨#[]⟩, ⟨#[]⟩, 0, false, true, ⟨#[]⟩, true, ⟨#[]⟩⟩).toArray 32)) (Nat.le_refl _)
              have hgw : w.heap.size < w2.heap.size := hl0
              refine (refGet2_c _ l (k + 2) _ hs3).mono ?_
              rintro e w3 ⟨rfl, hb⟩
              replace hcon := hcon.keep hb hcon.lt
              replace hfr := hfr.below hb (by simp)
              replace hS := hS.call hb
              replace hs3 := hs3.below' hb (Nat.le_refl _)
              have hb23 : Below w2.heap.size w2 w3 := ((Below.refl w2.heap.size w2).alloc (Nat.le_refl _) _).trans (hb.mono (by simp))
              clear hb
              have hm2 := HM2.out hmay.out
              have hm3 := fun N m => HM3.out N m hmay.out
              clear HM2 HM3
              generalize uGet2 l ((k : Int) + 2) = g at hm2 hm3 ⊢
              obtain ⟨N, m, e⟩ := g
              simp only at hm2 ⊢
              by_cases he : e = 0
              rotate_left
              · have heb : (e != 0) = true := by simpa using he
                clear hm3 hcon hfr
                have hQ := hd (HO.out.trans (hm2 he))
                have hccd := hS.cr
                simp only [ConAt, Con.zero] at hccd
                obtain ⟨d0, d1', d2, d3, d4, d5, d6, d7, d8, d9, d10, d11, d12, -⟩ := hccd
                have z0 := hS.fr 0; have z1 := hS.fr 1; have z2 := hS.fr 2; have z3 := hS.fr 3; have z4 := hS.fr 4; have z5 := hS.fr 5; have z6 := hS.fr 6; have z7 := hS.fr 7; have z8 := hS.fr 8; have z9 := hS.fr 9; have z10 := hS.fr 10; have z11 := hS.fr 11; have z12 := hS.fr 12
                go_wp2_with fail
                exact bodyPost_ret (oRead rfl rfl (hS.cr.put Con.zero)) rfl (oDone hQ.out (below_put hS.b (Nat.le_refl _) Con.zero))
              subst he
              replace hm3 := HO.out.trans (hm3 N m rfl)
              have HM3 := hd hm3
              clear hm3 hm2
              have hk := hcon
              simp only [ConAt] at hk
              obtain ⟨k0, k1', k2, k3, k4, k5, k6, k7, k8, k9, k10, k11, k12, -⟩ := hk
              have y2 := hfr 2
              clear hcon hfr
              replace hS := hd hS
              go_wp2_with fail
              have hkx : Below w3.heap.size w3 w3 := Below.refl _ _
              have hS := hS.out
              have hS2 : OQ w (w3.setCell ⟨w2.heap.size, 2, none⟩ (.int .i64 N)) w.heap.size := ⟨hS.cr.keeps ((Keeps.refl [w2.heap.size] w3).setCell (.inl (by simp)) _) (by simp; omega), hS.fr.set _ _, hS.b.setCell (by simp; omega) _⟩
              have hs4 : Bs (w3.setCell ⟨w2.heap.size, 2, none⟩ (.int .i64 N)) (.slice (some ⟨bb, oo, none⟩) l.length k1) l := hs2.below' (Below.setCell (hb23) (by simp) _) (Nat.le_refl _)
              refine (refRest_c ⟨4, (F / 2 % 2 == 1), N, ⟨#[]⟩, false, ⟨#[]⟩, ⟨#[]⟩, 0, false, true, ⟨#[]⟩, true, ⟨#[]⟩⟩ _ l m 0 false _ hs4).mono ?_
              have hQ := hd (show cOf l = qRest ⟨4, (F / 2 % 2 == 1), N, ⟨#[]⟩, false, ⟨#[]⟩, ⟨#[]⟩, 0, false, true, ⟨#[]⟩, true, ⟨#[]⟩⟩ l (m, 0) 0 false from HM3.out)
              generalize qRest ⟨4, (F / 2 % 2 == 1), N, ⟨#[]⟩, false, ⟨#[]⟩, ⟨#[]⟩, 0, false, true, ⟨#[]⟩, true, ⟨#[]⟩⟩ l (m, 0) 0 false = X at hQ ⊢
              obtain ⟨⟨x0, x1, x2, x3, x4, x5, x6, x7, x8, x9, x10, x11, x12⟩, xe⟩ := X
              rintro e w4 ⟨rfl, hb⟩
              replace hS := hS2.call hb
              simp only [Con.cells]
              clear hb hS2 HM3 k0 k1' k2 k3 k4 k5 k6 k7 k8 k9 k10 k11 k12 y2
              have hccd := hS.cr
              simp only [ConAt, Con.zero] at hccd
              obtain ⟨d0, d1', d2, d3, d4, d5, d6, d7, d8, d9, d10, d11, d12, -⟩ := hccd
              have z0 := hS.fr 0; have z1 := hS.fr 1; have z2 := hS.fr 2; have z3 := hS.fr 3; have z4 := hS.fr 4; have z5 := hS.fr 5; have z6 := hS.fr 6; have z7 := hS.fr 7; have z8 := hS.fr 8; have z9 := hS.fr 9; have z10 := hS.fr 10; have z11 := hS.fr 11; have z12 := hS.fr 12
              go_wp2_with fail
              exact bodyPost_ret (oRead rfl rfl (hS.cr.put ⟨x0, x1, x2, x3, x4, x5, x6, x7, x8, x9, x10, x11, x12⟩)) rfl (oDone hQ.out (below_put hS.b (Nat.le_refl _) ⟨x0, x1, x2, x3, x4, x5, x6, x7, x8, x9, x10, x11, x12⟩))
        · skip
          have hQ := hd (HO.out.trans (HM1.out (by unfold cMay; simp [a1, a4, a8, a32])))
          have hccd := hS.cr
          simp only [ConAt, Con.zero] at hccd
          obtain ⟨d0, d1', d2, d3, d4, d5, d6, d7, d8, d9, d10, d11, d12, -⟩ := hccd
          have z0 := hS.fr 0; have z1 := hS.fr 1; have z2 := hS.fr 2; have z3 := hS.fr 3; have z4 := hS.fr 4; have z5 := hS.fr 5; have z6 := hS.fr 6; have z7 := hS.fr 7; have z8 := hS.fr 8; have z9 := hS.fr 9; have z10 := hS.fr 10; have z11 := hS.fr 11; have z12 := hS.fr 12
          go_wp2_with fail
          exact bodyPost_ret (oRead rfl rfl (hS.cr.put Con.zero)) rfl (oDone hQ.out (below_put hS.b (Nat.le_refl _) Con.zero))
      · skip
        have a8b : (F / 8 % 4 != 0) = true := by simpa using a8
        have hQ := hd (HO.out.trans (HM1.out (by unfold cMay; simp [a1, a4, a8])))
        have hccd := hS.cr
        simp only [ConAt, Con.zero] at hccd
        obtain ⟨d0, d1', d2, d3, d4, d5, d6, d7, d8, d9, d10, d11, d12, -⟩ := hccd
        have z0 := hS.fr 0; have z1 := hS.fr 1; have z2 := hS.fr 2; have z3 := hS.fr 3; have z4 := hS.fr 4; have z5 := hS.fr 5; have z6 := hS.fr 6; have z7 := hS.fr 7; have z8 := hS.fr 8; have z9 := hS.fr 9; have z10 := hS.fr 10; have z11 := hS.fr 11; have z12 := hS.fr 12
        go_wp2_with fail
        exact bodyPost_ret (oRead rfl rfl (hS.cr.put Con.zero)) rfl (oDone hQ.out (below_put hS.b (Nat.le_refl _) Con.zero))
    · skip
      by_cases a8 : F / 8 % 4 = 3
      · skip
        have hQ := hd (HO.out.trans (HM1.out (by unfold cMay; simp [a1, a4, a8])))
        have hccd := hS.cr
        simp only [ConAt, Con.zero] at hccd
        obtain ⟨d0, d1', d2, d3, d4, d5, d6, d7, d8, d9, d10, d11, d12, -⟩ := hccd
        have z0 := hS.fr 0; have z1 := hS.fr 1; have z2 := hS.fr 2; have z3 := hS.fr 3; have z4 := hS.fr 4; have z5 := hS.fr 5; have z6 := hS.fr 6; have z7 := hS.fr 7; have z8 := hS.fr 8; have z9 := hS.fr 9; have z10 := hS.fr 10; have z11 := hS.fr 11; have z12 := hS.fr 12
        go_wp2_with fail
        exact bodyPost_ret (oRead rfl rfl (hS.cr.put Con.zero)) rfl (oDone hQ.out (below_put hS.b (Nat.le_refl _) Con.zero))
      · skip
        have a8b : (F / 8 % 4 == 3) = false := by simpa using a8
        rcases (show F / 64 % 2 = 0 ∨ F / 64 % 2 = 1 by omega) with a64 | a64
        · skip
          have hmay := hd (show cMay F = true by unfold cMay; simp [a1, a4, a8, a64])
          have hm3 := HM3.out
          have e4 : (F / 4 % 2 == 1) = true := by simp [a1, a4, a8, a64]
          have e64 : (F / 64 % 2 == 1) = false := by simp [a1, a4, a8, a64]
          simp only [e4, e64] at hm3
          have HM3 := hd hm3
          clear hm3 e4 e64
          go_wp2_with fail
          have hcon := (ConAt.new w2 ⟨4, (F / 2 % 2 == 1), 0, ⟨#[]⟩, true, ⟨#[]⟩, ⟨#[]⟩, 0, false, (decide (128 ≤ F)), ⟨#[]⟩, false, ⟨#[]⟩⟩)
          have hfr : Free (w2.alloc (Obj.cells (Con.cells ⟨4, (F / 2 % 2 == 1), 0, ⟨#[]⟩, true, ⟨#[]⟩, ⟨#[]⟩, 0, false, (decide (128 ≤ F)), ⟨#[]⟩, false, ⟨#[]⟩⟩).toArray 32)) w2.heap.size := fun o => by simp [go_sem]
          replace hS := hS.call ((Below.refl w2.heap.size w2).alloc (Nat.le_refl _) (Obj.cells (Con.cells ⟨4, (F / 2 % 2 == 1), 0, ⟨#[]⟩, true, ⟨#[]⟩, ⟨#[]⟩, 0, false, (decide (128 ≤ F)), ⟨#[]⟩, false, ⟨#[]⟩⟩).toArray 32))
          have hs3 := hs2.below' ((Below.refl w2.heap.size w2).alloc (Nat.le_refl _) (Obj.cells (Con.cells ⟨4, (F / 2 % 2 == 1), 0, ⟨#[]⟩, true, ⟨#[]⟩, ⟨#[]⟩, 0, false, (decide (128 ≤ F)), ⟨#[]⟩, false, ⟨#[]⟩⟩).toArray 32)) (Nat.le_refl _)
          have hgw : w.heap.size < w2.heap.size := hl0
          refine (refGet2_c _ l (k + 2) _ hs3).mono ?_
          rintro e w3 ⟨rfl, hb⟩
          replace hcon := hcon.keep hb hcon.lt
          replace hfr := hfr.below hb (by simp)
          replace hS := hS.call hb
          replace hs3 := hs3.below' hb (Nat.le_refl _)
          have hb23 : Below w2.heap.size w2 w3 := ((Below.refl w2.heap.size w2).alloc (Nat.le_refl _) _).trans (hb.mono (by simp))
          clear hb
          have hm2 := HM2.out hmay.out
          have hm3 := fun N m => HM3.out N m hmay.out
          clear HM2 HM3
          generalize uGet2 l ((k : Int) + 2) = g at hm2 hm3 ⊢
          obtain ⟨N, m, e⟩ := g
          simp only at hm2 ⊢
          by_cases he : e = 0
          rotate_left
          · have heb : (e != 0) = true := by simpa using he
            clear hm3 hcon hfr
            have hQ := hd (HO.out.trans (hm2 he))
            have hccd := hS.cr
            simp only [ConAt, Con.zero] at hccd
            obtain ⟨d0, d1', d2, d3, d4, d5, d6, d7, d8, d9, d10, d11, d12, -⟩ := hccd
            have z0 := hS.fr 0; have z1 := hS.fr 1; have z2 := hS.fr 2; have z3 := hS.fr 3; have z4 := hS.fr 4; have z5 := hS.fr 5; have z6 := hS.fr 6; have z7 := hS.fr 7; have z8 := hS.fr 8; have z9 := hS.fr 9; have z10 := hS.fr 10; have z11 := hS.fr 11; have z12 := hS.fr 12
            go_wp2_with fail
            exact bodyPost_ret (oRead rfl rfl (hS.cr.put Con.zero)) rfl (oDone hQ.out (below_put hS.b (Nat.le_refl _) Con.zero))
          subst he
          replace hm3 := HO.out.trans (hm3 N m rfl)
          have HM3 := hd hm3
          clear hm3 hm2
          have hk := hcon
          simp only [ConAt] at hk
          obtain ⟨k0, k1', k2, k3, k4, k5, k6, k7, k8, k9, k10, k11, k12, -⟩ := hk
          have y2 := hfr 2
          clear hcon hfr
          replace hS := hd hS
          go_wp2_with fail
          have hkx : Below w3.heap.size w3 w3 := Below.refl _ _
          have hS := hS.out
          have hS2 : OQ w (w3.setCell ⟨w2.heap.size, 2, none⟩ (.int .i64 N)) w.heap.size := ⟨hS.cr.keeps ((Keeps.refl [w2.heap.size] w3).setCell (.inl (by simp)) _) (by simp; omega), hS.fr.set _ _, hS.b.setCell (by simp; omega) _⟩
          have hs4 : Bs (w3.setCell ⟨w2.heap.size, 2, none⟩ (.int .i64 N)) (.slice (some ⟨bb, oo, none⟩) l.length k1) l := hs2.below' (Below.setCell (hb23) (by simp) _) (Nat.le_refl _)
          refine (refRest_c ⟨4, (F / 2 % 2 == 1), N, ⟨#[]⟩, true, ⟨#[]⟩, ⟨#[]⟩, 0, false, (decide (128 ≤ F)), ⟨#[]⟩, false, ⟨#[]⟩⟩ _ l m (F / 8 % 4) (F / 32 % 2 == 1) _ hs4).mono ?_
          have hQ := hd (show cOf l = qRest ⟨4, (F / 2 % 2 == 1), N, ⟨#[]⟩, true, ⟨#[]⟩, ⟨#[]⟩, 0, false, (decide (128 ≤ F)), ⟨#[]⟩, false, ⟨#[]⟩⟩ l (m, 0) (F / 8 % 4) (F / 32 % 2 == 1) from HM3.out)
          generalize qRest ⟨4, (F / 2 % 2 == 1), N, ⟨#[]⟩, true, ⟨#[]⟩, ⟨#[]⟩, 0, false, (decide (128 ≤ F)), ⟨#[]⟩, false, ⟨#[]⟩⟩ l (m, 0) (F / 8 % 4) (F / 32 % 2 == 1) = X at hQ ⊢
          obtain ⟨⟨x0, x1, x2, x3, x4, x5, x6, x7, x8, x9, x10, x11, x12⟩, xe⟩ := X
          rintro e w4 ⟨rfl, hb⟩
          replace hS := hS2.call hb
          simp only [Con.cells]
          clear hb hS2 HM3 k0 k1' k2 k3 k4 k5 k6 k7 k8 k9 k10 k11 k12 y2
          have hccd := hS.cr
          simp only [ConAt, Con.zero] at hccd
          obtain ⟨d0, d1', d2, d3, d4, d5, d6, d7, d8, d9, d10, d11, d12, -⟩ := hccd
          have z0 := hS.fr 0; have z1 := hS.fr 1; have z2 := hS.fr 2; have z3 := hS.fr 3; have z4 := hS.fr 4; have z5 := hS.fr 5; have z6 := hS.fr 6; have z7 := hS.fr 7; have z8 := hS.fr 8; have z9 := hS.fr 9; have z10 := hS.fr 10; have z11 := hS.fr 11; have z12 := hS.fr 12
          go_wp2_with fail
          exact bodyPost_ret (oRead rfl rfl (hS.cr.put ⟨x0, x1, x2, x3, x4, x5, x6, x7, x8, x9, x10, x11, x12⟩)) rfl (oDone hQ.out (below_put hS.b (Nat.le_refl _) ⟨x0, x1, x2, x3, x4, x5, x6, x7, x8, x9, x10, x11, x12⟩))
        · skip
          by_cases a128 : F < 128
          · have a128' : F / 128 % 2 = 0 := by omega
            have hQ := hd (HO.out.trans (HM1.out (by unfold cMay; simp [a1, a4, a8, a64, a128'])))
            have hccd := hS.cr
            simp only [ConAt, Con.zero] at hccd
            obtain ⟨d0, d1', d2, d3, d4, d5, d6, d7, d8, d9, d10, d11, d12, -⟩ := hccd
            have z0 := hS.fr 0; have z1 := hS.fr 1; have z2 := hS.fr 2; have z3 := hS.fr 3; have z4 := hS.fr 4; have z5 := hS.fr 5; have z6 := hS.fr 6; have z7 := hS.fr 7; have z8 := hS.fr 8; have z9 := hS.fr 9; have z10 := hS.fr 10; have z11 := hS.fr 11; have z12 := hS.fr 12
            go_wp2_with fail
            exact bodyPost_ret (oRead rfl rfl (hS.cr.put Con.zero)) rfl (oDone hQ.out (below_put hS.b (Nat.le_refl _) Con.zero))
          · skip
            have a128' : F / 128 % 2 = 1 := by omega
            have a128b : 128 ≤ F := by omega
            have hmay := hd (show cMay F = true by unfold cMay; simp [a1, a4, a8, a64, a128', a128b])
            have hm3 := HM3.out
            have e4 : (F / 4 % 2 == 1) = true := by simp [a1, a4, a8, a64, a128', a128b]
            have e64 : (F / 64 % 2 == 1) = true := by simp [a1, a4, a8, a64, a128', a128b]
            have e128 : decide (128 ≤ F) = true := by simp [a1, a4, a8, a64, a128', a128b]
            simp only [e4, e64, e128] at hm3
            have HM3 := hd hm3
            clear hm3 e4 e64 e128
            go_wp2_with fail
            have hcon := (ConAt.new w2 ⟨4, (F / 2 % 2 == 1), 0, ⟨#[]⟩, true, ⟨#[]⟩, ⟨#[]⟩, 0, false, true, ⟨#[]⟩, true, ⟨#[]⟩⟩)
            have hfr : Free (w2.alloc (Obj.cells (Con.cells ⟨4, (F / 2 % 2 == 1), 0, ⟨#[]⟩, true, ⟨#[]⟩, ⟨#[]⟩, 0, false, true, ⟨#[]⟩, true, ⟨#[]⟩⟩).toArray 32)) w2.heap.size := fun o => by simp [go_sem]
            replace hS := hS.call ((Below.refl w2.heap.size w2).alloc (Nat.le_refl _) (Obj.cells (Con.cells ⟨4, (F / 2 % 2 == 1), 0, ⟨#[]⟩, true, ⟨#[]⟩, ⟨#[]⟩, 0, false, true, ⟨#[]⟩, true, ⟨#[]⟩⟩).toArray 32))
            have hs3 := hs2.below' ((Below.refl w2.heap.size w2).alloc (Nat.le_refl _) (Obj.cells (Con.cells ⟨4, (F / 2 % 2 == 1), 0, ⟨#[]⟩, true, ⟨#[]⟩, ⟨#[]⟩, 0, false, true, ⟨#[]⟩, true, ⟨#[]⟩⟩).toArray 32)) (Nat.le_refl _)
            have hgw : w.heap.size < w2.heap.size := hl0
            refine (refGet2_c _ l (k + 2) _ hs3).mono ?_
            rintro e w3 ⟨rfl, hb⟩
            replace hcon := hcon.keep hb hcon.lt
            replace hfr := hfr.below hb (by simp)
            replace hS := hS.call hb
            replace hs3 := hs3.below' hb (Nat.le_refl _)
            have hb23 : Below w2.heap.size w2 w3 := ((Below.refl w2.heap.size w2).alloc (Nat.le_refl _) _).trans (hb.mono (by simp))
            clear hb
            have hm2 := HM2.out hmay.out
            have hm3 := fun N m => HM3.out N m hmay.out
            clear HM2 HM3
            generalize uGet2 l ((k : Int) + 2) = g at hm2 hm3 ⊢
            obtain ⟨N, m, e⟩ := g
            simp only at hm2 ⊢
            by_cases he : e = 0
            rotate_left
            · have heb : (e != 0) = true := by simpa using he
              clear hm3 hcon hfr
              have hQ := hd (HO.out.trans (hm2 he))
              have hccd := hS.cr
              simp only [ConAt, Con.zero] at hccd
              obtain ⟨d0, d1', d2, d3, d4, d5, d6, d7, d8, d9, d10, d11, d12, -⟩ := hccd
              have z0 := hS.fr 0; have z1 := hS.fr 1; have z2 := hS.fr 2; have z3 := hS.fr 3; have z4 := hS.fr 4; have z5 := hS.fr 5; have z6 := hS.fr 6; have z7 := hS.fr 7; have z8 := hS.fr 8; have z9 := hS.fr 9; have z10 := hS.fr 10; have z11 := hS.fr 11; have z12 := hS.fr 12
              go_wp2_with fail
              exact bodyPost_ret (oRead rfl rfl (hS.cr.put Con.zero)) rfl (oDone hQ.out (below_put hS.b (Nat.le_refl _) Con.zero))
            subst he
            replace hm3 := HO.out.trans (hm3 N m rfl)
            have HM3 := hd hm3
            clear hm3 hm2
            have hk := hcon
            simp only [ConAt] at hk
            obtain ⟨k0, k1', k2, k3, k4, k5, k6, k7, k8, k9, k10, k11, k12, -⟩ := hk
            have y2 := hfr 2
            clear hcon hfr
            replace hS := hd hS
            go_wp2_with fail
            have hkx : Below w3.heap.size w3 w3 := Below.refl _ _
            have hS := hS.out
            have hS2 : OQ w (w3.setCell ⟨w2.heap.size, 2, none⟩ (.int .i64 N)) w.heap.size := ⟨hS.cr.keeps ((Keeps.refl [w2.heap.size] w3).setCell (.inl (by simp)) _) (by simp; omega), hS.fr.set _ _, hS.b.setCell (by simp; omega) _⟩
            have hs4 : Bs (w3.setCell ⟨w2.heap.size, 2, none⟩ (.int .i64 N)) (.slice (some ⟨bb, oo, none⟩) l.length k1) l := hs2.below' (Below.setCell (hb23) (by simp) _) (Nat.le_refl _)
            refine (refRest_c ⟨4, (F / 2 % 2 == 1), N, ⟨#[]⟩, true, ⟨#[]⟩, ⟨#[]⟩, 0, false, true, ⟨#[]⟩, true, ⟨#[]⟩⟩ _ l m (F / 8 % 4) (F / 32 % 2 == 1) _ hs4).mono ?_
            have hQ := hd (show cOf l = qRest ⟨4, (F / 2 % 2 == 1), N, ⟨#[]⟩, true, ⟨#[]⟩, ⟨#[]⟩, 0, false, true, ⟨#[]⟩, true, ⟨#[]⟩⟩ l (m, 0) (F / 8 % 4) (F / 32 % 2 == 1) from HM3.out)
            generalize qRest ⟨4, (F / 2 % 2 == 1), N, ⟨#[]⟩, true, ⟨#[]⟩, ⟨#[]⟩, 0, false, true, ⟨#[]⟩, true, ⟨#[]⟩⟩ l (m, 0) (F / 8 % 4) (F / 32 % 2 == 1) = X at hQ ⊢
            obtain ⟨⟨x0, x1, x2, x3, x4, x5, x6, x7, x8, x9, x10, x11, x12⟩, xe⟩ := X
            rintro e w4 ⟨rfl, hb⟩
            replace hS := hS2.call hb
            simp only [Con.cells]
            clear hb hS2 HM3 k0 k1' k2 k3 k4 k5 k6 k7 k8 k9 k10 k11 k12 y2
            have hccd := hS.cr
            simp only [ConAt, Con.zero] at hccd
            obtain ⟨d0, d1', d2, d3, d4, d5, d6, d7, d8, d9, d10, d11, d12, -⟩ := hccd
            have z0 := hS.fr 0; have z1 := hS.fr 1; have z2 := hS.fr 2; have z3 := hS.fr 3; have z4 := hS.fr 4; have z5 := hS.fr 5; have z6 := hS.fr 6; have z7 := hS.fr 7; have z8 := hS.fr 8; have z9 := hS.fr 9; have z10 := hS.fr 10; have z11 := hS.fr 11; have z12 := hS.fr 12
            go_wp2_with fail
            exact bodyPost_ret (oRead rfl rfl (hS.cr.put ⟨x0, x1, x2, x3, x4, x5, x6, x7, x8, x9, x10, x11, x12⟩)) rfl (oDone hQ.out (below_put hS.b (Nat.le_refl _) ⟨x0, x1, x2, x3, x4, x5, x6, x7, x8, x9, x10, x11, x12⟩))
  · skip
    have hQ := hd (HO.out.trans (HM1.out (by unfold cMay; simp [a1])))
    have hccd := hS.cr
    simp only [ConAt, Con.zero] at hccd
    obtain ⟨d0, d1', d2, d3, d4, d5, d6, d7, d8, d9, d10, d11, d12, -⟩ := hccd
    have z0 := hS.fr 0; have z1 := hS.fr 1; have z2 := hS.fr 2; have z3 := hS.fr 3; have z4 := hS.fr 4; have z5 := hS.fr 5; have z6 := hS.fr 6; have z7 := hS.fr 7; have z8 := hS.fr 8; have z9 := hS.fr 9; have z10 := hS.fr 10; have z11 := hS.fr 11; have z12 := hS.fr 12
    go_wp2_with fail
    exact bodyPost_ret (oRead rfl rfl (hS.cr.put Con.zero)) rfl (oDone hQ.out (below_put hS.b (Nat.le_refl _) Con.zero))
end Go.Proofs.YtjlnlgemngpelaaGreatDoor
