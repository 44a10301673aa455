/- A bundle of texts (merged for the limit on files): Bir5, Bir12n. -/
import Derived.Test.YtclicjokgfiegaaGreatDoorZa12
import Derived.Test.YtclicjokgfiegaaGreatDoorZa9
/- Births: where one stands: the walks. -/
namespace Go.Proofs.YtclicjokgfiegaaGreatDoor
open Go.RowKit
set_option linter.unusedVariables false
set_option linter.unusedSimpArgs false

theorem wpM_skipM {P : Program} {ops : Array Oper} {Q : Exit → Act → World → Prop} {C : World → Prop} {n k : Nat} {r : List (Nat × Bool)} {o : Oper} {a : Act} {w : World} (ho : ops[k]? = some o) (hw : Region.wanted o (yielded ops a.tmps) = false)
    (hC : C w) (hr : wpM P ops n C Q r (a.put o.dst undef) w) : wpM P ops n C Q ((k, true) :: r) a w := by
  show wpOp P ops Q k _ a w
  unfold Go.wpOp
  simp only [ho, hw]
  exact ⟨fun _ => hC, hr⟩
def BxIn (w : World) (b : Nat) (x : Bir) : Prop := b < w.heap.size ∧ w.cell? ⟨b, 0, none⟩ = some (.string (sOf x.1.1)) ∧ w.cell? ⟨b, 1, none⟩ = some (.string (sOf x.1.2)) ∧ w.cell? ⟨b, 2, none⟩ = some (.string x.2)
theorem BxIn.below {B : Nat} {w w' : World} {b : Nat} {x : Bir} (h : BxIn w b x) (hb : Below B w w') (hB : b < B) : BxIn w' b x := ⟨Nat.lt_of_lt_of_le h.1 hb.size, (bcell hb _ _ hB).trans h.2.1, (bcell hb _ _ hB).trans h.2.2.1, (bcell hb _ _ hB).trans h.2.2.2⟩
set_option maxRecDepth 100000 in
set_option maxHeartbeats 4000000 in
theorem find1_c (x : Bir) (k : Rk) (w : World) :
    Calls Tryz.prog 46 #[.agg #[.string (sOf x.1.1), .string (sOf x.1.2), .string x.2], rkV k] w fun e w' => e = .returned (.int .i64 (rkCmp x.1 k)) ∧ Below w.heap.size w w' := by
  have hcm := fun a b W => Compare_c a b W
  obtain ⟨r, hr⟩ : ∃ r, rkCmp x.1 k = r := ⟨_, rfl⟩
  rw [hr]
  unfold rkCmp at hr
  obtain ⟨p, hp⟩ : ∃ p, cmpB x.1.1 k.1 = p := ⟨_, rfl⟩
  obtain ⟨q, hq⟩ : ∃ q, cmpB x.1.2 k.2 = q := ⟨_, rfl⟩
  have hc1 := fun W => hcm x.1.1 k.1 W
  have hc2 := fun W => hcm x.1.2 k.2 W
  rw [hp] at hc1 hr
  rw [hq] at hc2 hr
  have HC1 := hd hc1; have HC2 := hd hc2; have HR := hd hr
  clear hcm hp hq hc1 hc2 hr
  unfold rkV
  go_enter Tryz.func46, Tryz.ntmps46
  go_wp2_with fail
  have hx0 : BxIn ((w.alloc (.cells #[.string (sOf x.1.1), .string (sOf x.1.2), .string x.2] 70)).alloc (.cells #[.string (sOf k.1), .string (sOf k.2)] 62)) w.heap.size x := by
    refine ⟨?_, ?_, ?_, ?_⟩ <;> simp [go_sem]
  have hk0 : RkIn ((w.alloc (.cells #[.string (sOf x.1.1), .string (sOf x.1.2), .string x.2] 70)).alloc (.cells #[.string (sOf k.1), .string (sOf k.2)] 62)) (w.heap.size + 1) k := by
    refine ⟨?_, ?_, ?_⟩ <;> simp [go_sem]
  have hb0 : Below w.heap.size w ((w.alloc (.cells #[.string (sOf x.1.1), .string (sOf x.1.2), .string x.2] 70)).alloc (.cells #[.string (sOf k.1), .string (sOf k.2)] 62)) := by go_grown
  generalize ((w.alloc (.cells #[.string (sOf x.1.1), .string (sOf x.1.2), .string x.2] 70)).alloc (.cells #[.string (sOf k.1), .string (sOf k.2)] 62)) = w1 at *
  replace hb0 := hb0.drew
  refine wp_region_M (fun W => BxIn W w.heap.size x ∧ RkIn W (w.heap.size + 1) k) 14 [(0, false), (1, false), (2, false), (3, false), (4, false), (6, false), (7, false), (8, false), (9, false), (10, false), (5, true), (11, true), (12, true), (13, true), (14, true)] (by kernel_rfl) (by kernel_rfl) (fun _ _ _ _ h => h) ⟨hx0.below (Below.refl w1.heap.size w1).drew hx0.1, hk0.below (Below.refl w1.heap.size w1).drew hk0.1⟩ ?_
  have hx2 := hx0.below (Below.refl w1.heap.size w1).drew hx0.1
  have hk2 := hk0.below (Below.refl w1.heap.size w1).drew hk0.1
  generalize w1.drew = w2 at *
  apply wpM_still (by rfl) (by rfl)
  · intro W hC
    obtain ⟨⟨x0, x1, x2, x3⟩, k0, k1, k2⟩ := hC
    go_simp
    rfl
  go_simp
  apply wpM_still (by rfl) (by rfl)
  · intro W hC
    obtain ⟨⟨x0, x1, x2, x3⟩, k0, k1, k2⟩ := hC
    go_simp
    rfl
  go_simp
  apply wpM_still (by rfl) (by rfl)
  · intro W hC
    obtain ⟨⟨x0, x1, x2, x3⟩, k0, k1, k2⟩ := hC
    go_simp
    rfl
  go_simp
  apply wpM_still (by rfl) (by rfl)
  · intro W hC
    obtain ⟨⟨x0, x1, x2, x3⟩, k0, k1, k2⟩ := hC
    go_simp
    rfl
  go_simp
  apply wpM_still (by rfl) (by rfl)
  · intro W hC
    obtain ⟨⟨x0, x1, x2, x3⟩, k0, k1, k2⟩ := hC
    go_simp
    rfl
  go_simp
  apply wpM_still (by rfl) (by rfl)
  · intro W hC
    obtain ⟨⟨x0, x1, x2, x3⟩, k0, k1, k2⟩ := hC
    go_simp
    rfl
  go_simp
  apply wpM_still (by rfl) (by rfl)
  · intro W hC
    obtain ⟨⟨x0, x1, x2, x3⟩, k0, k1, k2⟩ := hC
    go_simp
    rfl
  go_simp
  apply wpM_still (by rfl) (by rfl)
  · intro W hC
    obtain ⟨⟨x0, x1, x2, x3⟩, k0, k1, k2⟩ := hC
    go_simp
    rfl
  go_simp
  apply wpM_still (by rfl) (by rfl)
  · intro W hC
    obtain ⟨⟨x0, x1, x2, x3⟩, k0, k1, k2⟩ := hC
    go_simp
    rfl
  go_simp
  apply wpM_still (by rfl) (by rfl)
  · intro W hC
    obtain ⟨⟨x0, x1, x2, x3⟩, k0, k1, k2⟩ := hC
    go_simp
    rfl
  go_simp
  apply wpM_move (by rfl) (by rfl)
  intro K hK
  go_simp
  refine (HC1.out _).mono ?_
  rintro e w3 ⟨rfl, rfl⟩
  go_simp
  refine hK _ _ (fun _ => ⟨hx2, hk2⟩) ?_
  clear hK K
  apply wpM_move (by rfl) (by rfl)
  intro K hK
  go_simp
  refine (HC2.out _).mono ?_
  rintro e w3 ⟨rfl, rfl⟩
  go_simp
  refine hK _ _ (fun _ => ⟨hx2, hk2⟩) ?_
  clear hK K
  apply wpM_move (by rfl) (by rfl)
  intro K hK
  go_simp
  have b3 : Below w2.heap.size w2 (w2.alloc (.cells #[.int .i64 p, .int .i64 q] 3)) := by go_grown
  have d0 : (w2.alloc (.cells #[.int .i64 p, .int .i64 q] 3)).cell? ⟨w2.heap.size, 0, none⟩ = some (.int .i64 p) := by simp [go_sem]
  have d1 : (w2.alloc (.cells #[.int .i64 p, .int .i64 q] 3)).cell? ⟨w2.heap.size, 1, none⟩ = some (.int .i64 q) := by simp [go_sem]
  have hx3 := hx2.below b3 hx2.1
  have hk3 := hk2.below b3 hk2.1
  have hb3 := Below.up hb0 b3
  have hor := Or_c p q w2.heap.size _ d0 d1
  refine hK _ (w2.alloc (.cells #[.int .i64 p, .int .i64 q] 3)) (fun _ => ⟨hx3, hk3⟩) ?_
  clear hK K
  generalize w2.alloc (.cells #[.int .i64 p, .int .i64 q] 3) = w3 at *
  apply wpM_move (by rfl) (by rfl)
  intro K hK
  go_simp
  refine hor.mono ?_
  rintro e w4 ⟨rfl, rfl⟩
  go_simp
  refine hK _ _ (fun _ => ⟨hx3, hk3⟩) ?_
  clear hK K
  apply wpM_move (by rfl) (by rfl)
  intro K hK
  go_simp
  refine hK _ _ (fun h => absurd h (by decide)) ?_
  clear hK K
  refine wpM_nil ?_
  go_wp2_with fail
  go_ret
  exact ⟨ret_int HR.out, hb3⟩

/-- A birth's cells at a place. -/
def GxAt (w : World) (b o : Nat) (x : Bir) : Prop := b < w.heap.size ∧ w.cell? ⟨b, o, none⟩ = some (.string (sOf x.1.1)) ∧ w.cell? ⟨b, o + 1, none⟩ = some (.string (sOf x.1.2)) ∧ w.cell? ⟨b, o + 2, none⟩ = some (.string x.2)
theorem GxAt.below {B : Nat} {w w' : World} {b o : Nat} {x : Bir} (h : GxAt w b o x) (hb : Below B w w') (hB : b < B) : GxAt w' b o x := ⟨Nat.lt_of_lt_of_le h.1 hb.size, (bcell hb _ _ hB).trans h.2.1, (bcell hb _ _ hB).trans h.2.2.1, (bcell hb _ _ hB).trans h.2.2.2⟩
theorem RdB.gx {w : World} {a : Option Addr} {n c : Nat} {l : List Bir} (h : RdB w (.slice a n c) l) {k : Nat} {x : Bir} (hk : l[k]? = some x) : ∃ b o, a = some ⟨b, o, none⟩ ∧ GxAt w b (o + k * 3) x := by
  obtain ⟨b, o, h1, h2, h3, h4, h5⟩ := h.at hk
  exact ⟨b, o, h1, h2, h3, h4, h5⟩
theorem bwrap {h : Nat} (hh : h ≤ 4611686018427387904) : IntKind.u64.wrap (h : Int) = h := by
  rw [IntKind.wrap_u64]; omega
set_option maxRecDepth 100000 in
set_option maxHeartbeats 8000000 in
theorem binS_c (k : Rk) (l : List Bir) (v : Value) (w : World) (hs : Sorted l) (hv : RdB w v l) (hm : l.length ≤ 1000000) :
    Calls Tryz.prog 45 #[v, rkV k, .func (.func 46) #[] #[]] w
      fun e w' => e = .returned (.tuple #[.int .i64 (bAt l k), .bool (bHas l k)]) ∧ Below w.heap.size w w' := by
  obtain ⟨a, cp, rfl⟩ := hv.slice
  have hcl := fun x W => find1_c x k W
  have HV := hd hv; have HCL := hd hcl
  have HBA := hd (fun i => @bAt_unique l hs k i)
  obtain ⟨P, hP⟩ : ∃ P, bAt l k = P := ⟨_, rfl⟩
  obtain ⟨F, hF⟩ : ∃ F, bHas l k = F := ⟨_, rfl⟩
  have hle := bAt_le l k
  have hfx := bAt_has hs k
  rw [hF] at hfx ⊢
  rw [hP] at hfx hle ⊢
  rw [hP] at HBA
  have HF := hd hfx
  clear hv hcl hP hF hfx
  unfold rkV
  go_enter Tryz.func45, Tryz.ntmps45
  go_wp2_with fail
  have hk0 : RkIn (w.alloc (.cells #[.string (sOf k.1), .string (sOf k.2)] 62)) w.heap.size k := by
    refine ⟨?_, ?_, ?_⟩ <;> simp [go_sem]
  have hb0 : Below w.heap.size w (w.alloc (.cells #[.string (sOf k.1), .string (sOf k.2)] 62)) := by go_grown
  generalize w.alloc (.cells #[.string (sOf k.1), .string (sOf k.2)] 62) = w1 at *
  have HK := hd hk0
  go_loopw [9, 10] (fun x y w' => ∃ i j : Nat, x = .int .i64 i ∧ y = .int .i64 j ∧ i ≤ j ∧ j ≤ l.length ∧ (∀ m z, m < i → l[m]? = some z → rkLt z.1 k) ∧ (∀ m z, j ≤ m → l[m]? = some z → ¬ rkLt z.1 k) ∧ Below w1.heap.size w1 w') (fun x y _ => match x, y with | .int _ m, .int _ n => (n - m).toNat | _, _ => 0)
  case atStart => exact ⟨0, l.length, rfl, rfl, Nat.zero_le _, Nat.le_refl _, fun m z h => by omega, fun m z h hz => by have := (List.getElem?_eq_some_iff.1 hz).1; omega, Below.refl _ _⟩
  case round =>
    obtain ⟨i, j, rfl, rfl, hij, hjl, h1, h2, hB⟩ := hrel
    have H1 := hd h1; have H2 := hd h2
    clear h1 h2
    by_cases hlt : i < j
    · have hw1 : IntKind.i64.wrap ((i : Int) + (j : Int)) = ((i + j : Nat) : Int) := by rw [IntWalk.i64_in _ (by omega)]; push_cast; rfl
      have hw2 : IntKind.u64.wrap ((i + j : Nat) : Int) = ((i + j : Nat) : Int) := bwrap (by omega)
      go_wp2_with fail
      obtain ⟨h, hh⟩ : ∃ h, (i + j) / 2 = h := ⟨_, rfl⟩
      have hh2 : ((i : Int) + (j : Int)) / 2 = (h : Int) := by omega
      rw [hh2]
      have hih : i ≤ h := by omega
      have hhj : h < j := by omega
      have hhl : h < l.length := by omega
      clear hh hh2 hw1 hw2
      obtain ⟨x, hx⟩ : ∃ x, l[h]? = some x := ⟨_, List.getElem?_eq_getElem hhl⟩
      obtain ⟨b, o, rfl, hgx⟩ := HV.out.gx hx
      have hBw : Below w.heap.size w wr := hb0.trans (hB.mono hb0.size)
      have hg1 := (hgx.below hBw hgx.1).below (Below.refl wr.heap.size wr).drew (Nat.lt_of_lt_of_le hgx.1 hBw.size)
      have hk1 := (HK.out.below hB HK.out.1).below (Below.refl wr.heap.size wr).drew (Nat.lt_of_lt_of_le HK.out.1 hB.size)
      have hB1 := hB.drew
      refine wp_region_M (fun W => RkIn W w.heap.size k ∧ GxAt W b (o + h * 3) x) 7 [(0, false), (1, false), (2, false), (3, false), (4, false), (5, false), (6, true), (7, true)] (by kernel_rfl) (by kernel_rfl) (fun _ _ _ _ h => h) ⟨hk1, hg1⟩ ?_
      generalize wr.drew = w2 at *
      apply wpM_still (by rfl) (by rfl)
      · intro W hC
        obtain ⟨⟨k0, k1, k2⟩, g0, g1, g2, g3⟩ := hC
        go_simp
        rfl
      go_simp
      apply wpM_still (by rfl) (by rfl)
      · intro W hC
        obtain ⟨⟨k0, k1, k2⟩, g0, g1, g2, g3⟩ := hC
        go_simp
        rfl
      go_simp
      apply wpM_still (by rfl) (by rfl)
      · intro W hC
        obtain ⟨⟨k0, k1, k2⟩, g0, g1, g2, g3⟩ := hC
        go_simp
        rfl
      go_simp
      apply wpM_still (by rfl) (by rfl)
      · intro W hC
        obtain ⟨⟨k0, k1, k2⟩, g0, g1, g2, g3⟩ := hC
        go_simp
        rfl
      go_simp
      apply wpM_still (by rfl) (by rfl)
      · intro W hC
        obtain ⟨⟨k0, k1, k2⟩, g0, g1, g2, g3⟩ := hC
        go_simp
        rfl
      go_simp
      apply wpM_still (by rfl) (by rfl)
      · intro W hC
        obtain ⟨⟨k0, k1, k2⟩, g0, g1, g2, g3⟩ := hC
        go_simp
        rfl
      go_simp
      apply wpM_move (by rfl) (by rfl)
      intro K hK
      go_simp
      refine (HCL.out x _).mono ?_
      rintro e w3 ⟨rfl, hb3⟩
      go_simp
      refine hK _ _ (fun _ => ⟨hk1.below hb3 hk1.1, hg1.below hb3 hg1.1⟩) ?_
      clear hK K
      have hB3 := hB1.trans (hb3.mono hB1.size)
      apply wpM_move (by rfl) (by rfl)
      intro K hK
      go_simp
      refine hK _ _ (fun h => absurd h (by decide)) ?_
      clear hK K
      refine wpM_nil ?_
      by_cases hc : rkCmp x.1 k < 0
      · have hlt1 := rkCmp_lt.1 hc
        have hw3 : IntKind.i64.wrap ((h : Int) + 1) = (h : Int) + 1 := IntWalk.i64_in _ (by omega)
        rw [decide_eq_true hc]
        clear HCL HV
        go_wp2_with fail
        go_roundw
        case rel => exact ⟨h + 1, j, rfl, rfl, by omega, hjl, fun m z hm hz => by
            rcases Nat.lt_or_ge m h with hmh | hmh
            · exact rk_tr (sorted_at hs hmh hz hx) hlt1
            · have : m = h := by omega
              subst this
              rw [hx] at hz; cases hz; exact hlt1, H2.out, hB3⟩
        case measure => simp; omega
      · have hlt1 : ¬ rkLt x.1 k := fun h => hc (rkCmp_lt.2 h)
        rw [decide_eq_false hc]
        clear HCL HV
        go_wp2_with fail
        go_roundw
        case rel => exact ⟨i, h, rfl, rfl, hih, by omega, H1.out, fun m z hm hz => by
            rcases Nat.lt_or_ge h m with hmh | hmh
            · exact fun h2 => hlt1 (rk_tr (sorted_at hs hmh hx hz) h2)
            · have : m = h := by omega
              subst this
              rw [hx] at hz; cases hz; exact hlt1, hB3⟩
        case measure => simp; omega
    · have hije : i = j := by omega
      subst hije
      have hiP := HBA.out i hjl H1.out H2.out
      subst hiP
      have hBw : Below w.heap.size w wr := hb0.trans (hB.mono hb0.size)
      have hk1 := (HK.out.below hB HK.out.1).below (Below.refl wr.heap.size wr).drew (Nat.lt_of_lt_of_le HK.out.1 hB.size)
      clear HBA H1 H2
      by_cases hil : i < l.length
      · obtain ⟨x, hx⟩ : ∃ x, l[i]? = some x := ⟨_, List.getElem?_eq_getElem hil⟩
        obtain ⟨b, o, rfl, hgx⟩ := HV.out.gx hx
        have hg1 := (hgx.below hBw hgx.1).below (Below.refl wr.heap.size wr).drew (Nat.lt_of_lt_of_le hgx.1 hBw.size)
        have hB1 := hBw.drew
        have hf : F = decide (rkCmp x.1 k = 0) := by
          have := HF.out
          rw [hx] at this
          rw [Bool.eq_iff_iff, this, decide_eq_true_iff, rkCmp_eq]
          constructor
          · rintro ⟨t, ht⟩; rw [Option.some.inj ht]
          · intro h; exact ⟨x.2, by rw [← h]⟩
        have HFF := hd hf
        clear hf HF hx hgx
        have hii : (i : Int) < (l.length : Int) := by omega
        go_wp2_with fail
        refine wp_region_M (fun W => RkIn W w.heap.size k ∧ GxAt W b (o + i * 3) x) 15 [(0, false), (1, false), (2, false), (3, false), (4, false), (5, false), (6, false), (7, false), (8, false), (9, false), (10, false), (11, true), (12, false), (13, false), (14, false), (15, true)] (by kernel_rfl) (by kernel_rfl) (fun _ _ _ _ h => h) ⟨hk1, hg1⟩ ?_
        generalize wr.drew = w2 at *
        apply wpM_still (by rfl) (by rfl)
        · intro W hC
          obtain ⟨⟨k0, k1, k2⟩, g0, g1, g2, g3⟩ := hC
          go_simp
          rfl
        go_simp
        apply wpM_still (by rfl) (by rfl)
        · intro W hC
          obtain ⟨⟨k0, k1, k2⟩, g0, g1, g2, g3⟩ := hC
          go_simp
          rfl
        go_simp
        apply wpM_still (by rfl) (by rfl)
        · intro W hC
          obtain ⟨⟨k0, k1, k2⟩, g0, g1, g2, g3⟩ := hC
          go_simp
          rfl
        go_simp
        apply wpM_still (by rfl) (by rfl)
        · intro W hC
          obtain ⟨⟨k0, k1, k2⟩, g0, g1, g2, g3⟩ := hC
          go_simp
          rfl
        go_simp
        apply wpM_still (by rfl) (by rfl)
        · intro W hC
          obtain ⟨⟨k0, k1, k2⟩, g0, g1, g2, g3⟩ := hC
          go_simp
          rfl
        go_simp
        apply wpM_still (by rfl) (by rfl)
        · intro W hC
          obtain ⟨⟨k0, k1, k2⟩, g0, g1, g2, g3⟩ := hC
          go_simp
          rfl
        go_simp
        apply wpM_still (by rfl) (by rfl)
        · intro W hC
          obtain ⟨⟨k0, k1, k2⟩, g0, g1, g2, g3⟩ := hC
          go_simp
          rfl
        go_simp
        apply wpM_still (by rfl) (by rfl)
        · intro W hC
          obtain ⟨⟨k0, k1, k2⟩, g0, g1, g2, g3⟩ := hC
          go_simp
          rfl
        go_simp
        apply wpM_still (by rfl) (by rfl)
        · intro W hC
          obtain ⟨⟨k0, k1, k2⟩, g0, g1, g2, g3⟩ := hC
          go_simp
          rfl
        go_simp
        apply wpM_still (by rfl) (by rfl)
        · intro W hC
          obtain ⟨⟨k0, k1, k2⟩, g0, g1, g2, g3⟩ := hC
          go_simp
          rfl
        go_simp
        apply wpM_still (by rfl) (by rfl)
        · intro W hC
          obtain ⟨⟨k0, k1, k2⟩, g0, g1, g2, g3⟩ := hC
          go_simp
          rfl
        go_simp
        apply wpM_move (by rfl) (by rfl)
        intro K hK
        go_simp
        refine (HCL.out x _).mono ?_
        rintro e w3 ⟨rfl, hb3⟩
        go_simp
        refine hK _ _ (fun _ => ⟨hk1.below hb3 hk1.1, hg1.below hb3 hg1.1⟩) ?_
        clear hK K
        have hB3 := hB1.trans (hb3.mono hB1.size)
        apply wpM_still (by rfl) (by rfl)
        · intro W hC
          go_simp
          rfl
        go_simp
        apply wpM_still (by rfl) (by rfl)
        · intro W hC
          go_simp
          rfl
        go_simp
        apply wpM_still (by rfl) (by rfl)
        · intro W hC
          go_simp
          rfl
        go_simp
        apply wpM_move (by rfl) (by rfl)
        intro K hK
        go_simp
        refine hK _ _ (fun h => absurd h (by decide)) ?_
        clear hK K
        refine wpM_nil ?_
        go_wp2_with fail
        go_ret2
        exact ⟨ret2 rfl (vb (by rw [HFF.out, Bool.eq_iff_iff]; simp)), hB3⟩
      · have hile : i = l.length := by omega
        subst hile
        have hf : F = false := by
          have := HF.out
          rw [List.getElem?_eq_none (Nat.le_refl _)] at this
          cases F
          · rfl
          · obtain ⟨t, ht⟩ := this.1 rfl; cases ht
        have HFF := hd hf
        clear hf HF
        have hB1 := hBw.drew
        go_wp2_with fail
        refine wp_region_M (fun W => RkIn W w.heap.size k) 15 [(0, false), (1, false), (2, false), (3, false), (4, false), (5, false), (6, false), (7, false), (8, false), (9, false), (10, false), (11, true), (12, false), (13, false), (14, false), (15, true)] (by kernel_rfl) (by kernel_rfl) (fun _ _ _ _ h => h) hk1 ?_
        generalize wr.drew = w2 at *
        apply wpM_still (by rfl) (by rfl)
        · intro W hC
          go_simp
          rfl
        go_simp
        apply wpM_still (by rfl) (by rfl)
        · intro W hC
          go_simp
          rfl
        go_simp
        apply wpM_still (by rfl) (by rfl)
        · intro W hC
          go_simp
          rfl
        go_simp
        apply wpM_still (by rfl) (by rfl)
        · intro W hC
          go_simp
          rfl
        go_simp
        apply wpM_still (by rfl) (by rfl)
        · intro W hC
          go_simp
          rfl
        go_simp
        apply wpM_skip (by rfl) (by rfl)
        go_simp
        apply wpM_skip (by rfl) (by rfl)
        go_simp
        apply wpM_skip (by rfl) (by rfl)
        go_simp
        apply wpM_skip (by rfl) (by rfl)
        go_simp
        apply wpM_skip (by rfl) (by rfl)
        go_simp
        apply wpM_skip (by rfl) (by rfl)
        go_simp
        refine wpM_skipM (by rfl) (by rfl) hk1 ?_
        go_simp
        apply wpM_skip (by rfl) (by rfl)
        go_simp
        apply wpM_still (by rfl) (by rfl)
        · intro W hC
          go_simp
          rfl
        go_simp
        apply wpM_still (by rfl) (by rfl)
        · intro W hC
          go_simp
          rfl
        go_simp
        apply wpM_move (by rfl) (by rfl)
        intro K hK
        go_simp
        refine hK _ _ (fun h => absurd h (by decide)) ?_
        clear hK K
        refine wpM_nil ?_
        go_wp2_with fail
        go_ret2
        exact ⟨ret2 rfl (vb HFF.out.symm), hB1⟩

/-! ### The object -/
set_option maxRecDepth 100000 in
theorem bnone_c (g : Nat) (w : World) (h : w.cell? ⟨g, 1, none⟩ = some (.bool true)) : Calls Tryz.prog 22 #[.pointer (some ⟨g, 0, none⟩)] w fun e w' => e = .returned (.bool false) ∧ w = w' := by
  go_enter Tryz.func22, Tryz.ntmps22
  go_wp2_with fail
  go_ret
  exact ⟨rfl, rfl⟩
set_option maxRecDepth 100000 in
theorem bnoneZ_c (g : Nat) (w : World) (h : w.cell? ⟨g, 1, none⟩ = some (.bool false)) : Calls Tryz.prog 22 #[.pointer (some ⟨g, 0, none⟩)] w fun e w' => e = .returned (.bool true) ∧ w = w' := by
  go_enter Tryz.func22, Tryz.ntmps22
  go_wp2_with fail
  go_ret
  exact ⟨rfl, rfl⟩
set_option maxRecDepth 100000 in
theorem bnoneN_c (w : World) : Calls Tryz.prog 22 #[.pointer none] w fun e w' => e = .returned (.bool true) ∧ w = w' := by
  go_enter Tryz.func22, Tryz.ntmps22
  go_wp2_with fail
  go_ret
  exact ⟨rfl, rfl⟩
set_option maxRecDepth 100000 in
set_option maxHeartbeats 4000000 in
theorem bfind_c (g : Nat) (v : Value) (l : List Bir) (k : Rk) (w : World) (h : BsAt w g v l) (hs : Sorted l) (hm : l.length ≤ 1000000) :
    Calls Tryz.prog 25 #[.pointer (some ⟨g, 0, none⟩), rkV k] w fun e w' => e = .returned (.tuple #[.int .i64 (bAt l k), .bool (bHas l k)]) ∧ Below w.heap.size w w' := by
  have hbs := fun W h => binS_c k l v W hs h hm
  obtain ⟨P, hP⟩ : ∃ P, bAt l k = P := ⟨_, rfl⟩
  obtain ⟨F, hF⟩ : ∃ F, bHas l k = F := ⟨_, rfl⟩
  rw [hP, hF] at hbs
  rw [hP, hF]
  have HBS := hd hbs
  have c0 := h.c0; have hg := h.lt
  have HB := hd h
  clear hP hF hbs h
  unfold rkV at HBS ⊢
  go_enter Tryz.func25, Tryz.ntmps25
  go_wp2_with fail
  have hk0 : RkIn (w.alloc (.cells #[.string (sOf k.1), .string (sOf k.2)] 62)) w.heap.size k := by
    refine ⟨?_, ?_, ?_⟩ <;> simp [go_sem]
  have hb0 : Below w.heap.size w (w.alloc (.cells #[.string (sOf k.1), .string (sOf k.2)] 62)) := by go_grown
  have hc0 := (bcell hb0 g 0 hg).trans c0
  have hgl : g < (w.alloc (.cells #[.string (sOf k.1), .string (sOf k.2)] 62)).heap.size := Nat.lt_of_lt_of_le hg hb0.size
  generalize w.alloc (.cells #[.string (sOf k.1), .string (sOf k.2)] 62) = w1 at *
  have hk1 := hk0.below (Below.refl w1.heap.size w1).drew hk0.1
  have hb1 := hb0.drew
  have hc1 := (bcell (Below.refl w1.heap.size w1).drew g 0 hgl).trans hc0
  refine wp_region_M (fun W => RkIn W w.heap.size k ∧ W.cell? ⟨g, 0, none⟩ = some v) 9 [(0, false), (1, false), (2, false), (3, false), (4, false), (5, true), (6, false), (7, false), (8, false), (9, true)] (by kernel_rfl) (by kernel_rfl) (fun _ _ _ _ h => h) ⟨hk1, hc1⟩ ?_
  have hgl2 : g < w1.drew.heap.size := hgl
  generalize w1.drew = w2 at *
  apply wpM_still (by rfl) (by rfl)
  · intro W hC
    obtain ⟨⟨k0, k1, k2⟩, g0⟩ := hC
    go_simp
    rfl
  go_simp
  apply wpM_still (by rfl) (by rfl)
  · intro W hC
    obtain ⟨⟨k0, k1, k2⟩, g0⟩ := hC
    go_simp
    rfl
  go_simp
  apply wpM_still (by rfl) (by rfl)
  · intro W hC
    obtain ⟨⟨k0, k1, k2⟩, g0⟩ := hC
    go_simp
    rfl
  go_simp
  apply wpM_still (by rfl) (by rfl)
  · intro W hC
    obtain ⟨⟨k0, k1, k2⟩, g0⟩ := hC
    go_simp
    rfl
  go_simp
  apply wpM_still (by rfl) (by rfl)
  · intro W hC
    obtain ⟨⟨k0, k1, k2⟩, g0⟩ := hC
    go_simp
    rfl
  go_simp
  apply wpM_move (by rfl) (by rfl)
  intro K hK
  go_simp
  refine (HBS.out _ (OwnB.rd (HB.out.below hb1).own)).mono ?_
  rintro e w3 ⟨rfl, hb3⟩
  go_simp
  refine hK _ _ (fun _ => ⟨hk1.below hb3 hk1.1, (bcell hb3 g 0 hgl2).trans hc1⟩) ?_
  clear hK K
  have hB3 := Below.up hb1 hb3
  apply wpM_still (by rfl) (by rfl)
  · intro W hC
    go_simp
    rfl
  go_simp
  apply wpM_still (by rfl) (by rfl)
  · intro W hC
    go_simp
    rfl
  go_simp
  apply wpM_still (by rfl) (by rfl)
  · intro W hC
    go_simp
    rfl
  go_simp
  apply wpM_move (by rfl) (by rfl)
  intro K hK
  go_simp
  refine hK _ _ (fun h => absurd h (by decide)) ?_
  clear hK K
  refine wpM_nil ?_
  go_wp2_with fail
  go_ret2
  exact ⟨rfl, hB3⟩
set_option maxRecDepth 100000 in
theorem bLen_c (g : Nat) (v : Value) (l : List Bir) (w : World) (h : BsAt w g v l) : Calls Tryz.prog 14 #[.pointer (some ⟨g, 0, none⟩)] w fun e w' => e = .returned (.int .i64 l.length) ∧ w = w' := by
  obtain ⟨a, c, rfl⟩ := h.own.slice
  have c0 := h.c0; have c1 := h.c1
  clear h
  go_enter Tryz.func14, Tryz.ntmps14
  go_wp2_with (first | (go_at_call 22; refine (bnone_c _ _ c1).mono ?_; rintro e w' ⟨rfl, rfl⟩))
  go_ret
  exact ⟨rfl, rfl⟩
set_option maxRecDepth 100000 in
theorem bNew_c (w : World) : Calls Tryz.prog 5 #[] w fun e w' => e = .returned (.pointer (some ⟨w.heap.size, 0, none⟩)) ∧ BsAt w' w.heap.size (.slice none 0 0) [] ∧ Below w.heap.size w w' := by
  go_enter Tryz.func5, Tryz.ntmps5
  go_wp2_with fail
  go_ret
  refine ⟨rfl, ⟨by simp [go_sem], by simp [go_sem], by simp [go_sem], OwnB.nil _, by simp [blk, Value.ownBlock], by simp [go_sem]⟩, by go_grown⟩
set_option maxRecDepth 100000 in
set_option maxHeartbeats 4000000 in
theorem bGet_c (g : Nat) (v : Value) (l : List Bir) (t : List UInt8) (w : World) (hE : EnvU w) (hW : EnvW w) (ht : t.length ≤ 100000000) (h : BsAt w g v l) (hs : Sorted l) (hm : l.length ≤ 1000000) :
    Calls Tryz.prog 10 #[.pointer (some ⟨g, 0, none⟩), .string (sOf t)] w fun e w' => e = .returned (.tuple #[.string (((bRank t).bind (bGet l)).getD ⟨#[]⟩), .bool ((bRank t).bind (bGet l)).isSome]) ∧ Below w.heap.size w w' := by
  obtain ⟨a, cp, rfl⟩ := h.own.slice
  have hrk := rankOf_c t w hE hW ht
  have c1 := h.c1
  have HB := hd h
  obtain ⟨r, hr⟩ : ∃ r, bRank t = r := ⟨_, rfl⟩
  rw [hr] at hrk ⊢
  have HRK := hd hrk
  clear hrk hE hW hr h
  go_enter Tryz.func10, Tryz.ntmps10
  go_wp2_with (first | (go_at_call 22; refine (bnone_c _ _ c1).mono ?_; rintro e w' ⟨rfl, rfl⟩))
  refine HRK.out.mono ?_
  rintro e w1 ⟨k, rfl, hk, hb⟩
  unfold rkV
  cases r with
  | none =>
    go_wp2_with fail
    go_ret2
    exact ⟨rfl, Below.up hb (by go_grown)⟩
  | some k' =>
    obtain rfl := hk k' rfl
    clear hk HRK
    have hb1 : Below w1.heap.size w1 (w1.alloc (.cells #[.string (sOf k.1), .string (sOf k.2)] 62)) := by go_grown
    have hbb := Below.up hb hb1
    go_wp2_with fail
    refine (bfind_c g _ l k _ (HB.out.below hbb) hs hm).mono ?_
    rintro e w2 ⟨rfl, hb2⟩
    have hB2 := Below.up hbb hb2
    have hat := HB.out.below hB2
    have c0 := hat.c0
    have hfx := bAt_has hs k
    have hge : ∀ u, l[bAt l k]? = some (k, u) → bGet l k = some u := fun u hu => by unfold bGet; rw [hu]; simp
    have hgn : bHas l k = false → bGet l k = none := fun hh => by
      cases e : bGet l k with
      | none => rfl
      | some u =>
        have : bHas l k = true := List.any_eq_true.2 ⟨_, (get_iff hs).1 e, by simp⟩
        rw [hh] at this; cases this
    have hrd := hat.own.rd
    clear hat HB hb hb1 hbb hb2
    simp only [Option.bind_some]
    generalize bAt l k = P at *
    generalize bHas l k = F at *
    cases F
    · have HG := hd (hgn rfl)
      clear hgn hge hfx
      go_wp2_with fail
      go_ret2
      exact ⟨by simp only [Option.bind_some, HG.out]; rfl, hB2⟩
    · obtain ⟨u, hu⟩ := hfx.1 rfl
      have HG := hd (hge u hu)
      have hPl := (List.getElem?_eq_some_iff.1 hu).1
      obtain ⟨b, o, rfl, h0, h1, h2, h3⟩ := hrd.gx hu
      simp only at h1 h2 h3
      clear hgn hge hfx hu hrd
      go_wp2_with fail
      go_ret2
      exact ⟨by simp only [Option.bind_some, HG.out]; rfl, hB2⟩
end Go.Proofs.YtclicjokgfiegaaGreatDoor

/- Births: the document's answer: nodes, and what stands ahead: the walks. -/
namespace Go.Proofs.YtclicjokgfiegaaGreatDoor
open Go.RowKit
set_option linter.unusedVariables false
set_option linter.unusedSimpArgs false

theorem tell_szs (l : List UInt8) (hs : l.length ≤ 100000000) : (sTell l).g.length ≤ 9223372036854775000 ∧ (sTell l).n.length ≤ 9223372036854775000 ∧ (sTell l).d.length ≤ 9223372036854775000 := by
  have := guess_len (M := l.length) (p := lSplit l) (fun x hx => (lSplit_parts l x hx).2)
  unfold sTell
  split
  · simp [SpS.zero]
  · omega
set_option maxRecDepth 100000 in
set_option maxHeartbeats 4000000 in
theorem refNode_c (l : List UInt8) (w : World) (hs : l.length ≤ 100000000) :
    Calls Tryz.prog 27 #[.string (sOf l)] w fun e w' => e = .returned (.tuple #[.string (sOf (bNode l).1), .bool (bNode l).2]) ∧ Below w.heap.size w w' := by
  have hof := fun W => refOf_c l W hs
  have hsz := tell_szs l hs
  obtain ⟨r, hr⟩ : ∃ r, bNode l = r := ⟨_, rfl⟩
  rw [hr]
  unfold bNode at hr
  generalize sTell l = X at *
  obtain ⟨K, g, n, d⟩ := X
  simp only at hr
  obtain ⟨z1, z2, z3⟩ := hsz
  have hbr := fun W => refBirths_c ⟨K, g, n, d⟩ W z1 z2 z3
  generalize sBirths ⟨K, g, n, d⟩ = B at *
  obtain ⟨u, v⟩ := B
  simp only at hr hbr
  have HOF := hd hof; have HR := hd hr; have HBR := hd hbr
  clear hof hr hbr z1 z2 z3
  go_enter Tryz.func27, Tryz.ntmps27
  go_wp2_with fail
  refine (HOF.out _).mono ?_
  simp only [spV] at HBR ⊢
  rintro e w1 ⟨rfl, hb⟩
  have hS := SpAt.new w1 K g n d
  have hal : Below w1.heap.size w1 (w1.alloc (.cells #[.int .i64 K, .string (sOf g), .string (sOf n), .string (sOf d)] 93)) := by go_grown
  by_cases h1 : K = 1
  · subst h1
    have hr := HR.out
    rw [if_pos (.inl rfl)] at hr
    subst hr
    clear HR HOF
    go_wp2_with fail
    refine (HBR.out _).mono ?_
    rintro e w2 ⟨rfl, hB⟩
    have hb2 := Below.up (Below.up hb hal) hB
    have hal2 := Below.up hal hB
    have k0 := (bcell hB w1.heap.size 0 (by simp [go_sem])).trans (World.cell?_alloc_new w1 _ _ 0)
    go_wp2_with fail
    go_region
    go_wp2_with fail
    go_ret2
    exact ⟨rfl, by go_grown⟩
  have h1b : (K == 1) = false := by simpa using h1
  have h1n : (K != 1) = true := by simpa using h1
  by_cases h5 : K = 5
  · subst h5
    have hr := HR.out
    rw [if_pos (.inr rfl)] at hr
    subst hr
    clear HR HOF
    go_wp2_with fail
    refine (HBR.out _).mono ?_
    rintro e w2 ⟨rfl, hB⟩
    have hb2 := Below.up (Below.up hb hal) hB
    have k0 := (bcell hB w1.heap.size 0 (by simp [go_sem])).trans (World.cell?_alloc_new w1 _ _ 0)
    go_wp2_with fail
    go_region
    go_wp2_with fail
    go_ret2
    exact ⟨rfl, by go_grown⟩
  have h5b : (K == 5) = false := by simpa using h5
  have h5n : (K != 5) = true := by simpa using h5
  have hr := HR.out
  rw [if_neg (by omega)] at hr
  subst hr
  clear HR HOF HBR
  go_wp2_with fail
  go_ret2
  exact ⟨rfl, Below.up hb (by go_grown)⟩

set_option maxRecDepth 100000 in
set_option maxHeartbeats 4000000 in
theorem refAhead_c (a b : List UInt8) (w : World) (ha : a.length ≤ 100000000) (hb : b.length ≤ 100000000) :
    Calls Tryz.prog 28 #[.string (sOf a), .string (sOf b)] w fun e w' => e = .returned (.bool (rAhead a b)) ∧ Below w.heap.size w w' := by
  have hna := fun W => refNode_c a W ha
  have hnb := fun W => refNode_c b W hb
  obtain ⟨r, hr⟩ : ∃ r, rAhead a b = r := ⟨_, rfl⟩
  rw [hr]
  unfold rAhead at hr
  obtain ⟨⟨x, p⟩, hx⟩ : ∃ X, bNode a = X := ⟨_, rfl⟩
  obtain ⟨⟨y, q⟩, hy⟩ : ∃ Y, bNode b = Y := ⟨_, rfl⟩
  rw [hx] at hna hr
  rw [hy] at hnb hr
  simp only at hna hnb hr
  have HNA := hd hna; have HNB := hd hnb; have HR := hd hr
  clear hna hnb hr hx hy ha hb
  have tx := toList_sOf x; have ty := toList_sOf y; have ta := toList_sOf a; have tb := toList_sOf b
  by_cases hxy : x = y
  · subst hxy
    have hxb : (x == x) = true := by simp
    have hr := HR.out
    rw [if_pos rfl] at hr
    cases p
    all_goals cases q
    all_goals simp only [if_true, if_false, Bool.false_eq_true, Bool.true_eq_false, Bool.not_false, Bool.not_true] at hr
    all_goals subst hr
    all_goals clear HR
    all_goals by_cases hab : a < b
    all_goals first
      | have hlt : Op.bytesLess a b = true := by rw [Go.Proofs.bytesLess_eq]; simpa using hab
      | have hlt : Op.bytesLess a b = false := by rw [Go.Proofs.bytesLess_eq]; simpa using hab
    all_goals try (have hdc : decide (a < b) = true := by simpa using hab)
    all_goals try (have hdc : decide (a < b) = false := by simpa using hab)
    all_goals
      go_enter Tryz.func28, Tryz.ntmps28
      go_wp2_with fail
      refine (HNA.out _).mono ?_
      rintro e w1 ⟨rfl, b1⟩
      go_wp2_with fail
      refine (HNB.out _).mono ?_
      rintro e w2 ⟨rfl, b2⟩
      have b3 := Below.up b1 b2
      go_wp2_with fail
      go_ret
      exact ⟨by first | rfl | (rw [hdc]; rfl) | (simp [hab]), b3⟩
  · have hxb : (x == y) = false := by simpa using hxy
    have hxn : (x != y) = true := by simpa using hxy
    have hr := HR.out
    rw [if_neg hxy] at hr
    subst hr
    clear HR
    by_cases hab : x < y
    all_goals first
      | have hlt : Op.bytesLess x y = true := by rw [Go.Proofs.bytesLess_eq]; simpa using hab
      | have hlt : Op.bytesLess x y = false := by rw [Go.Proofs.bytesLess_eq]; simpa using hab
    all_goals
      go_enter Tryz.func28, Tryz.ntmps28
      go_wp2_with fail
      refine (HNA.out _).mono ?_
      rintro e w1 ⟨rfl, b1⟩
      go_wp2_with fail
      refine (HNB.out _).mono ?_
      rintro e w2 ⟨rfl, b2⟩
      have b3 := Below.up b1 b2
      go_wp2_with fail
      go_ret
      exact ⟨by first | rfl | (simp [hab]), b3⟩

end Go.Proofs.YtclicjokgfiegaaGreatDoor
