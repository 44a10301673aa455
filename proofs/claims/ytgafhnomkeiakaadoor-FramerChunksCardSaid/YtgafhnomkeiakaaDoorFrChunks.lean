/- Chunks play no part: the walk. -/
import Derived.Test.YtgafhnomkeiakaaDoorFrChunkPlain
namespace Go.Proofs.YtgafhnomkeiakaaDoor
open Go.RowKit
set_option linter.unusedVariables false
set_option linter.unusedSimpArgs false

set_option maxRecDepth 100000 in
/-- append(m, k...) of packets that were found. -/
theorem wp_appPs {w : World} {ops : Array Oper} {rest : List Oper} {o : Oper} {a : Act} {Q : Exit → Act → World → Prop} (hgd : o.guard = none) (s x : Operand)
    (ho : o.op = .call { callee := .builtin .append, args := #[s, x], argTypes := #[48, 48] })
    (v : Value) (l : List Pk) (hv : a.eval s = v) (hown : OwnP w v l) (vk : Value) (k : List Pk) (hx : a.eval x = vk) (hk : Ps w vk k)
    (hlen : l.length + k.length < 1000000)
    (h : ∀ v' w', OwnP w' v' (l ++ k) → Keeps (blk v) w w' → (∀ i, i ∈ blk v' → i ∈ blk v ∨ w.heap.size ≤ i) → wpList Tryd.prog ops Q rest (a.put o.dst v') w') : wpList Tryd.prog ops Q (o :: rest) a w := by
  obtain ⟨i0, hi, hz0, hz1, hz2⟩ := info_parts info_raw
  have hp : ∀ u ∈ pCells k, u.oneCell' = true := by
    clear hk hlen h
    induction k with
    | nil => simp [pCells]
    | cons y t ih =>
      intro u hu
      rw [pCells] at hu
      rcases List.mem_append.1 hu with hu | hu
      · simp [pkCells] at hu
        rcases hu with rfl | rfl | rfl | rfl <;> rfl
      · exact ih u hu
  refine wpList_plain hgd fun K hK => ?_
  unfold Oper.wp execOp
  simp only [ho, resolve, invoke, builtin, Sem.run_bind, Sem.run_pure, Result.andThen_ok, List.map_toArray, List.map_cons, List.map_nil, hv, hx]
  obtain ⟨ad, c, rfl, hc1, hc2, hn0, hcell⟩ := hk
  cases ad with
  | none =>
    obtain ⟨h1, rfl, h3⟩ := hn0 rfl
    have hk0 : k = [] := List.eq_nil_of_length_eq_zero h1
    subst hk0
    have hr := run_append_owned_none (P := Tryd.prog) w 0 48 o.type 54 i0 4 Tryd.underlying48 hi v l.length (pCells l) hown
    simp only [List.length_nil, hr, Result.andThen_ok]
    exact hK _ _ (h v w (by simpa using hown) (Keeps.refl _ _) (fun i hi => .inl hi))
  | some ad =>
    obtain ⟨v', w', hr, h2, h3, h4⟩ := app_block (P := Tryd.prog) w 48 o.type 54 i0 (.agg #[.int .i64 0, .int .i64 0, .int .i64 0, .string ⟨#[]⟩]) 4 40 Tryd.underlying48 hi hz0 hz1 hz2 rfl (by decide) v l.length (pCells l)
      hown ad k.length c (pCells k) (pCells_len k) (hcell ad rfl) hp (by unfold maxLen; omega) (by omega)
    simp only [hr, Result.andThen_ok]
    refine hK _ _ (h v' w' ?_ h3 h4)
    unfold OwnP
    rw [List.length_append, pCells_append]
    exact h2

/-- What stands beside the second framer. -/
structure Side (w : World) (g1 g2 B : Nat) (lv : Value) (out : List Pk) (F : FrS) (v : Value) (m : List Pk) (w' : World) : Prop where
  f : FrAt w' g1 F.1 F.2.1 F.2.2 (g2 :: blk v)
  l : OwnP w' lv out
  m : OwnP w' v m
  ll : ∀ i, i ∈ blk lv → i < B ∧ i ≠ g2
  lm : ∀ i, i ∈ blk v → B ≤ i
  g12 : g1 < B ∧ g2 < B ∧ g1 ≠ g2 ∧ w.heap.size ≤ g1 ∧ w.heap.size ≤ g2
  wB : w.heap.size ≤ B ∧ B ≤ w'.heap.size
  below : Below w.heap.size w w'
theorem Side.step {w : World} {g1 g2 B : Nat} {lv : Value} {out : List Pk} {F : FrS} {v : Value} {m : List Pk} {w1 w2 : World} (h : Side w g1 g2 B lv out F v m w1) (hk : Keeps [g2] w1 w2) : Side w g1 g2 B lv out F v m w2 := by
  obtain ⟨q1, q2, q3, q4, q5⟩ := h.g12
  refine ⟨h.f.after (hk.mono (fun k hk => by simp at hk; simp [hk])) ?_ (fun k hk => .inl hk) (fun k hk' => Nat.lt_of_lt_of_le (h.f.ltS k hk') hk.size), h.l.keeps hk ?_, h.m.keeps hk ?_, h.ll, h.lm, h.g12, ⟨h.wB.1, Nat.le_trans h.wB.2 hk.size⟩, h.below.trans (hk.toBelow h.below.size (by simpa using q5))⟩
  · intro hm
    rcases List.mem_cons.1 hm with e | hm
    · exact q3 e
    · have := h.lm _ hm; omega
  · intro k hk'
    have := (h.ll k hk').2
    simpa using this
  · intro k hk'
    have := h.lm k hk'
    simp; omega
theorem Side.fresh {w : World} {g1 g2 B : Nat} {lv : Value} {out : List Pk} {F : FrS} {v : Value} {m : List Pk} {w1 w2 : World} (h : Side w g1 g2 B lv out F v m w1) (hb : Below w1.heap.size w1 w2) : Side w g1 g2 B lv out F v m w2 := h.step (Keeps.below hb)
theorem Side.app {w : World} {g1 g2 B : Nat} {lv : Value} {out : List Pk} {F : FrS} {v v' : Value} {m m' : List Pk} {w1 w2 : World} (h : Side w g1 g2 B lv out F v m w1) (hk : Keeps (blk v) w1 w2) (ho : OwnP w2 v' m')
    (hn : ∀ i, i ∈ blk v' → i ∈ blk v ∨ w1.heap.size ≤ i) : Side w g1 g2 B lv out F v' m' w2 := by
  obtain ⟨q1, q2, q3, q4, q5⟩ := h.g12
  have hw := h.wB
  refine ⟨h.f.after (hk.mono (fun k hk => by simp [hk])) ?_ (fun k hk' => ?_) (fun k hk' => ?_), h.l.keeps hk ?_, ho, h.ll, fun i hi => ?_, h.g12, ⟨hw.1, Nat.le_trans hw.2 hk.size⟩, h.below.trans (hk.toBelow h.below.size (fun i hi => by have := h.lm i hi; omega))⟩
  · intro hm
    rcases List.mem_cons.1 hm with e | hm
    · exact q3 e
    · have := h.lm _ hm; omega
  · rcases List.mem_cons.1 hk' with rfl | hk'
    · exact .inl (by simp)
    · rcases hn k hk' with h5 | h5
      · exact .inl (by simp [h5])
      · exact .inr h5
  · rcases List.mem_cons.1 hk' with rfl | hk'
    · have := hk.size; omega
    · exact ho.lt hk'
  · intro k hk' hm
    have := (h.ll k hk').1
    have := h.lm k hm
    omega
  · rcases hn i hi with h5 | h5
    · exact h.lm i h5
    · omega
theorem Side.gng {w : World} {g1 g2 B : Nat} {lv : Value} {out : List Pk} {F : FrS} {v : Value} {m : List Pk} {w1 : World} (h : Side w g1 g2 B lv out F v m w1) : g2 ∉ blk v := fun hm => by
  have := h.lm _ hm
  have := h.g12
  omega

set_option maxRecDepth 100000 in
set_option maxHeartbeats 8000000 in
theorem FramerChunks_w (R0 : List UInt8) (vc : Value) (cs : List UInt8) (w : World) (hE : EnvF w) (hv : Bs w vc cs) (hR : R0.length ≤ 140737488351232) :
    Calls Tryd.prog 8 #[.string (sOf R0), vc] w fun e w' => e = .returned (.bool true) ∧ Below w.heap.size w w' := by
  have HE := hd hE; clear hE
  have HV := hd hv
  have hcl : cs.length ≤ 9223372036854775807 := by
    have := Rd.len hv
    unfold maxLen at this
    omega
  obtain ⟨a, c, rfl⟩ := hv.slice
  clear hv
  have hs0 : (sOf R0).size = R0.length := sOf_size R0
  go_enter Tryd.func8, Tryd.ntmps8
  by_cases h2000 : 2000 < R0.length
  · go_wp2_with fail
    refine (awake12_c _ HE.out).mono ?_
    rintro e w1 ⟨rfl, hb1⟩
    go_wp2_with fail
    go_ret
    exact ⟨rfl, hb1⟩
  go_wp2_with fail
  refine (frNew_c _).mono ?_
  rintro e w1 ⟨rfl, hf1, hb1⟩
  obtain ⟨g1, hg1⟩ : ∃ g, g = w.heap.size := ⟨_, rfl⟩
  have hw1 : w.heap.size ≤ g1 := by omega
  rw [← hg1] at hf1
  rw [← hg1]
  clear hg1
  have HF1 := hd hf1; clear hf1
  go_wp2_with fail
  refine (feed_c g1 [] 0 0 (sOf R0) _ HF1.out (by rw [hs0]; simp; omega)).mono ?_
  rintro e w2 ⟨rfl, hf2, hk2⟩
  rw [if_pos rfl, sB_sOf, List.nil_append] at hf2
  have hb2 : Below w.heap.size w w2 := hb1.trans (hk2.toBelow hb1.size (by simpa using hw1))
  have HF2 := hd hf2
  clear hf2 hk2 hb1 HF1
  go_wp2_with fail
  refine (all_c g1 (R0, 0, 0) 1100 [] _ (by simp) (fun W hW => HE.out.below (hb2.trans (hW.toBelow hb2.size (by simpa using hw1)))) HF2.out (by simp only; omega) (by simp) (by omega)).mono ?_
  have hal := frAll_len 1100 (R0, 0, 0)
  have I0 : ChI (R0, 0, 0) 0 [] ([], 0, 0) R0 := ⟨by simp [feedS], by simp, by simp; omega, by simp⟩
  have HI0 := hd I0; clear I0
  obtain ⟨AL, hAL⟩ : ∃ r, frAll 1100 (R0, 0, 0) = r := ⟨_, rfl⟩
  rw [hAL] at hal
  rw [hAL]
  have HAL := hd hAL; clear hAL
  obtain ⟨out, E, F⟩ := AL
  rintro e w3 ⟨lv, rfl, hl3, hf3, hk3, hn3⟩
  simp only [List.append_nil] at hf3
  have hb3 : Below w.heap.size w w3 := hb2.trans (hk3.toBelow hb2.size (by simpa using hw1))
  have HAl := hd hal; clear hal
  obtain ⟨a3, c3, rfl⟩ := hl3.ps.slice
  have hf3l := hf3.lt
  have HF3 := hd hf3; have HL3 := hd hl3; have HN3 := hd hn3
  have HF2' := hd (show g1 < w2.heap.size from HF2.out.lt)
  clear hf3 hk3 hl3 hn3 HF2 hb2
  go_wp2_with fail
  refine (frNew_c _).mono ?_
  rintro e w4 ⟨rfl, hf4, hb4⟩
  obtain ⟨g2, hg2⟩ : ∃ g, g = w3.heap.size := ⟨_, rfl⟩
  obtain ⟨B, hB⟩ : ∃ g, g = w4.heap.size := ⟨_, rfl⟩
  rw [← hg2] at hf4
  have hs4 := hb4.size
  have hl4 := hf4.lt
  have hb3s := hb3.size
  have S0 : Side w g1 g2 B (.slice a3 out.length c3) out F (.slice none 0 0) [] w4 :=
    ⟨HF3.out.after (Keeps.below hb4) (fun hm => by have := HF3.out.lt; have h9 := HL3.out.lt hm; have := HN3.out _ hm; have := HF2'.out; omega) (fun k hk => by right; simp [blk, Value.ownBlock] at hk; omega) (fun k hk => by simp [blk, Value.ownBlock] at hk; omega),
      HL3.out.keeps (Keeps.below (S := []) hb4) (fun _ _ => by simp), OwnP.nil _, fun i hi => (by have := HL3.out.lt hi; omega), fun i hi => (by simp [blk, Value.ownBlock] at hi), ⟨by omega, by omega, by omega, hw1, by omega⟩, ⟨by omega, by omega⟩, Below.up hb3 hb4⟩
  rw [← hg2]
  have G0 : FrAt w4 g2 [] 0 0 (blk (.slice none 0 0)) := by simpa [blk, Value.ownBlock] using hf4
  have HS0 := hd S0; have HG0 := hd G0
  clear S0 G0 hf4 hb4 HF3 HL3 HN3 HF2' hs4 hl4 hb3s hf3l hb3 hg2 hB
  go_wp2_with fail
  go_loopw [9, 10, 11] (fun mv r i w' => ∃ (k : Nat) (m : List Pk) (T : FrS) (R : List UInt8), i = .int .i64 k ∧ r = .string (sOf R) ∧ k ≤ cs.length ∧ k ≤ 60 ∧ ChI (R0, 0, 0) k m T R ∧ Side w g1 g2 B (.slice a3 out.length c3) out F mv m w' ∧ FrAt w' g2 T.1 T.2.1 T.2.2 (blk mv)) (fun _ _ i _ => leftN cs.length i)
  case atStart => exact ⟨0, [], ([], 0, 0), R0, rfl, rfl, by omega, by omega, HI0.out, HS0.out, HG0.out⟩
  case round =>
    obtain ⟨k, m, T, R, rfl, rfl, hk, hk60, C, D, G⟩ := hrel
    clear HI0 HS0 HG0
    obtain ⟨ma, mc, rfl⟩ := D.m.ps.slice
    have HC := hd C; have HD := hd D; have HG := hd G
    clear C D G
    by_cases hk1 : k < cs.length
    · by_cases hk2 : k < 60
      · have hbl := HD.out.below
        obtain ⟨b, o, rfl, hbl0, hcell⟩ : ∃ b o, a = some ⟨b, o, none⟩ ∧ b < w.heap.size ∧ wr.cell? ⟨b, o + k, none⟩ = some (.int .u8 (bN cs k)) := by
          rcases HV.out.split with ⟨hn, _⟩ | ⟨_, b, o, c', hv, h1, h2, h3, hcell⟩
          · rw [hn] at hk1; simp at hk1
          · simp only [Value.slice.injEq] at hv
            exact ⟨b, o, hv.1, h3, (bcell hbl _ _ h3).trans (hcell k hk1)⟩
        have hx := bN_lt cs k
        have hRs : (sOf R).size = R.length := sOf_size R
        have hRl := HC.out.bl
        obtain ⟨n, hn⟩ : ∃ n, n = min (bN cs k) R.length := ⟨_, rfl⟩
        have hnR : n ≤ R.length := by omega
        have hmin : min (bN cs k : Int) (R.length : Int) = (n : Int) := by omega
        have hsl1 : ∀ W : World, (Instr.slice 9 (.string (sOf R)) none (some (.int .i64 n)) none).run Tryd.prog W = .ok (.string (sOf (R.take n))) W := by
          intro W
          rw [run_slice_string_h W 9 (sOf R) Tryd.underlying9 .i64 n (by omega) (by omega)]
          have : (sOf R).extract 0 (n : Int).toNat = sOf (R.take n) := by
            have h : sB ((sOf R).extract 0 n) = R.take n := by simp [sB, sOf]
            have e : ∀ t : ByteArray, sOf (sB t) = t := fun t => by cases t; simp [sOf, sB]
            rw [Int.toNat_natCast, ← e ((sOf R).extract 0 n), h]
          rw [this]
        have hsl2 : ∀ W : World, (Instr.slice 9 (.string (sOf R)) (some (.int .i64 n)) none none).run Tryd.prog W = .ok (.string (sOf (R.drop n))) W := by
          intro W
          rw [run_slice_string_l W 9 (sOf R) Tryd.underlying9 .i64 n (by omega) (by omega)]
          have : (sOf R).extract (n : Int).toNat (sOf R).size = sOf (R.drop n) := by
            have h : sB ((sOf R).extract n (sOf R).size) = R.drop n := by
              rw [hRs]
              simp [sB, sOf]
              exact List.take_of_length_le (by simp)
            have e : ∀ t : ByteArray, sOf (sB t) = t := fun t => by cases t; simp [sOf, sB]
            rw [Int.toNat_natCast, ← e ((sOf R).extract n (sOf R).size), h]
          rw [this]
        clear hn
        go_wp2_with fail
        have hT1l : (feedS T (R.take n)).1.length ≤ 2000 := by
          unfold feedS; simp only
          split
          · simp; omega
          · omega
        have hT1t : (feedS T (R.take n)).2.1 = m.length := HC.out.t
        have hml := HC.out.len
        have C' := HC.out.next hk2 n hnR
        have hCb : T.1.length ≤ 2000 := by omega
        refine (feed_c g2 T.1 T.2.1 T.2.2 (sOf (R.take n)) _ HG.out (by rw [sOf_size]; simp; omega)).mono ?_
        rintro e w5 ⟨rfl, hf5, hk5⟩
        have hG5 : FrAt w5 g2 (feedS T (R.take n)).1 (feedS T (R.take n)).2.1 (feedS T (R.take n)).2.2 (blk (.slice ma m.length mc)) := hf5
        have hD5 := HD.out.step hk5
        clear hf5 hk5 HG HD HC hcell hsl1 hmin hCb
        generalize feedS T (R.take n) = T1 at *
        have HG5 := hd hG5; have HD5 := hd hD5; have HC5 := hd C'; have HT := hd hT1t; have HML := hd hml
        clear hG5 hD5 C' hT1t hml
        go_wp2_with fail
        refine (next_c g2 T1 _ (HE.out.below HD5.out.below) HG5.out (by omega) (by have := HT.out; have := HML.out; omega)).mono ?_
        generalize frNext T1 = N at *
        obtain ⟨⟨⟨⟨K, F0, L⟩, Bd⟩, ok, e0⟩, T2⟩ := N
        simp only [GivesNext, pkV]
        rintro e w6 ⟨rfl, hf6, hk6⟩
        have hD6 := HD5.out.step hk6
        have HD6 := hd hD6; have HG6 := hd hf6
        clear hD6 hf6 hk6 HD5 HG5 hsl2 hbl hRs hRl
        cases ok
        · have C6 : ChI (R0, 0, 0) (k + 1) m T2 (R.drop n) := by simpa using HC5.out
          have HC6 := hd C6; clear C6 HC5
          go_wp2_with fail
          go_roundw
          case rel =>
            have hbx : Below w6.heap.size w6 (w6.alloc (.cells #[.int .i64 K, .int .i64 F0, .int .i64 L, .string (sOf Bd)] 54)) := (Below.refl _ _).alloc (Nat.le_refl _) _
            exact ⟨k + 1, m, T2, R.drop n, by congr 1, rfl, by omega, by omega, HC6.out, HD6.out.fresh hbx, HG6.out.below hbx⟩
          case measure => simp [leftN]; omega
        · have C6 : ChI (R0, 0, 0) (k + 1) (m ++ [((K, F0, L), Bd)]) T2 (R.drop n) := by simpa using HC5.out
          have HC6 := hd C6; clear C6 HC5
          have hbx : Below w6.heap.size w6 (w6.alloc (.cells #[.int .i64 K, .int .i64 F0, .int .i64 L, .string (sOf Bd)] 54)) := (Below.refl _ _).alloc (Nat.le_refl _) _
          have D7 := HD6.out.fresh hbx
          have G7 := HG6.out.below hbx
          have HD7 := hd D7; have HG7 := hd G7
          clear D7 G7 hbx
          go_wp2_with (at_builtin; refine wp_appP rfl _ _ rfl _ m rfl HD7.out.m ((K, F0, L), Bd) _ rfl (by rw [World.size_alloc]; rfl) (by have := HML.out; omega) ?_; intro v8 w8 ho8 hk8 hn8)
          go_roundw
          case rel =>
            refine ⟨k + 1, m ++ [((K, F0, L), Bd)], T2, R.drop n, by congr 1, rfl, by omega, by omega, HC6.out, HD7.out.app hk8 ho8 hn8, ?_⟩
            exact HG7.out.after hk8 HD7.out.gng (fun i hi => hn8 i hi) (fun i hi => ho8.lt hi)
          case measure => simp [leftN]; omega
      · go_wp2_with fail
        have hT1l : (feedS T R).1.length ≤ 2000 := by
          have := HC.out.bl
          unfold feedS; simp only
          split
          · simp; omega
          · omega
        have hT1t : (feedS T R).2.1 = m.length := HC.out.t
        have hml := HC.out.len
        have hdn := HC.out.done hk60
        have hCb : T.1.length + R.length ≤ 2000 := HC.out.bl
        refine (feed_c g2 T.1 T.2.1 T.2.2 (sOf R) _ HG.out (by rw [sOf_size]; omega)).mono ?_
        rintro e w5 ⟨rfl, hf5, hk5⟩
        have hG5 : FrAt w5 g2 (feedS T R).1 (feedS T R).2.1 (feedS T R).2.2 (blk (.slice ma m.length mc)) := hf5
        have hD5 := HD.out.step hk5
        clear hf5 hk5 HG HD HC hCb
        generalize feedS T R = T1 at *
        have HG5 := hd hG5; have HD5 := hd hD5; have HT := hd hT1t; have HML := hd hml
        have hal1 := frAll_len 1100 T1
        obtain ⟨AL, hAL1⟩ : ∃ r, frAll 1100 T1 = r := ⟨_, rfl⟩
        rw [hAL1] at hdn hal1
        obtain ⟨k1, E1, F1⟩ := AL
        have hE := HAL.out.symm.trans hdn
        simp only [Prod.mk.injEq] at hE
        obtain ⟨ho, rfl, rfl⟩ := hE
        have hkl : m.length + k1.length < 1000000 := by have h9 : k1.length ≤ 1100 := hal1.2.2; omega
        have HKL := hd hkl; clear hkl
        have HO := hd ho; have HAL1 := hd hAL1; have HAl1 := hd hal1
        clear hG5 hD5 hT1t hml hdn ho hAL1 hal1
        go_wp2_with fail
        refine (all_c g2 T1 1100 (blk (.slice ma m.length mc)) _ HD5.out.gng (fun W hW => HE.out.below ((HD5.out.step hW).below)) HG5.out (by omega) (by have := HT.out; have := HML.out; omega) (by omega)).mono ?_
        rw [HAL1.out]
        rintro e w6 ⟨kv, rfl, hk6o, hf6, hk6, hn6⟩
        have D6 := HD5.out.step hk6
        obtain ⟨ka, kc, rfl⟩ := hk6o.ps.slice
        have hps := hk6o.ps
        simp only at hf6
        have hg2n : g2 ∉ blk (.slice ka k1.length kc) := fun hm => by have := hn6 _ hm; have := HG5.out.lt; omega
        have HD6 := hd D6; have HF6 := hd hf6; have HPS := hd hps
        clear D6 hf6 hps hk6o hk6 hn6 HD5 HG5
        go_wp2_with (at_builtin; refine wp_appPs rfl _ _ rfl (.slice ma m.length mc) m rfl HD6.out.m _ k1 rfl HPS.out HKL.out ?_; intro v7 w7 ho7 hk7 hn7)
        have D7 := HD6.out.app hk7 ho7 hn7
        have G7 : FrAt w7 g2 F.1 F.2.1 F.2.2 [] := HF6.out.after (hk7.mono (fun i hi => by simp [hi])) (fun hm => by
          rcases List.mem_append.1 hm with h9 | h9
          · exact hg2n h9
          · exact HD6.out.gng h9) (fun i hi => by simp at hi) (fun i hi => by simp at hi)
        rw [← HO.out] at ho7
        refine (same12_c _ _ out _ D7.l.ps ho7.ps).mono ?_
        rintro e w8 ⟨rfl, hb8⟩
        have D8 := D7.fresh hb8
        have G8 := G7.below hb8
        have HD8 := hd D8; have HG8 := hd G8
        clear D7 G7 D8 G8 hb8 ho7 hk7 hn7 HD6 HF6
        go_wp2_with fail
        refine (waits_c g1 F.1 F.2.1 F.2.2 _ HD8.out.f).mono ?_
        rintro e w9 ⟨rfl, rfl⟩
        go_wp2_with fail
        refine (waits_c g2 F.1 F.2.1 F.2.2 _ HG8.out).mono ?_
        rintro e w9 ⟨rfl, rfl⟩
        go_wp2_with fail
        refine (taken_c g1 F.1 F.2.1 F.2.2 _ HD8.out.f).mono ?_
        rintro e w9 ⟨rfl, rfl⟩
        rw [show F.2.1 = (out.length : Int) by have h9 : F.2.1 = 0 + (out.length : Int) := HAl.out.2.1; omega]
        go_wp2_with fail
        refine (awake12_c _ (HE.out.below HD8.out.below)).mono ?_
        rintro e w9 ⟨rfl, hb9⟩
        have hbw := Below.up HD8.out.below hb9
        go_wp2_with fail
        go_ret
        exact ⟨rfl, by go_grown⟩
    · go_wp2_with fail
      have hT1l : (feedS T R).1.length ≤ 2000 := by
        have := HC.out.bl
        unfold feedS; simp only
        split
        · simp; omega
        · omega
      have hT1t : (feedS T R).2.1 = m.length := HC.out.t
      have hml := HC.out.len
      have hdn := HC.out.done hk60
      have hCb : T.1.length + R.length ≤ 2000 := HC.out.bl
      refine (feed_c g2 T.1 T.2.1 T.2.2 (sOf R) _ HG.out (by rw [sOf_size]; omega)).mono ?_
      rintro e w5 ⟨rfl, hf5, hk5⟩
      have hG5 : FrAt w5 g2 (feedS T R).1 (feedS T R).2.1 (feedS T R).2.2 (blk (.slice ma m.length mc)) := hf5
      have hD5 := HD.out.step hk5
      clear hf5 hk5 HG HD HC hCb
      generalize feedS T R = T1 at *
      have HG5 := hd hG5; have HD5 := hd hD5; have HT := hd hT1t; have HML := hd hml
      have hal1 := frAll_len 1100 T1
      obtain ⟨AL, hAL1⟩ : ∃ r, frAll 1100 T1 = r := ⟨_, rfl⟩
      rw [hAL1] at hdn hal1
      obtain ⟨k1, E1, F1⟩ := AL
      have hE := HAL.out.symm.trans hdn
      simp only [Prod.mk.injEq] at hE
      obtain ⟨ho, rfl, rfl⟩ := hE
      have hkl : m.length + k1.length < 1000000 := by have h9 : k1.length ≤ 1100 := hal1.2.2; omega
      have HKL := hd hkl; clear hkl
      have HO := hd ho; have HAL1 := hd hAL1; have HAl1 := hd hal1
      clear hG5 hD5 hT1t hml hdn ho hAL1 hal1
      go_wp2_with fail
      refine (all_c g2 T1 1100 (blk (.slice ma m.length mc)) _ HD5.out.gng (fun W hW => HE.out.below ((HD5.out.step hW).below)) HG5.out (by omega) (by have := HT.out; have := HML.out; omega) (by omega)).mono ?_
      rw [HAL1.out]
      rintro e w6 ⟨kv, rfl, hk6o, hf6, hk6, hn6⟩
      have D6 := HD5.out.step hk6
      obtain ⟨ka, kc, rfl⟩ := hk6o.ps.slice
      have hps := hk6o.ps
      simp only at hf6
      have hg2n : g2 ∉ blk (.slice ka k1.length kc) := fun hm => by have := hn6 _ hm; have := HG5.out.lt; omega
      have HD6 := hd D6; have HF6 := hd hf6; have HPS := hd hps
      clear D6 hf6 hps hk6o hk6 hn6 HD5 HG5
      go_wp2_with (at_builtin; refine wp_appPs rfl _ _ rfl (.slice ma m.length mc) m rfl HD6.out.m _ k1 rfl HPS.out HKL.out ?_; intro v7 w7 ho7 hk7 hn7)
      have D7 := HD6.out.app hk7 ho7 hn7
      have G7 : FrAt w7 g2 F.1 F.2.1 F.2.2 [] := HF6.out.after (hk7.mono (fun i hi => by simp [hi])) (fun hm => by
        rcases List.mem_append.1 hm with h9 | h9
        · exact hg2n h9
        · exact HD6.out.gng h9) (fun i hi => by simp at hi) (fun i hi => by simp at hi)
      rw [← HO.out] at ho7
      refine (same12_c _ _ out _ D7.l.ps ho7.ps).mono ?_
      rintro e w8 ⟨rfl, hb8⟩
      have D8 := D7.fresh hb8
      have G8 := G7.below hb8
      have HD8 := hd D8; have HG8 := hd G8
      clear D7 G7 D8 G8 hb8 ho7 hk7 hn7 HD6 HF6
      go_wp2_with fail
      refine (waits_c g1 F.1 F.2.1 F.2.2 _ HD8.out.f).mono ?_
      rintro e w9 ⟨rfl, rfl⟩
      go_wp2_with fail
      refine (waits_c g2 F.1 F.2.1 F.2.2 _ HG8.out).mono ?_
      rintro e w9 ⟨rfl, rfl⟩
      go_wp2_with fail
      refine (taken_c g1 F.1 F.2.1 F.2.2 _ HD8.out.f).mono ?_
      rintro e w9 ⟨rfl, rfl⟩
      rw [show F.2.1 = (out.length : Int) by have h9 : F.2.1 = 0 + (out.length : Int) := HAl.out.2.1; omega]
      go_wp2_with fail
      refine (awake12_c _ (HE.out.below HD8.out.below)).mono ?_
      rintro e w9 ⟨rfl, hb9⟩
      have hbw := Below.up HD8.out.below hb9
      go_wp2_with fail
      go_ret
      exact ⟨rfl, by go_grown⟩
theorem FramerChunks_s (s : ByteArray) (vc : Value) (cs : List UInt8) (w : World) (hE : EnvF w) (hv : Bs w vc cs) (hR : s.size ≤ 140737488351232) :
    Calls Tryd.prog 8 #[.string s, vc] w fun e w' => e = .returned (.bool true) ∧ Below w.heap.size w w' := by
  have h := FramerChunks_w (sB s) vc cs w hE hv (by rw [sB_len]; exact hR)
  rw [show sOf (sB s) = s from (by cases s; simp [sOf, sB])] at h
  exact h
end Go.Proofs.YtgafhnomkeiakaaDoor
