/- Messages: what bytes tell, by the reference; the numbers of bytes. -/
import Derived.Test.YtinfcjnmloglhaaDoorPubOf
namespace Go.Proofs.YtinfcjnmloglhaaDoor
open Go.RowKit
set_option linter.unusedVariables false
set_option linter.unusedSimpArgs false

set_option maxRecDepth 100000 in
set_option maxHeartbeats 1000000 in
theorem refPubOf_c (b : ByteArray) (q : Int) (w : World) (hs : b.size ≤ 140737488351232) :
    Calls Tryd.prog 45 #[.string b, .int .i64 q] w (GivesM w (sB b) q) := by
  by_cases hq : q < 0 ∨ 2 < q
  · have hs : pOf (sB b) q = ([], [], 0, 10) := by rw [pOf, if_pos hq]
    rcases hq with hq | hq
    all_goals
      go_enter Tryd.func45, Tryd.ntmps45
      go_wp2_with fail
      exact bodyPost_ret (v := .tuple #[.agg #[.string ⟨#[]⟩, .string ⟨#[]⟩, .int .i64 0, .bool false], .int .i64 0, .int .i64 10]) (by simp [results, Tryd.results45, go_sem]) rfl (GivesM.nil 10 hs (by decide) (by go_grown))
  have hq1 : 0 ≤ q := by omega
  have hq2 : q ≤ 2 := by omega
  go_enter Tryd.func45, Tryd.ntmps45
  go_wp2_with fail
  refine upon_bytes (by omega) fun d1 k1 w1 hs1 hb1 => ?_
  have hc1 := bcell hb1
  have hf1 := bfree hb1
  have hl1 : w.heap.size < w1.heap.size := by have := hb1.size; simp at this; omega
  have hb : Below w.heap.size w w1 := Below.up (by go_grown) hb1
  go_wp2_with fail
  refine (refGet_c _ (sB b) 0 _ hs1).mono ?_
  rintro e w2 ⟨rfl, hb2⟩
  have hc2 := bcell hb2
  have hf2 := bfree hb2
  have hl2 : w.heap.size < w2.heap.size := by have := hb2.size; omega
  replace hb := Below.up hb hb2
  have hg := @uGet_rng (sB b) 0
  have hgl := uGet_len (sB b) 0
  have hof : pOf (sB b) q = pOf (sB b) q := rfl
  conv at hof => rhs; rw [pOf, if_neg hq]
  generalize uGet (sB b) 0 = g at hg hgl hof ⊢
  obtain ⟨T, k, e⟩ := g
  simp only at hg hgl hof ⊢
  have Hof := hd hof; clear hof
  by_cases he : e = 0
  rotate_left
  · have heb : (e != 0) = true := by simpa using he
    go_wp2_with fail
    exact bodyPost_ret (v := .tuple #[.agg #[.string ⟨#[]⟩, .string ⟨#[]⟩, .int .i64 0, .bool false], .int .i64 0, .int .i64 e]) (by simp [results, Tryd.results45, go_sem, hc1, hc2, hl1, hl2]) rfl (GivesM.nil e (by rw [Hof.out, if_pos he]) he (by go_grown))
  subst he
  have hrg := hg rfl; clear hg
  have hbl := sB_len b
  have hk0 : 0 ≤ k := by omega
  have hk1 : k ≤ ((sB b).length : Int) := by omega
  clear hbl
  go_wp2_with fail
  refine (refNamed_c (sOf T) _ (by rw [sOf_size]; omega)).mono ?_
  rw [sB_sOf]
  by_cases hn : pName T = false
  · rw [hn]
    rintro e w3 ⟨rfl, hb3⟩
    have hc3 := bcell hb3
    have hf3 := bfree hb3
    have hl3 : w.heap.size < w3.heap.size := by have := hb3.size; omega
    go_wp2_with fail
    exact bodyPost_ret (v := .tuple #[.agg #[.string ⟨#[]⟩, .string ⟨#[]⟩, .int .i64 0, .bool false], .int .i64 0, .int .i64 13]) (by simp [results, Tryd.results45, go_sem, hc1, hc2, hc3, hl1, hl2, hl3]) rfl (GivesM.nil 13 (by rw [Hof.out, if_neg (by decide), if_pos hn]) (by decide) (by have := Below.up hb hb3; go_grown))
  rw [show pName T = true from by simpa using hn]
  rintro e w3 ⟨rfl, hb3⟩
  have hc3 := bcell hb3
  have hf3 := bfree hb3
  have hl3 : w.heap.size < w3.heap.size := by have := hb3.size; omega
  have hs3 := hs1.below' (hb2.trans (hb3.mono hb2.size)) (Nat.le_refl _)
  replace hb := Below.up hb hb3
  clear hs1 hb1 hb2
  by_cases h : q = 0
  · subst h
    obtain ⟨a', c', hsl, hsb⟩ := run_from hs3 k k.toNat (by omega) (by omega)
    have hst := run_str hsb
    go_wp2_with fail
    refine bodyPost_ret (v := .tuple #[.agg #[.string (sOf T), .string (sOf ((sB b).drop k.toNat)), .int .i64 0, .bool false], .int .i64 0, .int .i64 0]) (by simp [results, Tryd.results45, go_sem, hc1, hc2, hc3, hl1, hl2, hl3, sOf]) rfl ?_
    have hr : pOf (sB b) 0 = (T, (sB b).drop k.toNat, 0, 0) := by rw [Hof.out, if_neg (by decide), if_neg hn, if_pos trivial]
    unfold GivesM pOfQ
    rw [hr]
    exact ⟨rfl, by go_grown⟩
  have hqz : (0 : Int) < q := by omega
  go_wp2_with fail
  refine (refGet2_c _ (sB b) k _ hs3).mono ?_
  rintro e w5 ⟨rfl, hb5⟩
  have hc5 := bcell hb5
  have hf5 := bfree hb5
  have hl5 : w.heap.size < w5.heap.size := by have := hb5.size; omega
  replace hb := Below.up hb hb5
  have hs5 := hs3.below' hb5 (Nat.le_refl _)
  have hof := Hof.out; clear Hof
  rw [if_neg (by decide), if_neg hn, if_neg h] at hof
  have hg2 := @uGet2_ok (sB b) k
  generalize uGet2 (sB b) k = g at hof hg2 ⊢
  obtain ⟨id, k2, e⟩ := g
  simp only at hof hg2 ⊢
  have Hof := hd hof; clear hof
  by_cases he : e = 0
  rotate_left
  · have heb : (e != 0) = true := by simpa using he
    go_wp2_with fail
    exact bodyPost_ret (v := .tuple #[.agg #[.string ⟨#[]⟩, .string ⟨#[]⟩, .int .i64 0, .bool false], .int .i64 0, .int .i64 e]) (by simp [results, Tryd.results45, go_sem, hc1, hc2, hc3, hc5, hl1, hl2, hl3, hl5]) rfl (GivesM.nil e (by rw [Hof.out, if_pos he]) he (by go_grown))
  subst he
  obtain ⟨g1, g2, rfl, g4, g5⟩ := hg2 rfl
  clear hg2
  by_cases hid : id = 0
  · subst hid
    go_wp2_with fail
    exact bodyPost_ret (v := .tuple #[.agg #[.string ⟨#[]⟩, .string ⟨#[]⟩, .int .i64 0, .bool false], .int .i64 0, .int .i64 1]) (by simp [results, Tryd.results45, go_sem, hc1, hc2, hc3, hc5, hl1, hl2, hl3, hl5]) rfl (GivesM.nil 1 (by rw [Hof.out, if_neg (by decide), if_pos trivial]) (by decide) (by go_grown))
  have hidb : (id == 0) = false := by simpa using hid
  obtain ⟨a', c', hsl, hsb⟩ := run_from hs5 (k + 2) (k + 2).toNat (by omega) (by omega)
  have hst := run_str hsb
  go_wp2_with fail
  refine bodyPost_ret (v := .tuple #[.agg #[.string (sOf T), .string (sOf ((sB b).drop (k + 2).toNat)), .int .i64 q, .bool false], .int .i64 id, .int .i64 0]) (by simp [results, Tryd.results45, go_sem, hc1, hc2, hc3, hc5, hl1, hl2, hl3, hl5, sOf]) rfl ?_
  have hr : pOf (sB b) q = (T, (sB b).drop (k + 2).toNat, id, 0) := by rw [Hof.out, if_neg (by decide), if_neg hid]
  unfold GivesM pOfQ
  rw [hr]
  exact ⟨rfl, by go_grown⟩

set_option maxRecDepth 100000 in
set_option maxHeartbeats 1000000 in
theorem OfId_c (b : ByteArray) (w : World) (hs : b.size ≤ 140737488351232) :
    Calls Tryd.prog 38 #[.string b] w fun e w' => e = .returned (.tuple #[.int .i64 (pOfId (sB b)).1, .int .i64 (pOfId (sB b)).2]) ∧ Below w.heap.size w w' := by
  by_cases hl : b.size = 2
  rotate_left
  · have hr : pOfId (sB b) = (0, 4) := by rw [pOfId, sB_len, if_pos hl]
    have hlb : (((b.size : Nat) : Int) != 2) = true := by simp; omega
    rw [hr]
    go_enter Tryd.func38, Tryd.ntmps38
    go_wp2_with fail
    go_ret2
    exact ⟨rfl, by go_grown⟩
  have hlb : (((b.size : Nat) : Int) != 2) = false := by simp; omega
  have hll : (sB b).length = 2 := by rw [sB_len]; exact hl
  obtain ⟨h2, h0, h1⟩ := uGet2_two hll
  obtain ⟨r, hr⟩ : ∃ r, pOfId (sB b) = r := ⟨_, rfl⟩
  rw [hr]
  rw [pOfId, if_neg (by omega)] at hr
  have HR := hd hr
  clear hll hl hr
  go_enter Tryd.func38, Tryd.ntmps38
  go_wp2_with fail
  refine upon_bytes (by omega) fun d1 k1 w1 hs1 hb1 => ?_
  go_wp2_with fail
  refine (Get2_c _ (sB b) 0 _ hs1).mono ?_
  rw [h2]
  have hr := HR.out; clear HR
  generalize (uGet2 (sB b) 0).1 = id at hr h0 h1 ⊢
  generalize (uGet2 (sB b) 0).2.1 = k
  have HR := hd hr
  clear h2 hr
  rintro e w2 ⟨rfl, hb2⟩
  have hb := Below.up hb1 hb2
  go_wp2_with fail
  refine (numbered_c id _).mono ?_
  by_cases hid : id = 0
  · rw [show (decide (1 ≤ id) && decide (id ≤ 65535)) = false from by rw [hid]; decide]
    rintro e w' ⟨rfl, rfl⟩
    go_wp2_with fail
    go_ret2
    rw [← HR.out, if_pos hid]
    exact ⟨rfl, hb⟩
  rw [show (decide (1 ≤ id) && decide (id ≤ 65535)) = true from by simp; omega]
  rintro e w' ⟨rfl, rfl⟩
  go_wp2_with fail
  go_ret2
  rw [← HR.out, if_neg hid]
  exact ⟨rfl, hb⟩

set_option maxRecDepth 100000 in
set_option maxHeartbeats 1000000 in
theorem refOfId_c (b : ByteArray) (w : World) (hs : b.size ≤ 140737488351232) :
    Calls Tryd.prog 39 #[.string b] w fun e w' => e = .returned (.tuple #[.int .i64 (pOfId (sB b)).1, .int .i64 (pOfId (sB b)).2]) ∧ Below w.heap.size w w' := by
  by_cases hl : b.size = 2
  rotate_left
  · have hr : pOfId (sB b) = (0, 4) := by rw [pOfId, sB_len, if_pos hl]
    have hlb : (((b.size : Nat) : Int) != 2) = true := by simp; omega
    rw [hr]
    go_enter Tryd.func39, Tryd.ntmps39
    go_wp2_with fail
    go_ret2
    exact ⟨rfl, by go_grown⟩
  have hlb : (((b.size : Nat) : Int) != 2) = false := by simp; omega
  have hll : (sB b).length = 2 := by rw [sB_len]; exact hl
  obtain ⟨h2, h0, h1⟩ := uGet2_two hll
  obtain ⟨r, hr⟩ : ∃ r, pOfId (sB b) = r := ⟨_, rfl⟩
  rw [hr]
  rw [pOfId, if_neg (by omega)] at hr
  have HR := hd hr
  clear hll hl hr
  go_enter Tryd.func39, Tryd.ntmps39
  go_wp2_with fail
  refine upon_bytes (by omega) fun d1 k1 w1 hs1 hb1 => ?_
  go_wp2_with fail
  refine (refGet2_c _ (sB b) 0 _ hs1).mono ?_
  rw [h2]
  have hr := HR.out; clear HR
  generalize (uGet2 (sB b) 0).1 = id at hr h0 h1 ⊢
  generalize (uGet2 (sB b) 0).2.1 = k
  have HR := hd hr
  clear h2 hr
  rintro e w2 ⟨rfl, hb2⟩
  have hb := Below.up hb1 hb2
  by_cases hid : id = 0
  · subst hid
    go_wp2_with fail
    go_ret2
    rw [← HR.out, if_pos trivial]
    exact ⟨rfl, hb⟩
  have hidb : (id == 0) = false := by simpa using hid
  go_wp2_with fail
  go_ret2
  rw [← HR.out, if_neg hid]
  exact ⟨rfl, hb⟩

set_option maxRecDepth 100000 in
set_option maxHeartbeats 1000000 in
theorem awake14_c (w : World) (hE : EnvU w) : Calls Tryd.prog 32 #[] w fun e w' => e = .returned (.bool true) ∧ Below w.heap.size w w' := by
  have HE := hd hE; clear hE
  go_enter Tryd.func32, Tryd.ntmps32
  go_wp2_with fail
  refine (pubPut_c ⟨#[97]⟩ ⟨#[120]⟩ 1 false 5 _ (HE.out.below (by go_grown)) (by decide) (by decide)).mono ?_
  have e1 : pPutB (sB ⟨#[97]⟩) (sB ⟨#[120]⟩) 1 5 = [0, 1, 97, 0, 5, 120] := by decide +kernel
  have e2 : pPutE (sB ⟨#[97]⟩) (sB ⟨#[120]⟩) 1 5 = 0 := by decide +kernel
  rw [e1, e2]
  rintro e w1 ⟨v, rfl, ho, hb⟩
  have hstr := run_str ho.bs
  clear ho e1 e2
  go_wp2_with fail
  go_ret
  exact ⟨rfl, Below.up (by go_grown) hb⟩
end Go.Proofs.YtinfcjnmloglhaaDoor
