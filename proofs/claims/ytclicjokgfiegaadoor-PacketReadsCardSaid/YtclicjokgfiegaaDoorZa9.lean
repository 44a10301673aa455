/- A bundle of texts (merged for the limit on files): ConPut, ConMay, SubPlain. -/
import Derived.Test.YtclicjokgfiegaaDoorZa8
import Derived.Test.YtclicjokgfiegaaDoorZa6
import Derived.Test.YtclicjokgfiegaaDoorZa5
import Derived.Test.YtclicjokgfiegaaDoorZa4
/- Who comes: what lays them: the walks. -/
namespace Go.Proofs.YtclicjokgfiegaaDoor
open Go.RowKit
set_option linter.unusedVariables false
set_option linter.unusedSimpArgs false

theorem cPut_nil {c : Con} {w w' : World} (e : Int) (he : cPutE c = e) (h0 : e ≠ 0) (hb : Below w.heap.size w w') :
    GivesB w (cPutB c) (cPutE c) (.returned (.tuple #[.slice none 0 0, .int .i64 e])) w' := by
  unfold cPutB
  rw [he, if_neg h0]
  exact GivesB.nil hb

/-- append onto an owned row of bytes, at a single operation -/
theorem wp_appW {o : Oper} {a : Act} {w : World} {K : Act → World → Prop} {Q : Exit → Act → World → Prop} (s x : Operand)
    (ho : o.op = .call { callee := .builtin .append, args := #[s, x], argTypes := #[30, 30] })
    (B : Nat) (v : Value) (l : List UInt8) (hv : a.eval s = v) (hown : Owned B w v l) (sv : Value) (m : List UInt8) (hx : a.eval x = sv) (hs : Bs w sv m)
    (hlen : l.length + m.length ≤ 140737488355328) (hbase : B ≤ w.heap.size)
    (h : ∀ v' w', Owned B w' v' (l ++ m) → Below B w w' → K (a.put o.dst v') w') : Oper.wp Tryd.prog o a w K Q := by
  obtain ⟨i0, hi, hz0, hz1, hz2⟩ := info_parts info_u8
  obtain ⟨v', w', hr, h2, h3, h4⟩ := run_app (P := Tryd.prog) w B 30 o.type 5 i0 (.int .u8 0) 1 1 Tryd.underlying30 hi hz0 hz1 hz2 rfl (by decide) v l.length (l.map byteV) hown sv m.length (m.map byteV) hs (by simp) (byteV_one m) (by omega) (by unfold maxLen; omega) hbase
  unfold Oper.wp execOp
  simp only [ho, resolve, invoke, builtin, Sem.run_bind, Sem.run_pure, Result.andThen_ok, List.map_toArray, List.map_cons, List.map_nil, hv, hx, hr]
  refine h v' w' ?_ h3
  unfold Owned
  rw [List.length_append, List.map_append]
  exact h2

/-- The cells of who comes, in their block. -/
def ConAt (w : World) (b : Nat) (c : Con) : Prop :=
  w.cell? ⟨b, 0, none⟩ = some (.int .i64 c.level) ∧ w.cell? ⟨b, 1, none⟩ = some (.bool c.clean) ∧ w.cell? ⟨b, 2, none⟩ = some (.int .i64 c.keep) ∧ w.cell? ⟨b, 3, none⟩ = some (.string c.client) ∧ w.cell? ⟨b, 4, none⟩ = some (.bool c.hasWill) ∧ w.cell? ⟨b, 5, none⟩ = some (.string c.topic) ∧ w.cell? ⟨b, 6, none⟩ = some (.string c.text) ∧ w.cell? ⟨b, 7, none⟩ = some (.int .i64 c.qos) ∧ w.cell? ⟨b, 8, none⟩ = some (.bool c.retain) ∧ w.cell? ⟨b, 9, none⟩ = some (.bool c.hasUser) ∧ w.cell? ⟨b, 10, none⟩ = some (.string c.user) ∧ w.cell? ⟨b, 11, none⟩ = some (.bool c.hasPass) ∧ w.cell? ⟨b, 12, none⟩ = some (.string c.pass) ∧ b < w.heap.size
theorem ConAt.keep {w w' : World} {b B : Nat} {c : Con} (h : ConAt w b c) (hb : Below B w w') (hB : b < B) : ConAt w' b c := by
  obtain ⟨h0, h1, h2, h3, h4, h5, h6, h7, h8, h9, h10, h11, h12, hl⟩ := h
  exact ⟨(bcell hb _ _ hB).trans h0, (bcell hb _ _ hB).trans h1, (bcell hb _ _ hB).trans h2, (bcell hb _ _ hB).trans h3, (bcell hb _ _ hB).trans h4, (bcell hb _ _ hB).trans h5, (bcell hb _ _ hB).trans h6, (bcell hb _ _ hB).trans h7, (bcell hb _ _ hB).trans h8, (bcell hb _ _ hB).trans h9, (bcell hb _ _ hB).trans h10, (bcell hb _ _ hB).trans h11, (bcell hb _ _ hB).trans h12, Nat.lt_of_lt_of_le hl hb.size⟩
theorem ConAt.new (w : World) (c : Con) : ConAt (w.alloc (Obj.cells c.cells.toArray 25)) w.heap.size c :=
  ⟨World.cell?_alloc_new w _ _ 0, World.cell?_alloc_new w _ _ 1, World.cell?_alloc_new w _ _ 2, World.cell?_alloc_new w _ _ 3, World.cell?_alloc_new w _ _ 4, World.cell?_alloc_new w _ _ 5, World.cell?_alloc_new w _ _ 6, World.cell?_alloc_new w _ _ 7, World.cell?_alloc_new w _ _ 8, World.cell?_alloc_new w _ _ 9, World.cell?_alloc_new w _ _ 10, World.cell?_alloc_new w _ _ 11, World.cell?_alloc_new w _ _ 12, by simp⟩

theorem below_drewN {B : Nat} {a w : World} (h : Below B a w) (n : Nat) : Below B a (w.drewN n) := ⟨h.os, h.tape, h.output, h.size, h.block⟩
theorem u8_in {n : Int} (h : 0 ≤ n ∧ n ≤ 255) : IntKind.u8.wrap n = n := by
  have e : IntKind.u8.wrap n = n % 256 := by simp [IntKind.wrap, IntKind.signed, IntKind.bits]
  rw [e]; omega

theorem WrAt.new (w : World) : WrAt (w.alloc (Obj.cells #[.slice none 0 0, .int .i64 0] 208)) w.heap.size [] 0 :=
  ⟨_, World.cell?_alloc_new w _ _ 0, Owned.nil _ _, World.cell?_alloc_new w _ _ 1, by simp [go_sem], by simp [go_sem], by simp⟩

theorem cS_len (c : Con) : (cHead c).length ≤ 10 ∧ (cS1 c).1.length ≤ 65547 ∧ (cS2 c).1.length ≤ 131084 ∧ (cS3 c).1.length ≤ 196621 ∧ (cS4 c).1.length ≤ 262158 := by
  have h0 : (cHead c).length = 10 := rfl
  have h1 := cStep_len (cHead c, 0) true (uPutE (sB c.client)) (uPutB (sB c.client))
  have h2 := cStep_len (cS1 c) c.hasWill (uPutE (sB c.topic)) (uPutB (sB c.topic))
  have h3 := cStep_len (cS2 c) c.hasWill (uPutRawE (sB c.text)) (uPutRawB (sB c.text))
  have h4 := cStep_len (cS3 c) c.hasUser (uPutE (sB c.user)) (uPutB (sB c.user))
  have b1 := @uPutB_len (sB c.client)
  have b2 := @uPutB_len (sB c.topic)
  have b3 := uPutRawB_len2 (sB c.text)
  have b4 := @uPutB_len (sB c.user)
  have e1 : cStep (cHead c, 0) true (uPutE (sB c.client)) (uPutB (sB c.client)) = cS1 c := rfl
  have e2 : cStep (cS1 c) c.hasWill (uPutE (sB c.topic)) (uPutB (sB c.topic)) = cS2 c := rfl
  have e3 : cStep (cS2 c) c.hasWill (uPutRawE (sB c.text)) (uPutRawB (sB c.text)) = cS3 c := rfl
  have e4 : cStep (cS3 c) c.hasUser (uPutE (sB c.user)) (uPutB (sB c.user)) = cS4 c := rfl
  rw [e1] at h1; rw [e2] at h2; rw [e3] at h3; rw [e4] at h4
  simp only at h1
  omega

theorem cS_name : cStep ([], 0) true (uPutE (sB ⟨#[77, 81, 84, 84]⟩)) (uPutB (sB ⟨#[77, 81, 84, 84]⟩)) = ([0, 4, 77, 81, 84, 84], 0) := by decide +kernel

set_option maxRecDepth 100000 in
set_option maxHeartbeats 4000000 in
theorem conPut_c (c : Con) (w : World) (hE : EnvU w) (hs : c.sized 140737488351232) : Calls Tryd.prog 121 #[.agg c.cells.toArray] w (GivesB w (cPutB c) (cPutE c)) := by
  have HE := hd hE; clear hE
  have hwr := wrong_c c
  have hfl := flags_c c
  have hok := @cErr_ok c
  have hcon := ConAt.new w c
  obtain ⟨lv, cl, ke, cn, hw, tp, tx, q, rt, hu, us, hp, ps⟩ := c
  simp only [Con.cells, Con.sized] at *
  have HW := hd hwr; have HF := hd hfl; have HO := hd hok
  have HC := hd hcon
  clear hwr hfl hok hcon
  go_enter Tryd.func121, Tryd.ntmps121
  go_wp2_with fail
  refine (HW.out _).mono ?_
  rintro e w1 ⟨rfl, hb1⟩
  have hl1 : w.heap.size < w1.heap.size := by have := hb1.size; simp at this; omega
  have hb : Below w.heap.size w w1 := Below.up (by go_grown) hb1
  have hcon := (HC.out).keep hb1 (by simp)
  clear HC HW hb1
  by_cases he : cErr ⟨lv, cl, ke, cn, hw, tp, tx, q, rt, hu, us, hp, ps⟩ = 0
  rotate_left
  · have heb : (cErr ⟨lv, cl, ke, cn, hw, tp, tx, q, rt, hu, us, hp, ps⟩ != 0) = true := by simpa using he
    go_wp2_with fail
    go_ret2
    exact cPut_nil _ (by rw [cPutE, if_pos he]) he hb
  obtain ⟨rfl, ⟨k0, k1⟩, hq, -, -, -, -⟩ := HO.out he
  clear HO
  rw [he]
  have hW1 := WrAt.new w1
  have HEQ := hd he; clear he
  go_wp2_with fail
  have hb' := hb.box (o := Obj.cells #[.slice none 0 0, .int .i64 0] 208)
  refine (wputT_c true ⟨#[77, 81, 84, 84]⟩ _ [] 0 _ hW1 (HE.out.below hb') (by decide) (by simp)).mono ?_
  rw [cS_name]
  rintro r w2 ⟨rfl, hW2, hb2⟩
  replace hcon := (hcon.keep (Below.refl _ _ |>.alloc (Nat.le_refl _) _) hl1).keep hb2 hl1
  replace hb := (hb').trans (hb2.mono (Nat.le_of_lt hl1))
  clear hW1 hb2 hb'
  generalize hg : w1.heap.size = g at *
  clear hg
  obtain ⟨v2, c0, ho2, c1, z0, z1, hg2⟩ := hW2
  obtain ⟨a2, n2, rfl⟩ := Owns.slice ho2
  simp only [List.length_cons, List.length_nil, Nat.reduceAdd] at c0 ho2
  have hfr := cFlags_rng (c := ⟨4, cl, ke, cn, hw, tp, tx, q, rt, hu, us, hp, ps⟩) hq
  have hF := HF.out; clear HF
  generalize hFq : cFlags ⟨4, cl, ke, cn, hw, tp, tx, q, rt, hu, us, hp, ps⟩ = F at *
  have HF := hd hF; have HFQ := hd hFq; clear hF hFq
  obtain ⟨f0, f1⟩ := hfr
  have e0 : IntKind.u8.wrap F = F := u8_in (by omega)
  have e1 : ke.tdiv 256 = ke / 256 := Int.tdiv_eq_ediv_of_nonneg (by omega)
  have e2 : IntKind.i64.wrap (ke / 256) = ke / 256 := IntWalk.i64_in _ (by omega)
  have e3 : IntKind.u8.wrap (ke / 256) = ke / 256 := u8_in (by omega)
  have e4 : ke.tmod 256 = ke % 256 := Int.tmod_eq_emod_of_nonneg (by omega)
  have e5 : IntKind.u8.wrap (ke % 256) = ke % 256 := u8_in (by omega)
  have hB4 : [Value.int .u8 4, .int .u8 F, .int .u8 (ke / 256), .int .u8 (ke % 256)] = [4, B8 F.toNat, B8 (ke.toNat / 256), B8 (ke.toNat % 256)].map byteV := by
    simp only [List.map]
    rw [byteV_B8 (x := F) (by omega) (by omega), byteV_B8 (x := ke / 256) (by omega) (by omega), byteV_B8 (x := ke % 256) (by omega) (by omega)]
    rfl
  have HB4 := hd hB4; clear hB4
  have hlg : w.heap.size < g + 1 := by omega
  go_wp2_with fail
  refine wp_region_M (fun w' => w'.cell? ⟨g, 0, none⟩ = some (.slice a2 6 n2) ∧ ConAt w' w.heap.size ⟨4, cl, ke, cn, hw, tp, tx, q, rt, hu, us, hp, ps⟩) 20 [(0, false), (1, false), (2, false), (3, false), (4, false), (5, false), (8, false), (9, false), (10, false), (11, false), (12, false), (13, false), (14, false), (15, false), (6, true), (7, false), (16, true), (17, true), (18, false), (19, false), (20, true)] (by kernel_rfl) (by kernel_rfl) (fun _ _ _ _ h => h) ⟨c0, hcon⟩ ?_
  iterate 14
    apply wpM_still (by rfl) (by rfl)
    · intro W hC
      obtain ⟨d0, hd⟩ := hC
      simp only [ConAt] at hd
      obtain ⟨d1, d2, d3, d4, d5, d6, d7, d8, d9, d10, d11, d12, d13, _⟩ := hd
      go_simp
      rfl
    go_simp
  apply wpM_move (by rfl) (by rfl)
  intro K hK
  go_simp
  refine (HF.out _ hq).mono ?_
  rintro r w' ⟨rfl, n, rfl⟩
  have hb3 : Below w2.heap.size w2 ((w2.drew.alloc (Obj.cells #[.int .i64 4, .bool cl, .int .i64 ke, .string cn, .bool hw, .string tp, .string tx, .int .i64 q, .bool rt, .bool hu, .string us, .bool hp, .string ps] 25)).drewN n) := below_drewN ((Below.refl _ w2).drew.alloc (Nat.le_refl _) _) n
  generalize ((w2.drew.alloc (Obj.cells #[.int .i64 4, .bool cl, .int .i64 ke, .string cn, .bool hw, .string tp, .string tx, .int .i64 q, .bool rt, .bool hu, .string us, .bool hp, .string ps] 25)).drewN n) = w3 at *
  replace c0 := (bcell hb3 g 0 hg2).trans c0
  replace c1 := (bcell hb3 g 1 hg2).trans c1
  replace z0 := (bfree hb3 g 0 hg2).trans z0
  replace z1 := (bfree hb3 g 1 hg2).trans z1
  replace hcon := hcon.keep hb3 (by omega)
  replace ho2 := ho2.kept hb3 (Nat.le_refl _)
  replace hb := hb.trans (hb3.mono (by omega))
  replace hg2 : g < w3.heap.size := Nat.lt_of_lt_of_le hg2 hb3.size
  clear hb3
  simp only []
  refine hK _ _ (fun _ => ⟨c0, hcon⟩) ?_
  clear hK K
  iterate 1
    apply wpM_still (by rfl) (by rfl)
    · intro W hC
      obtain ⟨d0, hd⟩ := hC
      simp only [ConAt] at hd
      obtain ⟨d1, d2, d3, d4, d5, d6, d7, d8, d9, d10, d11, d12, d13, _⟩ := hd
      go_simp
      rfl
    go_simp
  apply wpM_move (by rfl) (by rfl)
  intro K hK
  go_simp
  have hsl := owned_lit w3.heap.size w3 [4, B8 F.toNat, B8 (ke.toNat / 256), B8 (ke.toNat % 256)] w3.heap.size rfl (Nat.le_refl _) (by unfold maxLen; simp) _ HB4.out 4 rfl
  have hb4 : Below w3.heap.size w3 (w3.alloc (Obj.cells #[.int .u8 4, .int .u8 F, .int .u8 (ke / 256), .int .u8 (ke % 256)] 5)) := (Below.refl _ _).alloc (Nat.le_refl _) _
  refine hK _ _ (fun _ => ⟨(bcell hb4 g 0 hg2).trans c0, hcon.keep hb4 (by omega)⟩) ?_
  clear hK K
  apply wpM_move (by rfl) (by rfl)
  intro K hK
  refine wp_appW _ _ (by rfl) (g + 1) _ _ (by rfl) (ho2.kept hb4 (Nat.le_refl _)) _ _ (by rfl) hsl.bs (by simp) (by simp; omega) ?_
  rintro v5 w5 ho5 hb5
  obtain ⟨a5, n5, rfl⟩ := Owns.slice ho5
  replace c0 := (bcell hb5 g 0 (by omega)).trans ((bcell hb4 g 0 hg2).trans c0)
  replace c1 := (bcell hb5 g 1 (by omega)).trans ((bcell hb4 g 1 hg2).trans c1)
  replace z0 := (bfree hb5 g 0 (by omega)).trans ((bfree hb4 g 0 hg2).trans z0)
  replace z1 := (bfree hb5 g 1 (by omega)).trans ((bfree hb4 g 1 hg2).trans z1)
  replace hcon := (hcon.keep hb4 (by omega)).keep hb5 hlg
  replace hb := hb.box.trans (hb5.mono (by omega))
  have hg5 : g < w5.heap.size := by have := hb5.size; simp at this; omega
  clear hsl hb4 hb5 ho2 e0 e1 e2 e3 e4 e5 HB4
  refine hK _ _ (fun _ => ⟨c0, hcon⟩) ?_
  clear hK K
  go_simp
  iterate 2
    apply wpM_still (by rfl) (by rfl)
    · intro W hC
      obtain ⟨d0, hd⟩ := hC
      simp only [ConAt] at hd
      obtain ⟨d1, d2, d3, d4, d5, d6, d7, d8, d9, d10, d11, d12, d13, _⟩ := hd
      go_simp
      rfl
    go_simp
  apply wpM_move (by rfl) (by rfl)
  intro K hK
  go_simp
  refine hK _ _ (fun h => absurd h (by decide)) ?_
  clear hK K
  refine wpM_nil ?_
  have hW : WrAt (w5.setCell ⟨g, 0, none⟩ (.slice a5 10 n5)) g (cHead ⟨4, cl, ke, cn, hw, tp, tx, q, rt, hu, us, hp, ps⟩) 0 := by
    have e : cHead ⟨4, cl, ke, cn, hw, tp, tx, q, rt, hu, us, hp, ps⟩ = [0, 4, 77, 81, 84, 84] ++ [4, B8 F.toNat, B8 (ke.toNat / 256), B8 (ke.toNat % 256)] := by rw [← HFQ.out]; rfl
    rw [e]
    exact ⟨_, by simp [go_sem, c0], ho5.aside (by simp) _, by simp [go_sem, c1], by simp [go_sem, z0], by simp [go_sem, z1], by simp [go_sem]; exact hg5⟩
  have hb5 : Below g w5 (w5.setCell ⟨g, 0, none⟩ (.slice a5 10 n5)) := (Below.refl _ _).setCell (by simp) _
  replace hcon := hcon.keep hb5 hl1
  replace hb := hb.trans (hb5.mono (Nat.le_of_lt hl1))
  generalize (w5.setCell ⟨g, 0, none⟩ (.slice a5 10 n5)) = w6 at *
  clear hb5 c0 c1 z0 z1 ho5 HFQ
  obtain ⟨s1, s2, s3, s4, s5⟩ := hs
  have hL := cS_len ⟨4, cl, ke, cn, hw, tp, tx, q, rt, hu, us, hp, ps⟩
  obtain ⟨hL0, hL1, hL2, hL3, hL4⟩ := hL
  have hcc := hcon
  simp only [ConAt] at hcc
  obtain ⟨d1, d2, d3, d4, d5, d6, d7, d8, d9, d10, d11, d12, d13, _⟩ := hcc
  go_wp2_with fail
  clear d1 d2 d3 d4 d5 d6 d7 d8 d9 d10 d11 d12 d13
  refine (wputT_c true cn g _ 0 _ hW (HE.out.below hb) s1 (by omega)).mono ?_
  rintro r w7 ⟨rfl, hW', hb'⟩
  replace hW : WrAt w7 g (cS1 ⟨4, cl, ke, cn, hw, tp, tx, q, rt, hu, us, hp, ps⟩).1 (cS1 ⟨4, cl, ke, cn, hw, tp, tx, q, rt, hu, us, hp, ps⟩).2 := hW'
  replace hcon := hcon.keep hb' hl1
  replace hb := hb.trans (hb'.mono (Nat.le_of_lt hl1))
  clear hW' hb'
  have hcc := hcon
  simp only [ConAt] at hcc
  obtain ⟨d1, d2, d3, d4, d5, d6, d7, d8, d9, d10, d11, d12, d13, _⟩ := hcc
  go_wp2_with fail
  clear d1 d2 d3 d4 d5 d6 d7 d8 d9 d10 d11 d12 d13
  refine (wputT_c hw tp g (cS1 ⟨4, cl, ke, cn, hw, tp, tx, q, rt, hu, us, hp, ps⟩).1 (cS1 ⟨4, cl, ke, cn, hw, tp, tx, q, rt, hu, us, hp, ps⟩).2 _ hW (HE.out.below hb) s2 (by omega)).mono ?_
  rintro r w8 ⟨rfl, hW', hb'⟩
  replace hW : WrAt w8 g (cS2 ⟨4, cl, ke, cn, hw, tp, tx, q, rt, hu, us, hp, ps⟩).1 (cS2 ⟨4, cl, ke, cn, hw, tp, tx, q, rt, hu, us, hp, ps⟩).2 := hW'
  replace hcon := hcon.keep hb' hl1
  replace hb := hb.trans (hb'.mono (Nat.le_of_lt hl1))
  clear hW' hb'
  have hcc := hcon
  simp only [ConAt] at hcc
  obtain ⟨d1, d2, d3, d4, d5, d6, d7, d8, d9, d10, d11, d12, d13, _⟩ := hcc
  go_wp2_with fail
  clear d1 d2 d3 d4 d5 d6 d7 d8 d9 d10 d11 d12 d13
  refine (wputR_c hw tx g (cS2 ⟨4, cl, ke, cn, hw, tp, tx, q, rt, hu, us, hp, ps⟩).1 (cS2 ⟨4, cl, ke, cn, hw, tp, tx, q, rt, hu, us, hp, ps⟩).2 _ hW (HE.out.below hb) s3 (by omega)).mono ?_
  rintro r w9 ⟨rfl, hW', hb'⟩
  replace hW : WrAt w9 g (cS3 ⟨4, cl, ke, cn, hw, tp, tx, q, rt, hu, us, hp, ps⟩).1 (cS3 ⟨4, cl, ke, cn, hw, tp, tx, q, rt, hu, us, hp, ps⟩).2 := hW'
  replace hcon := hcon.keep hb' hl1
  replace hb := hb.trans (hb'.mono (Nat.le_of_lt hl1))
  clear hW' hb'
  have hcc := hcon
  simp only [ConAt] at hcc
  obtain ⟨d1, d2, d3, d4, d5, d6, d7, d8, d9, d10, d11, d12, d13, _⟩ := hcc
  go_wp2_with fail
  clear d1 d2 d3 d4 d5 d6 d7 d8 d9 d10 d11 d12 d13
  refine (wputT_c hu us g (cS3 ⟨4, cl, ke, cn, hw, tp, tx, q, rt, hu, us, hp, ps⟩).1 (cS3 ⟨4, cl, ke, cn, hw, tp, tx, q, rt, hu, us, hp, ps⟩).2 _ hW (HE.out.below hb) s4 (by omega)).mono ?_
  rintro r w10 ⟨rfl, hW', hb'⟩
  replace hW : WrAt w10 g (cS4 ⟨4, cl, ke, cn, hw, tp, tx, q, rt, hu, us, hp, ps⟩).1 (cS4 ⟨4, cl, ke, cn, hw, tp, tx, q, rt, hu, us, hp, ps⟩).2 := hW'
  replace hcon := hcon.keep hb' hl1
  replace hb := hb.trans (hb'.mono (Nat.le_of_lt hl1))
  clear hW' hb'
  have hcc := hcon
  simp only [ConAt] at hcc
  obtain ⟨d1, d2, d3, d4, d5, d6, d7, d8, d9, d10, d11, d12, d13, _⟩ := hcc
  go_wp2_with fail
  clear d1 d2 d3 d4 d5 d6 d7 d8 d9 d10 d11 d12 d13
  refine (wputR_c hp ps g (cS4 ⟨4, cl, ke, cn, hw, tp, tx, q, rt, hu, us, hp, ps⟩).1 (cS4 ⟨4, cl, ke, cn, hw, tp, tx, q, rt, hu, us, hp, ps⟩).2 _ hW (HE.out.below hb) s5 (by omega)).mono ?_
  rintro r w11 ⟨rfl, hW', hb'⟩
  replace hW : WrAt w11 g (cS5 ⟨4, cl, ke, cn, hw, tp, tx, q, rt, hu, us, hp, ps⟩).1 (cS5 ⟨4, cl, ke, cn, hw, tp, tx, q, rt, hu, us, hp, ps⟩).2 := hW'
  replace hcon := hcon.keep hb' hl1
  replace hb := hb.trans (hb'.mono (Nat.le_of_lt hl1))
  clear hW' hb'
  obtain ⟨v, c0, ho, c1, z0, z1, hg6⟩ := hW
  obtain ⟨a6, n6, rfl⟩ := Owns.slice ho
  by_cases hE : (cS5 ⟨4, cl, ke, cn, hw, tp, tx, q, rt, hu, us, hp, ps⟩).2 = 0
  rotate_left
  · have hEb : ((cS5 ⟨4, cl, ke, cn, hw, tp, tx, q, rt, hu, us, hp, ps⟩).2 != 0) = true := by simpa using hE
    have hsp : cPutE ⟨4, cl, ke, cn, hw, tp, tx, q, rt, hu, us, hp, ps⟩ = (cS5 ⟨4, cl, ke, cn, hw, tp, tx, q, rt, hu, us, hp, ps⟩).2 := by rw [cPutE, if_neg (by rw [HEQ.out]; decide), if_pos hE]
    have Hsp := hd hsp; clear hsp
    go_wp2_with fail
    go_quiet (fail)
    go_wp2_with fail
    go_ret2
    exact cPut_nil _ Hsp.out hE (below_drewN hb _)
  rw [hE] at c1
  by_cases hlen : 4096 < (cS5 ⟨4, cl, ke, cn, hw, tp, tx, q, rt, hu, us, hp, ps⟩).1.length
  · have hsp : cPutE ⟨4, cl, ke, cn, hw, tp, tx, q, rt, hu, us, hp, ps⟩ = 3 := by rw [cPutE, if_neg (by rw [HEQ.out]; decide), if_neg (by omega), if_pos hlen]
    have Hsp := hd hsp; clear hsp
    have hlI : (4096 : Int) < ((cS5 ⟨4, cl, ke, cn, hw, tp, tx, q, rt, hu, us, hp, ps⟩).1.length : Int) := by omega
    go_wp2_with fail
    go_ret2
    exact cPut_nil 3 Hsp.out (by decide) hb
  have hsp : cPutE ⟨4, cl, ke, cn, hw, tp, tx, q, rt, hu, us, hp, ps⟩ = 0 := by rw [cPutE, if_neg (by rw [HEQ.out]; decide), if_neg (by omega), if_neg hlen]
  have hspB : cPutB ⟨4, cl, ke, cn, hw, tp, tx, q, rt, hu, us, hp, ps⟩ = (cS5 ⟨4, cl, ke, cn, hw, tp, tx, q, rt, hu, us, hp, ps⟩).1 := by rw [cPutB, if_pos hsp]
  have Hsp := hd hsp; have HspB := hd hspB; clear hsp hspB
  have hlI : ((cS5 ⟨4, cl, ke, cn, hw, tp, tx, q, rt, hu, us, hp, ps⟩).1.length : Int) ≤ 4096 := by omega
  go_wp2_with fail
  go_ret2
  rw [Hsp.out, HspB.out]
  exact ⟨_, rfl, ho.le (by omega), hb⟩
end Go.Proofs.YtclicjokgfiegaaDoor

/- Who comes: which flags may be: the walks (printed by wip/gen/conrest.py). -/
namespace Go.Proofs.YtclicjokgfiegaaDoor
open Go.RowKit
set_option linter.unusedVariables false
set_option linter.unusedSimpArgs false

/-- A bit of the flags. -/
def fb (f : Int) (n : Int) : Bool := bits .and .i64 f n != 0
def cMay (f : Int) : Bool := !(f % 2 == 1) && (!(f / 8 % 4 == 3) && ((f / 4 % 2 == 1 || (f / 8 % 4 == 0 && f / 32 % 2 == 0)) && (f / 64 % 2 == 0 || f / 128 % 2 == 1)))

theorem bits_nat : ∀ f : Fin 256, bits .and .i64 (f.val : Int) 1 = (f.val : Int) % 2 ∧ bits .and .i64 (f.val : Int) 2 = (f.val : Int) / 2 % 2 * 2 ∧ bits .and .i64 (f.val : Int) 4 = (f.val : Int) / 4 % 2 * 4 ∧
    bits .and .i64 (f.val : Int) 32 = (f.val : Int) / 32 % 2 * 32 ∧ bits .and .i64 (f.val : Int) 64 = (f.val : Int) / 64 % 2 * 64 ∧ bits .and .i64 (f.val : Int) 128 = (f.val : Int) / 128 % 2 * 128 ∧ bits .and .i64 ((f.val : Int) / 8) 3 = (f.val : Int) / 8 % 4 := by decide +kernel
theorem bits_of {f : Int} (h0 : 0 ≤ f) (h1 : f ≤ 255) : bits .and .i64 f 1 = f % 2 ∧ bits .and .i64 f 2 = f / 2 % 2 * 2 ∧ bits .and .i64 f 4 = f / 4 % 2 * 4 ∧
    bits .and .i64 f 32 = f / 32 % 2 * 32 ∧ bits .and .i64 f 64 = f / 64 % 2 * 64 ∧ bits .and .i64 f 128 = f / 128 % 2 * 128 ∧ bits .and .i64 (f / 8) 3 = f / 8 % 4 := by
  obtain ⟨n, rfl⟩ := Int.eq_ofNat_of_zero_le h0
  exact bits_nat ⟨n, by omega⟩

set_option maxRecDepth 100000 in
set_option maxHeartbeats 4000000 in
theorem may_c (f : Int) (h0 : 0 ≤ f) (h1 : f ≤ 255) (w : World) : Calls Tryd.prog 201 #[.int .i64 f] w fun e w' => e = .returned (.bool (cMay f)) ∧ w = w' := by
  obtain ⟨b1, -, b4, b32, b64, b128, b8⟩ := bits_of h0 h1
  have a1 : f % 2 = 0 ∨ f % 2 = 1 := by omega
  have a4 : f / 4 % 2 = 0 ∨ f / 4 % 2 = 1 := by omega
  have a32 : f / 32 % 2 = 0 ∨ f / 32 % 2 = 1 := by omega
  have a64 : f / 64 % 2 = 0 ∨ f / 64 % 2 = 1 := by omega
  have a128 : f / 128 % 2 = 0 ∨ f / 128 % 2 = 1 := by omega
  have a8 : f / 8 % 4 = 0 ∨ f / 8 % 4 = 1 ∨ f / 8 % 4 = 2 ∨ f / 8 % 4 = 3 := by omega
  have hm : cMay f = cMay f := rfl
  conv at hm => rhs; rw [cMay]
  rcases a1 with a1 | a1
  rotate_left
  · rw [a1] at b1 hm
    have Hm : Hd (cMay f = false) := by rw [hm]; rfl
    clear b4 b32 b64 b128 b8 a4 a32 a64 a128 a8 hm a1
    go_enter Tryd.func201, Tryd.ntmps201
    go_wp2_with fail
    go_ret
    exact ⟨ret_bool Hm.out.symm, rfl⟩
  rw [a1] at b1 hm
  rcases a8 with a8 | a8 | a8 | a8
  all_goals
    rw [a8] at b8 hm
    rcases a4 with a4 | a4
    all_goals
      rw [a4] at b4 hm
      rcases a32 with a32 | a32
      all_goals
        rw [a32] at b32 hm
        rcases a64 with a64 | a64
        all_goals
          rw [a64] at b64 hm
          rcases a128 with a128 | a128
          all_goals
            rw [a128] at b128 hm
            have Hm := hd (show cMay f = _ from hm.trans (by rfl : _ = _))
            clear hm a1 a8 a4 a32 a64 a128
            simp only [Int.zero_mul, Int.one_mul] at b4 b32 b64 b128
            go_enter Tryd.func201, Tryd.ntmps201
            go_wp2_with fail
            go_ret
            exact ⟨ret_bool (by rw [Hm.out]; rfl), rfl⟩

end Go.Proofs.YtclicjokgfiegaaDoor

/- Wishes: plain laws: what is laid and told. No program. -/
namespace Go.Proofs.YtclicjokgfiegaaDoor
open Go.RowKit
set_option linter.unusedVariables false

theorem uPutB_short (l : List UInt8) : (uPutB l).length ≤ 65537 := by
  unfold uPutB
  split
  · rename_i h
    have := uRight_len h
    rw [uPutRawB_len this]; omega
  · simp

/-- a filter: its text, its QoS -/
abbrev Wish := ByteArray × Int
def Wish.cells (f : Wish) : List Value := [.string f.1, .int .i64 f.2]
def wCells : List Wish → List Value
  | [] => []
  | f :: t => Wish.cells f ++ wCells t
theorem wCells_len : ∀ l : List Wish, (wCells l).length = l.length * 2
  | [] => rfl
  | f :: t => by simp [wCells, Wish.cells, wCells_len t]; omega
theorem wCells_append : ∀ a b : List Wish, wCells (a ++ b) = wCells a ++ wCells b
  | [], b => rfl
  | f :: t, b => by simp [wCells, wCells_append t b]
theorem wCells_at : ∀ (l : List Wish) (k : Nat) (f : Wish), l[k]? = some f → (wCells l)[k * 2]? = some (.string f.1) ∧ (wCells l)[k * 2 + 1]? = some (.int .i64 f.2)
  | [], k, f, h => by simp at h
  | g :: t, 0, f, h => by simp at h; subst h; simp [wCells, Wish.cells]
  | g :: t, k + 1, f, h => by
    have ih := wCells_at t k f (by simpa using h)
    have e : (k + 1) * 2 = k * 2 + 2 := by omega
    rw [e]
    simpa [wCells, Wish.cells] using ih

/-- a number's two bytes -/
def sbMany (n : Int) : Int := if n < 1 then 4 else if 8 < n then 6 else 0
def sbWish (ends : Bool) (f : Wish) : List UInt8 × Int :=
  if ends = false ∧ (f.2 < 0 ∨ 2 < f.2) then ([], 5)
  else if uPutE (sB f.1) ≠ 0 then ([], uPutE (sB f.1))
  else (uPutB (sB f.1) ++ (if ends = true then [] else [B8 f.2.toNat]), 0)
def sbFold (ends : Bool) : List UInt8 → List Wish → List UInt8 × Int
  | a, [] => (a, 0)
  | a, f :: t => if (sbWish ends f).2 ≠ 0 then ([], (sbWish ends f).2) else sbFold ends (a ++ (sbWish ends f).1) t
def sbPutE (id : Int) (l : List Wish) (ends : Bool) : Int :=
  if pIdE id ≠ 0 then pIdE id else if sbMany l.length ≠ 0 then sbMany l.length
  else if (sbFold ends (pIdB id) l).2 ≠ 0 then (sbFold ends (pIdB id) l).2
  else if 4096 < (sbFold ends (pIdB id) l).1.length then 3 else 0
def sbPutB (id : Int) (l : List Wish) (ends : Bool) : List UInt8 := if sbPutE id l ends = 0 then (sbFold ends (pIdB id) l).1 else []

def sbCoded (n : Int) : Bool := (decide (0 ≤ n) && decide (n ≤ 2)) || decide (n = 128)
def sbAckFold : List UInt8 → List Int → List UInt8 × Int
  | a, [] => (a, 0)
  | a, n :: t => if sbCoded n = false then ([], 5) else sbAckFold (a ++ [B8 n.toNat]) t
def sbAckE (id : Int) (l : List Int) : Int :=
  if pIdE id ≠ 0 then pIdE id else if sbMany l.length ≠ 0 then sbMany l.length else (sbAckFold (pIdB id) l).2
def sbAckB (id : Int) (l : List Int) : List UInt8 := if sbAckE id l = 0 then (sbAckFold (pIdB id) l).1 else []

/-- the number at the beginning -/
def sbBegin (l : List UInt8) : Int × Int :=
  if l.length < 2 then (0, 2) else if (256 * (bN l 0 : Int) + bN l 1) = 0 then (0, 1) else (256 * (bN l 0 : Int) + bN l 1, 0)
/-- codes, byte by byte: those that came, the error -/
def sbCodes : List Int → List UInt8 → List Int × Int
  | a, [] => (a, 0)
  | a, b :: t => if sbCoded (b.toNat : Int) = false then ([], 5) else sbCodes (a ++ [(b.toNat : Int)]) t
def sbOfAck (l : List UInt8) : Int × List Int × Int :=
  if (sbBegin l).2 ≠ 0 then (0, [], (sbBegin l).2)
  else if sbMany ((l.length : Int) - 2) ≠ 0 then (0, [], sbMany ((l.length : Int) - 2))
  else if (sbCodes [] (l.drop 2)).2 ≠ 0 then (0, [], (sbCodes [] (l.drop 2)).2) else ((sbBegin l).1, (sbCodes [] (l.drop 2)).1, 0)

/-- a filter at a place: what it is, the place behind it, the error -/
def sbRead (l : List UInt8) (at' : Int) (ends : Bool) : Wish × Int × Int :=
  if (uGet l at').2.2 ≠ 0 then ((⟨#[]⟩, 0), 0, (uGet l at').2.2)
  else if ends = true then ((sOf (uGet l at').1, 0), (uGet l at').2.1, 0)
  else if (l.length : Int) ≤ (uGet l at').2.1 then ((⟨#[]⟩, 0), 0, 2)
  else if 2 < bN l (uGet l at').2.1.toNat then ((⟨#[]⟩, 0), 0, 5)
  else ((sOf (uGet l at').1, (bN l (uGet l at').2.1.toNat : Int)), (uGet l at').2.1 + 1, 0)
theorem sbRead_rng {l : List UInt8} {at' : Int} {ends : Bool} (h : (sbRead l at' ends).2.2 = 0) : 0 ≤ at' ∧ at' + 2 ≤ (sbRead l at' ends).2.1 ∧ (sbRead l at' ends).2.1 ≤ l.length := by
  unfold sbRead at h ⊢
  by_cases h1 : (uGet l at').2.2 = 0
  · have hr := uGet_rng h1
    rw [if_neg (by simp [h1])] at h ⊢
    by_cases h2 : ends = true
    · rw [if_pos h2]; simp only; omega
    rw [if_neg h2] at h ⊢
    by_cases h3 : (l.length : Int) ≤ (uGet l at').2.1
    · rw [if_pos h3] at h; simp at h
    rw [if_neg h3] at h ⊢
    by_cases h4 : 2 < bN l (uGet l at').2.1.toNat
    · rw [if_pos h4] at h; simp at h
    rw [if_neg h4]; simp only; omega
  · rw [if_pos h1] at h; exact absurd h h1
end Go.Proofs.YtclicjokgfiegaaDoor
