/- A bundle of texts (merged for the limit on files): ConPut, ConMay, ConRest. -/
import Derived.Test.YtjlnlgemngpelaaGreatDoorZa8
import Derived.Test.YtjlnlgemngpelaaGreatDoorZa6
import Derived.Test.YtjlnlgemngpelaaGreatDoorZa4
/- Who comes: what lays them: the walks. -/
namespace Go.Proofs.YtjlnlgemngpelaaGreatDoor
open Go.RowKit
set_option linter.unusedVariables false
set_option linter.unusedSimpArgs false

theorem cPut_nil {c : Con} {w w' : World} (e : Int) (he : cPutE c = e) (h0 : e ≠ 0) (hb : Below w.heap.size w w') :
    GivesB w (cPutB c) (cPutE c) (.returned (.tuple #[.slice none 0 0, .int .i64 e])) w' := by
  unfold cPutB
  rw [he, if_neg h0]
  exact GivesB.nil hb

/-- append onto an owned row of bytes, at a single operation -/
theorem wp_appW {o : Oper} {a : Act} {w : World} {K : Act → World → Prop} {Q : Exit → Act → World → Prop} (s x : Operand)
    (ho : o.op = .call { callee := .builtin .append, args := #[s, x], argTypes := #[23, 23] })
    (B : Nat) (v : Value) (l : List UInt8) (hv : a.eval s = v) (hown : Owned B w v l) (sv : Value) (m : List UInt8) (hx : a.eval x = sv) (hs : Bs w sv m)
    (hlen : l.length + m.length ≤ 140737488355328) (hbase : B ≤ w.heap.size)
    (h : ∀ v' w', Owned B w' v' (l ++ m) → Below B w w' → K (a.put o.dst v') w') : Oper.wp Tryz.prog o a w K Q := by
  obtain ⟨i0, hi, hz0, hz1, hz2⟩ := info_parts info_u8
  obtain ⟨v', w', hr, h2, h3, h4⟩ := run_app (P := Tryz.prog) w B 23 o.type 5 i0 (.int .u8 0) 1 1 Tryz.underlying23 hi hz0 hz1 hz2 rfl (by decide) v l.length (l.map byteV) hown sv m.length (m.map byteV) hs (by simp) (byteV_one m) (by omega) (by unfold maxLen; omega) hbase
  unfold Oper.wp execOp
  simp only [ho, resolve, invoke, builtin, Sem.run_bind, Sem.run_pure, Result.andThen_ok, List.map_toArray, List.map_cons, List.map_nil, hv, hx, hr]
  refine h v' w' ?_ h3
  unfold Owned
  rw [List.length_append, List.map_append]
  exact h2

/-- The cells of who comes, in their block. -/
def ConAt (w : World) (b : Nat) (c : Con) : Prop :=
  w.cell? ⟨b, 0, none⟩ = some (.int .i64 c.level) ∧ w.cell? ⟨b, 1, none⟩ = some (.bool c.clean) ∧ w.cell? ⟨b, 2, none⟩ = some (.int .i64 c.keep) ∧ w.cell? ⟨b, 3, none⟩ = some (.string c.client) ∧ w.cell? ⟨b, 4, none⟩ = some (.bool c.hasWill) ∧ w.cell? ⟨b, 5, none⟩ = some (.string c.topic) ∧ w.cell? ⟨b, 6, none⟩ = some (.string c.text) ∧ w.cell? ⟨b, 7, none⟩ = some (.int .i64 c.qos) ∧ w.cell? ⟨b, 8, none⟩ = some (.bool c.retain) ∧ w.cell? ⟨b, 9, none⟩ = some (.bool c.hasUser) ∧ w.cell? ⟨b, 10, none⟩ = some (.string c.user) ∧ w.cell? ⟨b, 11, none⟩ = some (.bool c.hasPass) ∧ w.cell? ⟨b, 12, none⟩ = some (.string c.pass) ∧ b < w.heap.size
theorem ConAt.keep {w w' : World} {b B : Nat} {c : Con} (h : ConAt w b c) (hb : Below B w w') (hB : b < B) : ConAt w' b c := by
  obtain ⟨h0, h1, h2, h3, h4, h5, h6, h7, h8, h9, h10, h11, h12, hl⟩ := h
  exact ⟨(bcell hb _ _ hB).trans h0, (bcell hb _ _ hB).trans h1, (bcell hb _ _ hB).trans h2, (bcell hb _ _ hB).trans h3, (bcell hb _ _ hB).trans h4, (bcell hb _ _ hB).trans h5, (bcell hb _ _ hB).trans h6, (bcell hb _ _ hB).trans h7, (bcell hb _ _ hB).trans h8, (bcell hb _ _ hB).trans h9, (bcell hb _ _ hB).trans h10, (bcell hb _ _ hB).trans h11, (bcell hb _ _ hB).trans h12, Nat.lt_of_lt_of_le hl hb.size⟩
theorem ConAt.new (w : World) (c : Con) : ConAt (w.alloc (Obj.cells c.cells.toArray 32)) w.heap.size c :=
  ⟨World.cell?_alloc_new w _ _ 0, World.cell?_alloc_new w _ _ 1, World.cell?_alloc_new w _ _ 2, World.cell?_alloc_new w _ _ 3, World.cell?_alloc_new w _ _ 4, World.cell?_alloc_new w _ _ 5, World.cell?_alloc_new w _ _ 6, World.cell?_alloc_new w _ _ 7, World.cell?_alloc_new w _ _ 8, World.cell?_alloc_new w _ _ 9, World.cell?_alloc_new w _ _ 10, World.cell?_alloc_new w _ _ 11, World.cell?_alloc_new w _ _ 12, by simp⟩

theorem below_drewN {B : Nat} {a w : World} (h : Below B a w) (n : Nat) : Below B a (w.drewN n) := ⟨h.os, h.tape, h.output, h.size, h.block⟩
theorem u8_in {n : Int} (h : 0 ≤ n ∧ n ≤ 255) : IntKind.u8.wrap n = n := by
  have e : IntKind.u8.wrap n = n % 256 := by simp [IntKind.wrap, IntKind.signed, IntKind.bits]
  rw [e]; omega

theorem WrAt.new (w : World) : WrAt (w.alloc (Obj.cells #[.slice none 0 0, .int .i64 0] 164)) w.heap.size [] 0 :=
  ⟨_, World.cell?_alloc_new w _ _ 0, Owned.nil _ _, World.cell?_alloc_new w _ _ 1, by simp [go_sem], by simp [go_sem], by simp⟩

theorem cS_len (c : Con) : (cHead c).length ≤ 10 ∧ (cS1 c).1.length ≤ 65547 ∧ (cS2 c).1.length ≤ 131084 ∧ (cS3 c).1.length ≤ 196621 ∧ (cS4 c).1.length ≤ 262158 := by
  have h0 : (cHead c).length = 10 := rfl
  have h1 := cStep_len (cHead c, 0) true (uPutE (sB c.client)) (uPutB (sB c.client))
  have h2 := cStep_len (cS1 c) c.hasWill (uPutE (sB c.topic)) (uPutB (sB c.topic))
  have h3 := cStep_len (cS2 c) c.hasWill (uPutRawE (sB c.text)) (uPutRawB (sB c.text))
  have h4 := cStep_len (cS3 c) c.hasUser (uPutE (sB c.user)) (uPutB (sB c.user))
  have b1 := @uPutB_len (sB c.client)
  have b2 := @uPutB_len (sB c.topic)
  have b3 := uPutRawB_len2 (sB c.text)
  have b4 := @uPutB_len (sB c.user)
  have e1 : cStep (cHead c, 0) true (uPutE (sB c.client)) (uPutB (sB c.client)) = cS1 c := rfl
  have e2 : cStep (cS1 c) c.hasWill (uPutE (sB c.topic)) (uPutB (sB c.topic)) = cS2 c := rfl
  have e3 : cStep (cS2 c) c.hasWill (uPutRawE (sB c.text)) (uPutRawB (sB c.text)) = cS3 c := rfl
  have e4 : cStep (cS3 c) c.hasUser (uPutE (sB c.user)) (uPutB (sB c.user)) = cS4 c := rfl
  rw [e1] at h1; rw [e2] at h2; rw [e3] at h3; rw [e4] at h4
  simp only at h1
  omega

theorem cS_name : cStep ([], 0) true (uPutE (sB ⟨#[77, 81, 84, 84]⟩)) (uPutB (sB ⟨#[77, 81, 84, 84]⟩)) = ([0, 4, 77, 81, 84, 84], 0) := by decide +kernel

set_option maxRecDepth 100000 in
set_option maxHeartbeats 4000000 in
theorem conPut_c (c : Con) (w : World) (hE : EnvU w) (hs : c.sized 140737488351232) : Calls Tryz.prog 73 #[.agg c.cells.toArray] w (GivesB w (cPutB c) (cPutE c)) := by
  have HE := hd hE; clear hE
  have hwr := wrong_c c
  have hfl := flags_c c
  have hok := @cErr_ok c
  have hcon := ConAt.new w c
  obtain ⟨lv, cl, ke, cn, hw, tp, tx, q, rt, hu, us, hp, ps⟩ := c
  simp only [Con.cells, Con.sized] at *
  have HW := hd hwr; have HF := hd hfl; have HO := hd hok
  have HC := hd hcon
  clear hwr hfl hok hcon
  go_enter Tryz.func73, Tryz.ntmps73
  go_wp2_with fail
  refine (HW.out _).mono ?_
  rintro e w1 ⟨rfl, hb1⟩
  have hl1 : w.heap.size < w1.heap.size := by have := hb1.size; simp at this; omega
  have hb : Below w.heap.size w w1 := Below.up (by go_grown) hb1
  have hcon := (HC.out).keep hb1 (by simp)
  clear HC HW hb1
  by_cases he : cErr ⟨lv, cl, ke, cn, hw, tp, tx, q, rt, hu, us, hp, ps⟩ = 0
  rotate_left
  · have heb : (cErr ⟨lv, cl, ke, cn, hw, tp, tx, q, rt, hu, us, hp, ps⟩ != 0) = true := by simpa using he
    go_wp2_with fail
    go_ret2
    exact cPut_nil _ (by rw [cPutE, if_pos he]) he hb
  obtain ⟨rfl, ⟨k0, k1⟩, hq, -, -, -, -⟩ := HO.out he
  clear HO
  rw [he]
  have hW1 := WrAt.new w1
  have HEQ := hd he; clear he
  go_wp2_with fail
  have hb' := hb.box (o := Obj.cells #[.slice none 0 0, .int .i64 0] 164)
  refine (wputT_c true ⟨#[77, 81, 84, 84]⟩ _ [] 0 _ hW1 (HE.out.below hb') (by decide) (by simp)).mono ?_
  rw [cS_name]
  rintro r w2 ⟨rfl, hW2, hb2⟩
  replace hcon := (hcon.keep (Below.refl _ _ |>.alloc (Nat.le_refl _) _) hl1).keep hb2 hl1
  replace hb := (hb').trans (hb2.mono (Nat.le_of_lt hl1))
  clear hW1 hb2 hb'
  generalize hg : w1.heap.size = g at *
  clear hg
  obtain ⟨v2, c0, ho2, c1, z0, z1, hg2⟩ := hW2
  obtain ⟨a2, n2, rfl⟩ := Owns.slice ho2
  simp only [List.length_cons, List.length_nil, Nat.reduceAdd] at c0 ho2
  have hfr := cFlags_rng (c := ⟨4, cl, ke, cn, hw, tp, tx, q, rt, hu, us, hp, ps⟩) hq
  have hF := HF.out; clear HF
  generalize hFq : cFlags ⟨4, cl, ke, cn, hw, tp, tx, q, rt, hu, us, hp, ps⟩ = F at *
  have HF := hd hF; have HFQ := hd hFq; clear hF hFq
  obtain ⟨f0, f1⟩ := hfr
  have e0 : IntKind.u8.wrap F = F := u8_in (by omega)
  have e1 : ke.tdiv 256 = ke / 256 := Int.tdiv_eq_ediv_of_nonneg (by omega)
  have e2 : IntKind.i64.wrap (ke / 256) = ke / 256 := IntWalk.i64_in _ (by omega)
  have e3 : IntKind.u8.wrap (ke / 256) = ke / 256 := u8_in (by omega)
  have e4 : ke.tmod 256 = ke % 256 := Int.tmod_eq_emod_of_nonneg (by omega)
  have e5 : IntKind.u8.wrap (ke % 256) = ke % 256 := u8_in (by omega)
  have hB4 : [Value.int .u8 4, .int .u8 F, .int .u8 (ke / 256), .int .u8 (ke % 256)] = [4, B8 F.toNat, B8 (ke.toNat / 256), B8 (ke.toNat % 256)].map byteV := by
    simp only [List.map]
    rw [byteV_B8 (x := F) (by omega) (by omega), byteV_B8 (x := ke / 256) (by omega) (by omega), byteV_B8 (x := ke % 256) (by omega) (by omega)]
    rfl
  have HB4 := hd hB4; clear hB4
  have hlg : w.heap.size < g + 1 := by omega
  go_wp2_with fail
  refine wp_region_M (fun w' => w'.cell? ⟨g, 0, none⟩ = some (.slice a2 6 n2) ∧ ConAt w' w.heap.size ⟨4, cl, ke, cn, hw, tp, tx, q, rt, hu, us, hp, ps⟩) 20 [(0, false), (1, false), (2, false), (3, false), (4, false), (5, false), (8, false), (9, false), (10, false), (11, false), (12, false), (13, false), (14, false), (15, false), (6, true), (7, false), (16, true), (17, true), (18, false), (19, false), (20, true)] (by kernel_rfl) (by kernel_rfl) (fun _ _ _ _ h => h) ⟨c0, hcon⟩ ?_
  iterate 14
    apply wpM_still (by rfl) (by rfl)
    · intro W hC
      obtain ⟨d0, hd⟩ := hC
      simp only [ConAt] at hd
      obtain ⟨d1, d2, d3, d4, d5, d6, d7, d8, d9, d10, d11, d12, d13, _⟩ := hd
      go_simp
      rfl
    go_simp
  apply wpM_move (by rfl) (by rfl)
  intro K hK
  go_simp
  refine (HF.out _ hq).mono ?_
  rintro r w' ⟨rfl, n, rfl⟩
  have hb3 : Below w2.heap.size w2 ((w2.drew.alloc (Obj.cells #[.int .i64 4, .bool cl, .int .i64 ke, .string cn, .bool hw, .string tp, .string tx, .int .i64 q, .bool rt, .bool hu, .string us, .bool hp, .string ps] 32)).drewN n) := below_drewN ((Below.refl _ w2).drew.alloc (Nat.le_refl _) _) n
  generalize ((w2.drew.alloc (Obj.cells #[.int .i64 4, .bool cl, .int .i64 ke, .string cn, .bool hw, .string tp, .string tx, .int .i64 q, .bool rt, .bool hu, .string us, .bool hp, .string ps] 32)).drewN n) = w3 at *
  replace c0 := (bcell hb3 g 0 hg2).trans c0
  replace c1 := (bcell hb3 g 1 hg2).trans c1
  replace z0 := (bfree hb3 g 0 hg2).trans z0
  replace z1 := (bfree hb3 g 1 hg2).trans z1
  replace hcon := hcon.keep hb3 (by omega)
  replace ho2 := ho2.kept hb3 (Nat.le_refl _)
  replace hb := hb.trans (hb3.mono (by omega))
  replace hg2 : g < w3.heap.size := Nat.lt_of_lt_of_le hg2 hb3.size
  clear hb3
  simp only []
  refine hK _ _ (fun _ => ⟨c0, hcon⟩) ?_
  clear hK K
  iterate 1
    apply wpM_still (by rfl) (by rfl)
    · intro W hC
      obtain ⟨d0, hd⟩ := hC
      simp only [ConAt] at hd
      obtain ⟨d1, d2, d3, d4, d5, d6, d7, d8, d9, d10, d11, d12, d13, _⟩ := hd
      go_simp
      rfl
    go_simp
  apply wpM_move (by rfl) (by rfl)
  intro K hK
  go_simp
  have hsl := owned_lit w3.heap.size w3 [4, B8 F.toNat, B8 (ke.toNat / 256), B8 (ke.toNat % 256)] w3.heap.size rfl (Nat.le_refl _) (by unfold maxLen; simp) _ HB4.out 4 rfl
  have hb4 : Below w3.heap.size w3 (w3.alloc (Obj.cells #[.int .u8 4, .int .u8 F, .int .u8 (ke / 256), .int .u8 (ke % 256)] 5)) := (Below.refl _ _).alloc (Nat.le_refl _) _
  refine hK _ _ (fun _ => ⟨(bcell hb4 g 0 hg2).trans c0, hcon.keep hb4 (by omega)⟩) ?_
  clear hK K
  apply wpM_move (by rfl) (by rfl)
  intro K hK
  refine wp_appW _ _ (by rfl) (g + 1) _ _ (by rfl) (ho2.kept hb4 (Nat.le_refl _)) _ _ (by rfl) hsl.bs (by simp) (by simp; omega) ?_
  rintro v5 w5 ho5 hb5
  obtain ⟨a5, n5, rfl⟩ := Owns.slice ho5
  replace c0 := (bcell hb5 g 0 (by omega)).trans ((bcell hb4 g 0 hg2).trans c0)
  replace c1 := (bcell hb5 g 1 (by omega)).trans ((bcell hb4 g 1 hg2).trans c1)
  replace z0 := (bfree hb5 g 0 (by omega)).trans ((bfree hb4 g 0 hg2).trans z0)
  replace z1 := (bfree hb5 g 1 (by omega)).trans ((bfree hb4 g 1 hg2).trans z1)
  replace hcon := (hcon.keep hb4 (by omega)).keep hb5 hlg
  replace hb := hb.box.trans (hb5.mono (by omega))
  have hg5 : g < w5.heap.size := by have := hb5.size; simp at this; omega
  clear hsl hb4 hb5 ho2 e0 e1 e2 e3 e4 e5 HB4
  refine hK _ _ (fun _ => ⟨c0, hcon⟩) ?_
  clear hK K
  go_simp
  iterate 2
    apply wpM_still (by rfl) (by rfl)
    · intro W hC
      obtain ⟨d0, hd⟩ := hC
      simp only [ConAt] at hd
      obtain ⟨d1, d2, d3, d4, d5, d6, d7, d8, d9, d10, d11, d12, d13, _⟩ := hd
      go_simp
      rfl
    go_simp
  apply wpM_move (by rfl) (by rfl)
  intro K hK
  go_simp
  refine hK _ _ (fun h => absurd h (by decide)) ?_
  clear hK K
  refine wpM_nil ?_
  have hW : WrAt (w5.setCell ⟨g, 0, none⟩ (.slice a5 10 n5)) g (cHead ⟨4, cl, ke, cn, hw, tp, tx, q, rt, hu, us, hp, ps⟩) 0 := by
    have e : cHead ⟨4, cl, ke, cn, hw, tp, tx, q, rt, hu, us, hp, ps⟩ = [0, 4, 77, 81, 84, 84] ++ [4, B8 F.toNat, B8 (ke.toNat / 256), B8 (ke.toNat % 256)] := by rw [← HFQ.out]; rfl
    rw [e]
    exact ⟨_, by simp [go_sem, c0], ho5.aside (by simp) _, by simp [go_sem, c1], by simp [go_sem, z0], by simp [go_sem, z1], by simp [go_sem]; exact hg5⟩
  have hb5 : Below g w5 (w5.setCell ⟨g, 0, none⟩ (.slice a5 10 n5)) := (Below.refl _ _).setCell (by simp) _
  replace hcon := hcon.keep hb5 hl1
  replace hb := hb.trans (hb5.mono (Nat.le_of_lt hl1))
  generalize (w5.setCell ⟨g, 0, none⟩ (.slice a5 10 n5)) = w6 at *
  clear hb5 c0 c1 z0 z1 ho5 HFQ
  obtain ⟨s1, s2, s3, s4, s5⟩ := hs
  have hL := cS_len ⟨4, cl, ke, cn, hw, tp, tx, q, rt, hu, us, hp, ps⟩
  obtain ⟨hL0, hL1, hL2, hL3, hL4⟩ := hL
  have hcc := hcon
  simp only [ConAt] at hcc
  obtain ⟨d1, d2, d3, d4, d5, d6, d7, d8, d9, d10, d11, d12, d13, _⟩ := hcc
  go_wp2_with fail
  clear d1 d2 d3 d4 d5 d6 d7 d8 d9 d10 d11 d12 d13
  refine (wputT_c true cn g _ 0 _ hW (HE.out.below hb) s1 (by omega)).mono ?_
  rintro r w7 ⟨rfl, hW', hb'⟩
  replace hW : WrAt w7 g (cS1 ⟨4, cl, ke, cn, hw, tp, tx, q, rt, hu, us, hp, ps⟩).1 (cS1 ⟨4, cl, ke, cn, hw, tp, tx, q, rt, hu, us, hp, ps⟩).2 := hW'
  replace hcon := hcon.keep hb' hl1
  replace hb := hb.trans (hb'.mono (Nat.le_of_lt hl1))
  clear hW' hb'
  have hcc := hcon
  simp only [ConAt] at hcc
  obtain ⟨d1, d2, d3, d4, d5, d6, d7, d8, d9, d10, d11, d12, d13, _⟩ := hcc
  go_wp2_with fail
  clear d1 d2 d3 d4 d5 d6 d7 d8 d9 d10 d11 d12 d13
  refine (wputT_c hw tp g (cS1 ⟨4, cl, ke, cn, hw, tp, tx, q, rt, hu, us, hp, ps⟩).1 (cS1 ⟨4, cl, ke, cn, hw, tp, tx, q, rt, hu, us, hp, ps⟩).2 _ hW (HE.out.below hb) s2 (by omega)).mono ?_
  rintro r w8 ⟨rfl, hW', hb'⟩
  replace hW : WrAt w8 g (cS2 ⟨4, cl, ke, cn, hw, tp, tx, q, rt, hu, us, hp, ps⟩).1 (cS2 ⟨4, cl, ke, cn, hw, tp, tx, q, rt, hu, us, hp, ps⟩).2 := hW'
  replace hcon := hcon.keep hb' hl1
  replace hb := hb.trans (hb'.mono (Nat.le_of_lt hl1))
  clear hW' hb'
  have hcc := hcon
  simp only [ConAt] at hcc
  obtain ⟨d1, d2, d3, d4, d5, d6, d7, d8, d9, d10, d11, d12, d13, _⟩ := hcc
  go_wp2_with fail
  clear d1 d2 d3 d4 d5 d6 d7 d8 d9 d10 d11 d12 d13
  refine (wputR_c hw tx g (cS2 ⟨4, cl, ke, cn, hw, tp, tx, q, rt, hu, us, hp, ps⟩).1 (cS2 ⟨4, cl, ke, cn, hw, tp, tx, q, rt, hu, us, hp, ps⟩).2 _ hW (HE.out.below hb) s3 (by omega)).mono ?_
  rintro r w9 ⟨rfl, hW', hb'⟩
  replace hW : WrAt w9 g (cS3 ⟨4, cl, ke, cn, hw, tp, tx, q, rt, hu, us, hp, ps⟩).1 (cS3 ⟨4, cl, ke, cn, hw, tp, tx, q, rt, hu, us, hp, ps⟩).2 := hW'
  replace hcon := hcon.keep hb' hl1
  replace hb := hb.trans (hb'.mono (Nat.le_of_lt hl1))
  clear hW' hb'
  have hcc := hcon
  simp only [ConAt] at hcc
  obtain ⟨d1, d2, d3, d4, d5, d6, d7, d8, d9, d10, d11, d12, d13, _⟩ := hcc
  go_wp2_with fail
  clear d1 d2 d3 d4 d5 d6 d7 d8 d9 d10 d11 d12 d13
  refine (wputT_c hu us g (cS3 ⟨4, cl, ke, cn, hw, tp, tx, q, rt, hu, us, hp, ps⟩).1 (cS3 ⟨4, cl, ke, cn, hw, tp, tx, q, rt, hu, us, hp, ps⟩).2 _ hW (HE.out.below hb) s4 (by omega)).mono ?_
  rintro r w10 ⟨rfl, hW', hb'⟩
  replace hW : WrAt w10 g (cS4 ⟨4, cl, ke, cn, hw, tp, tx, q, rt, hu, us, hp, ps⟩).1 (cS4 ⟨4, cl, ke, cn, hw, tp, tx, q, rt, hu, us, hp, ps⟩).2 := hW'
  replace hcon := hcon.keep hb' hl1
  replace hb := hb.trans (hb'.mono (Nat.le_of_lt hl1))
  clear hW' hb'
  have hcc := hcon
  simp only [ConAt] at hcc
  obtain ⟨d1, d2, d3, d4, d5, d6, d7, d8, d9, d10, d11, d12, d13, _⟩ := hcc
  go_wp2_with fail
  clear d1 d2 d3 d4 d5 d6 d7 d8 d9 d10 d11 d12 d13
  refine (wputR_c hp ps g (cS4 ⟨4, cl, ke, cn, hw, tp, tx, q, rt, hu, us, hp, ps⟩).1 (cS4 ⟨4, cl, ke, cn, hw, tp, tx, q, rt, hu, us, hp, ps⟩).2 _ hW (HE.out.below hb) s5 (by omega)).mono ?_
  rintro r w11 ⟨rfl, hW', hb'⟩
  replace hW : WrAt w11 g (cS5 ⟨4, cl, ke, cn, hw, tp, tx, q, rt, hu, us, hp, ps⟩).1 (cS5 ⟨4, cl, ke, cn, hw, tp, tx, q, rt, hu, us, hp, ps⟩).2 := hW'
  replace hcon := hcon.keep hb' hl1
  replace hb := hb.trans (hb'.mono (Nat.le_of_lt hl1))
  clear hW' hb'
  obtain ⟨v, c0, ho, c1, z0, z1, hg6⟩ := hW
  obtain ⟨a6, n6, rfl⟩ := Owns.slice ho
  by_cases hE : (cS5 ⟨4, cl, ke, cn, hw, tp, tx, q, rt, hu, us, hp, ps⟩).2 = 0
  rotate_left
  · have hEb : ((cS5 ⟨4, cl, ke, cn, hw, tp, tx, q, rt, hu, us, hp, ps⟩).2 != 0) = true := by simpa using hE
    have hsp : cPutE ⟨4, cl, ke, cn, hw, tp, tx, q, rt, hu, us, hp, ps⟩ = (cS5 ⟨4, cl, ke, cn, hw, tp, tx, q, rt, hu, us, hp, ps⟩).2 := by rw [cPutE, if_neg (by rw [HEQ.out]; decide), if_pos hE]
    have Hsp := hd hsp; clear hsp
    go_wp2_with fail
    go_quiet (fail)
    go_wp2_with fail
    go_ret2
    exact cPut_nil _ Hsp.out hE (below_drewN hb _)
  rw [hE] at c1
  by_cases hlen : 4096 < (cS5 ⟨4, cl, ke, cn, hw, tp, tx, q, rt, hu, us, hp, ps⟩).1.length
  · have hsp : cPutE ⟨4, cl, ke, cn, hw, tp, tx, q, rt, hu, us, hp, ps⟩ = 3 := by rw [cPutE, if_neg (by rw [HEQ.out]; decide), if_neg (by omega), if_pos hlen]
    have Hsp := hd hsp; clear hsp
    have hlI : (4096 : Int) < ((cS5 ⟨4, cl, ke, cn, hw, tp, tx, q, rt, hu, us, hp, ps⟩).1.length : Int) := by omega
    go_wp2_with fail
    go_ret2
    exact cPut_nil 3 Hsp.out (by decide) hb
  have hsp : cPutE ⟨4, cl, ke, cn, hw, tp, tx, q, rt, hu, us, hp, ps⟩ = 0 := by rw [cPutE, if_neg (by rw [HEQ.out]; decide), if_neg (by omega), if_neg hlen]
  have hspB : cPutB ⟨4, cl, ke, cn, hw, tp, tx, q, rt, hu, us, hp, ps⟩ = (cS5 ⟨4, cl, ke, cn, hw, tp, tx, q, rt, hu, us, hp, ps⟩).1 := by rw [cPutB, if_pos hsp]
  have Hsp := hd hsp; have HspB := hd hspB; clear hsp hspB
  have hlI : ((cS5 ⟨4, cl, ke, cn, hw, tp, tx, q, rt, hu, us, hp, ps⟩).1.length : Int) ≤ 4096 := by omega
  go_wp2_with fail
  go_ret2
  rw [Hsp.out, HspB.out]
  exact ⟨_, rfl, ho.le (by omega), hb⟩
end Go.Proofs.YtjlnlgemngpelaaGreatDoor

/- Who comes: which flags may be: the walks (printed by wip/gen/conrest.py). -/
namespace Go.Proofs.YtjlnlgemngpelaaGreatDoor
open Go.RowKit
set_option linter.unusedVariables false
set_option linter.unusedSimpArgs false

/-- A bit of the flags. -/
def fb (f : Int) (n : Int) : Bool := bits .and .i64 f n != 0
def cMay (f : Int) : Bool := !(f % 2 == 1) && (!(f / 8 % 4 == 3) && ((f / 4 % 2 == 1 || (f / 8 % 4 == 0 && f / 32 % 2 == 0)) && (f / 64 % 2 == 0 || f / 128 % 2 == 1)))

theorem bits_nat : ∀ f : Fin 256, bits .and .i64 (f.val : Int) 1 = (f.val : Int) % 2 ∧ bits .and .i64 (f.val : Int) 2 = (f.val : Int) / 2 % 2 * 2 ∧ bits .and .i64 (f.val : Int) 4 = (f.val : Int) / 4 % 2 * 4 ∧
    bits .and .i64 (f.val : Int) 32 = (f.val : Int) / 32 % 2 * 32 ∧ bits .and .i64 (f.val : Int) 64 = (f.val : Int) / 64 % 2 * 64 ∧ bits .and .i64 (f.val : Int) 128 = (f.val : Int) / 128 % 2 * 128 ∧ bits .and .i64 ((f.val : Int) / 8) 3 = (f.val : Int) / 8 % 4 := by decide +kernel
theorem bits_of {f : Int} (h0 : 0 ≤ f) (h1 : f ≤ 255) : bits .and .i64 f 1 = f % 2 ∧ bits .and .i64 f 2 = f / 2 % 2 * 2 ∧ bits .and .i64 f 4 = f / 4 % 2 * 4 ∧
    bits .and .i64 f 32 = f / 32 % 2 * 32 ∧ bits .and .i64 f 64 = f / 64 % 2 * 64 ∧ bits .and .i64 f 128 = f / 128 % 2 * 128 ∧ bits .and .i64 (f / 8) 3 = f / 8 % 4 := by
  obtain ⟨n, rfl⟩ := Int.eq_ofNat_of_zero_le h0
  exact bits_nat ⟨n, by omega⟩

set_option maxRecDepth 100000 in
set_option maxHeartbeats 4000000 in
theorem may_c (f : Int) (h0 : 0 ≤ f) (h1 : f ≤ 255) (w : World) : Calls Tryz.prog 159 #[.int .i64 f] w fun e w' => e = .returned (.bool (cMay f)) ∧ w = w' := by
  obtain ⟨b1, -, b4, b32, b64, b128, b8⟩ := bits_of h0 h1
  have a1 : f % 2 = 0 ∨ f % 2 = 1 := by omega
  have a4 : f / 4 % 2 = 0 ∨ f / 4 % 2 = 1 := by omega
  have a32 : f / 32 % 2 = 0 ∨ f / 32 % 2 = 1 := by omega
  have a64 : f / 64 % 2 = 0 ∨ f / 64 % 2 = 1 := by omega
  have a128 : f / 128 % 2 = 0 ∨ f / 128 % 2 = 1 := by omega
  have a8 : f / 8 % 4 = 0 ∨ f / 8 % 4 = 1 ∨ f / 8 % 4 = 2 ∨ f / 8 % 4 = 3 := by omega
  have hm : cMay f = cMay f := rfl
  conv at hm => rhs; rw [cMay]
  rcases a1 with a1 | a1
  rotate_left
  · rw [a1] at b1 hm
    have Hm : Hd (cMay f = false) := by rw [hm]; rfl
    clear b4 b32 b64 b128 b8 a4 a32 a64 a128 a8 hm a1
    go_enter Tryz.func159, Tryz.ntmps159
    go_wp2_with fail
    go_ret
    exact ⟨ret_bool Hm.out.symm, rfl⟩
  rw [a1] at b1 hm
  rcases a8 with a8 | a8 | a8 | a8
  all_goals
    rw [a8] at b8 hm
    rcases a4 with a4 | a4
    all_goals
      rw [a4] at b4 hm
      rcases a32 with a32 | a32
      all_goals
        rw [a32] at b32 hm
        rcases a64 with a64 | a64
        all_goals
          rw [a64] at b64 hm
          rcases a128 with a128 | a128
          all_goals
            rw [a128] at b128 hm
            have Hm := hd (show cMay f = _ from hm.trans (by rfl : _ = _))
            clear hm a1 a8 a4 a32 a64 a128
            simp only [Int.zero_mul, Int.one_mul] at b4 b32 b64 b128
            go_enter Tryz.func159, Tryz.ntmps159
            go_wp2_with fail
            go_ret
            exact ⟨ret_bool (by rw [Hm.out]; rfl), rfl⟩

end Go.Proofs.YtjlnlgemngpelaaGreatDoor

/- Who comes: what stands behind the level: the walk (printed by wip/gen/conrest2.py). -/
namespace Go.Proofs.YtjlnlgemngpelaaGreatDoor
open Go.RowKit
set_option linter.unusedVariables false
set_option linter.unusedSimpArgs false

/-- The reader's states behind each step, from what stands behind the level on. -/
def kf (l : List UInt8) (s : Int × Int) : Int := rOneV l s
def k1 (l : List UInt8) (s : Int × Int) : Int × Int := rOneS l s
def k2 (l : List UInt8) (s : Int × Int) : Int × Int := if (k1 l s).2 = 0 ∧ cMay (kf l s) = false then rFail (k1 l s) 10 else k1 l s
def k3 (l : List UInt8) (s : Int × Int) : Int × Int := rTwoS l (k2 l s)
def k4 (l : List UInt8) (s : Int × Int) : Int × Int := rTextS (uGet l (k3 l s).1) true (k3 l s)
def k5 (l : List UInt8) (s : Int × Int) : Int × Int := rTextS (uGet l (k4 l s).1) (fb (kf l s) 4) (k4 l s)
def k6 (l : List UInt8) (s : Int × Int) : Int × Int := rTextS (uGetRaw l (k5 l s).1) (fb (kf l s) 4) (k5 l s)
def k7 (l : List UInt8) (s : Int × Int) : Int × Int := rTextS (uGet l (k6 l s).1) (fb (kf l s) 128) (k6 l s)
def k8 (l : List UInt8) (s : Int × Int) : Int × Int := rTextS (uGetRaw l (k7 l s).1) (fb (kf l s) 64) (k7 l s)
def k9 (l : List UInt8) (s : Int × Int) : Int × Int := if (k8 l s).2 = 0 ∧ (k8 l s).1 ≠ l.length then rFail (k8 l s) 4 else k8 l s
def kCon (lv : Int) (l : List UInt8) (s : Int × Int) : Con :=
  ⟨lv, fb (kf l s) 2, rTwoV l (k2 l s), sOf (rTextV (uGet l (k3 l s).1) true (k3 l s)), fb (kf l s) 4, sOf (rTextV (uGet l (k4 l s).1) (fb (kf l s) 4) (k4 l s)), sOf (rTextV (uGetRaw l (k5 l s).1) (fb (kf l s) 4) (k5 l s)),
    bits .and .i64 (kf l s / 8) 3, fb (kf l s) 32, fb (kf l s) 128, sOf (rTextV (uGet l (k6 l s).1) (fb (kf l s) 128) (k6 l s)), fb (kf l s) 64, sOf (rTextV (uGetRaw l (k7 l s).1) (fb (kf l s) 64) (k7 l s))⟩
theorem kf_rng (l : List UInt8) (s : Int × Int) : 0 ≤ kf l s ∧ kf l s ≤ 255 := by
  unfold kf rOneV
  have := bN_lt l s.1.toNat
  repeat' split
  all_goals omega

/-- None of a block's first cells is frozen. -/
def Free (w : World) (b : Nat) : Prop := ∀ o, w.frozen? ⟨b, o, none⟩ = false
theorem Free.set {w : World} {b : Nat} (h : Free w b) (p : Addr) (u : Value) : Free (w.setCell p u) b := fun o => by have := h o; simp [go_sem, this]
theorem Free.keeps {S : List Nat} {w w' : World} {b : Nat} (h : Free w b) (hk : Keeps S w w') (hb : b < w.heap.size) (hn : b ∉ S) : Free w' b := fun o => (hk.free hb hn).trans (h o)
theorem ConAt.keeps {S : List Nat} {w w' : World} {b : Nat} {c : Con} (h : ConAt w b c) (hk : Keeps S w w') (hn : b ∉ S) : ConAt w' b c := by
  obtain ⟨h0, h1, h2, h3, h4, h5, h6, h7, h8, h9, h10, h11, h12, hl⟩ := h
  exact ⟨(hk.cell hl hn).trans h0, (hk.cell hl hn).trans h1, (hk.cell hl hn).trans h2, (hk.cell hl hn).trans h3, (hk.cell hl hn).trans h4, (hk.cell hl hn).trans h5, (hk.cell hl hn).trans h6, (hk.cell hl hn).trans h7, (hk.cell hl hn).trans h8, (hk.cell hl hn).trans h9, (hk.cell hl hn).trans h10, (hk.cell hl hn).trans h11, (hk.cell hl hn).trans h12, Nat.lt_of_lt_of_le hl hk.size⟩
theorem ConAt.set0 {w : World} {b : Nat} {c : Con} (h : ConAt w b c) (x : Int) : ConAt (w.setCell ⟨b, 0, none⟩ (.int .i64 x)) b { c with level := x } := by
  obtain ⟨h0, h1, h2, h3, h4, h5, h6, h7, h8, h9, h10, h11, h12, hl⟩ := h
  exact ⟨by simp [go_sem, h0], by simp [go_sem, h1], by simp [go_sem, h2], by simp [go_sem, h3], by simp [go_sem, h4], by simp [go_sem, h5], by simp [go_sem, h6], by simp [go_sem, h7], by simp [go_sem, h8], by simp [go_sem, h9], by simp [go_sem, h10], by simp [go_sem, h11], by simp [go_sem, h12], by simpa [go_sem] using hl⟩
theorem ConAt.set1 {w : World} {b : Nat} {c : Con} (h : ConAt w b c) (x : Bool) : ConAt (w.setCell ⟨b, 1, none⟩ (.bool x)) b { c with clean := x } := by
  obtain ⟨h0, h1, h2, h3, h4, h5, h6, h7, h8, h9, h10, h11, h12, hl⟩ := h
  exact ⟨by simp [go_sem, h0], by simp [go_sem, h1], by simp [go_sem, h2], by simp [go_sem, h3], by simp [go_sem, h4], by simp [go_sem, h5], by simp [go_sem, h6], by simp [go_sem, h7], by simp [go_sem, h8], by simp [go_sem, h9], by simp [go_sem, h10], by simp [go_sem, h11], by simp [go_sem, h12], by simpa [go_sem] using hl⟩
theorem ConAt.set2 {w : World} {b : Nat} {c : Con} (h : ConAt w b c) (x : Int) : ConAt (w.setCell ⟨b, 2, none⟩ (.int .i64 x)) b { c with keep := x } := by
  obtain ⟨h0, h1, h2, h3, h4, h5, h6, h7, h8, h9, h10, h11, h12, hl⟩ := h
  exact ⟨by simp [go_sem, h0], by simp [go_sem, h1], by simp [go_sem, h2], by simp [go_sem, h3], by simp [go_sem, h4], by simp [go_sem, h5], by simp [go_sem, h6], by simp [go_sem, h7], by simp [go_sem, h8], by simp [go_sem, h9], by simp [go_sem, h10], by simp [go_sem, h11], by simp [go_sem, h12], by simpa [go_sem] using hl⟩
theorem ConAt.set3 {w : World} {b : Nat} {c : Con} (h : ConAt w b c) (x : ByteArray) : ConAt (w.setCell ⟨b, 3, none⟩ (.string x)) b { c with client := x } := by
  obtain ⟨h0, h1, h2, h3, h4, h5, h6, h7, h8, h9, h10, h11, h12, hl⟩ := h
  exact ⟨by simp [go_sem, h0], by simp [go_sem, h1], by simp [go_sem, h2], by simp [go_sem, h3], by simp [go_sem, h4], by simp [go_sem, h5], by simp [go_sem, h6], by simp [go_sem, h7], by simp [go_sem, h8], by simp [go_sem, h9], by simp [go_sem, h10], by simp [go_sem, h11], by simp [go_sem, h12], by simpa [go_sem] using hl⟩
theorem ConAt.set4 {w : World} {b : Nat} {c : Con} (h : ConAt w b c) (x : Bool) : ConAt (w.setCell ⟨b, 4, none⟩ (.bool x)) b { c with hasWill := x } := by
  obtain ⟨h0, h1, h2, h3, h4, h5, h6, h7, h8, h9, h10, h11, h12, hl⟩ := h
  exact ⟨by simp [go_sem, h0], by simp [go_sem, h1], by simp [go_sem, h2], by simp [go_sem, h3], by simp [go_sem, h4], by simp [go_sem, h5], by simp [go_sem, h6], by simp [go_sem, h7], by simp [go_sem, h8], by simp [go_sem, h9], by simp [go_sem, h10], by simp [go_sem, h11], by simp [go_sem, h12], by simpa [go_sem] using hl⟩
theorem ConAt.set5 {w : World} {b : Nat} {c : Con} (h : ConAt w b c) (x : ByteArray) : ConAt (w.setCell ⟨b, 5, none⟩ (.string x)) b { c with topic := x } := by
  obtain ⟨h0, h1, h2, h3, h4, h5, h6, h7, h8, h9, h10, h11, h12, hl⟩ := h
  exact ⟨by simp [go_sem, h0], by simp [go_sem, h1], by simp [go_sem, h2], by simp [go_sem, h3], by simp [go_sem, h4], by simp [go_sem, h5], by simp [go_sem, h6], by simp [go_sem, h7], by simp [go_sem, h8], by simp [go_sem, h9], by simp [go_sem, h10], by simp [go_sem, h11], by simp [go_sem, h12], by simpa [go_sem] using hl⟩
theorem ConAt.set6 {w : World} {b : Nat} {c : Con} (h : ConAt w b c) (x : ByteArray) : ConAt (w.setCell ⟨b, 6, none⟩ (.string x)) b { c with text := x } := by
  obtain ⟨h0, h1, h2, h3, h4, h5, h6, h7, h8, h9, h10, h11, h12, hl⟩ := h
  exact ⟨by simp [go_sem, h0], by simp [go_sem, h1], by simp [go_sem, h2], by simp [go_sem, h3], by simp [go_sem, h4], by simp [go_sem, h5], by simp [go_sem, h6], by simp [go_sem, h7], by simp [go_sem, h8], by simp [go_sem, h9], by simp [go_sem, h10], by simp [go_sem, h11], by simp [go_sem, h12], by simpa [go_sem] using hl⟩
theorem ConAt.set7 {w : World} {b : Nat} {c : Con} (h : ConAt w b c) (x : Int) : ConAt (w.setCell ⟨b, 7, none⟩ (.int .i64 x)) b { c with qos := x } := by
  obtain ⟨h0, h1, h2, h3, h4, h5, h6, h7, h8, h9, h10, h11, h12, hl⟩ := h
  exact ⟨by simp [go_sem, h0], by simp [go_sem, h1], by simp [go_sem, h2], by simp [go_sem, h3], by simp [go_sem, h4], by simp [go_sem, h5], by simp [go_sem, h6], by simp [go_sem, h7], by simp [go_sem, h8], by simp [go_sem, h9], by simp [go_sem, h10], by simp [go_sem, h11], by simp [go_sem, h12], by simpa [go_sem] using hl⟩
theorem ConAt.set8 {w : World} {b : Nat} {c : Con} (h : ConAt w b c) (x : Bool) : ConAt (w.setCell ⟨b, 8, none⟩ (.bool x)) b { c with retain := x } := by
  obtain ⟨h0, h1, h2, h3, h4, h5, h6, h7, h8, h9, h10, h11, h12, hl⟩ := h
  exact ⟨by simp [go_sem, h0], by simp [go_sem, h1], by simp [go_sem, h2], by simp [go_sem, h3], by simp [go_sem, h4], by simp [go_sem, h5], by simp [go_sem, h6], by simp [go_sem, h7], by simp [go_sem, h8], by simp [go_sem, h9], by simp [go_sem, h10], by simp [go_sem, h11], by simp [go_sem, h12], by simpa [go_sem] using hl⟩
theorem ConAt.set9 {w : World} {b : Nat} {c : Con} (h : ConAt w b c) (x : Bool) : ConAt (w.setCell ⟨b, 9, none⟩ (.bool x)) b { c with hasUser := x } := by
  obtain ⟨h0, h1, h2, h3, h4, h5, h6, h7, h8, h9, h10, h11, h12, hl⟩ := h
  exact ⟨by simp [go_sem, h0], by simp [go_sem, h1], by simp [go_sem, h2], by simp [go_sem, h3], by simp [go_sem, h4], by simp [go_sem, h5], by simp [go_sem, h6], by simp [go_sem, h7], by simp [go_sem, h8], by simp [go_sem, h9], by simp [go_sem, h10], by simp [go_sem, h11], by simp [go_sem, h12], by simpa [go_sem] using hl⟩
theorem ConAt.set10 {w : World} {b : Nat} {c : Con} (h : ConAt w b c) (x : ByteArray) : ConAt (w.setCell ⟨b, 10, none⟩ (.string x)) b { c with user := x } := by
  obtain ⟨h0, h1, h2, h3, h4, h5, h6, h7, h8, h9, h10, h11, h12, hl⟩ := h
  exact ⟨by simp [go_sem, h0], by simp [go_sem, h1], by simp [go_sem, h2], by simp [go_sem, h3], by simp [go_sem, h4], by simp [go_sem, h5], by simp [go_sem, h6], by simp [go_sem, h7], by simp [go_sem, h8], by simp [go_sem, h9], by simp [go_sem, h10], by simp [go_sem, h11], by simp [go_sem, h12], by simpa [go_sem] using hl⟩
theorem ConAt.set11 {w : World} {b : Nat} {c : Con} (h : ConAt w b c) (x : Bool) : ConAt (w.setCell ⟨b, 11, none⟩ (.bool x)) b { c with hasPass := x } := by
  obtain ⟨h0, h1, h2, h3, h4, h5, h6, h7, h8, h9, h10, h11, h12, hl⟩ := h
  exact ⟨by simp [go_sem, h0], by simp [go_sem, h1], by simp [go_sem, h2], by simp [go_sem, h3], by simp [go_sem, h4], by simp [go_sem, h5], by simp [go_sem, h6], by simp [go_sem, h7], by simp [go_sem, h8], by simp [go_sem, h9], by simp [go_sem, h10], by simp [go_sem, h11], by simp [go_sem, h12], by simpa [go_sem] using hl⟩
theorem ConAt.set12 {w : World} {b : Nat} {c : Con} (h : ConAt w b c) (x : ByteArray) : ConAt (w.setCell ⟨b, 12, none⟩ (.string x)) b { c with pass := x } := by
  obtain ⟨h0, h1, h2, h3, h4, h5, h6, h7, h8, h9, h10, h11, h12, hl⟩ := h
  exact ⟨by simp [go_sem, h0], by simp [go_sem, h1], by simp [go_sem, h2], by simp [go_sem, h3], by simp [go_sem, h4], by simp [go_sem, h5], by simp [go_sem, h6], by simp [go_sem, h7], by simp [go_sem, h8], by simp [go_sem, h9], by simp [go_sem, h10], by simp [go_sem, h11], by simp [go_sem, h12], by simpa [go_sem] using hl⟩

/-- The state of both, in the world W, the call having begun in w. -/
def RS (w W : World) (gc g : Nat) (v : Value) (l : List UInt8) (st : Int × Int) (c : Con) : Prop := RdAt W g v l st ∧ ConAt W gc c ∧ Free W gc ∧ Keeps [gc, g] w W
theorem ConAt.lt {w : World} {b : Nat} {c : Con} (h : ConAt w b c) : b < w.heap.size := by
  obtain ⟨_, _, _, _, _, _, _, _, _, _, _, _, _, hl⟩ := h
  exact hl
theorem RS.call {w W W' : World} {gc g : Nat} {v : Value} {l : List UInt8} {st st' : Int × Int} {c : Con} (h : RS w W gc g v l st c) (hne : gc ≠ g) (hR : RdAt W' g v l st') (hk : Keeps [g] W W') : RS w W' gc g v l st' c :=
  ⟨hR, h.2.1.keeps hk (by simp [hne]), h.2.2.1.keeps hk h.2.1.lt (by simp [hne]), h.2.2.2.trans (hk.mono (fun k h => by simp at h; simp [h]))⟩
theorem RS.quiet {w W W' : World} {gc g : Nat} {v : Value} {l : List UInt8} {st : Int × Int} {c : Con} (h : RS w W gc g v l st c) (hk : Keeps [] W W') : RS w W' gc g v l st c :=
  ⟨h.1.keeps hk (by simp) (OutOf.nil _), h.2.1.keeps hk (by simp), h.2.2.1.keeps hk h.2.1.lt (by simp), h.2.2.2.trans (hk.mono (fun k h => by simp at h))⟩
theorem RS.set0 {w W : World} {gc g : Nat} {v : Value} {l : List UInt8} {st : Int × Int} {c : Con} (h : RS w W gc g v l st c) (hne : gc ≠ g) (ho : OutOf v [gc]) (x : Int) : RS w (W.setCell ⟨gc, 0, none⟩ (.int .i64 x)) gc g v l st { c with level := x } :=
  ⟨h.1.keeps ((Keeps.refl [gc] W).setCell (.inl (by simp)) _) (by simp; omega) ho, h.2.1.set0 x, h.2.2.1.set _ _, h.2.2.2.setCell (.inl (by simp)) _⟩
theorem RS.set1 {w W : World} {gc g : Nat} {v : Value} {l : List UInt8} {st : Int × Int} {c : Con} (h : RS w W gc g v l st c) (hne : gc ≠ g) (ho : OutOf v [gc]) (x : Bool) : RS w (W.setCell ⟨gc, 1, none⟩ (.bool x)) gc g v l st { c with clean := x } :=
  ⟨h.1.keeps ((Keeps.refl [gc] W).setCell (.inl (by simp)) _) (by simp; omega) ho, h.2.1.set1 x, h.2.2.1.set _ _, h.2.2.2.setCell (.inl (by simp)) _⟩
theorem RS.set2 {w W : World} {gc g : Nat} {v : Value} {l : List UInt8} {st : Int × Int} {c : Con} (h : RS w W gc g v l st c) (hne : gc ≠ g) (ho : OutOf v [gc]) (x : Int) : RS w (W.setCell ⟨gc, 2, none⟩ (.int .i64 x)) gc g v l st { c with keep := x } :=
  ⟨h.1.keeps ((Keeps.refl [gc] W).setCell (.inl (by simp)) _) (by simp; omega) ho, h.2.1.set2 x, h.2.2.1.set _ _, h.2.2.2.setCell (.inl (by simp)) _⟩
theorem RS.set3 {w W : World} {gc g : Nat} {v : Value} {l : List UInt8} {st : Int × Int} {c : Con} (h : RS w W gc g v l st c) (hne : gc ≠ g) (ho : OutOf v [gc]) (x : ByteArray) : RS w (W.setCell ⟨gc, 3, none⟩ (.string x)) gc g v l st { c with client := x } :=
  ⟨h.1.keeps ((Keeps.refl [gc] W).setCell (.inl (by simp)) _) (by simp; omega) ho, h.2.1.set3 x, h.2.2.1.set _ _, h.2.2.2.setCell (.inl (by simp)) _⟩
theorem RS.set4 {w W : World} {gc g : Nat} {v : Value} {l : List UInt8} {st : Int × Int} {c : Con} (h : RS w W gc g v l st c) (hne : gc ≠ g) (ho : OutOf v [gc]) (x : Bool) : RS w (W.setCell ⟨gc, 4, none⟩ (.bool x)) gc g v l st { c with hasWill := x } :=
  ⟨h.1.keeps ((Keeps.refl [gc] W).setCell (.inl (by simp)) _) (by simp; omega) ho, h.2.1.set4 x, h.2.2.1.set _ _, h.2.2.2.setCell (.inl (by simp)) _⟩
theorem RS.set5 {w W : World} {gc g : Nat} {v : Value} {l : List UInt8} {st : Int × Int} {c : Con} (h : RS w W gc g v l st c) (hne : gc ≠ g) (ho : OutOf v [gc]) (x : ByteArray) : RS w (W.setCell ⟨gc, 5, none⟩ (.string x)) gc g v l st { c with topic := x } :=
  ⟨h.1.keeps ((Keeps.refl [gc] W).setCell (.inl (by simp)) _) (by simp; omega) ho, h.2.1.set5 x, h.2.2.1.set _ _, h.2.2.2.setCell (.inl (by simp)) _⟩
theorem RS.set6 {w W : World} {gc g : Nat} {v : Value} {l : List UInt8} {st : Int × Int} {c : Con} (h : RS w W gc g v l st c) (hne : gc ≠ g) (ho : OutOf v [gc]) (x : ByteArray) : RS w (W.setCell ⟨gc, 6, none⟩ (.string x)) gc g v l st { c with text := x } :=
  ⟨h.1.keeps ((Keeps.refl [gc] W).setCell (.inl (by simp)) _) (by simp; omega) ho, h.2.1.set6 x, h.2.2.1.set _ _, h.2.2.2.setCell (.inl (by simp)) _⟩
theorem RS.set7 {w W : World} {gc g : Nat} {v : Value} {l : List UInt8} {st : Int × Int} {c : Con} (h : RS w W gc g v l st c) (hne : gc ≠ g) (ho : OutOf v [gc]) (x : Int) : RS w (W.setCell ⟨gc, 7, none⟩ (.int .i64 x)) gc g v l st { c with qos := x } :=
  ⟨h.1.keeps ((Keeps.refl [gc] W).setCell (.inl (by simp)) _) (by simp; omega) ho, h.2.1.set7 x, h.2.2.1.set _ _, h.2.2.2.setCell (.inl (by simp)) _⟩
theorem RS.set8 {w W : World} {gc g : Nat} {v : Value} {l : List UInt8} {st : Int × Int} {c : Con} (h : RS w W gc g v l st c) (hne : gc ≠ g) (ho : OutOf v [gc]) (x : Bool) : RS w (W.setCell ⟨gc, 8, none⟩ (.bool x)) gc g v l st { c with retain := x } :=
  ⟨h.1.keeps ((Keeps.refl [gc] W).setCell (.inl (by simp)) _) (by simp; omega) ho, h.2.1.set8 x, h.2.2.1.set _ _, h.2.2.2.setCell (.inl (by simp)) _⟩
theorem RS.set9 {w W : World} {gc g : Nat} {v : Value} {l : List UInt8} {st : Int × Int} {c : Con} (h : RS w W gc g v l st c) (hne : gc ≠ g) (ho : OutOf v [gc]) (x : Bool) : RS w (W.setCell ⟨gc, 9, none⟩ (.bool x)) gc g v l st { c with hasUser := x } :=
  ⟨h.1.keeps ((Keeps.refl [gc] W).setCell (.inl (by simp)) _) (by simp; omega) ho, h.2.1.set9 x, h.2.2.1.set _ _, h.2.2.2.setCell (.inl (by simp)) _⟩
theorem RS.set10 {w W : World} {gc g : Nat} {v : Value} {l : List UInt8} {st : Int × Int} {c : Con} (h : RS w W gc g v l st c) (hne : gc ≠ g) (ho : OutOf v [gc]) (x : ByteArray) : RS w (W.setCell ⟨gc, 10, none⟩ (.string x)) gc g v l st { c with user := x } :=
  ⟨h.1.keeps ((Keeps.refl [gc] W).setCell (.inl (by simp)) _) (by simp; omega) ho, h.2.1.set10 x, h.2.2.1.set _ _, h.2.2.2.setCell (.inl (by simp)) _⟩
theorem RS.set11 {w W : World} {gc g : Nat} {v : Value} {l : List UInt8} {st : Int × Int} {c : Con} (h : RS w W gc g v l st c) (hne : gc ≠ g) (ho : OutOf v [gc]) (x : Bool) : RS w (W.setCell ⟨gc, 11, none⟩ (.bool x)) gc g v l st { c with hasPass := x } :=
  ⟨h.1.keeps ((Keeps.refl [gc] W).setCell (.inl (by simp)) _) (by simp; omega) ho, h.2.1.set11 x, h.2.2.1.set _ _, h.2.2.2.setCell (.inl (by simp)) _⟩
theorem RS.set12 {w W : World} {gc g : Nat} {v : Value} {l : List UInt8} {st : Int × Int} {c : Con} (h : RS w W gc g v l st c) (hne : gc ≠ g) (ho : OutOf v [gc]) (x : ByteArray) : RS w (W.setCell ⟨gc, 12, none⟩ (.string x)) gc g v l st { c with pass := x } :=
  ⟨h.1.keeps ((Keeps.refl [gc] W).setCell (.inl (by simp)) _) (by simp; omega) ho, h.2.1.set12 x, h.2.2.1.set _ _, h.2.2.2.setCell (.inl (by simp)) _⟩

set_option maxRecDepth 100000 in
set_option maxHeartbeats 16000000 in
theorem rest_c (gc g : Nat) (v : Value) (l : List UInt8) (st : Int × Int) (c0 : Con) (w : World) (hne : gc ≠ g) (hR : RdAt w g v l st) (hcon : ConAt w gc c0) (hfr : Free w gc) (hout : OutOf v [gc]) (hp : 0 ≤ st.1 ∧ st.1 ≤ 140737488355328) (hlow : ∀ W, Keeps [gc, g] w W → EnvU W) :
    Calls Tryz.prog 148 #[.pointer (some ⟨g, 0, none⟩), .pointer (some ⟨gc, 0, none⟩)] w fun r w' => r = .returned (.tuple #[]) ∧ RdAt w' g v l (k9 l st) ∧ ConAt w' gc (kCon c0.level l st) ∧ Free w' gc ∧ Keeps [gc, g] w w' := by
  have HL := hd hlow; clear hlow
  have hS : RS w w gc g v l st c0 := ⟨hR, hcon, hfr, Keeps.refl _ _⟩
  clear hR hcon hfr
  obtain ⟨fr0, fr1⟩ := kf_rng l st
  obtain ⟨a, cc, rfl⟩ : ∃ a cc, v = .slice a l.length cc := hS.1.2.1.slice
  go_enter Tryz.func148, Tryz.ntmps148
  go_wp2_with fail
  refine (one_c g _ l st _ hS.1 hp).mono ?_
  rintro r w1 ⟨rfl, hR', hkk⟩
  replace hS : RS w w1 gc g (.slice a l.length cc) l (k1 l st) c0 := hS.call hne hR' hkk
  clear hR' hkk hp
  have hkf : rOneV l st = kf l st := rfl
  rw [hkf]
  clear hkf
  have hrr := hS.1
  obtain ⟨-, -, -, r3, -, -, -, -⟩ := hrr
  by_cases he : (k1 l st).2 = 0
  · cases hm : cMay (kf l st)
    · skip
      have Hk2 := hd (show k2 l st = rFail (k1 l st) 10 from by rw [k2, if_pos ⟨he, hm⟩])
      rw [he] at r3
      clear he
      go_wp2_with fail
      clear r3
      refine (may_c _ fr0 fr1 _).mono ?_
      rw [hm]
      rintro r w' ⟨rfl, rfl⟩
      clear hm
      go_wp2_with fail
      refine (fail_c 10 g _ l (k1 l st) _ hS.1).mono ?_
      rintro r w2 ⟨rfl, hR', hkk⟩
      rw [← Hk2.out] at hR'
      replace hS := hS.call hne hR' hkk
      clear hR' hkk Hk2
      have hcc := hS.2.1
      simp only [ConAt] at hcc
      obtain ⟨-, d1, -, -, d4, -, -, -, -, d9, -, d11, -, -⟩ := hcc
      have z1 := hS.2.2.1 1
      have z4 := hS.2.2.1 4
      have z9 := hS.2.2.1 9
      have z11 := hS.2.2.1 11
      go_wp2_with fail
      clear d1 d4 d9 d11 z1 z4 z9 z11
      replace hS := hS.set1 hne hout (bits .and .i64 (kf l st) 2 != 0)
      replace hS := hS.set4 hne hout (bits .and .i64 (kf l st) 4 != 0)
      replace hS := hS.set11 hne hout (bits .and .i64 (kf l st) 64 != 0)
      replace hS := hS.set9 hne hout (bits .and .i64 (kf l st) 128 != 0)
      refine (two_c g _ l (k2 l st) _ hS.1).mono ?_
      rintro r w3 ⟨rfl, hR', hkk⟩
      replace hS : RS w w3 gc g _ l (k3 l st) _ := hS.call hne hR' hkk
      clear hR' hkk
      have hcc := hS.2.1
      simp only [ConAt] at hcc
      obtain ⟨-, -, d2, -, -, -, -, -, -, -, -, -, -, -⟩ := hcc
      have z2 := hS.2.2.1 2
      go_wp2_with fail
      clear d2 z2
      replace hS := hS.set2 hne hout (rTwoV l (k2 l st))
      refine (textT_c true g _ l (k3 l st) _ (HL.out _ hS.2.2.2) hS.1).mono ?_
      rintro r w4 ⟨rfl, hR', hkk⟩
      replace hS : RS w w4 gc g _ l (k4 l st) _ := hS.call hne hR' hkk
      clear hR' hkk
      have hcc := hS.2.1
      simp only [ConAt] at hcc
      obtain ⟨-, -, -, d3, d4, -, -, d7, d8, -, -, -, -, -⟩ := hcc
      have z3 := hS.2.2.1 3
      have z7 := hS.2.2.1 7
      have z8 := hS.2.2.1 8
      go_wp2_with fail
      clear d3 d4 d7 d8 z3 z7 z8
      replace hS := hS.set3 hne hout (sOf (rTextV (uGet l (k3 l st).1) true (k3 l st)))
      replace hS := hS.set7 hne hout (bits .and .i64 (kf l st / 8) 3)
      replace hS := hS.set8 hne hout (bits .and .i64 (kf l st) 32 != 0)
      refine (textT_c (bits .and .i64 (kf l st) 4 != 0) g _ l (k4 l st) _ (HL.out _ hS.2.2.2) hS.1).mono ?_
      rintro r w5 ⟨rfl, hR', hkk⟩
      replace hS : RS w w5 gc g _ l (k5 l st) _ := hS.call hne hR' hkk
      clear hR' hkk
      have hcc := hS.2.1
      simp only [ConAt] at hcc
      obtain ⟨-, -, -, -, d4, d5, -, -, -, -, -, -, -, -⟩ := hcc
      have z5 := hS.2.2.1 5
      go_wp2_with fail
      clear d4 d5 z5
      replace hS := hS.set5 hne hout (sOf (rTextV (uGet l (k4 l st).1) (bits .and .i64 (kf l st) 4 != 0) (k4 l st)))
      refine (textR_c (bits .and .i64 (kf l st) 4 != 0) g _ l (k5 l st) _ (HL.out _ hS.2.2.2) hS.1).mono ?_
      rintro r w6 ⟨rfl, hR', hkk⟩
      replace hS : RS w w6 gc g _ l (k6 l st) _ := hS.call hne hR' hkk
      clear hR' hkk
      have hcc := hS.2.1
      simp only [ConAt] at hcc
      obtain ⟨-, -, -, -, -, -, d6, -, -, d9, -, -, -, -⟩ := hcc
      have z6 := hS.2.2.1 6
      go_wp2_with fail
      clear d6 d9 z6
      replace hS := hS.set6 hne hout (sOf (rTextV (uGetRaw l (k5 l st).1) (bits .and .i64 (kf l st) 4 != 0) (k5 l st)))
      refine (textT_c (bits .and .i64 (kf l st) 128 != 0) g _ l (k6 l st) _ (HL.out _ hS.2.2.2) hS.1).mono ?_
      rintro r w7 ⟨rfl, hR', hkk⟩
      replace hS : RS w w7 gc g _ l (k7 l st) _ := hS.call hne hR' hkk
      clear hR' hkk
      have hcc := hS.2.1
      simp only [ConAt] at hcc
      obtain ⟨-, -, -, -, -, -, -, -, -, -, d10, d11, -, -⟩ := hcc
      have z10 := hS.2.2.1 10
      go_wp2_with fail
      clear d10 d11 z10
      replace hS := hS.set10 hne hout (sOf (rTextV (uGet l (k6 l st).1) (bits .and .i64 (kf l st) 128 != 0) (k6 l st)))
      refine (textR_c (bits .and .i64 (kf l st) 64 != 0) g _ l (k7 l st) _ (HL.out _ hS.2.2.2) hS.1).mono ?_
      rintro r w8 ⟨rfl, hR', hkk⟩
      replace hS : RS w w8 gc g _ l (k8 l st) _ := hS.call hne hR' hkk
      clear hR' hkk
      have hcc := hS.2.1
      simp only [ConAt] at hcc
      obtain ⟨-, -, -, -, -, -, -, -, -, -, -, -, d12, -⟩ := hcc
      have z12 := hS.2.2.1 12
      have hrr := hS.1
      obtain ⟨r0, -, r2, r3, -, -, -, -⟩ := hrr
      have hll : l.length ≤ 9223372036854775807 := by have := hS.1.2.1.len; unfold maxLen at this; omega
      by_cases h8 : (k8 l st).2 = 0
      · rw [h8] at r3
        by_cases h9 : (k8 l st).1 = l.length
        · have Hk := hd (show k9 l st = k8 l st from by rw [k9, if_neg (fun h => h.2 h9)])
          rw [h9] at r2
          clear h8 h9
          go_wp2_with fail
          go_quiet (fail)
          go_wp2_with fail
          go_end0
          rw [Hk.out]
          replace hS := hS.set12 hne hout (sOf (rTextV (uGetRaw l (k7 l st).1) (bits .and .i64 (kf l st) 64 != 0) (k7 l st)))
          replace hS := hS.quiet ((Keeps.refl [] _).drewN nq)
          exact ⟨rfl, hS.1, hS.2.1, hS.2.2.1, hS.2.2.2⟩
        · have Hk := hd (show k9 l st = rFail (k8 l st) 4 from by rw [k9, if_pos ⟨h8, h9⟩])
          have h9b : ((k8 l st).1 != (l.length : Int)) = true := by simpa using h9
          clear h8 h9
          go_wp2_with fail
          go_quiet (fail)
          go_wp2_with fail
          replace hS := hS.set12 hne hout (sOf (rTextV (uGetRaw l (k7 l st).1) (bits .and .i64 (kf l st) 64 != 0) (k7 l st)))
          replace hS := hS.quiet ((Keeps.refl [] _).drewN nq)
          refine (fail_c 4 g _ l (k8 l st) _ hS.1).mono ?_
          rintro r w9 ⟨rfl, hR', hkk⟩
          rw [← Hk.out] at hR'
          replace hS := hS.call hne hR' hkk
          go_wp2_with fail
          go_end0
          exact ⟨rfl, hS.1, hS.2.1, hS.2.2.1, hS.2.2.2⟩
      · have Hk := hd (show k9 l st = k8 l st from by rw [k9, if_neg (fun h => h8 h.1)])
        have h8b : ((k8 l st).2 == 0) = false := by simpa using h8
        clear h8
        go_wp2_with fail
        go_quiet (fail)
        go_wp2_with fail
        go_end0
        rw [Hk.out]
        replace hS := hS.set12 hne hout (sOf (rTextV (uGetRaw l (k7 l st).1) (bits .and .i64 (kf l st) 64 != 0) (k7 l st)))
        replace hS := hS.quiet ((Keeps.refl [] _).drewN nq)
        exact ⟨rfl, hS.1, hS.2.1, hS.2.2.1, hS.2.2.2⟩
    · skip
      have Hk2 := hd (show k2 l st = k1 l st from by rw [k2, if_neg (fun h => by rw [hm] at h; simp at h)])
      rw [he] at r3
      clear he
      go_wp2_with fail
      clear r3
      refine (may_c _ fr0 fr1 _).mono ?_
      rw [hm]
      rintro r w' ⟨rfl, rfl⟩
      clear hm
      have hcc := hS.2.1
      simp only [ConAt] at hcc
      obtain ⟨-, d1, -, -, d4, -, -, -, -, d9, -, d11, -, -⟩ := hcc
      have z1 := hS.2.2.1 1
      have z4 := hS.2.2.1 4
      have z9 := hS.2.2.1 9
      have z11 := hS.2.2.1 11
      go_wp2_with fail
      clear d1 d4 d9 d11 z1 z4 z9 z11
      rw [← Hk2.out] at hS
      clear Hk2
      replace hS := hS.set1 hne hout (bits .and .i64 (kf l st) 2 != 0)
      replace hS := hS.set4 hne hout (bits .and .i64 (kf l st) 4 != 0)
      replace hS := hS.set11 hne hout (bits .and .i64 (kf l st) 64 != 0)
      replace hS := hS.set9 hne hout (bits .and .i64 (kf l st) 128 != 0)
      refine (two_c g _ l (k2 l st) _ hS.1).mono ?_
      rintro r w3 ⟨rfl, hR', hkk⟩
      replace hS : RS w w3 gc g _ l (k3 l st) _ := hS.call hne hR' hkk
      clear hR' hkk
      have hcc := hS.2.1
      simp only [ConAt] at hcc
      obtain ⟨-, -, d2, -, -, -, -, -, -, -, -, -, -, -⟩ := hcc
      have z2 := hS.2.2.1 2
      go_wp2_with fail
      clear d2 z2
      replace hS := hS.set2 hne hout (rTwoV l (k2 l st))
      refine (textT_c true g _ l (k3 l st) _ (HL.out _ hS.2.2.2) hS.1).mono ?_
      rintro r w4 ⟨rfl, hR', hkk⟩
      replace hS : RS w w4 gc g _ l (k4 l st) _ := hS.call hne hR' hkk
      clear hR' hkk
      have hcc := hS.2.1
      simp only [ConAt] at hcc
      obtain ⟨-, -, -, d3, d4, -, -, d7, d8, -, -, -, -, -⟩ := hcc
      have z3 := hS.2.2.1 3
      have z7 := hS.2.2.1 7
      have z8 := hS.2.2.1 8
      go_wp2_with fail
      clear d3 d4 d7 d8 z3 z7 z8
      replace hS := hS.set3 hne hout (sOf (rTextV (uGet l (k3 l st).1) true (k3 l st)))
      replace hS := hS.set7 hne hout (bits .and .i64 (kf l st / 8) 3)
      replace hS := hS.set8 hne hout (bits .and .i64 (kf l st) 32 != 0)
      refine (textT_c (bits .and .i64 (kf l st) 4 != 0) g _ l (k4 l st) _ (HL.out _ hS.2.2.2) hS.1).mono ?_
      rintro r w5 ⟨rfl, hR', hkk⟩
      replace hS : RS w w5 gc g _ l (k5 l st) _ := hS.call hne hR' hkk
      clear hR' hkk
      have hcc := hS.2.1
      simp only [ConAt] at hcc
      obtain ⟨-, -, -, -, d4, d5, -, -, -, -, -, -, -, -⟩ := hcc
      have z5 := hS.2.2.1 5
      go_wp2_with fail
      clear d4 d5 z5
      replace hS := hS.set5 hne hout (sOf (rTextV (uGet l (k4 l st).1) (bits .and .i64 (kf l st) 4 != 0) (k4 l st)))
      refine (textR_c (bits .and .i64 (kf l st) 4 != 0) g _ l (k5 l st) _ (HL.out _ hS.2.2.2) hS.1).mono ?_
      rintro r w6 ⟨rfl, hR', hkk⟩
      replace hS : RS w w6 gc g _ l (k6 l st) _ := hS.call hne hR' hkk
      clear hR' hkk
      have hcc := hS.2.1
      simp only [ConAt] at hcc
      obtain ⟨-, -, -, -, -, -, d6, -, -, d9, -, -, -, -⟩ := hcc
      have z6 := hS.2.2.1 6
      go_wp2_with fail
      clear d6 d9 z6
      replace hS := hS.set6 hne hout (sOf (rTextV (uGetRaw l (k5 l st).1) (bits .and .i64 (kf l st) 4 != 0) (k5 l st)))
      refine (textT_c (bits .and .i64 (kf l st) 128 != 0) g _ l (k6 l st) _ (HL.out _ hS.2.2.2) hS.1).mono ?_
      rintro r w7 ⟨rfl, hR', hkk⟩
      replace hS : RS w w7 gc g _ l (k7 l st) _ := hS.call hne hR' hkk
      clear hR' hkk
      have hcc := hS.2.1
      simp only [ConAt] at hcc
      obtain ⟨-, -, -, -, -, -, -, -, -, -, d10, d11, -, -⟩ := hcc
      have z10 := hS.2.2.1 10
      go_wp2_with fail
      clear d10 d11 z10
      replace hS := hS.set10 hne hout (sOf (rTextV (uGet l (k6 l st).1) (bits .and .i64 (kf l st) 128 != 0) (k6 l st)))
      refine (textR_c (bits .and .i64 (kf l st) 64 != 0) g _ l (k7 l st) _ (HL.out _ hS.2.2.2) hS.1).mono ?_
      rintro r w8 ⟨rfl, hR', hkk⟩
      replace hS : RS w w8 gc g _ l (k8 l st) _ := hS.call hne hR' hkk
      clear hR' hkk
      have hcc := hS.2.1
      simp only [ConAt] at hcc
      obtain ⟨-, -, -, -, -, -, -, -, -, -, -, -, d12, -⟩ := hcc
      have z12 := hS.2.2.1 12
      have hrr := hS.1
      obtain ⟨r0, -, r2, r3, -, -, -, -⟩ := hrr
      have hll : l.length ≤ 9223372036854775807 := by have := hS.1.2.1.len; unfold maxLen at this; omega
      by_cases h8 : (k8 l st).2 = 0
      · rw [h8] at r3
        by_cases h9 : (k8 l st).1 = l.length
        · have Hk := hd (show k9 l st = k8 l st from by rw [k9, if_neg (fun h => h.2 h9)])
          rw [h9] at r2
          clear h8 h9
          go_wp2_with fail
          go_quiet (fail)
          go_wp2_with fail
          go_end0
          rw [Hk.out]
          replace hS := hS.set12 hne hout (sOf (rTextV (uGetRaw l (k7 l st).1) (bits .and .i64 (kf l st) 64 != 0) (k7 l st)))
          replace hS := hS.quiet ((Keeps.refl [] _).drewN nq)
          exact ⟨rfl, hS.1, hS.2.1, hS.2.2.1, hS.2.2.2⟩
        · have Hk := hd (show k9 l st = rFail (k8 l st) 4 from by rw [k9, if_pos ⟨h8, h9⟩])
          have h9b : ((k8 l st).1 != (l.length : Int)) = true := by simpa using h9
          clear h8 h9
          go_wp2_with fail
          go_quiet (fail)
          go_wp2_with fail
          replace hS := hS.set12 hne hout (sOf (rTextV (uGetRaw l (k7 l st).1) (bits .and .i64 (kf l st) 64 != 0) (k7 l st)))
          replace hS := hS.quiet ((Keeps.refl [] _).drewN nq)
          refine (fail_c 4 g _ l (k8 l st) _ hS.1).mono ?_
          rintro r w9 ⟨rfl, hR', hkk⟩
          rw [← Hk.out] at hR'
          replace hS := hS.call hne hR' hkk
          go_wp2_with fail
          go_end0
          exact ⟨rfl, hS.1, hS.2.1, hS.2.2.1, hS.2.2.2⟩
      · have Hk := hd (show k9 l st = k8 l st from by rw [k9, if_neg (fun h => h8 h.1)])
        have h8b : ((k8 l st).2 == 0) = false := by simpa using h8
        clear h8
        go_wp2_with fail
        go_quiet (fail)
        go_wp2_with fail
        go_end0
        rw [Hk.out]
        replace hS := hS.set12 hne hout (sOf (rTextV (uGetRaw l (k7 l st).1) (bits .and .i64 (kf l st) 64 != 0) (k7 l st)))
        replace hS := hS.quiet ((Keeps.refl [] _).drewN nq)
        exact ⟨rfl, hS.1, hS.2.1, hS.2.2.1, hS.2.2.2⟩
  · skip
    have Hk2 := hd (show k2 l st = k1 l st from by rw [k2, if_neg (fun h => he h.1)])
    have heb : ((k1 l st).2 == 0) = false := (by simpa using he)
    clear he
    have hcc := hS.2.1
    simp only [ConAt] at hcc
    obtain ⟨-, d1, -, -, d4, -, -, -, -, d9, -, d11, -, -⟩ := hcc
    have z1 := hS.2.2.1 1
    have z4 := hS.2.2.1 4
    have z9 := hS.2.2.1 9
    have z11 := hS.2.2.1 11
    go_wp2_with fail
    clear d1 d4 d9 d11 z1 z4 z9 z11 r3
    rw [← Hk2.out] at hS
    clear Hk2 heb
    replace hS := hS.set1 hne hout (bits .and .i64 (kf l st) 2 != 0)
    replace hS := hS.set4 hne hout (bits .and .i64 (kf l st) 4 != 0)
    replace hS := hS.set11 hne hout (bits .and .i64 (kf l st) 64 != 0)
    replace hS := hS.set9 hne hout (bits .and .i64 (kf l st) 128 != 0)
    refine (two_c g _ l (k2 l st) _ hS.1).mono ?_
    rintro r w3 ⟨rfl, hR', hkk⟩
    replace hS : RS w w3 gc g _ l (k3 l st) _ := hS.call hne hR' hkk
    clear hR' hkk
    have hcc := hS.2.1
    simp only [ConAt] at hcc
    obtain ⟨-, -, d2, -, -, -, -, -, -, -, -, -, -, -⟩ := hcc
    have z2 := hS.2.2.1 2
    go_wp2_with fail
    clear d2 z2
    replace hS := hS.set2 hne hout (rTwoV l (k2 l st))
    refine (textT_c true g _ l (k3 l st) _ (HL.out _ hS.2.2.2) hS.1).mono ?_
    rintro r w4 ⟨rfl, hR', hkk⟩
    replace hS : RS w w4 gc g _ l (k4 l st) _ := hS.call hne hR' hkk
    clear hR' hkk
    have hcc := hS.2.1
    simp only [ConAt] at hcc
    obtain ⟨-, -, -, d3, d4, -, -, d7, d8, -, -, -, -, -⟩ := hcc
    have z3 := hS.2.2.1 3
    have z7 := hS.2.2.1 7
    have z8 := hS.2.2.1 8
    go_wp2_with fail
    clear d3 d4 d7 d8 z3 z7 z8
    replace hS := hS.set3 hne hout (sOf (rTextV (uGet l (k3 l st).1) true (k3 l st)))
    replace hS := hS.set7 hne hout (bits .and .i64 (kf l st / 8) 3)
    replace hS := hS.set8 hne hout (bits .and .i64 (kf l st) 32 != 0)
    refine (textT_c (bits .and .i64 (kf l st) 4 != 0) g _ l (k4 l st) _ (HL.out _ hS.2.2.2) hS.1).mono ?_
    rintro r w5 ⟨rfl, hR', hkk⟩
    replace hS : RS w w5 gc g _ l (k5 l st) _ := hS.call hne hR' hkk
    clear hR' hkk
    have hcc := hS.2.1
    simp only [ConAt] at hcc
    obtain ⟨-, -, -, -, d4, d5, -, -, -, -, -, -, -, -⟩ := hcc
    have z5 := hS.2.2.1 5
    go_wp2_with fail
    clear d4 d5 z5
    replace hS := hS.set5 hne hout (sOf (rTextV (uGet l (k4 l st).1) (bits .and .i64 (kf l st) 4 != 0) (k4 l st)))
    refine (textR_c (bits .and .i64 (kf l st) 4 != 0) g _ l (k5 l st) _ (HL.out _ hS.2.2.2) hS.1).mono ?_
    rintro r w6 ⟨rfl, hR', hkk⟩
    replace hS : RS w w6 gc g _ l (k6 l st) _ := hS.call hne hR' hkk
    clear hR' hkk
    have hcc := hS.2.1
    simp only [ConAt] at hcc
    obtain ⟨-, -, -, -, -, -, d6, -, -, d9, -, -, -, -⟩ := hcc
    have z6 := hS.2.2.1 6
    go_wp2_with fail
    clear d6 d9 z6
    replace hS := hS.set6 hne hout (sOf (rTextV (uGetRaw l (k5 l st).1) (bits .and .i64 (kf l st) 4 != 0) (k5 l st)))
    refine (textT_c (bits .and .i64 (kf l st) 128 != 0) g _ l (k6 l st) _ (HL.out _ hS.2.2.2) hS.1).mono ?_
    rintro r w7 ⟨rfl, hR', hkk⟩
    replace hS : RS w w7 gc g _ l (k7 l st) _ := hS.call hne hR' hkk
    clear hR' hkk
    have hcc := hS.2.1
    simp only [ConAt] at hcc
    obtain ⟨-, -, -, -, -, -, -, -, -, -, d10, d11, -, -⟩ := hcc
    have z10 := hS.2.2.1 10
    go_wp2_with fail
    clear d10 d11 z10
    replace hS := hS.set10 hne hout (sOf (rTextV (uGet l (k6 l st).1) (bits .and .i64 (kf l st) 128 != 0) (k6 l st)))
    refine (textR_c (bits .and .i64 (kf l st) 64 != 0) g _ l (k7 l st) _ (HL.out _ hS.2.2.2) hS.1).mono ?_
    rintro r w8 ⟨rfl, hR', hkk⟩
    replace hS : RS w w8 gc g _ l (k8 l st) _ := hS.call hne hR' hkk
    clear hR' hkk
    have hcc := hS.2.1
    simp only [ConAt] at hcc
    obtain ⟨-, -, -, -, -, -, -, -, -, -, -, -, d12, -⟩ := hcc
    have z12 := hS.2.2.1 12
    have hrr := hS.1
    obtain ⟨r0, -, r2, r3, -, -, -, -⟩ := hrr
    have hll : l.length ≤ 9223372036854775807 := by have := hS.1.2.1.len; unfold maxLen at this; omega
    by_cases h8 : (k8 l st).2 = 0
    · rw [h8] at r3
      by_cases h9 : (k8 l st).1 = l.length
      · have Hk := hd (show k9 l st = k8 l st from by rw [k9, if_neg (fun h => h.2 h9)])
        rw [h9] at r2
        clear h8 h9
        go_wp2_with fail
        go_quiet (fail)
        go_wp2_with fail
        go_end0
        rw [Hk.out]
        replace hS := hS.set12 hne hout (sOf (rTextV (uGetRaw l (k7 l st).1) (bits .and .i64 (kf l st) 64 != 0) (k7 l st)))
        replace hS := hS.quiet ((Keeps.refl [] _).drewN nq)
        exact ⟨rfl, hS.1, hS.2.1, hS.2.2.1, hS.2.2.2⟩
      · have Hk := hd (show k9 l st = rFail (k8 l st) 4 from by rw [k9, if_pos ⟨h8, h9⟩])
        have h9b : ((k8 l st).1 != (l.length : Int)) = true := by simpa using h9
        clear h8 h9
        go_wp2_with fail
        go_quiet (fail)
        go_wp2_with fail
        replace hS := hS.set12 hne hout (sOf (rTextV (uGetRaw l (k7 l st).1) (bits .and .i64 (kf l st) 64 != 0) (k7 l st)))
        replace hS := hS.quiet ((Keeps.refl [] _).drewN nq)
        refine (fail_c 4 g _ l (k8 l st) _ hS.1).mono ?_
        rintro r w9 ⟨rfl, hR', hkk⟩
        rw [← Hk.out] at hR'
        replace hS := hS.call hne hR' hkk
        go_wp2_with fail
        go_end0
        exact ⟨rfl, hS.1, hS.2.1, hS.2.2.1, hS.2.2.2⟩
    · have Hk := hd (show k9 l st = k8 l st from by rw [k9, if_neg (fun h => h8 h.1)])
      have h8b : ((k8 l st).2 == 0) = false := by simpa using h8
      clear h8
      go_wp2_with fail
      go_quiet (fail)
      go_wp2_with fail
      go_end0
      rw [Hk.out]
      replace hS := hS.set12 hne hout (sOf (rTextV (uGetRaw l (k7 l st).1) (bits .and .i64 (kf l st) 64 != 0) (k7 l st)))
      replace hS := hS.quiet ((Keeps.refl [] _).drewN nq)
      exact ⟨rfl, hS.1, hS.2.1, hS.2.2.1, hS.2.2.2⟩
end Go.Proofs.YtjlnlgemngpelaaGreatDoor
