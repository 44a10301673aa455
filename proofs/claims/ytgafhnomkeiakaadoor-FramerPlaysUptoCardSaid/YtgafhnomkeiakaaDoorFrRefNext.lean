/- Packets out of chunks: the reference's framer: Next. -/
import Derived.Test.YtgafhnomkeiakaaDoorFrRef
namespace Go.Proofs.YtgafhnomkeiakaaDoor
open Go.RowKit
set_option linter.unusedVariables false
set_option linter.unusedSimpArgs false

theorem fn2 {l : List UInt8} {t k f n p : Int} (h : hGet l 0 = ((k, f, n), p, 2)) : frNext (l, t, 0) = ((pk0, false, 0), (l, t, 0)) := by
  rw [frNext, if_neg (by simp)]; simp only [h]; rw [if_pos trivial]
theorem fnE {l : List UInt8} {t k f n p e : Int} (h : hGet l 0 = ((k, f, n), p, e)) (h2 : e ≠ 2) (h0 : e ≠ 0) : frNext (l, t, 0) = ((pk0, false, e), ([], t, e)) := by
  rw [frNext, if_neg (by simp)]; simp only [h]; rw [if_neg h2, if_pos h0]
theorem fnS {l : List UInt8} {t k f n p : Int} (h : hGet l 0 = ((k, f, n), p, 0)) (hs : (l.length : Int) - p < n) : frNext (l, t, 0) = ((pk0, false, 0), (l, t, 0)) := by
  rw [frNext, if_neg (by simp)]; simp only [h]; rw [if_neg (by omega), if_neg (by simp), if_pos hs]
theorem fnO {l : List UInt8} {t k f n p : Int} (h : hGet l 0 = ((k, f, n), p, 0)) (hs : ¬ (l.length : Int) - p < n) : frNext (l, t, 0) = ((((k, f, n), (l.drop p.toNat).take n.toNat), true, 0), (l.drop (p + n).toNat, t + 1, 0)) := by
  rw [frNext, if_neg (by simp)]; simp only [h]; rw [if_neg (by omega), if_neg (by simp), if_neg hs]

set_option maxRecDepth 100000 in
theorem wpo_appB {o : Oper} {a : Act} {w : World} {K : Act → World → Prop} {Q : Exit → Act → World → Prop} (s x : Operand)
    (ho : o.op = .call { callee := .builtin .append, args := #[s, x], argTypes := #[23, 23] })
    (v : Value) (l : List UInt8) (hv : a.eval s = v) (hown : Owned 0 w v l) (vk : Value) (k : List UInt8) (hx : a.eval x = vk) (hk : Bs w vk k)
    (hlen : l.length + k.length ≤ 140737488355328)
    (h : ∀ v' w', Owned 0 w' v' (l ++ k) → Keeps (blk v) w w' → (∀ i, i ∈ blk v' → i ∈ blk v ∨ w.heap.size ≤ i) → K (a.put o.dst v') w') : Oper.wp Tryd.prog o a w K Q := by
  obtain ⟨i0, hi, hz0, hz1, hz2⟩ := info_parts info_u8
  unfold Oper.wp execOp
  simp only [ho, resolve, invoke, builtin, Sem.run_bind, Sem.run_pure, Result.andThen_ok, List.map_toArray, List.map_cons, List.map_nil, hv, hx]
  obtain ⟨ad, c, rfl, hc1, hc2, hn0, hcell⟩ := hk
  cases ad with
  | none =>
    obtain ⟨h1, rfl, h3⟩ := hn0 rfl
    have hk0 : k = [] := List.eq_nil_of_length_eq_zero h1
    subst hk0
    have hr := run_append_owned_none (P := Tryd.prog) w 0 23 o.type 5 i0 1 Tryd.underlying23 hi v l.length (l.map byteV) hown
    simp only [List.length_nil, hr, Result.andThen_ok]
    exact h v w (by simpa using hown) (Keeps.refl _ _) (fun i hi => .inl hi)
  | some ad =>
    obtain ⟨v', w', hr, h2, h3, h4⟩ := app_block (P := Tryd.prog) w 23 o.type 5 i0 (.int .u8 0) 1 1 Tryd.underlying23 hi hz0 hz1 hz2 rfl (by decide) v l.length (l.map byteV)
      hown ad k.length c (k.map byteV) (by simp) (hcell ad rfl) (byteV_one k) (by unfold maxLen; omega) (by omega)
    simp only [hr, Result.andThen_ok]
    refine h v' w' ?_ h3 h4
    unfold Owned
    rw [List.length_append, List.map_append]
    exact h2

theorem rnextRead {w' : World} {gr : Nat} {tmps : Array Value} {a b c x : Int} {s : ByteArray} {ok : Bool} (h2 : tmps[2]?.getD undef = .pointer (some ⟨gr, 0, none⟩)) (h3 : tmps[3]?.getD undef = .bool ok) (h4 : tmps[4]?.getD undef = .int .i64 x)
    (c0 : w'.cell? ⟨gr, 0, none⟩ = some (.int .i64 a)) (c1 : w'.cell? ⟨gr, 1, none⟩ = some (.int .i64 b)) (c2 : w'.cell? ⟨gr, 2, none⟩ = some (.int .i64 c)) (c3 : w'.cell? ⟨gr, 3, none⟩ = some (.string s)) :
    (results Tryd.f34 tmps).run Tryd.prog w' = .ok (.tuple #[.agg #[.int .i64 a, .int .i64 b, .int .i64 c, .string s], .bool ok, .int .i64 x]) w' := by
  simp [results, Tryd.results34, go_sem, h2, h3, h4, c0, c1, c2, c3]

def GivesRNext (w : World) (g : Nat) (v : Value) (r : (Pk × Bool × Int) × FrS) (e : Ending) (w' : World) : Prop :=
  e = .returned (.tuple #[pkV r.1.1, .bool r.1.2.1, .int .i64 r.1.2.2]) ∧ ∃ v', RefAt w' g r.2 v' ∧ Keeps [g] w w' ∧ ∀ i, i ∈ blk v' → i ∈ blk v ∨ w.heap.size ≤ i

set_option maxRecDepth 100000 in
set_option maxHeartbeats 4000000 in
theorem refNext_c (g : Nat) (s : FrS) (v : Value) (w : World) (h : RefAt w g s v) (hlm : s.1.length ≤ 140737488355328) (ht : 0 ≤ s.2.1 ∧ s.2.1 ≤ 140737488355328) :
    Calls Tryd.prog 34 #[.pointer (some ⟨g, 0, none⟩)] w (GivesRNext w g v (frNext s)) := by
  have H := hd h
  obtain ⟨own, ng, c0, c1, c2, fr, lt⟩ := h
  obtain ⟨l, t, d⟩ := s
  simp only at c1 c2 hlm ht
  have hgn : w.heap.size ≠ g := by omega
  by_cases hdd : d = 0
  rotate_left
  · have hdb : (d != 0) = true := by simpa using hdd
    have hf : frNext (l, t, d) = ((pk0, false, d), (l, t, d)) := by rw [frNext, if_pos hdd]
    rw [hf]
    clear own fr ng
    go_enter Tryd.func34, Tryd.ntmps34
    go_wp2_with fail
    go_region
    go_wp2_with fail
    have hb : Below w.heap.size w (w.alloc (Obj.cells #[Value.int IntKind.i64 0, Value.int IntKind.i64 0, Value.int IntKind.i64 0, Value.string ⟨#[]⟩] 54)).drew := below_dn ((Below.refl _ w).alloc (Nat.le_refl _) _) 1
    exact bodyPost_ret (rnextRead (a := 0) (b := 0) (c := 0) (x := d) (s := ⟨#[]⟩) (ok := false) rfl rfl rfl (by simp [go_sem]) (by simp [go_sem]) (by simp [go_sem]) (by simp [go_sem])) rfl ⟨rfl, v, H.out.below hb, Keeps.below hb, fun i hi => .inl hi⟩
  subst hdd
  have hb0 : Below w.heap.size w (w.alloc (Obj.cells #[Value.int IntKind.i64 0, Value.int IntKind.i64 0, Value.int IntKind.i64 0, Value.string ⟨#[]⟩] 54)) := (Below.refl _ w).alloc (Nat.le_refl _) _
  have hv := own.bs
  obtain ⟨a, c, rfl⟩ := hv.slice
  have HV := hd hv; have HB0 := hd hb0
  clear hv own hb0
  go_enter Tryd.func34, Tryd.ntmps34
  go_wp2_with fail
  refine (refHGet_c _ l 0 _ (HV.out.below' HB0.out (Nat.le_refl _))).mono ?_
  have h2 := fun k f n p => @fn2 l t k f n p
  have hEE := fun k f n p e => @fnE l t k f n p e
  have hSS := fun k f n p => @fnS l t k f n p
  have hOO := fun k f n p => @fnO l t k f n p
  have hrg := @hGet_rng l
  generalize frNext (l, t, 0) = N at *
  generalize hGet l 0 = r at *
  obtain ⟨⟨k, f, n⟩, p, e⟩ := r
  have H2 := hd (h2 k f n p); have HE := hd (hEE k f n p e); have HS := hd (hSS k f n p); have HO := hd (hOO k f n p); have HR := hd hrg
  clear h2 hEE hSS hOO hrg
  rintro e' w1 ⟨rfl, hb1⟩
  simp only
  have hb : Below w.heap.size w w1 := Below.up HB0.out hb1
  have hl1 : w.heap.size < w1.heap.size := by have := hb1.size; simp at this; omega
  have q0 : ∀ o, w1.frozen? ⟨w.heap.size, o, none⟩ = false := fun o => (bfree hb1 w.heap.size o (by simp)).trans (by simp [go_sem])
  have z0 : w1.cell? ⟨w.heap.size, 0, none⟩ = some (.int .i64 0) := (bcell hb1 w.heap.size 0 (by simp)).trans (World.cell?_alloc_new w _ _ 0)
  have z1 : w1.cell? ⟨w.heap.size, 1, none⟩ = some (.int .i64 0) := (bcell hb1 w.heap.size 1 (by simp)).trans (World.cell?_alloc_new w _ _ 1)
  have z2 : w1.cell? ⟨w.heap.size, 2, none⟩ = some (.int .i64 0) := (bcell hb1 w.heap.size 2 (by simp)).trans (World.cell?_alloc_new w _ _ 2)
  have z3 : w1.cell? ⟨w.heap.size, 3, none⟩ = some (.string ⟨#[]⟩) := (bcell hb1 w.heap.size 3 (by simp)).trans (World.cell?_alloc_new w _ _ 3)
  replace c0 := (bcell hb g 0 lt).trans c0
  replace c1 := (bcell hb g 1 lt).trans c1
  replace c2 := (bcell hb g 2 lt).trans c2
  replace fr := fun o => (bfree hb g o lt).trans (fr o)
  have hg1 : g < w1.heap.size := by omega
  have f0 := fr 0; have f1 := fr 1; have f2 := fr 2
  have qq0 := q0 0
  have HB := hd hb
  clear hb hb1 HB0
  by_cases he2 : e = 2
  · subst he2
    have HN := hd (H2.out rfl)
    clear H2 HE HS HO HR
    go_wp2_with fail
    go_quiet (fail)
    go_wp2_with fail
    have hbF : Below w.heap.size w ((((((w1.alloc (Obj.cells #[.int .i64 k, .int .i64 f, .int .i64 n] 52)).drewN nq).setCell ⟨w.heap.size, 0, none⟩ (.int .i64 0)).setCell ⟨w.heap.size, 1, none⟩ (.int .i64 0)).setCell ⟨w.heap.size, 2, none⟩ (.int .i64 0)).setCell ⟨w.heap.size, 3, none⟩ (.string ⟨#[]⟩)) :=
      (((((below_dn (HB.out.alloc (Nat.le_of_lt hl1) _) nq).setCell (Nat.le_refl _) _).setCell (Nat.le_refl _) _).setCell (Nat.le_refl _) _).setCell (Nat.le_refl _) _)
    exact bodyPost_ret (rnextRead (a := 0) (b := 0) (c := 0) (x := 0) (s := ⟨#[]⟩) (ok := false) rfl rfl rfl (by simp [go_sem, z0, hl1]) (by simp [go_sem, z1, hl1]) (by simp [go_sem, z2, hl1]) (by simp [go_sem, z3, hl1])) rfl (by rw [HN.out]; exact ⟨rfl, _, H.out.below hbF, Keeps.below hbF, fun i hi => .inl hi⟩)
  have he2b : (e == 2) = false := by simpa using he2
  by_cases he : e = 0
  rotate_left
  · have heb : (e == 0) = false := by simpa using he
    have heb2 : (e != 0) = true := by simpa using he
    have HN := hd (HE.out rfl he2 he)
    clear H2 HE HS HO HR
    go_wp2_with fail
    go_quiet (fail)
    go_wp2_with fail
    have hbF : Below w.heap.size w ((w1.alloc (Obj.cells #[.int .i64 k, .int .i64 f, .int .i64 n] 52)).drewN nq) := below_dn (HB.out.alloc (Nat.le_of_lt hl1) _) nq
    refine bodyPost_ret (rnextRead (a := 0) (b := 0) (c := 0) (x := e) (s := ⟨#[]⟩) (ok := false) rfl rfl rfl (by simp [go_sem, z0, hl1, hgn]) (by simp [go_sem, z1, hl1, hgn]) (by simp [go_sem, z2, hl1, hgn]) (by simp [go_sem, z3, hl1, hgn])) rfl ?_
    rw [HN.out]
    refine ⟨rfl, .slice none 0 0, ⟨Owned.nil _ _, by simp [blk, Value.ownBlock], by simp [go_sem, c0, hg1, hgn], by simp [go_sem, c1, hg1, hgn], by simp [go_sem, c2, hg1, hgn], fun o => by simp [go_sem, hg1]; exact fr o, by simp [go_sem]; omega⟩,
      ((((((Keeps.below hbF).setCell (.inl (by simp)) _).setCell (.inl (by simp)) _).setCell (.inr (Nat.le_refl _)) _).setCell (.inr (Nat.le_refl _)) _).setCell (.inr (Nat.le_refl _)) _).setCell (.inr (Nat.le_refl _)) _, fun i hi => by simp [blk, Value.ownBlock] at hi⟩
  subst he
  obtain ⟨p0, p1, n0, n1⟩ := HR.out rfl
  simp only at p0 p1 n0 n1
  clear H2 HE HR
  by_cases hs : (l.length : Int) - p < n
  · have HN := hd (HS.out rfl hs)
    clear HS HO
    go_wp2_with fail
    go_quiet (fail)
    go_wp2_with fail
    have hbF : Below w.heap.size w ((((((w1.alloc (Obj.cells #[.int .i64 k, .int .i64 f, .int .i64 n] 52)).drewN nq).setCell ⟨w.heap.size, 0, none⟩ (.int .i64 0)).setCell ⟨w.heap.size, 1, none⟩ (.int .i64 0)).setCell ⟨w.heap.size, 2, none⟩ (.int .i64 0)).setCell ⟨w.heap.size, 3, none⟩ (.string ⟨#[]⟩)) :=
      (((((below_dn (HB.out.alloc (Nat.le_of_lt hl1) _) nq).setCell (Nat.le_refl _) _).setCell (Nat.le_refl _) _).setCell (Nat.le_refl _) _).setCell (Nat.le_refl _) _)
    exact bodyPost_ret (rnextRead (a := 0) (b := 0) (c := 0) (x := 0) (s := ⟨#[]⟩) (ok := false) rfl rfl rfl (by simp [go_sem, z0, hl1]) (by simp [go_sem, z1, hl1]) (by simp [go_sem, z2, hl1]) (by simp [go_sem, z3, hl1])) rfl (by rw [HN.out]; exact ⟨rfl, _, H.out.below hbF, Keeps.below hbF, fun i hi => .inl hi⟩)
  · have HN := hd (HO.out rfl hs)
    clear HS HO
    go_wp2_with fail
    go_quiet (fail)
    go_wp2_with fail
    have hb2 : Below w.heap.size w ((w1.alloc (Obj.cells #[.int .i64 k, .int .i64 f, .int .i64 n] 52)).drewN nq) := below_dn (HB.out.alloc (Nat.le_of_lt hl1) _) nq
    have hbx : Below w1.heap.size w1 ((w1.alloc (Obj.cells #[.int .i64 k, .int .i64 f, .int .i64 n] 52)).drewN nq) := below_dn ((Below.refl _ _).alloc (Nat.le_refl _) _) nq
    have d0 : ((w1.alloc (Obj.cells #[.int .i64 k, .int .i64 f, .int .i64 n] 52)).drewN nq).cell? ⟨w1.heap.size, 0, none⟩ = some (.int .i64 k) := by simp [go_sem]
    have d1 : ((w1.alloc (Obj.cells #[.int .i64 k, .int .i64 f, .int .i64 n] 52)).drewN nq).cell? ⟨w1.heap.size, 1, none⟩ = some (.int .i64 f) := by simp [go_sem]
    have d2 : ((w1.alloc (Obj.cells #[.int .i64 k, .int .i64 f, .int .i64 n] 52)).drewN nq).cell? ⟨w1.heap.size, 2, none⟩ = some (.int .i64 n) := by simp [go_sem]
    have hs2 : ((w1.alloc (Obj.cells #[.int .i64 k, .int .i64 f, .int .i64 n] 52)).drewN nq).heap.size = w1.heap.size + 1 := by simp
    generalize ((w1.alloc (Obj.cells #[.int .i64 k, .int .i64 f, .int .i64 n] 52)).drewN nq) = w2 at *
    replace c0 := (bcell hbx g 0 hg1).trans c0
    replace c1 := (bcell hbx g 1 hg1).trans c1
    replace c2 := (bcell hbx g 2 hg1).trans c2
    replace fr := fun o => (bfree hbx g o hg1).trans (fr o)
    replace z0 := (bcell hbx w.heap.size 0 hl1).trans z0
    replace z1 := (bcell hbx w.heap.size 1 hl1).trans z1
    replace z2 := (bcell hbx w.heap.size 2 hl1).trans z2
    replace z3 := (bcell hbx w.heap.size 3 hl1).trans z3
    replace q0 := fun o => (bfree hbx w.heap.size o hl1).trans (q0 o)
    have hg2 : g < w2.heap.size := by omega
    have hx2 : w1.heap.size < w2.heap.size := by omega
    have hl2 : w.heap.size < w2.heap.size := by omega
    have hne1 : w1.heap.size ≠ g := by omega
    clear hbx HB f0 f1 f2 qq0
    have hbs : Bs w2.drew (.slice a l.length c) l := (HV.out.below' hb2 (Nat.le_refl _)).below' (below_dn (Below.refl w2.heap.size w2) 1) (Nat.le_refl _)
    obtain ⟨a1, c1', hsl, hbs1⟩ := run_part hbs p (p + n) p.toNat (p + n).toNat (by omega) (by omega) (by omega) (by omega)
    obtain ⟨a2, c2', hsl2, hbs2, -⟩ := run_fromO HV.out (p + n) (p + n).toNat (by omega) (by omega)
    have hlen : (p + n).toNat - p.toNat = n.toNat := by omega
    rw [hlen] at hsl hbs1
    have HB1 := hd hbs1; have HB2 := hd hbs2; have HLS := hd hsl2; have HB := hd hb2
    have HS2 := hd hs2
    clear hbs hbs1 hbs2 hsl2 hlen hb2 hs2
    have hwr : IntKind.i64.wrap (p + n) = p + n := IntWalk.i64_in _ (by omega)
    refine wp_region_M (fun W => W.cell? ⟨w1.heap.size, 0, none⟩ = some (.int .i64 k) ∧ W.cell? ⟨w1.heap.size, 1, none⟩ = some (.int .i64 f) ∧ W.cell? ⟨w1.heap.size, 2, none⟩ = some (.int .i64 n) ∧ W.cell? ⟨g, 0, none⟩ = some (.slice a l.length c) ∧ Bs W (.slice a1 n.toNat c1') ((l.drop p.toNat).take n.toNat)) 14 [(0, false), (1, false), (2, false), (3, false), (4, false), (5, false), (6, false), (7, false), (8, false), (9, false), (10, false), (11, false), (12, false), (13, true), (14, true)] (by kernel_rfl) (by kernel_rfl) (fun _ _ _ _ h => h) ⟨d0, d1, d2, c0, HB1.out⟩ ?_
    iterate 13
      apply wpM_still (by rfl) (by rfl)
      · intro W hC
        obtain ⟨e0, e1, e2, e3, e4⟩ := hC
        have hst := run_str e4
        clear e4
        go_simp
        rfl
      go_simp
    apply wpM_move (by rfl) (by rfl)
    intro K hK
    go_simp
    refine hK _ _ (fun _ => ?_) ?_
    · refine ⟨?_, ?_, ?_, ?_, HB1.out.below' ((Below.refl _ _).alloc (Nat.le_refl _) _) (Nat.le_refl _)⟩
      · simp [go_sem, d0, hx2]
      · simp [go_sem, d1, hx2]
      · simp [go_sem, d2, hx2]
      · simp [go_sem, c0, hg2]
    clear hK K
    apply wpM_move (by rfl) (by rfl)
    intro K hK
    go_simp
    refine hK _ _ (fun h => absurd h (by decide)) ?_
    clear hK K
    refine wpM_nil ?_
    have hb5 : Below w2.heap.size w2 (w2.alloc (Obj.cells #[.int .i64 k, .int .i64 f, .int .i64 n, .string ⟨((l.drop p.toNat).take n.toNat).toArray⟩] 54)).drew := below_dn ((Below.refl _ _).alloc (Nat.le_refl _) _) 1
    have x0 : (w2.alloc (Obj.cells #[.int .i64 k, .int .i64 f, .int .i64 n, .string ⟨((l.drop p.toNat).take n.toNat).toArray⟩] 54)).drew.cell? ⟨w2.heap.size, 0, none⟩ = some (.int .i64 k) := by simp [go_sem]
    have x1 : (w2.alloc (Obj.cells #[.int .i64 k, .int .i64 f, .int .i64 n, .string ⟨((l.drop p.toNat).take n.toNat).toArray⟩] 54)).drew.cell? ⟨w2.heap.size, 1, none⟩ = some (.int .i64 f) := by simp [go_sem]
    have x2 : (w2.alloc (Obj.cells #[.int .i64 k, .int .i64 f, .int .i64 n, .string ⟨((l.drop p.toNat).take n.toNat).toArray⟩] 54)).drew.cell? ⟨w2.heap.size, 2, none⟩ = some (.int .i64 n) := by simp [go_sem]
    have x3 : (w2.alloc (Obj.cells #[.int .i64 k, .int .i64 f, .int .i64 n, .string ⟨((l.drop p.toNat).take n.toNat).toArray⟩] 54)).drew.cell? ⟨w2.heap.size, 3, none⟩ = some (.string (sOf ((l.drop p.toNat).take n.toNat))) := by simp [go_sem, sOf]
    have hs5 : (w2.alloc (Obj.cells #[.int .i64 k, .int .i64 f, .int .i64 n, .string ⟨((l.drop p.toNat).take n.toNat).toArray⟩] 54)).drew.heap.size = w2.heap.size + 1 := by simp
    generalize (w2.alloc (Obj.cells #[.int .i64 k, .int .i64 f, .int .i64 n, .string ⟨((l.drop p.toNat).take n.toNat).toArray⟩] 54)).drew = w5 at *
    clear HB1 hsl
    have hs2 := HS2.out
    replace c0 := (bcell hb5 g 0 hg2).trans c0
    replace c1 := (bcell hb5 g 1 hg2).trans c1
    replace c2 := (bcell hb5 g 2 hg2).trans c2
    replace fr := fun o => (bfree hb5 g o hg2).trans (fr o)
    replace z0 := (bcell hb5 w.heap.size 0 hl2).trans z0
    replace z1 := (bcell hb5 w.heap.size 1 hl2).trans z1
    replace z2 := (bcell hb5 w.heap.size 2 hl2).trans z2
    replace z3 := (bcell hb5 w.heap.size 3 hl2).trans z3
    replace q0 := fun o => (bfree hb5 w.heap.size o hl2).trans (q0 o)
    replace d2 := (bcell hb5 w1.heap.size 2 hx2).trans d2
    have hbw : Below w.heap.size w w5 := HB.out.trans (hb5.mono (by omega))
    have HBW := hd hbw
    have hg5 : g < w5.heap.size := by omega
    have hx5 : w1.heap.size < w5.heap.size := by omega
    have hxx5 : w2.heap.size < w5.heap.size := by omega
    have hl5 : w.heap.size < w5.heap.size := by omega
    have hne2 : w2.heap.size ≠ g := by omega
    have hne3 : w2.heap.size ≠ w.heap.size := by omega
    have hsl2 := HLS.out
    have hbs2 : Bs (w5.drew.alloc (Obj.cells #[] 5)) (.slice a2 (l.length - (p + n).toNat) c2') (l.drop (p + n).toNat) := HB2.out.below' (hbw.trans ((below_dn (Below.refl w5.heap.size w5) 1).alloc (Nat.le_refl _) _ |>.mono (by omega))) (Nat.le_refl _)
    have how : Owned 0 (w5.drew.alloc (Obj.cells #[] 5)) (.slice (some ⟨w5.heap.size, 0, none⟩) 0 0) [] := owned_lit 0 w5.drew [] w5.heap.size rfl (Nat.zero_le _) (by unfold maxLen; simp) [] rfl 0 rfl
    have HB2' := hd hbs2; have HOW := hd how
    have hnlen : (l.drop (p + n).toNat).length ≤ 140737488355328 := by simp; omega
    have HNL := hd hnlen
    have HS5 := hd hs5
    clear hb5 hbw HLS HB2 HB hbs2 how d0 d1 hnlen hs2 hs5
    go_wp2_with fail
    refine wp_region_M (fun W => W.cell? ⟨w1.heap.size, 2, none⟩ = some (.int .i64 n) ∧ W.cell? ⟨g, 0, none⟩ = some (.slice a l.length c)) 14 [(0, false), (2, false), (3, false), (4, false), (5, false), (6, false), (7, false), (8, false), (9, false), (10, false), (1, true), (11, true), (12, false), (13, false), (14, true)] (by kernel_rfl) (by kernel_rfl) (fun _ _ _ _ h => h) ⟨d2, c0⟩ ?_
    iterate 10
      apply wpM_still (by rfl) (by rfl)
      · intro W hC
        obtain ⟨e0, e1⟩ := hC
        go_simp
        rfl
      go_simp
    apply wpM_move (by rfl) (by rfl)
    intro K hK
    go_simp
    refine hK _ _ (fun _ => ⟨by simp [go_sem, d2, hx5], by simp [go_sem, c0, hg5]⟩) ?_
    clear hK K
    go_simp
    apply wpM_move (by rfl) (by rfl)
    intro K hK
    refine wpo_appB _ _ (by rfl) _ [] (by rfl) HOW.out _ _ (by rfl) HB2'.out (by simpa using HNL.out) ?_
    intro v6 w6 ho6 hk6 hn6
    rw [List.nil_append] at ho6
    obtain ⟨a6, n6, rfl⟩ := ho6.bs.slice
    generalize hm6 : (l.drop (p + n).toNat).length = m6 at *
    clear hm6
    have hs5 := HS5.out; have hs2 := HS2.out
    have hk5 : Keeps [w5.heap.size] w5 w6 := (((Keeps.refl _ w5).alloc _).drew).trans hk6
    have hn5 : ∀ i, i ∈ blk (.slice a6 m6 n6) → w5.heap.size ≤ i := fun i hi => by
      rcases hn6 i hi with h9 | h9
      · simp [blk, Value.ownBlock] at h9; omega
      · simp at h9; omega
    replace c0 := (hk5.cell (o := 0) hg5 (by simp; omega)).trans c0
    replace c1 := (hk5.cell (o := 1) hg5 (by simp; omega)).trans c1
    replace c2 := (hk5.cell (o := 2) hg5 (by simp; omega)).trans c2
    replace fr := fun o => (hk5.free (o := o) hg5 (by simp; omega)).trans (fr o)
    replace z0 := (hk5.cell (o := 0) hl5 (by simp; omega)).trans z0
    replace z1 := (hk5.cell (o := 1) hl5 (by simp; omega)).trans z1
    replace z2 := (hk5.cell (o := 2) hl5 (by simp; omega)).trans z2
    replace z3 := (hk5.cell (o := 3) hl5 (by simp; omega)).trans z3
    replace q0 := fun o => (hk5.free (o := o) hl5 (by simp; omega)).trans (q0 o)
    replace x0 := (hk5.cell (o := 0) hxx5 (by simp; omega)).trans x0
    replace x1 := (hk5.cell (o := 1) hxx5 (by simp; omega)).trans x1
    replace x2 := (hk5.cell (o := 2) hxx5 (by simp; omega)).trans x2
    replace x3 := (hk5.cell (o := 3) hxx5 (by simp; omega)).trans x3
    replace d2 := (hk5.cell (o := 2) hx5 (by simp; omega)).trans d2
    have hs6 := hk5.size
    have hg6 : g < w6.heap.size := by omega
    have hl6 : w.heap.size < w6.heap.size := by omega
    have hbw6 : Below w.heap.size w w6 := HBW.out.trans (hk5.toBelow (by omega) (fun i hi => by simp at hi; omega))
    have hgv : g ∉ blk (.slice a6 m6 n6) := fun hm => by have := hn5 g hm; omega
    have hwv : w.heap.size ∉ blk (.slice a6 m6 n6) := fun hm => by have := hn5 _ hm; omega
    have f0 := fr 0; have f1 := fr 1
    have y0 := q0 0; have y1 := q0 1; have y2 := q0 2; have y3 := q0 3
    have htw : IntKind.i64.wrap (t + 1) = t + 1 := IntWalk.i64_in _ (by omega)
    refine hK _ _ (fun _ => ⟨d2, c0⟩) ?_
    clear hK K
    have HO6 := hd ho6; have HK5 := hd hk5; have HN5 := hd hn5; have HBW6 := hd hbw6
    clear ho6 hk5 hn5 hbw6 hk6 hn6 HB2' HOW HNL hsl2 hs5 hs2 d2
    go_simp
    iterate 2
      apply wpM_still (by rfl) (by rfl)
      · intro W hC
        go_simp
        rfl
      go_simp
    apply wpM_move (by rfl) (by rfl)
    intro K hK
    go_simp
    refine hK _ _ (fun h => absurd h (by decide)) ?_
    clear hK K
    refine wpM_nil ?_
    go_wp2_with fail
    refine bodyPost_ret (rnextRead (a := k) (b := f) (c := n) (x := 0) (s := sOf ((l.drop p.toNat).take n.toNat)) (ok := true) rfl rfl rfl (by simp [go_sem, z0, z1, z2, z3, hl6, hgn]) (by simp [go_sem, z0, z1, z2, z3, hl6, hgn]) (by simp [go_sem, z0, z1, z2, z3, hl6, hgn]) (by simp [go_sem, z0, z1, z2, z3, hl6, hgn])) rfl ?_
    rw [HN.out]
    have hk6 : Keeps [g] w ((((((w6.setCell ⟨g, 0, none⟩ (.slice a6 m6 n6)).setCell ⟨g, 1, none⟩ (.int .i64 (t + 1))).setCell ⟨w.heap.size, 0, none⟩ (.int .i64 k)).setCell ⟨w.heap.size, 1, none⟩ (.int .i64 f)).setCell ⟨w.heap.size, 2, none⟩ (.int .i64 n)).setCell ⟨w.heap.size, 3, none⟩ (.string (sOf ((l.drop p.toNat).take n.toNat)))) :=
      ((((((Keeps.below HBW6.out).setCell (.inl (by simp)) _).setCell (.inl (by simp)) _).setCell (.inr (Nat.le_refl _)) _).setCell (.inr (Nat.le_refl _)) _).setCell (.inr (Nat.le_refl _)) _).setCell (.inr (Nat.le_refl _)) _
    have hk7 : Keeps [g, w.heap.size] w6 ((((((w6.setCell ⟨g, 0, none⟩ (.slice a6 m6 n6)).setCell ⟨g, 1, none⟩ (.int .i64 (t + 1))).setCell ⟨w.heap.size, 0, none⟩ (.int .i64 k)).setCell ⟨w.heap.size, 1, none⟩ (.int .i64 f)).setCell ⟨w.heap.size, 2, none⟩ (.int .i64 n)).setCell ⟨w.heap.size, 3, none⟩ (.string (sOf ((l.drop p.toNat).take n.toNat)))) :=
      ((((((Keeps.refl _ w6).setCell (.inl (by simp)) _).setCell (.inl (by simp)) _).setCell (.inl (by simp)) _).setCell (.inl (by simp)) _).setCell (.inl (by simp)) _).setCell (.inl (by simp)) _
    exact ⟨rfl, _, ⟨hk7.row HO6.out (fun i hi => by
      simp only [List.mem_cons, List.not_mem_nil, or_false, not_or]
      exact ⟨fun e => hgv (e ▸ hi), fun e => hwv (e ▸ hi)⟩), hgv, by simp [go_sem, c0, hgn], by simp [go_sem, c1, hgn], by simp [go_sem, c2, hgn], fun o => by simp [go_sem]; exact fr o, by simp [go_sem]; exact hg6⟩, hk6, fun i hi => .inr (by have := HN5.out i hi; omega)⟩
end Go.Proofs.YtgafhnomkeiakaaDoor
