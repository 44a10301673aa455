/- A bundle of texts (merged for the limit on files): Bir6, Bir7. -/
import Derived.Test.YtclicjokgfiegaaGreatDoorZa13
/- Births: one is laid between others: slices.Insert: the walk. -/
namespace Go.Proofs.YtclicjokgfiegaaGreatDoor
open Go.RowKit
set_option linter.unusedVariables false
set_option linter.unusedSimpArgs false

theorem info_bir1 : (Tryz.prog.info? 70).map (·.size) = some 3 := by kernel_rfl
theorem size_bir (w : World) : (sizeOf 70).run Tryz.prog w = .ok 3 w := by
  obtain ⟨i0, hi0, hz0, hz1, hz2⟩ := info_parts info_bir
  simp [sizeOf, typeInfo, hi0, hz1]
theorem ins_range {w : World} {g o i : Nat} {l : List Bir} {x : Bir} (h1 : w.rangeAt g o (birs (l.take i))) (hi : i ≤ l.length) (h2 : w.rangeAt g (o + i * 3) (birV x)) (h3 : w.rangeAt g (o + (i + 1) * 3) (birs (l.drop i))) :
    w.rangeAt g o (birs (l.take i ++ x :: l.drop i)) := by
  have e : l.take i ++ x :: l.drop i = (l.take i ++ [x]) ++ l.drop i := by simp
  rw [e]
  refine range_cat (range_snoc h1 ?_) ?_
  · rw [List.length_take, Nat.min_eq_left hi]; exact h2
  · rw [List.length_append, List.length_take, Nat.min_eq_left hi]; exact h3
theorem rangeDrew {w : World} {b o : Nat} {l : List Value} (h : w.rangeAt b o l) : w.drew.rangeAt b o l := (World.rangeAt_drew w b o l).2 h
theorem keepsDrew (S : List Nat) (w : World) : Keeps S w w.drew := (Keeps.refl S w).drew
set_option maxRecDepth 100000 in
set_option maxHeartbeats 8000000 in
theorem insertRoom_c (l : List Bir) (g o cap tot i : Nat) (x : Bir) (gx : Nat) (w : World) (hr : RowIn w g 70 tot) (hl : w.rangeAt g o (birs l)) (hi : i < l.length) (hc : l.length + 1 ≤ cap) (hcm : cap ≤ maxLen) (htot : o + cap * 3 ≤ tot)
    (hx : RowIn w gx 70 3) (hxr : w.rangeAt gx 0 (birV x)) (hne : gx ≠ g) (hm : l.length ≤ 1000000) :
    Calls Tryz.prog 26 #[.slice (some ⟨g, o, none⟩) l.length cap, .int .i64 i, .slice (some ⟨gx, 0, none⟩) 1 1] w
      fun e w' => e = .returned (.slice (some ⟨g, o, none⟩) (l.length + 1) cap) ∧ RowIn w' g 70 tot ∧ w'.rangeAt g o (birs (l.take i ++ x :: l.drop i)) ∧ Keeps [g] w w' := by
  obtain ⟨n, hn⟩ : ∃ n, l.length = n := ⟨_, rfl⟩
  have hdl : (birs (l.drop i)).length = (n - i) * 3 := by rw [birs_len, List.length_drop, hn]
  have hs0 := fun W => run_fromB g o n cap i i rfl (by omega) (by omega) W
  have hsn := fun W => run_toB g o n cap ((n : Int) + 1) (n + 1) (by push_cast; rfl) (by omega) (by omega) W
  have hs1 := fun W => run_fromB g o (n + 1) cap ((i : Int) + 1) (i + 1) (by push_cast; rfl) (by omega) (by omega) W
  have hni : n + 1 - (i + 1) = n - i := by omega
  rw [hni] at hs1
  have hs2 := fun W => run_fromB g o (n + 1) cap i i rfl (by omega) (by omega) W
  have hov : ∀ W : World, W = w → (callFunc 49 #[.slice (some ⟨gx, 0, none⟩) 1 1, .slice (some ⟨g, o + (i + 1) * 3, none⟩) (n - i) (cap - (i + 1))]).run Tryz.prog W = .ok (.value (.bool false)) W := fun W hW => by
    subst hW
    rw [run_callFunc_extern Tryz.func49 (by kernel_rfl) (by kernel_rfl) (by kernel_rfl) (e := Extern.SlicesOverlaps.overlaps #[58, 58] #[4]) (by kernel_rfl),
      Lib.run_overlaps_apart W 58 4 70 Tryz.underlying58 3 size_bir ⟨gx, 0, none⟩ ⟨g, o + (i + 1) * 3, none⟩ 1 1 (n - i) (cap - (i + 1)) hne 70 70 3 tot hx.shape hr.shape (by omega) (hx.frozen _) (hx.frozen _)]
    rfl
  replace hov := hov w rfl
  have hth1 : w.drew.there g (o + (i + 1) * 3) (birs (l.drop i)).length := (hr.drew).there (by rw [hdl]; omega)
  have hcp1 : ∀ ty, (Builtin.copy_ #[58, 58] ty #[.slice (some ⟨g, o + (i + 1) * 3, none⟩) (n - i) (cap - (i + 1)), .slice (some ⟨g, o + i * 3, none⟩) (n + 1 - i) (cap - i)]).run Tryz.prog w.drew = .ok (goInt (Nat.min (n + 1 - i) (n - i))) (w.drew.setCells g (o + (i + 1) * 3) (birs (l.drop i))) := fun ty =>
    run_copyK w.drew _ _ ty 70 3 g (o + (i + 1) * 3) (n - i) (cap - (i + 1)) ⟨g, o + i * 3, none⟩ (n + 1 - i) (cap - i) (birs (l.drop i)) Tryz.underlying58 info_bir1 (by rw [hdl]; show _ = (min (n + 1 - i) (n - i)) * 3; rw [Nat.min_eq_right (by omega)])
      (fun j v hj => by rw [Addr.add_mid]; exact range_drop (rangeDrew hl) i j v hj) hth1 (birs_one _)
  obtain ⟨W1, hW1⟩ : ∃ W1, W1 = w.drew.setCells g (o + (i + 1) * 3) (birs (l.drop i)) := ⟨_, rfl⟩
  have hr1 : RowIn W1 g 70 tot := by rw [hW1]; exact hr.drew.setCells _ _ _
  have hx1 : W1.rangeAt gx 0 (birV x) := by rw [hW1]; exact World.rangeAt_setCells_apart (rangeDrew hxr) _ _ _ (.inl hne)
  have ha1 : W1.rangeAt g o (birs (l.take i)) := by
    rw [hW1]
    exact World.rangeAt_setCells_apart (rangeDrew (range_take hl i)) _ _ _ (.inr (.inl (by rw [birs_len, List.length_take]; omega)))
  have hd1 : W1.rangeAt g (o + (i + 1) * 3) (birs (l.drop i)) := by rw [hW1]; exact World.rangeAt_setCells_same _ _ _ _ hth1
  have hk1 : Keeps [g] w W1 := by rw [hW1]; exact keeps_scells g _ _ _ _ (keepsDrew [g] w)
  rw [← hW1] at hcp1
  have hth2 : W1.there g (o + i * 3) (birV x).length := hr1.there (by rw [birV_len]; omega)
  have hcp2 : ∀ ty, (Builtin.copy_ #[58, 58] ty #[.slice (some ⟨g, o + i * 3, none⟩) (n + 1 - i) (cap - i), .slice (some ⟨gx, 0, none⟩) 1 1]).run Tryz.prog W1 = .ok (goInt (Nat.min 1 (n + 1 - i))) (W1.setCells g (o + i * 3) (birV x)) := fun ty =>
    run_copyK W1 _ _ ty 70 3 g (o + i * 3) (n + 1 - i) (cap - i) ⟨gx, 0, none⟩ 1 1 (birV x) Tryz.underlying58 info_bir1 (by rw [birV_len]; show _ = (min 1 (n + 1 - i)) * 3; rw [Nat.min_eq_left (by omega)])
      (fun j v hj => by rw [Addr.add_mid]; exact hx1 j v hj) hth2 (birV_one x)
  have hres : RowIn (W1.setCells g (o + i * 3) (birV x)) g 70 tot ∧ (W1.setCells g (o + i * 3) (birV x)).rangeAt g o (birs (l.take i ++ x :: l.drop i)) ∧ Keeps [g] w (W1.setCells g (o + i * 3) (birV x)) := by
    refine ⟨hr1.setCells _ _ _, ins_range ?_ (by omega) ?_ ?_, hk1.trans (keeps_scells1 _ _ _ _)⟩
    · exact World.rangeAt_setCells_apart ha1 _ _ _ (.inr (.inl (by rw [birs_len, List.length_take]; omega)))
    · exact World.rangeAt_setCells_same _ _ _ _ hth2
    · exact World.rangeAt_setCells_apart hd1 _ _ _ (.inr (.inr (by rw [birV_len]; omega)))
  have hw1 : IntKind.i64.wrap ((n : Int) + 1) = (n : Int) + 1 := IntWalk.i64_in _ (by omega)
  have hw2 : IntKind.i64.wrap ((i : Int) + 1) = (i : Int) + 1 := IntWalk.i64_in _ (by omega)
  have hin : ((i : Int) == (n : Int)) = false := by simp; omega
  have hcn : ¬ (cap : Int) < (n : Int) + 1 := by omega
  rw [hn]
  have HRES := hd hres
  clear hni hres hk1 hd1 ha1 hx1 hr1 hth2 hth1 hdl hr hl hx hxr hW1
  go_enter Tryz.func26, Tryz.ntmps26
  go_wp2_with (simp only [hov])
  refine wp_region_M (fun _ => True) 8 [(0, false), (1, false), (2, false), (3, false), (4, false), (5, false), (6, false), (7, false), (8, true)] (by kernel_rfl) (by kernel_rfl) (fun _ _ _ _ h => h) trivial ?_
  apply wpM_still (by rfl) (by rfl)
  · intro W hC
    go_simp
    rfl
  go_simp
  apply wpM_still (by rfl) (by rfl)
  · intro W hC
    go_simp
    rfl
  go_simp
  apply wpM_still (by rfl) (by rfl)
  · intro W hC
    go_simp
    rfl
  go_simp
  apply wpM_still (by rfl) (by rfl)
  · intro W hC
    go_simp
    rfl
  go_simp
  apply wpM_still (by rfl) (by rfl)
  · intro W hC
    go_simp
    rfl
  go_simp
  apply wpM_still (by rfl) (by rfl)
  · intro W hC
    go_simp
    rfl
  go_simp
  apply wpM_still (by rfl) (by rfl)
  · intro W hC
    go_simp
    rfl
  go_simp
  apply wpM_still (by rfl) (by rfl)
  · intro W hC
    go_simp
    rfl
  go_simp
  apply wpM_move (by rfl) (by rfl)
  intro K hK
  go_simp
  refine hK _ _ (fun h => absurd h (by decide)) ?_
  clear hK K
  refine wpM_nil ?_
  go_wp2_with fail
  go_ret
  exact ⟨rfl, HRES.out⟩
/-- append whose run is known. -/
theorem wpl_appendR {P : Program} {w : World} {ops : Array Oper} {rest : List Oper} {o : Oper} {a : Act} {Q : Exit → Act → World → Prop} (hgd : o.guard = none) (d s : Operand) (t t' : TypeId)
    (ho : o.op = .call { callee := .builtin .append, args := #[d, s], argTypes := #[t, t'] }) (v u : Value) (hd : a.eval d = v) (hs : a.eval s = u) {v' : Value} {w' : World}
    (hr : (Builtin.append_ #[t, t'] o.type #[v, u]).run P w = .ok v' w') (h : wpList P ops Q rest (a.put o.dst v') w') : wpList P ops Q (o :: rest) a w := by
  refine wpList_plain hgd fun K hK => ?_
  unfold Oper.wp execOp
  simp only [ho, resolve, invoke, builtin, Sem.run_bind, Sem.run_pure, Result.andThen_ok, List.map_toArray, List.map_cons, List.map_nil, hd, hs, hr]
  exact hK _ _ h
def zB : Value := .agg #[.string ⟨#[]⟩, .string ⟨#[]⟩, .string ⟨#[]⟩]
theorem zeroCells_sizeB (k : Nat) : (Builtin.zeroCells zB.cells k).size = k * 3 := by simp [Builtin.zeroCells, zB, Value.cells]
set_option maxRecDepth 100000 in
set_option maxHeartbeats 8000000 in
theorem insertGrow_c (l : List Bir) (g o cap i : Nat) (x : Bir) (gx : Nat) (w : World) (hl : w.rangeAt g o (birs l)) (hi : i < l.length) (hle : l.length ≤ cap) (hc : cap < l.length + 1)
    (hxr : w.rangeAt gx 0 (birV x)) (hm : l.length ≤ 1000000) :
    Calls Tryz.prog 26 #[.slice (some ⟨g, o, none⟩) l.length cap, .int .i64 i, .slice (some ⟨gx, 0, none⟩) 1 1] w
      fun e w' => ∃ G, e = .returned (.slice (some ⟨w.heap.size, 0, none⟩) (l.length + 1) G) ∧ RowIn w' w.heap.size 70 (G * 3) ∧ w'.rangeAt w.heap.size 0 (birs (l.take i ++ x :: l.drop i)) ∧ l.length + 1 ≤ G ∧ G ≤ maxLen ∧ Below w.heap.size w w' := by
  obtain ⟨n, hn⟩ : ∃ n, l.length = n := ⟨_, rfl⟩
  obtain ⟨h, hh⟩ : ∃ h, w.heap.size = h := ⟨_, rfl⟩
  have hdl : (birs (l.drop i)).length = (n - i) * 3 := by rw [birs_len, List.length_drop, hn]
  have htl : (birs (l.take i)).length = i * 3 := by rw [birs_len, List.length_take, Nat.min_eq_left (by omega)]
  have hgw : g < w.heap.size := by
    have := hl 0 _ (birs_at l 0 l[0] (List.getElem?_eq_getElem (by omega)) 0 _ rfl)
    exact World.block_lt_of_cell? w _ (by simpa using this)
  have hxw : gx < w.heap.size := by
    have := hxr 0 _ (show (birV x)[0]? = some (.string (sOf x.1.1)) from rfl)
    exact World.block_lt_of_cell? w _ (by simpa using this)
  obtain ⟨i0, hi0, hz0, hzs, hzb⟩ := info_parts info_bir
  have hold : (Builtin.firstCells i0.size i (.slice (some ⟨g, o, none⟩) i cap)).run Tryz.prog w.drew = .ok (birs (l.take i)).toArray w.drew := by
    rw [hzs]
    exact run_firstCells_some w.drew 3 i ⟨g, o, none⟩ i cap (birs (l.take i)) htl (fun j v hj => by rw [Addr.add_mid]; exact rangeDrew (range_take hl i) j v hj)
  have hik : i + (n + 1 - i) = n + 1 := by omega
  have hkk : (n : Int) + 1 - (i : Int) = ((n + 1 - i : Nat) : Int) := by omega
  have hrz : ∀ ty, (Builtin.append_ #[58, 3] ty #[.slice (some ⟨g, o, none⟩) i cap, .int .i64 ((n : Int) + 1 - (i : Int))]).run Tryz.prog w =
      .ok (.slice (some ⟨w.heap.size, 0, none⟩) (n + 1) (grownCap w (n + 1) cap 70)) (w.drew.alloc (.cells ((birs (l.take i)).toArray ++ Builtin.zeroCells zB.cells (n + 1 - i) ++ Builtin.zeroCells zB.cells (grownCap w (n + 1) cap 70 - (n + 1))) 70)) := fun ty => by
    have h := Lib.run_append_grow_zeros w 58 3 ty 70 i0 _ .i64 .i64 Tryz.underlying58 Tryz.underlying3 hi0 hz0 (some ⟨g, o, none⟩) i cap (birs (l.take i)) hold (n + 1 - i) (by omega) (by omega) (by omega) (by omega) (by rw [hzb]; omega) (by rw [hzb, hik]; exact growslice_fits (by omega) (by omega))
    rw [hik] at h
    rw [hkk]
    exact h
  have hGn : n + 1 ≤ grownCap w (n + 1) cap 70 := grownCap_ge w _ _ _
  have hGm := grownCap_le_maxLen w (n + 1) cap 70 (by unfold maxLen; omega)
  generalize grownCap w (n + 1) cap 70 = G at *
  obtain ⟨ROW, hROW⟩ : ∃ ROW : Array Value, ROW = (birs (l.take i)).toArray ++ Builtin.zeroCells zB.cells (n + 1 - i) ++ Builtin.zeroCells zB.cells (G - (n + 1)) := ⟨_, rfl⟩
  rw [← hROW] at hrz
  have hRs : ROW.size = G * 3 := by
    rw [hROW]
    simp only [Array.size_append, zeroCells_sizeB, List.size_toArray, htl]
    omega
  have hRt : ∀ j v, (birs (l.take i))[j]? = some v → ROW[j]? = some v := fun j v hj => by
    have hjl := (List.getElem?_eq_some_iff.1 hj).1
    rw [hROW, Array.append_assoc, Array.getElem?_append_left (by simpa using hjl)]
    simpa using hj
  have hB1 : Below w.heap.size w (w.drew.alloc (.cells ROW 70)) := (Below.refl w.heap.size w).drew.alloc (Nat.le_refl _) _
  have hr1 : RowIn (w.drew.alloc (.cells ROW 70)) w.heap.size 70 (G * 3) := ⟨ROW, heap_alloc_new w.drew _, hRs⟩
  have ht1 : (w.drew.alloc (.cells ROW 70)).rangeAt w.heap.size 0 (birs (l.take i)) := fun j v hj => by
    rw [Nat.zero_add, World.cell?_alloc_at (w := w.drew) ROW _ w.heap.size j rfl]; exact hRt j v hj
  generalize w.drew.alloc (.cells ROW 70) = W1 at *
  have hx1 := rangeB hxr hB1 hxw
  have hl1 := rangeB hl hB1 hgw
  rw [hh] at hrz hr1 ht1 hB1 ⊢
  have hsT := fun W => run_toB g o n cap i i rfl (by omega) (by omega) W
  have hs0 := fun W => run_fromB g o n cap i i rfl (by omega) (by omega) W
  have hsA := fun W => run_fromB h 0 (n + 1) G i i rfl (by omega) (by omega) W
  have hsB := fun W => run_fromB h 0 (n + 1) G ((i : Int) + 1) (i + 1) (by push_cast; rfl) (by omega) (by omega) W
  have hni : n + 1 - (i + 1) = n - i := by omega
  rw [hni] at hsB
  rw [Nat.zero_add] at hsA hsB
  have hthA : W1.there h (i * 3) (birV x).length := hr1.there (by rw [birV_len]; omega)
  have hcpA : ∀ ty, (Builtin.copy_ #[58, 58] ty #[.slice (some ⟨h, i * 3, none⟩) (n + 1 - i) (G - i), .slice (some ⟨gx, 0, none⟩) 1 1]).run Tryz.prog W1 = .ok (goInt (Nat.min 1 (n + 1 - i))) (W1.setCells h (i * 3) (birV x)) := fun ty =>
    run_copyK W1 _ _ ty 70 3 h (i * 3) (n + 1 - i) (G - i) ⟨gx, 0, none⟩ 1 1 (birV x) Tryz.underlying58 info_bir1 (by rw [birV_len]; show _ = (min 1 (n + 1 - i)) * 3; rw [Nat.min_eq_left (by omega)])
      (fun j v hj => by rw [Addr.add_mid]; exact hx1 j v hj) hthA (birV_one x)
  have hr2 : RowIn (W1.setCells h (i * 3) (birV x)) h 70 (G * 3) := hr1.setCells _ _ _
  have hk2 : Below h w (W1.setCells h (i * 3) (birV x)) := hB1.trans ((keeps_scells1 h (i * 3) (birV x) W1).toBelow (by have := hB1.size; omega) (by intro k hk; simp at hk; omega))
  have ht2 := World.rangeAt_setCells_apart ht1 h (i * 3) (birV x) (.inr (.inl (by rw [htl]; omega)))
  have hx2 := World.rangeAt_setCells_same W1 h (i * 3) (birV x) hthA
  have hl2 := World.rangeAt_setCells_apart hl1 h (i * 3) (birV x) (.inl (by omega))
  generalize W1.setCells h (i * 3) (birV x) = W2 at *
  have hthB : W2.drew.there h ((i + 1) * 3) (birs (l.drop i)).length := hr2.drew.there (by rw [hdl]; omega)
  have hcpB : ∀ ty, (Builtin.copy_ #[58, 58] ty #[.slice (some ⟨h, (i + 1) * 3, none⟩) (n - i) (G - (i + 1)), .slice (some ⟨g, o + i * 3, none⟩) (n - i) (cap - i)]).run Tryz.prog W2.drew = .ok (goInt (Nat.min (n - i) (n - i))) (W2.drew.setCells h ((i + 1) * 3) (birs (l.drop i))) := fun ty =>
    run_copyK W2.drew _ _ ty 70 3 h ((i + 1) * 3) (n - i) (G - (i + 1)) ⟨g, o + i * 3, none⟩ (n - i) (cap - i) (birs (l.drop i)) Tryz.underlying58 info_bir1 (by rw [hdl]; show _ = (min (n - i) (n - i)) * 3; rw [Nat.min_self])
      (fun j v hj => by rw [Addr.add_mid]; exact range_drop (rangeDrew hl2) i j v hj) hthB (birs_one _)
  have hr3 : RowIn (W2.drew.setCells h ((i + 1) * 3) (birs (l.drop i))) h 70 (G * 3) := hr2.drew.setCells _ _ _
  have hk3 : Below h w (W2.drew.setCells h ((i + 1) * 3) (birs (l.drop i))) := hk2.drew.trans ((keeps_scells1 h _ _ W2.drew).toBelow (by have := hk2.size; show h ≤ W2.heap.size; omega) (by intro k hk; simp at hk; omega))
  have ht3 := World.rangeAt_setCells_apart (rangeDrew ht2) h ((i + 1) * 3) (birs (l.drop i)) (.inr (.inl (by rw [htl]; omega)))
  have hx3 := World.rangeAt_setCells_apart (rangeDrew hx2) h ((i + 1) * 3) (birs (l.drop i)) (.inr (.inl (by rw [birV_len]; omega)))
  have hd3 := World.rangeAt_setCells_same W2.drew h ((i + 1) * 3) (birs (l.drop i)) hthB
  have hres := ins_range (g := h) (o := 0) (i := i) (l := l) (x := x) ht3 (by omega) (by rw [Nat.zero_add]; exact hx3) (by rw [Nat.zero_add]; exact hd3)
  rw [hn]
  have HRES := hd (And.intro hr3 (And.intro hres (And.intro hGn (And.intro hGm hk3))))
  generalize W2.drew.setCells h ((i + 1) * 3) (birs (l.drop i)) = W3 at *
  have hw1 : IntKind.i64.wrap ((n : Int) + 1) = (n : Int) + 1 := IntWalk.i64_in _ (by omega)
  have hw2 : IntKind.i64.wrap ((i : Int) + 1) = (i : Int) + 1 := IntWalk.i64_in _ (by omega)
  have hw3 : IntKind.i64.wrap ((n : Int) + 1 - (i : Int)) = (n : Int) + 1 - (i : Int) := IntWalk.i64_in _ (by omega)
  have hin : ((i : Int) == (n : Int)) = false := by simp; omega
  have hcn : (cap : Int) < (n : Int) + 1 := by omega
  clear hres hd3 hx3 ht3 hk3 hr3 hthB hl2 hx2 ht2 hk2 hr2 hthA hl1 hx1 ht1 hr1 hB1 hRt hRs hROW hik hkk hold hdl htl hgw hxw hl hxr hni
  go_enter Tryz.func26, Tryz.ntmps26
  go_wp2_with (first | (at_builtin; refine wpl_appendR rfl _ _ _ _ rfl (.slice (some ⟨g, o, none⟩) i cap) (.int .i64 ((n : Int) + 1 - (i : Int))) rfl rfl (hrz _) ?_))
  refine wp_region_M (fun _ => True) 8 [(0, false), (1, false), (2, false), (3, false), (4, false), (5, false), (6, false), (7, false), (8, true)] (by kernel_rfl) (by kernel_rfl) (fun _ _ _ _ h => h) trivial ?_
  apply wpM_still (by rfl) (by rfl)
  · intro W hC
    go_simp
    rfl
  go_simp
  apply wpM_still (by rfl) (by rfl)
  · intro W hC
    go_simp
    rfl
  go_simp
  apply wpM_still (by rfl) (by rfl)
  · intro W hC
    go_simp
    rfl
  go_simp
  apply wpM_still (by rfl) (by rfl)
  · intro W hC
    go_simp
    rfl
  go_simp
  apply wpM_still (by rfl) (by rfl)
  · intro W hC
    go_simp
    rfl
  go_simp
  apply wpM_still (by rfl) (by rfl)
  · intro W hC
    go_simp
    rfl
  go_simp
  apply wpM_still (by rfl) (by rfl)
  · intro W hC
    go_simp
    rfl
  go_simp
  apply wpM_still (by rfl) (by rfl)
  · intro W hC
    go_simp
    rfl
  go_simp
  apply wpM_move (by rfl) (by rfl)
  intro K hK
  go_simp
  refine hK _ _ (fun h => absurd h (by decide)) ?_
  clear hK K
  refine wpM_nil ?_
  go_wp2_with fail
  go_ret
  exact ⟨G, rfl, HRES.out⟩
theorem run_fromAny (a : Option Addr) (n c i : Nat) (hi : i ≤ n) : ∃ v, ∀ W : World, (Instr.slice 58 (.slice a n c) (some (.int .i64 (i : Int))) none none).run Tryz.prog W = .ok v W := by
  obtain ⟨i0, hi0, hz0, hz1, hz2⟩ := info_parts info_bir
  refine ⟨sliced a i n c 3, fun W => ?_⟩
  rw [run_slice_l W 58 a n c (by kernel_rfl) .i64 (i : Int) (by omega) (by omega)]
  simp [sizeOf, typeInfo, elem_birs, hi0, hz1, Result.andThen]
set_option maxRecDepth 100000 in
set_option maxHeartbeats 8000000 in
theorem insertEnd_c (l : List Bir) (v : Value) (x : Bir) (gx : Nat) (w : World) (ho : OwnB w v l) (hxr : w.rangeAt gx 0 (birV x)) (hm : l.length ≤ 1000000) :
    Calls Tryz.prog 26 #[v, .int .i64 l.length, .slice (some ⟨gx, 0, none⟩) 1 1] w
      fun e w' => ∃ v', e = .returned v' ∧ OwnB w' v' (l ++ [x]) ∧ Keeps (blk v) w w' ∧ ∀ k, k ∈ blk v' → k ∈ blk v ∨ w.heap.size ≤ k := by
  obtain ⟨i0, hi0, hz0, hz1, hz2⟩ := info_parts info_bir
  obtain ⟨v', w', hr, h1, h2, h3⟩ := app_block (P := Tryz.prog) w 58 58 70 i0 _ 3 48 Tryz.underlying58 hi0 hz0 hz1 hz2 rfl (by decide) v l.length (birs l) ho ⟨gx, 0, none⟩ 1 1 (birV x) rfl (fun j u hu => by rw [Addr.add_mid]; exact hxr j u hu) (birV_one x) (by unfold maxLen; omega) (by omega)
  obtain ⟨a, cp, rfl⟩ := ho.slice
  obtain ⟨vv, hs0⟩ := run_fromAny a l.length cp l.length (Nat.le_refl _)
  have hO : OwnB w' v' (l ++ [x]) := by
    unfold OwnB
    rw [List.length_append, birs_append]
    simpa [birs] using h1
  have HO := hd hO
  clear h1 hO ho
  go_enter Tryz.func26, Tryz.ntmps26
  go_wp2_with (first | (at_builtin; refine wpl_appendR rfl _ _ _ _ rfl (.slice a l.length cp) (.slice (some ⟨gx, 0, none⟩) 1 1) rfl rfl hr ?_))
  go_ret
  exact ⟨v', rfl, HO.out, h2, h3⟩
theorem insert_c (l : List Bir) (v : Value) (i : Nat) (x : Bir) (gx : Nat) (w : World) (ho : OwnB w v l) (hi : i ≤ l.length) (hx : RowIn w gx 70 3) (hxr : w.rangeAt gx 0 (birV x)) (hne : gx ∉ blk v) (hm : l.length ≤ 1000000) :
    Calls Tryz.prog 26 #[v, .int .i64 i, .slice (some ⟨gx, 0, none⟩) 1 1] w
      fun e w' => ∃ v', e = .returned v' ∧ OwnB w' v' (l.take i ++ x :: l.drop i) ∧ Keeps (blk v) w w' ∧ ∀ k, k ∈ blk v' → k ∈ blk v ∨ w.heap.size ≤ k := by
  by_cases hil : i = l.length
  · subst hil
    rw [List.take_length, List.drop_of_length_le (Nat.le_refl _)]
    exact insertEnd_c l v x gx w ho hxr hm
  · have hil2 : i < l.length := by omega
    have hlen : (l.take i ++ x :: l.drop i).length = l.length + 1 := by simp; omega
    rcases ho.split with ⟨rfl, rfl⟩ | ⟨g, cap, rfl, hr, hl, hle, hcm, hblk⟩
    · simp at hil2
    · rw [hblk] at hne ⊢
      by_cases hc : l.length + 1 ≤ cap
      · refine (insertRoom_c l g 0 cap (cap * 3) i x gx w hr hl hil2 hc hcm (by omega) hx hxr (by simpa using hne) hm).mono ?_
        rintro e w' ⟨rfl, h1, h2, h3⟩
        refine ⟨_, rfl, ?_, h3, fun k hk => .inl (by simpa [blk, Value.ownBlock] using hk)⟩
        have := OwnB.mk h1 h2 (by rw [hlen]; exact hc) hcm
        rwa [hlen] at this
      · refine (insertGrow_c l g 0 cap i x gx w hl hil2 hle (by omega) hxr hm).mono ?_
        rintro e w' ⟨G, rfl, h1, h2, h3, h4, h5⟩
        refine ⟨_, rfl, ?_, Keeps.below h5, fun k hk => .inr (by simp [blk, Value.ownBlock] at hk; omega)⟩
        have := OwnB.mk h1 h2 (by rw [hlen]; exact h3) h4
        rwa [hlen] at this
end Go.Proofs.YtclicjokgfiegaaGreatDoor

/- Births: put and dropped: the walks. -/
namespace Go.Proofs.YtclicjokgfiegaaGreatDoor
open Go.RowKit
set_option linter.unusedVariables false
set_option linter.unusedSimpArgs false

theorem Bd.trans {w w1 w2 : World} {g : Nat} {v v1 v2 : Value} {l1 l2 : List Bir} (h : Bd w g v v1 l1 w1) (k : Bd w1 g v1 v2 l2 w2) : Bd w g v v2 l2 w2 := by
  refine ⟨k.at', h.keeps.next k.keeps ?_, ?_⟩
  · intro i hi
    rcases List.mem_cons.1 hi with rfl | hi
    · exact .inl (by simp)
    · rcases h.new i hi with h1 | h1
      · exact .inl (by simp [h1])
      · exact .inr h1
  · intro i hi
    rcases k.new i hi with h1 | h1
    · exact h.new i h1
    · have := h.keeps.size; exact .inr (by omega)
theorem Bd.pre {w w1 w2 : World} {g : Nat} {v v' : Value} {l' : List Bir} (hb : Below w.heap.size w w1) (k : Bd w1 g v v' l' w2) : Bd w g v v' l' w2 := by
  refine ⟨k.at', (Keeps.below hb).trans k.keeps, fun i hi => ?_⟩
  rcases k.new i hi with h1 | h1
  · exact .inl h1
  · have := hb.size; exact .inr (by omega)
theorem Bd.post {w w1 w2 : World} {g : Nat} {v v' : Value} {l' : List Bir} (h : Bd w g v v' l' w1) (hb : Below w1.heap.size w1 w2) : Bd w g v v' l' w2 :=
  ⟨h.at'.below hb, h.keeps.next (Keeps.below (S := []) hb) (by simp), h.new⟩
theorem Bd.refl {w w1 : World} {g : Nat} {v : Value} {l : List Bir} (h : BsAt w g v l) (hb : Below w.heap.size w w1) : Bd w g v v l w1 := ⟨h.below hb, Keeps.below hb, fun i hi => .inl hi⟩
def bFull (l : List Bir) (k : Rk) : Prop := (bLose l k).length = l.length ∧ 40 ≤ l.length
instance (l : List Bir) (k : Rk) : Decidable (bFull l k) := by unfold bFull; infer_instance
def bPutE (l : List Bir) (t : List UInt8) : Int := match bRank t with
  | none => 13
  | some k => if bFull l k then 6 else 0
def bPutL (l : List Bir) (t : List UInt8) (u : ByteArray) : List Bir := match bRank t with
  | none => l
  | some k => if bFull l k then l else bPut l k u
def bDropN (l : List Bir) (t : List UInt8) : Int := match bRank t with
  | none => 0
  | some k => (l.length : Int) - (bLose l k).length
def bDropL (l : List Bir) (t : List UInt8) : List Bir := match bRank t with
  | none => l
  | some k => bLose l k
theorem lose_all {l : List Bir} {k : Rk} (h : (bLose l k).length = l.length) : bLose l k = l := by
  unfold bLose at h ⊢
  exact List.filter_eq_self.2 (List.length_filter_eq_length_iff.1 h)
set_option maxRecDepth 100000 in
set_option maxHeartbeats 4000000 in
theorem bDrop_c (g : Nat) (v : Value) (l : List Bir) (t : List UInt8) (w : World) (hE : EnvU w) (hW : EnvW w) (ht : t.length ≤ 100000000) (h : BsAt w g v l) (hm : l.length ≤ 1000000) :
    Calls Tryz.prog 8 #[.pointer (some ⟨g, 0, none⟩), .string (sOf t)] w fun e w' => e = .returned (.int .i64 (bDropN l t)) ∧ ∃ v', Bd w g v v' (bDropL l t) w' := by
  have hrk := rankOf_c t w hE hW ht
  have c1 := h.c1
  have HB := hd h
  unfold bDropN bDropL
  generalize bRank t = r at *
  have HRK := hd hrk
  clear hrk hE hW h
  go_enter Tryz.func8, Tryz.ntmps8
  go_wp2_with (first | (go_at_call 22; refine (bnone_c _ _ c1).mono ?_; rintro e w' ⟨rfl, rfl⟩))
  refine HRK.out.mono ?_
  rintro e w1 ⟨k, rfl, hk, hb⟩
  unfold rkV
  cases r with
  | none =>
    go_wp2_with fail
    go_ret
    exact ⟨rfl, v, Bd.refl HB.out (Below.up hb (by go_grown))⟩
  | some k' =>
    obtain rfl := hk k' rfl
    clear hk HRK
    have hb1 : Below w1.heap.size w1 (w1.alloc (.cells #[.string (sOf k.1), .string (sOf k.2)] 62)) := by go_grown
    have hbb := Below.up hb hb1
    go_wp2_with fail
    refine (lose_c g v l k _ (HB.out.below hbb) hm).mono ?_
    rintro e w2 ⟨rfl, v', hbd⟩
    have HBD := hd (hbd.pre hbb)
    clear hbd
    go_wp2_with fail
    go_ret
    exact ⟨rfl, v', HBD.out⟩
set_option maxRecDepth 100000 in
set_option maxHeartbeats 2000000 in
theorem bPut_c (g : Nat) (v : Value) (l : List Bir) (t : List UInt8) (u : ByteArray) (w : World) (hE : EnvU w) (hW : EnvW w) (ht : t.length ≤ 100000000) (h : BsAt w g v l) (hs : Sorted l) (hm : l.length ≤ 100000) :
    Calls Tryz.prog 6 #[.pointer (some ⟨g, 0, none⟩), .string (sOf t), .string u] w fun e w' => e = .returned (.int .i64 (bPutE l t)) ∧ ∃ v', Bd w g v v' (bPutL l t u) w' := by
  have hrk := rankOf_c t w hE hW ht
  have c1 := h.c1
  have HB := hd h
  unfold bPutE bPutL
  generalize bRank t = r at *
  have HRK := hd hrk
  clear hrk hE hW h
  go_enter Tryz.func6, Tryz.ntmps6
  go_wp2_with (first | (go_at_call 22; refine (bnone_c _ _ c1).mono ?_; rintro e w' ⟨rfl, rfl⟩))
  refine HRK.out.mono ?_
  rintro e w1 ⟨k, rfl, hk, hb⟩
  unfold rkV
  cases r with
  | none =>
    go_wp2_with fail
    go_ret
    exact ⟨rfl, v, Bd.refl HB.out (Below.up hb (by go_grown))⟩
  | some k' =>
    obtain rfl := hk k' rfl
    clear hk HRK
    have hb1 : Below w1.heap.size w1 (w1.alloc (.cells #[.string (sOf k.1), .string (sOf k.2)] 62)) := by go_grown
    have hbb := Below.up hb hb1
    have hk0 : RkIn (w1.alloc (.cells #[.string (sOf k.1), .string (sOf k.2)] 62)) w1.heap.size k := by
      refine ⟨?_, ?_, ?_⟩ <;> simp [go_sem]
    have hgw1 : g < w1.heap.size := Nat.lt_of_lt_of_le HB.out.lt hb.size
    have hvw1 : ∀ i, i ∈ blk v → i < w1.heap.size := fun i hi => Nat.lt_of_lt_of_le (HB.out.own.lt hi) hb.size
    go_wp2_with fail
    refine (lose_c g v l k _ (HB.out.below hbb) (by omega)).mono ?_
    rintro e w2 ⟨rfl, vL, hbd⟩
    have hk2 := hk0.keeps hbd.keeps (by simp only [List.mem_cons, not_or]; exact ⟨by omega, fun hm => by have := hvw1 _ hm; omega⟩)
    have hbd2 := hbd.pre hbb
    have hll := lose_len l k
    have hls := lose_sorted hs k
    obtain ⟨a, cp, rfl⟩ := hbd2.at'.own.slice
    have c0 := hbd2.at'.c0
    have hgl := hbd2.at'.lt
    have HBD := hd hbd2
    have hbdn := hbd.new
    clear hbd hbd2 hk0 hgw1 c1
    have hnb : w1.heap.size ∉ blk (.slice a (bLose l k).length cp) := fun hm => by
      rcases hbdn _ hm with h1 | h1
      · have := hvw1 _ h1; omega
      · simp [go_sem] at h1; omega
    have HNB := hd hnb
    obtain ⟨hkl, kc0, kc1⟩ := id hk2
    clear hnb hbdn hvw1
    by_cases hfull : bFull l k
    · have hfu := hfull
      obtain ⟨hf1, hf2⟩ := hfull
      have hall := lose_all hf1
      have hz : (((l.length : Int) - ((bLose l k).length : Int)) == 0) = true := by rw [hf1]; simp
      have h40 : (40 : Int) ≤ ((bLose l k).length : Int) := by omega
      have HF := hd hf1; have HA := hd hall
      clear hf1 hall
      generalize hL : bLose l k = L at *
      go_wp2_with fail
      go_ret
      have := HBD.out
      rw [HA.out] at this
      exact ⟨by first | rfl | simp, _, this⟩
    have HLS := hd hls
    clear hls
    by_cases hzz : (bLose l k).length = l.length
    · have h40 : ¬ 40 ≤ l.length := fun h => hfull ⟨hzz, h⟩
      generalize hL : bLose l k = L at *
      have hz : (((l.length : Int) - (L.length : Int)) == 0) = true := by rw [hzz]; simp
      have h40b : ¬ (40 : Int) ≤ (L.length : Int) := by omega
      clear hzz
      go_wp2_with fail
      refine (bfind_c g _ L k _ HBD.out.at' HLS.out (by omega)).mono ?_
      rintro e w3 ⟨rfl, hb3⟩
      have hk3 := hk2.below hb3 hk2.1
      have hbd3 := HBD.out.post hb3
      have d0 := hbd3.at'.c0
      have dl := hbd3.at'.lt
      have hkd := hk3.below (Below.refl w3.heap.size w3).drew hk3.1
      have d0d := (bcell (Below.refl w3.heap.size w3).drew g 0 dl).trans d0
      have hal := bAt_le L k
      have HBD3 := hd (hbd3.post (Below.refl w3.heap.size w3).drew)
      clear hbd3 hb3 hk3 d0
      generalize hP : bAt L k = P at *
      go_wp2_with fail
      refine wp_region_M (fun W => RkIn W w1.heap.size k ∧ W.cell? ⟨g, 0, none⟩ = some (.slice a L.length cp)) 13 [(0, false), (1, false), (2, false), (3, false), (4, false), (5, false), (6, false), (7, false), (8, false), (9, true), (10, true), (11, false), (12, false), (13, true)] (by kernel_rfl) (by kernel_rfl) (fun _ _ _ _ h => h) ⟨hkd, d0d⟩ ?_
      have dl4 : g < w3.drew.heap.size := dl
      generalize w3.drew = w4 at *
      apply wpM_still (by rfl) (by rfl)
      · intro W hC
        obtain ⟨⟨k0, k1, k2⟩, g0⟩ := hC
        go_simp
        rfl
      go_simp
      apply wpM_still (by rfl) (by rfl)
      · intro W hC
        obtain ⟨⟨k0, k1, k2⟩, g0⟩ := hC
        go_simp
        rfl
      go_simp
      apply wpM_still (by rfl) (by rfl)
      · intro W hC
        obtain ⟨⟨k0, k1, k2⟩, g0⟩ := hC
        go_simp
        rfl
      go_simp
      apply wpM_still (by rfl) (by rfl)
      · intro W hC
        obtain ⟨⟨k0, k1, k2⟩, g0⟩ := hC
        go_simp
        rfl
      go_simp
      apply wpM_still (by rfl) (by rfl)
      · intro W hC
        obtain ⟨⟨k0, k1, k2⟩, g0⟩ := hC
        go_simp
        rfl
      go_simp
      apply wpM_still (by rfl) (by rfl)
      · intro W hC
        obtain ⟨⟨k0, k1, k2⟩, g0⟩ := hC
        go_simp
        rfl
      go_simp
      apply wpM_still (by rfl) (by rfl)
      · intro W hC
        obtain ⟨⟨k0, k1, k2⟩, g0⟩ := hC
        go_simp
        rfl
      go_simp
      apply wpM_still (by rfl) (by rfl)
      · intro W hC
        obtain ⟨⟨k0, k1, k2⟩, g0⟩ := hC
        go_simp
        rfl
      go_simp
      apply wpM_still (by rfl) (by rfl)
      · intro W hC
        obtain ⟨⟨k0, k1, k2⟩, g0⟩ := hC
        go_simp
        rfl
      go_simp
      apply wpM_move (by rfl) (by rfl)
      intro K hK
      go_simp
      have b5 : Below w4.heap.size w4 (w4.alloc (.cells #[.string (sOf k.1), .string (sOf k.2), .string u] 70)) := by go_grown
      have hr5 : RowIn (w4.alloc (.cells #[.string (sOf k.1), .string (sOf k.2), .string u] 70)) w4.heap.size 70 3 := RowIn.new w4 #[.string (sOf k.1), .string (sOf k.2), .string u] 70
      have hx5 : (w4.alloc (.cells #[.string (sOf k.1), .string (sOf k.2), .string u] 70)).rangeAt w4.heap.size 0 (birV (k, u)) := fun j v hj => by
        rw [Nat.zero_add, World.cell?_alloc_at (w := w4) _ _ w4.heap.size j rfl]
        simpa [birV] using hj
      refine hK _ (w4.alloc (.cells #[.string (sOf k.1), .string (sOf k.2), .string u] 70)) (fun _ => ⟨hkd.below b5 hkd.1, (bcell b5 g 0 dl4).trans d0d⟩) ?_
      clear hK K
      have d05 := (bcell b5 g 0 dl4).trans d0d
      have hk5 := hkd.below b5 hkd.1
      have dl5 := Nat.lt_of_lt_of_le dl4 b5.size
      have hvx : w4.heap.size ∉ blk (.slice a L.length cp) := fun hm => by have := HBD3.out.at'.own.lt hm; omega
      have HBD5 := hd (HBD3.out.post b5)
      clear HBD3 HBD b5
      generalize w4.alloc (.cells #[.string (sOf k.1), .string (sOf k.2), .string u] 70) = w5 at *
      apply wpM_move (by rfl) (by rfl)
      intro K hK
      go_simp
      refine (insert_c L _ P (k, u) w4.heap.size w5 HBD5.out.at'.own hal hr5 hx5 hvx (by omega)).mono ?_
      rintro e w6 ⟨v', rfl, ho6, hk6, hn6⟩
      generalize hM : L.take P ++ (k, u) :: L.drop P = M at *
      obtain ⟨a', cp', rfl⟩ := ho6.slice
      go_simp
      have d06 := (hk6.cell (o := 0) dl5 HBD5.out.at'.ne).trans d05
      have hbw1 : w1.heap.size ∉ blk (.slice a L.length cp) := HNB.out
      have hk6' := hk5.keeps hk6 hbw1
      refine hK _ _ (fun _ => ⟨hk6', d06⟩) ?_
      clear hK K
      obtain ⟨hbd6, e0, e1, e2⟩ := HBD5.out.at'.put hk6 ho6 hn6
      have HBD6 := hd (HBD5.out.trans hbd6)
      clear hbd6 HBD5
      apply wpM_still (by rfl) (by rfl)
      · intro W hC
        go_simp
        rfl
      go_simp
      apply wpM_still (by rfl) (by rfl)
      · intro W hC
        go_simp
        rfl
      go_simp
      apply wpM_move (by rfl) (by rfl)
      intro K hK
      go_simp
      refine hK _ _ (fun h => absurd h (by decide)) ?_
      clear hK K
      refine wpM_nil ?_
      go_wp2_with fail
      go_ret
      refine ⟨by first | rfl | simp, .slice a' M.length cp', ?_⟩
      unfold bPut bIns
      rw [hL, hP, hM]
      exact HBD6.out
    · generalize hL : bLose l k = L at *
      have hz : (((l.length : Int) - (L.length : Int)) == 0) = false := by simp; omega
      go_wp2_with fail
      refine (bfind_c g _ L k _ HBD.out.at' HLS.out (by omega)).mono ?_
      rintro e w3 ⟨rfl, hb3⟩
      have hk3 := hk2.below hb3 hk2.1
      have hbd3 := HBD.out.post hb3
      have d0 := hbd3.at'.c0
      have dl := hbd3.at'.lt
      have hkd := hk3.below (Below.refl w3.heap.size w3).drew hk3.1
      have d0d := (bcell (Below.refl w3.heap.size w3).drew g 0 dl).trans d0
      have hal := bAt_le L k
      have HBD3 := hd (hbd3.post (Below.refl w3.heap.size w3).drew)
      clear hbd3 hb3 hk3 d0
      generalize hP : bAt L k = P at *
      go_wp2_with fail
      refine wp_region_M (fun W => RkIn W w1.heap.size k ∧ W.cell? ⟨g, 0, none⟩ = some (.slice a L.length cp)) 13 [(0, false), (1, false), (2, false), (3, false), (4, false), (5, false), (6, false), (7, false), (8, false), (9, true), (10, true), (11, false), (12, false), (13, true)] (by kernel_rfl) (by kernel_rfl) (fun _ _ _ _ h => h) ⟨hkd, d0d⟩ ?_
      have dl4 : g < w3.drew.heap.size := dl
      generalize w3.drew = w4 at *
      apply wpM_still (by rfl) (by rfl)
      · intro W hC
        obtain ⟨⟨k0, k1, k2⟩, g0⟩ := hC
        go_simp
        rfl
      go_simp
      apply wpM_still (by rfl) (by rfl)
      · intro W hC
        obtain ⟨⟨k0, k1, k2⟩, g0⟩ := hC
        go_simp
        rfl
      go_simp
      apply wpM_still (by rfl) (by rfl)
      · intro W hC
        obtain ⟨⟨k0, k1, k2⟩, g0⟩ := hC
        go_simp
        rfl
      go_simp
      apply wpM_still (by rfl) (by rfl)
      · intro W hC
        obtain ⟨⟨k0, k1, k2⟩, g0⟩ := hC
        go_simp
        rfl
      go_simp
      apply wpM_still (by rfl) (by rfl)
      · intro W hC
        obtain ⟨⟨k0, k1, k2⟩, g0⟩ := hC
        go_simp
        rfl
      go_simp
      apply wpM_still (by rfl) (by rfl)
      · intro W hC
        obtain ⟨⟨k0, k1, k2⟩, g0⟩ := hC
        go_simp
        rfl
      go_simp
      apply wpM_still (by rfl) (by rfl)
      · intro W hC
        obtain ⟨⟨k0, k1, k2⟩, g0⟩ := hC
        go_simp
        rfl
      go_simp
      apply wpM_still (by rfl) (by rfl)
      · intro W hC
        obtain ⟨⟨k0, k1, k2⟩, g0⟩ := hC
        go_simp
        rfl
      go_simp
      apply wpM_still (by rfl) (by rfl)
      · intro W hC
        obtain ⟨⟨k0, k1, k2⟩, g0⟩ := hC
        go_simp
        rfl
      go_simp
      apply wpM_move (by rfl) (by rfl)
      intro K hK
      go_simp
      have b5 : Below w4.heap.size w4 (w4.alloc (.cells #[.string (sOf k.1), .string (sOf k.2), .string u] 70)) := by go_grown
      have hr5 : RowIn (w4.alloc (.cells #[.string (sOf k.1), .string (sOf k.2), .string u] 70)) w4.heap.size 70 3 := RowIn.new w4 #[.string (sOf k.1), .string (sOf k.2), .string u] 70
      have hx5 : (w4.alloc (.cells #[.string (sOf k.1), .string (sOf k.2), .string u] 70)).rangeAt w4.heap.size 0 (birV (k, u)) := fun j v hj => by
        rw [Nat.zero_add, World.cell?_alloc_at (w := w4) _ _ w4.heap.size j rfl]
        simpa [birV] using hj
      refine hK _ (w4.alloc (.cells #[.string (sOf k.1), .string (sOf k.2), .string u] 70)) (fun _ => ⟨hkd.below b5 hkd.1, (bcell b5 g 0 dl4).trans d0d⟩) ?_
      clear hK K
      have d05 := (bcell b5 g 0 dl4).trans d0d
      have hk5 := hkd.below b5 hkd.1
      have dl5 := Nat.lt_of_lt_of_le dl4 b5.size
      have hvx : w4.heap.size ∉ blk (.slice a L.length cp) := fun hm => by have := HBD3.out.at'.own.lt hm; omega
      have HBD5 := hd (HBD3.out.post b5)
      clear HBD3 HBD b5
      generalize w4.alloc (.cells #[.string (sOf k.1), .string (sOf k.2), .string u] 70) = w5 at *
      apply wpM_move (by rfl) (by rfl)
      intro K hK
      go_simp
      refine (insert_c L _ P (k, u) w4.heap.size w5 HBD5.out.at'.own hal hr5 hx5 hvx (by omega)).mono ?_
      rintro e w6 ⟨v', rfl, ho6, hk6, hn6⟩
      generalize hM : L.take P ++ (k, u) :: L.drop P = M at *
      obtain ⟨a', cp', rfl⟩ := ho6.slice
      go_simp
      have d06 := (hk6.cell (o := 0) dl5 HBD5.out.at'.ne).trans d05
      have hbw1 : w1.heap.size ∉ blk (.slice a L.length cp) := HNB.out
      have hk6' := hk5.keeps hk6 hbw1
      refine hK _ _ (fun _ => ⟨hk6', d06⟩) ?_
      clear hK K
      obtain ⟨hbd6, e0, e1, e2⟩ := HBD5.out.at'.put hk6 ho6 hn6
      have HBD6 := hd (HBD5.out.trans hbd6)
      clear hbd6 HBD5
      apply wpM_still (by rfl) (by rfl)
      · intro W hC
        go_simp
        rfl
      go_simp
      apply wpM_still (by rfl) (by rfl)
      · intro W hC
        go_simp
        rfl
      go_simp
      apply wpM_move (by rfl) (by rfl)
      intro K hK
      go_simp
      refine hK _ _ (fun h => absurd h (by decide)) ?_
      clear hK K
      refine wpM_nil ?_
      go_wp2_with fail
      go_ret
      refine ⟨by first | rfl | simp, .slice a' M.length cp', ?_⟩
      unfold bPut bIns
      rw [hL, hP, hM]
      exact HBD6.out
end Go.Proofs.YtclicjokgfiegaaGreatDoor
