/- A bundle of texts (merged for the limit on files): PacPuts. -/
import Derived.Test.YtclicjokgfiegaaDoorZa19
import Derived.Test.YtclicjokgfiegaaDoorZa4
import Derived.Test.YtclicjokgfiegaaDoorZa16
/- Packets: laid: the walk of Put. -/
namespace Go.Proofs.YtclicjokgfiegaaDoor
open Go.RowKit
set_option linter.unusedVariables false
set_option linter.unusedSimpArgs false

def putF (k : Int) : FuncId := if k = 1 then 67 else if k = 2 then 68 else if k = 3 then 69 else if k = 4 then 70 else if k = 5 then 70 else if k = 6 then 71 else if k = 7 then 70 else if k = 8 then 72 else if k = 9 then 73 else if k = 10 then 72 else if k = 11 then 70 else if k = 12 then 74 else if k = 13 then 74 else if k = 14 then 74 else 75
theorem call_of {P : Program} {f : FuncId} {fn : Func} (hf : P.funcs[f]? = some fn) (hn : (fn.name == "runtime.NumGoroutine") = false) (hb : fn.body.isNone = false) (args : Array Value) (W : World) : (callFunc f args).run P W = .ok (.enter f args) W := by
  unfold callFunc
  simp [Sem.run_bind, hf, hn, hb, go_sem]
  rw [if_neg (by simpa using hn)]
  cases h : fn.body with
  | none => rw [h] at hb; simp at hb
  | some x => simp
theorem putF_call (k : Int) (args : Array Value) (W : World) : (callFunc (putF k) args).run Tryd.prog W = .ok (.enter (putF k) args) W := by
  unfold putF
  by_cases h1 : k = 1
  · rw [if_pos h1]
    exact call_of Tryd.func67 (by kernel_rfl) (by kernel_rfl) args W
  rw [if_neg h1]
  by_cases h2 : k = 2
  · rw [if_pos h2]
    exact call_of Tryd.func68 (by kernel_rfl) (by kernel_rfl) args W
  rw [if_neg h2]
  by_cases h3 : k = 3
  · rw [if_pos h3]
    exact call_of Tryd.func69 (by kernel_rfl) (by kernel_rfl) args W
  rw [if_neg h3]
  by_cases h4 : k = 4
  · rw [if_pos h4]
    exact call_of Tryd.func70 (by kernel_rfl) (by kernel_rfl) args W
  rw [if_neg h4]
  by_cases h5 : k = 5
  · rw [if_pos h5]
    exact call_of Tryd.func70 (by kernel_rfl) (by kernel_rfl) args W
  rw [if_neg h5]
  by_cases h6 : k = 6
  · rw [if_pos h6]
    exact call_of Tryd.func71 (by kernel_rfl) (by kernel_rfl) args W
  rw [if_neg h6]
  by_cases h7 : k = 7
  · rw [if_pos h7]
    exact call_of Tryd.func70 (by kernel_rfl) (by kernel_rfl) args W
  rw [if_neg h7]
  by_cases h8 : k = 8
  · rw [if_pos h8]
    exact call_of Tryd.func72 (by kernel_rfl) (by kernel_rfl) args W
  rw [if_neg h8]
  by_cases h9 : k = 9
  · rw [if_pos h9]
    exact call_of Tryd.func73 (by kernel_rfl) (by kernel_rfl) args W
  rw [if_neg h9]
  by_cases h10 : k = 10
  · rw [if_pos h10]
    exact call_of Tryd.func72 (by kernel_rfl) (by kernel_rfl) args W
  rw [if_neg h10]
  by_cases h11 : k = 11
  · rw [if_pos h11]
    exact call_of Tryd.func70 (by kernel_rfl) (by kernel_rfl) args W
  rw [if_neg h11]
  by_cases h12 : k = 12
  · rw [if_pos h12]
    exact call_of Tryd.func74 (by kernel_rfl) (by kernel_rfl) args W
  rw [if_neg h12]
  by_cases h13 : k = 13
  · rw [if_pos h13]
    exact call_of Tryd.func74 (by kernel_rfl) (by kernel_rfl) args W
  rw [if_neg h13]
  by_cases h14 : k = 14
  · rw [if_pos h14]
    exact call_of Tryd.func74 (by kernel_rfl) (by kernel_rfl) args W
  rw [if_neg h14]
  exact call_of Tryd.func75 (by kernel_rfl) (by kernel_rfl) args W
set_option maxRecDepth 100000 in
set_option maxHeartbeats 8000000 in
theorem putter_c (g : Nat) (k : Int) (w : World) (c0 : w.cell? ⟨g, 0, none⟩ = some (.int .i64 k)) :
    Calls Tryd.prog 32 #[.pointer (some ⟨g, 0, none⟩)] w fun e w' => e = .returned (.func (.func (putF k)) #[.pointer (some ⟨g, 0, none⟩)] #[]) ∧ w = w' := by
  by_cases h1 : k = 1
  · subst h1
    go_enter Tryd.func32, Tryd.ntmps32
    go_wp2_with fail
    go_ret
    exact ⟨rfl, rfl⟩
  by_cases h2 : k = 2
  · subst h2
    clear h1
    go_enter Tryd.func32, Tryd.ntmps32
    go_wp2_with fail
    go_ret
    exact ⟨rfl, rfl⟩
  by_cases h3 : k = 3
  · subst h3
    clear h1 h2
    go_enter Tryd.func32, Tryd.ntmps32
    go_wp2_with fail
    go_ret
    exact ⟨rfl, rfl⟩
  by_cases h4 : k = 4
  · subst h4
    clear h1 h2 h3
    go_enter Tryd.func32, Tryd.ntmps32
    go_wp2_with fail
    go_ret
    exact ⟨rfl, rfl⟩
  by_cases h5 : k = 5
  · subst h5
    clear h1 h2 h3 h4
    go_enter Tryd.func32, Tryd.ntmps32
    go_wp2_with fail
    go_ret
    exact ⟨rfl, rfl⟩
  by_cases h6 : k = 6
  · subst h6
    clear h1 h2 h3 h4 h5
    go_enter Tryd.func32, Tryd.ntmps32
    go_wp2_with fail
    go_ret
    exact ⟨rfl, rfl⟩
  by_cases h7 : k = 7
  · subst h7
    clear h1 h2 h3 h4 h5 h6
    go_enter Tryd.func32, Tryd.ntmps32
    go_wp2_with fail
    go_ret
    exact ⟨rfl, rfl⟩
  by_cases h8 : k = 8
  · subst h8
    clear h1 h2 h3 h4 h5 h6 h7
    go_enter Tryd.func32, Tryd.ntmps32
    go_wp2_with fail
    go_ret
    exact ⟨rfl, rfl⟩
  by_cases h9 : k = 9
  · subst h9
    clear h1 h2 h3 h4 h5 h6 h7 h8
    go_enter Tryd.func32, Tryd.ntmps32
    go_wp2_with fail
    go_ret
    exact ⟨rfl, rfl⟩
  by_cases h10 : k = 10
  · subst h10
    clear h1 h2 h3 h4 h5 h6 h7 h8 h9
    go_enter Tryd.func32, Tryd.ntmps32
    go_wp2_with fail
    go_ret
    exact ⟨rfl, rfl⟩
  by_cases h11 : k = 11
  · subst h11
    clear h1 h2 h3 h4 h5 h6 h7 h8 h9 h10
    go_enter Tryd.func32, Tryd.ntmps32
    go_wp2_with fail
    go_ret
    exact ⟨rfl, rfl⟩
  by_cases h12 : k = 12
  · subst h12
    clear h1 h2 h3 h4 h5 h6 h7 h8 h9 h10 h11
    go_enter Tryd.func32, Tryd.ntmps32
    go_wp2_with fail
    go_ret
    exact ⟨rfl, rfl⟩
  by_cases h13 : k = 13
  · subst h13
    clear h1 h2 h3 h4 h5 h6 h7 h8 h9 h10 h11 h12
    go_enter Tryd.func32, Tryd.ntmps32
    go_wp2_with fail
    go_ret
    exact ⟨rfl, rfl⟩
  by_cases h14 : k = 14
  · subst h14
    clear h1 h2 h3 h4 h5 h6 h7 h8 h9 h10 h11 h12 h13
    go_enter Tryd.func32, Tryd.ntmps32
    go_wp2_with fail
    go_ret
    exact ⟨rfl, rfl⟩
  have b1 : (k == 1) = false := by simpa using h1
  have b2 : (k == 2) = false := by simpa using h2
  have b3 : (k == 3) = false := by simpa using h3
  have b4 : (k == 4) = false := by simpa using h4
  have b5 : (k == 5) = false := by simpa using h5
  have b6 : (k == 6) = false := by simpa using h6
  have b7 : (k == 7) = false := by simpa using h7
  have b8 : (k == 8) = false := by simpa using h8
  have b9 : (k == 9) = false := by simpa using h9
  have b10 : (k == 10) = false := by simpa using h10
  have b11 : (k == 11) = false := by simpa using h11
  have b12 : (k == 12) = false := by simpa using h12
  have b13 : (k == 13) = false := by simpa using h13
  have b14 : (k == 14) = false := by simpa using h14
  have hF : putF k = 75 := by unfold putF; simp only [if_neg h1, if_neg h2, if_neg h3, if_neg h4, if_neg h5, if_neg h6, if_neg h7, if_neg h8, if_neg h9, if_neg h10, if_neg h11, if_neg h12, if_neg h13, if_neg h14]
  rw [hF]
  clear hF h1 h2 h3 h4 h5 h6 h7 h8 h9 h10 h11 h12 h13 h14
  go_enter Tryd.func32, Tryd.ntmps32
  go_wp2_with fail
  go_ret
  exact ⟨rfl, rfl⟩

/-- What a packet in hand needs. -/
structure PacOk (w : World) (p : Pac) (vf vc : Value) : Prop where
  rd : PacRd w p vf vc
  sized : p.sized 140737488351232
theorem put_all (q : Pac) (vf vc : Value) (g : Nat) (w : World) (hW : WrapAt w g (q.cells vf vc) 0 []) (hH : EnvH w) (hE : EnvU w) (hlow : ∀ W, Keeps [g] w W → EnvU W) (hf : ∀ W, Keeps [g] w W → Ws W vf q.fs) (hq : PacOk w q vf vc) :
    Calls Tryd.prog (putF q.k) #[.pointer (some ⟨g, 0, none⟩)] w (GivesL w g (q.cells vf vc) (paBody q).1 (paBody q).2.1 (paBody q).2.2) := by
  obtain ⟨hT, hX, hC, hS⟩ := hq.sized
  by_cases h1 : q.k = 1
  · have hF : putF q.k = 67 := by rw [h1]; rfl
    rw [hF]
    have hc := putConnect_c q vf vc g 0 [] w hW hE hC
    have hB : paBody q = (0, cPutB q.c, cPutE q.c) := by unfold paBody; rw [h1]; rfl
    rw [hB]
    exact hc
  by_cases h2 : q.k = 2
  · have hF : putF q.k = 68 := by rw [h2]; rfl
    rw [hF]
    have hc := putConnack_c q vf vc g 0 [] w hW
    have hB : paBody q = (0, aPutB q.pr q.code, aPutE q.pr q.code) := by unfold paBody; rw [h2]; rfl
    rw [hB]
    exact hc
  by_cases h3 : q.k = 3
  · have hF : putF q.k = 69 := by rw [h3]; rfl
    rw [hF]
    have hB : paBody q = (hPub q.dup q.q q.rt, (if hPub q.dup q.q q.rt < 0 then [] else pPutB (sB q.tp) (sB q.tx) q.q q.id), (if hPub q.dup q.q q.rt < 0 then 10 else pPutE (sB q.tp) (sB q.tx) q.q q.id)) := by unfold paBody; rw [h3]; rfl
    have hc := putPublish_c q vf vc g 0 w hW hH hlow hT hX
    rw [hB]
    exact hc
  by_cases h4 : q.k = 4
  · have hF : putF q.k = 70 := by rw [h4]; rfl
    rw [hF]
    have hc := putId_c q vf vc g 0 [] w hW
    have hB : paBody q = (0, pIdB q.id, pIdE q.id) := by unfold paBody; rw [h4]; rfl
    rw [hB]
    exact hc
  by_cases h5 : q.k = 5
  · have hF : putF q.k = 70 := by rw [h5]; rfl
    rw [hF]
    have hc := putId_c q vf vc g 0 [] w hW
    have hB : paBody q = (0, pIdB q.id, pIdE q.id) := by unfold paBody; rw [h5]; rfl
    rw [hB]
    exact hc
  by_cases h6 : q.k = 6
  · have hF : putF q.k = 71 := by rw [h6]; rfl
    rw [hF]
    have hc := putRel_c q vf vc g 0 [] w hW
    have hB : paBody q = (2, pIdB q.id, pIdE q.id) := by unfold paBody; rw [h6]; rfl
    rw [hB]
    exact hc
  by_cases h7 : q.k = 7
  · have hF : putF q.k = 70 := by rw [h7]; rfl
    rw [hF]
    have hc := putId_c q vf vc g 0 [] w hW
    have hB : paBody q = (0, pIdB q.id, pIdE q.id) := by unfold paBody; rw [h7]; rfl
    rw [hB]
    exact hc
  by_cases h8 : q.k = 8
  · have hF : putF q.k = 72 := by rw [h8]; rfl
    rw [hF]
    have hB : paBody q = (2, sbPutB q.id q.fs false, sbPutE q.id q.fs false) := by unfold paBody; rw [h8]; rfl
    have hc := putWishes_c q vf vc g 0 [] w hW hE hlow hq.rd.f hf hS
    have hb : (q.k == 10) = false := by rw [h8]; rfl
    rw [hb] at hc
    rw [hB]
    exact hc
  by_cases h9 : q.k = 9
  · have hF : putF q.k = 73 := by rw [h9]; rfl
    rw [hF]
    have hc := putSuback_c q vf vc g 0 [] w hW hq.rd.c
    have hB : paBody q = (0, sbAckB q.id q.cs, sbAckE q.id q.cs) := by unfold paBody; rw [h9]; rfl
    rw [hB]
    exact hc
  by_cases h10 : q.k = 10
  · have hF : putF q.k = 72 := by rw [h10]; rfl
    rw [hF]
    have hB : paBody q = (2, sbPutB q.id q.fs true, sbPutE q.id q.fs true) := by unfold paBody; rw [h10]; rfl
    have hc := putWishes_c q vf vc g 0 [] w hW hE hlow hq.rd.f hf hS
    have hb : (q.k == 10) = true := by rw [h10]; rfl
    rw [hb] at hc
    rw [hB]
    exact hc
  by_cases h11 : q.k = 11
  · have hF : putF q.k = 70 := by rw [h11]; rfl
    rw [hF]
    have hc := putId_c q vf vc g 0 [] w hW
    have hB : paBody q = (0, pIdB q.id, pIdE q.id) := by unfold paBody; rw [h11]; rfl
    rw [hB]
    exact hc
  by_cases h12 : q.k = 12
  · have hF : putF q.k = 74 := by rw [h12]; rfl
    rw [hF]
    have hc := putNothing_c q vf vc g 0 [] w hW
    have hB : paBody q = (0, [], 0) := by unfold paBody; rw [h12]; rfl
    rw [hB]
    exact hc
  by_cases h13 : q.k = 13
  · have hF : putF q.k = 74 := by rw [h13]; rfl
    rw [hF]
    have hc := putNothing_c q vf vc g 0 [] w hW
    have hB : paBody q = (0, [], 0) := by unfold paBody; rw [h13]; rfl
    rw [hB]
    exact hc
  by_cases h14 : q.k = 14
  · have hF : putF q.k = 74 := by rw [h14]; rfl
    rw [hF]
    have hc := putNothing_c q vf vc g 0 [] w hW
    have hB : paBody q = (0, [], 0) := by unfold paBody; rw [h14]; rfl
    rw [hB]
    exact hc
  have hF : putF q.k = 75 := by unfold putF; simp only [if_neg h1, if_neg h2, if_neg h3, if_neg h4, if_neg h5, if_neg h6, if_neg h7, if_neg h8, if_neg h9, if_neg h10, if_neg h11, if_neg h12, if_neg h13, if_neg h14]
  have hB : paBody q = (0, [], 11) := by
    unfold paBody
    rw [if_neg h1, if_neg h2, if_neg h3, if_neg (by omega), if_neg h6, if_neg h8, if_neg h10, if_neg h9, if_neg (by omega)]
  rw [hF, hB]
  exact putNone_c q vf vc g 0 [] w hW

theorem paClean_sized {p : Pac} {n : Nat} (h : p.sized n) : (paClean p).sized n := by
  obtain ⟨h1, h2, ⟨h3, h4, h5, h6, h7⟩, h8⟩ := h
  have hz : Pac.zero.sized n := ⟨Nat.zero_le n, Nat.zero_le n, ⟨Nat.zero_le n, Nat.zero_le n, Nat.zero_le n, Nat.zero_le n, Nat.zero_le n⟩, by simp [Pac.zero]⟩
  obtain ⟨z1, z2, z3, z4⟩ := hz
  unfold paClean
  repeat' split
  all_goals refine ⟨?_, ?_, ?_, ?_⟩
  all_goals first | assumption | exact ⟨h3, h4, h5, h6, h7⟩ | skip
  intro f hf
  obtain ⟨x, hx, rfl⟩ := List.mem_map.1 hf
  exact h8 x hx
theorem paClean_k (p : Pac) : (paClean p).k = p.k := by
  unfold paClean
  repeat' split
  all_goals rfl
set_option maxRecDepth 100000 in
theorem build_wrap (q : Pac) (vf vc : Value) (W : World) : (Instr.build 86 #[(0, .agg (q.cells vf vc).toArray)]).run Tryd.prog W = .ok (.agg (wrapL (q.cells vf vc) 0 []).toArray) W := by
  simp [Instr.build, go_sem, Pac.cells, wrapL, sOf]
theorem sOf_sizeP (l : List UInt8) : (sOf l).size = l.length := by rw [← sB_len]; rfl
theorem paBody_len {q : Pac} (h : (paBody q).2.2 = 0) (f : Int) (k : Int) (hh : hPutE k f (paBody q).2.1.length = 0) : (paBody q).2.1.length ≤ 4096 := by
  have := (hPutE_ok hh).2.2
  omega

set_option maxRecDepth 100000 in
set_option maxHeartbeats 8000000 in
theorem packPut_c (p : Pac) (vf vc : Value) (w : World) (hp : PacOk w p vf vc) (hH : EnvH w) (hE : EnvU w) :
    Calls Tryd.prog 10 #[.agg (p.cells vf vc).toArray] w (GivesB w (paPutB p) (paPutE p)) := by
  have HE := hd hE; have HH := hd hH; have HP := hd hp
  clear hE hH hp
  obtain ⟨L, hL⟩ : ∃ L, p.cells vf vc = L := ⟨_, rfl⟩
  have l0 : L[0]? = some (.int .i64 p.k) := by rw [← hL]; rfl
  have hlen : L.length = 24 := by rw [← hL]; rfl
  have H0 := hd l0; have HL := hd hL; have HN := hd hlen
  have hi : Hd ((Tryd.prog.info? 29).map (·.size) = some L.length) := hd (by rw [hlen]; exact info_pac)
  rw [hL]
  clear l0 hL hlen
  go_enter Tryd.func10, Tryd.ntmps10
  go_wp2_with (first
    | (with_reducible refine wpl_box (o := ⟨some 1, .box 29 (.tmp 0), _, _, _, _⟩) rfl _ _ rfl L rfl w.heap.size rfl ?_; intro w1 h1 f1 b1 z1)
    | ((with_reducible refine wpl_at (o := ⟨some 9, .load 29 (.tmp 1), _, _, _, _⟩) ?_); refine wpl_loadAt rfl _ _ rfl w.heap.size 0 rfl L _ h1.range Tryd.underlying29 rfl hi.out ?_))
  rw [← HL.out]
  refine (Clean_c p vf vc _ (HP.out.rd.below b1 (Nat.le_refl _))).mono ?_
  rintro e w2 ⟨vf', vc', rfl, hr2, hb2⟩
  replace h1 := h1.keep hb2 (by omega)
  have B2 : Below w.heap.size w w2 := b1.trans (hb2.mono (by omega))
  have hs2 := B2.size
  have hs12 := hb2.size
  obtain ⟨q, hq⟩ : ∃ q, paClean p = q := ⟨_, rfl⟩
  have hsz : q.sized 140737488351232 := by rw [← hq]; exact paClean_sized HP.out.sized
  have hqk : q.k = p.k := by rw [← hq]; exact paClean_k p
  rw [hq] at hr2 ⊢
  have HQ := hd hq
  have hbw := fun W => build_wrap q vf' vc' W
  clear hq
  go_wp2_with (first
    | ((with_reducible refine wpl_at (o := ⟨some 11, .build 86 #[(0, .tmp 10)], _, _, _, _⟩) ?_); refine wpl_build rfl _ _ rfl #[(0, .agg (q.cells vf' vc').toArray)] (by simp [Act.eval]) _ hbw ?_)
    | (with_reducible refine wpl_box (o := ⟨some 12, .box 86 (.tmp 11), _, _, _, _⟩) rfl _ _ rfl (wrapL (q.cells vf' vc') 0 []) rfl w2.heap.size rfl ?_; intro w3 h3 f3 b3 z3))
  have hW : WrapAt w3 w2.heap.size (q.cells vf' vc') 0 [] := ⟨h3, rfl, f3⟩
  have B3 : Below w.heap.size w w3 := B2.trans (b3.mono hs2)
  have c0 := hW.cell (j := 0) (u := .int .i64 q.k) rfl
  refine (putter_c w2.heap.size q.k w3 c0).mono ?_
  rintro e w' ⟨rfl, rfl⟩
  have hcf := fun (k : Int) (args : Array Value) (W : World) => putF_call k args W
  clear hqk
  go_wp2_with fail
  have hlow : ∀ W, Keeps [w2.heap.size] w3 W → Below w2.heap.size w2 W := fun W hk => b3.trans (hk.toBelow (by omega) (by simp))
  have hpa := put_all q vf' vc' w2.heap.size w3 hW (HH.out.below B3 (Nat.le_refl _)) (HE.out.below B3) (fun W hk => HE.out.below (B2.trans ((hlow W hk).mono hs2))) (fun W hk => hr2.f.below' (hlow W hk) (Nat.le_refl _)) ⟨hr2.below b3 (Nat.le_refl _), hsz⟩
  obtain ⟨fl, b, E, hB⟩ : ∃ fl b E, paBody q = (fl, b, E) := ⟨_, _, _, rfl⟩
  rw [hB] at hpa
  have hpa' : Calls Tryd.prog (putF q.k) #[.pointer (some ⟨w2.heap.size, 0, none⟩)] w3 (GivesL w3 w2.heap.size (q.cells vf' vc') fl b E) := hpa
  have HB := hd hB
  refine hpa'.mono ?_
  clear hpa hpa' hB
  rintro e w4 ⟨rfl, hW4, hk4⟩
  have B4 : Below w.heap.size w w4 := B2.trans ((hlow w4 hk4).mono hs2)
  replace h1 := (h1.keep b3 (by omega)).keeps hk4 (by simp; omega)
  have hs4 := hW4.lt
  clear h3 f3 b3 c0 hW hlow hk4
  by_cases hE0 : E = 0
  rotate_left
  · have hEb : (E != 0) = true := by simpa using hE0
    have hpe : paPutE p = E := by unfold paPutE; rw [HQ.out, HB.out]; exact if_pos hE0
    have hpb : paPutB p = [] := by unfold paPutB; rw [hpe, if_neg hE0]
    rw [hpe, hpb]
    go_wp2_with fail
    go_ret2
    rw [hpe, hpb]
    exact GivesB.nil B4
  subst hE0
  have hpe : paPutE p = hPutE p.k fl b.length := by unfold paPutE; rw [HQ.out, HB.out]; exact if_neg (by simp)
  have hpb : paPutB p = if hPutE p.k fl b.length = 0 then hPutB p.k fl b.length ++ b else [] := by unfold paPutB; rw [hpe, HQ.out, HB.out]
  have c0 := h1.drew.at 0 H0.out
  have hsb : (sOf b).size = b.length := sOf_sizeP b
  go_wp2_with fail
  have HW4 := hW4.drew
  have B4d := B4.drew
  refine wp_region_M (fun W => W.cell? ⟨w.heap.size, 0, none⟩ = some (.int .i64 p.k) ∧ WrapAt W w2.heap.size (q.cells vf' vc') fl b) 17 [(0, false), (1, false), (2, false), (3, false), (4, false), (5, false), (6, false), (7, false), (8, false), (9, false), (10, false), (11, false), (12, true), (13, false), (14, false), (15, false), (16, false), (17, true)] (by kernel_rfl) (by kernel_rfl) (fun _ _ _ _ h => h) ⟨c0, HW4⟩ ?_
  have hz4 : w4.drew.heap.size = w4.heap.size := rfl
  clear hW4 B4 h1
  generalize w4.drew = w5 at *
  apply wpM_still (by rfl) (by rfl)
  · intro W hC
    go_simp
    rfl
  go_simp
  apply wpM_still (by rfl) (by rfl)
  · intro W hC
    have d := hC.1
    go_simp
    rfl
  go_simp
  apply wpM_still (by rfl) (by rfl)
  · intro W hC
    go_simp
    rfl
  go_simp
  apply wpM_still (by rfl) (by rfl)
  · intro W hC
    go_simp
    rfl
  go_simp
  apply wpM_still (by rfl) (by rfl)
  · intro W hC
    go_simp
    rfl
  go_simp
  apply wpM_still (by rfl) (by rfl)
  · intro W hC
    have d := WrapAt.cf hC.2
    go_simp
    rfl
  go_simp
  apply wpM_still (by rfl) (by rfl)
  · intro W hC
    go_simp
    rfl
  go_simp
  apply wpM_still (by rfl) (by rfl)
  · intro W hC
    go_simp
    rfl
  go_simp
  apply wpM_still (by rfl) (by rfl)
  · intro W hC
    go_simp
    rfl
  go_simp
  apply wpM_still (by rfl) (by rfl)
  · intro W hC
    have d := WrapAt.cb hC.2
    go_simp
    rfl
  go_simp
  apply wpM_still (by rfl) (by rfl)
  · intro W hC
    go_simp
    rfl
  go_simp
  apply wpM_still (by rfl) (by rfl)
  · intro W hC
    go_simp
    rfl
  go_simp
  apply wpM_move (by rfl) (by rfl)
  intro K hK
  go_simp
  refine (hPut_c p.k fl b.length w5 (HH.out.below B4d (Nat.le_refl _))).mono ?_
  rintro e w6 ⟨v6, rfl, ho6, hb6⟩
  go_simp
  refine hK _ _ (fun _ => ⟨(hb6.cell (p := ⟨w.heap.size, 0, none⟩) (by show w.heap.size < w5.heap.size; omega)).trans c0, HW4.keep hb6 HW4.lt⟩) ?_
  clear hK K
  apply wpM_still (by rfl) (by rfl)
  · intro W hC
    go_simp
    rfl
  go_simp
  apply wpM_still (by rfl) (by rfl)
  · intro W hC
    go_simp
    rfl
  go_simp
  apply wpM_still (by rfl) (by rfl)
  · intro W hC
    go_simp
    rfl
  go_simp
  apply wpM_still (by rfl) (by rfl)
  · intro W hC
    go_simp
    rfl
  go_simp
  apply wpM_move (by rfl) (by rfl)
  intro K hK
  go_simp
  refine hK _ _ (fun h => absurd h (by decide)) ?_
  clear hK K
  refine wpM_nil ?_
  have HW6 := HW4.keep hb6 HW4.lt
  have B6 : Below w.heap.size w w6 := B4d.trans (hb6.mono B4d.size)
  by_cases hh : hPutE p.k fl b.length = 0
  rotate_left
  · have hhb : (hPutE p.k fl b.length != 0) = true := by simpa using hh
    go_wp2_with fail
    go_ret2
    rw [hpe, hpb, if_neg hh]
    exact GivesB.nil B6
  have hbl : b.length ≤ 4096 := by have := (hPutE_ok hh).2.2; omega
  have hHB : (hPutB p.k fl b.length).length ≤ 3 := by rw [hPutB_ok hh, hBytes_len]; split <;> omega
  rw [hh]
  have cb := HW6.cb
  generalize hPutB p.k fl b.length = hb at *
  have ho7 : Owned w.heap.size w6 v6 hb := Owns.le ho6 (by omega)
  have HO := hd ho7
  clear ho6 ho7
  go_wp2_with (at_builtin; refine wp_appS rfl _ _ rfl w.heap.size v6 hb rfl HO.out (sOf b) rfl (by omega) B6.size ?_; intro v7 w7 ho7 hb7)
  go_ret2
  rw [hpe, hpb, if_pos hh, hh]
  exact ⟨v7, rfl, ho7, B6.trans hb7⟩
end Go.Proofs.YtclicjokgfiegaaDoor
