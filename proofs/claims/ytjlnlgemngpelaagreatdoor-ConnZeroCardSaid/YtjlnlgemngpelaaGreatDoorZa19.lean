/- A bundle of texts (merged for the limit on files): PacPuts, SubIter, SubOf. -/
import Derived.Test.YtjlnlgemngpelaaGreatDoorZa18
import Derived.Test.YtjlnlgemngpelaaGreatDoorZa3
import Derived.Test.YtjlnlgemngpelaaGreatDoorZa15
import Derived.RangeFuncNested
import Derived.RangeFuncBound
import Derived.RangeFuncCalls
import Derived.RangeFuncLeaves
import Derived.RangeFuncBox
import Derived.Shelf.Abstract
import Derived.Shelf.RegionOpen
import Derived.WalkKit
import Derived.OwnWalkIn
import Derived.TacticsInMore
import Derived.LoopNIn
import Derived.LoopIn
import Derived.Maps.AppendAt
import Derived.Test.YtjlnlgemngpelaaGreatDoorZa11
import Derived.WalkMore
/- Packets: laid: the walk of Put. -/
namespace Go.Proofs.YtjlnlgemngpelaaGreatDoor
open Go.RowKit
set_option linter.unusedVariables false
set_option linter.unusedSimpArgs false

def putF (k : Int) : FuncId := if k = 1 then 50 else if k = 2 then 51 else if k = 3 then 52 else if k = 4 then 53 else if k = 5 then 53 else if k = 6 then 54 else if k = 7 then 53 else if k = 8 then 55 else if k = 9 then 56 else if k = 10 then 55 else if k = 11 then 53 else if k = 12 then 57 else if k = 13 then 57 else if k = 14 then 57 else 58
theorem call_of {P : Program} {f : FuncId} {fn : Func} (hf : P.funcs[f]? = some fn) (hn : (fn.name == "runtime.NumGoroutine") = false) (hb : fn.body.isNone = false) (args : Array Value) (W : World) : (callFunc f args).run P W = .ok (.enter f args) W := by
  unfold callFunc
  simp [Sem.run_bind, hf, hn, hb, go_sem]
  rw [if_neg (by simpa using hn)]
  cases h : fn.body with
  | none => rw [h] at hb; simp at hb
  | some x => simp
theorem putF_call (k : Int) (args : Array Value) (W : World) : (callFunc (putF k) args).run Tryz.prog W = .ok (.enter (putF k) args) W := by
  unfold putF
  by_cases h1 : k = 1
  · rw [if_pos h1]
    exact call_of Tryz.func50 (by kernel_rfl) (by kernel_rfl) args W
  rw [if_neg h1]
  by_cases h2 : k = 2
  · rw [if_pos h2]
    exact call_of Tryz.func51 (by kernel_rfl) (by kernel_rfl) args W
  rw [if_neg h2]
  by_cases h3 : k = 3
  · rw [if_pos h3]
    exact call_of Tryz.func52 (by kernel_rfl) (by kernel_rfl) args W
  rw [if_neg h3]
  by_cases h4 : k = 4
  · rw [if_pos h4]
    exact call_of Tryz.func53 (by kernel_rfl) (by kernel_rfl) args W
  rw [if_neg h4]
  by_cases h5 : k = 5
  · rw [if_pos h5]
    exact call_of Tryz.func53 (by kernel_rfl) (by kernel_rfl) args W
  rw [if_neg h5]
  by_cases h6 : k = 6
  · rw [if_pos h6]
    exact call_of Tryz.func54 (by kernel_rfl) (by kernel_rfl) args W
  rw [if_neg h6]
  by_cases h7 : k = 7
  · rw [if_pos h7]
    exact call_of Tryz.func53 (by kernel_rfl) (by kernel_rfl) args W
  rw [if_neg h7]
  by_cases h8 : k = 8
  · rw [if_pos h8]
    exact call_of Tryz.func55 (by kernel_rfl) (by kernel_rfl) args W
  rw [if_neg h8]
  by_cases h9 : k = 9
  · rw [if_pos h9]
    exact call_of Tryz.func56 (by kernel_rfl) (by kernel_rfl) args W
  rw [if_neg h9]
  by_cases h10 : k = 10
  · rw [if_pos h10]
    exact call_of Tryz.func55 (by kernel_rfl) (by kernel_rfl) args W
  rw [if_neg h10]
  by_cases h11 : k = 11
  · rw [if_pos h11]
    exact call_of Tryz.func53 (by kernel_rfl) (by kernel_rfl) args W
  rw [if_neg h11]
  by_cases h12 : k = 12
  · rw [if_pos h12]
    exact call_of Tryz.func57 (by kernel_rfl) (by kernel_rfl) args W
  rw [if_neg h12]
  by_cases h13 : k = 13
  · rw [if_pos h13]
    exact call_of Tryz.func57 (by kernel_rfl) (by kernel_rfl) args W
  rw [if_neg h13]
  by_cases h14 : k = 14
  · rw [if_pos h14]
    exact call_of Tryz.func57 (by kernel_rfl) (by kernel_rfl) args W
  rw [if_neg h14]
  exact call_of Tryz.func58 (by kernel_rfl) (by kernel_rfl) args W
set_option maxRecDepth 100000 in
set_option maxHeartbeats 8000000 in
theorem putter_c (g : Nat) (k : Int) (w : World) (c0 : w.cell? ⟨g, 0, none⟩ = some (.int .i64 k)) :
    Calls Tryz.prog 34 #[.pointer (some ⟨g, 0, none⟩)] w fun e w' => e = .returned (.func (.func (putF k)) #[.pointer (some ⟨g, 0, none⟩)] #[]) ∧ w = w' := by
  by_cases h1 : k = 1
  · subst h1
    go_enter Tryz.func34, Tryz.ntmps34
    go_wp2_with fail
    go_ret
    exact ⟨rfl, rfl⟩
  by_cases h2 : k = 2
  · subst h2
    clear h1
    go_enter Tryz.func34, Tryz.ntmps34
    go_wp2_with fail
    go_ret
    exact ⟨rfl, rfl⟩
  by_cases h3 : k = 3
  · subst h3
    clear h1 h2
    go_enter Tryz.func34, Tryz.ntmps34
    go_wp2_with fail
    go_ret
    exact ⟨rfl, rfl⟩
  by_cases h4 : k = 4
  · subst h4
    clear h1 h2 h3
    go_enter Tryz.func34, Tryz.ntmps34
    go_wp2_with fail
    go_ret
    exact ⟨rfl, rfl⟩
  by_cases h5 : k = 5
  · subst h5
    clear h1 h2 h3 h4
    go_enter Tryz.func34, Tryz.ntmps34
    go_wp2_with fail
    go_ret
    exact ⟨rfl, rfl⟩
  by_cases h6 : k = 6
  · subst h6
    clear h1 h2 h3 h4 h5
    go_enter Tryz.func34, Tryz.ntmps34
    go_wp2_with fail
    go_ret
    exact ⟨rfl, rfl⟩
  by_cases h7 : k = 7
  · subst h7
    clear h1 h2 h3 h4 h5 h6
    go_enter Tryz.func34, Tryz.ntmps34
    go_wp2_with fail
    go_ret
    exact ⟨rfl, rfl⟩
  by_cases h8 : k = 8
  · subst h8
    clear h1 h2 h3 h4 h5 h6 h7
    go_enter Tryz.func34, Tryz.ntmps34
    go_wp2_with fail
    go_ret
    exact ⟨rfl, rfl⟩
  by_cases h9 : k = 9
  · subst h9
    clear h1 h2 h3 h4 h5 h6 h7 h8
    go_enter Tryz.func34, Tryz.ntmps34
    go_wp2_with fail
    go_ret
    exact ⟨rfl, rfl⟩
  by_cases h10 : k = 10
  · subst h10
    clear h1 h2 h3 h4 h5 h6 h7 h8 h9
    go_enter Tryz.func34, Tryz.ntmps34
    go_wp2_with fail
    go_ret
    exact ⟨rfl, rfl⟩
  by_cases h11 : k = 11
  · subst h11
    clear h1 h2 h3 h4 h5 h6 h7 h8 h9 h10
    go_enter Tryz.func34, Tryz.ntmps34
    go_wp2_with fail
    go_ret
    exact ⟨rfl, rfl⟩
  by_cases h12 : k = 12
  · subst h12
    clear h1 h2 h3 h4 h5 h6 h7 h8 h9 h10 h11
    go_enter Tryz.func34, Tryz.ntmps34
    go_wp2_with fail
    go_ret
    exact ⟨rfl, rfl⟩
  by_cases h13 : k = 13
  · subst h13
    clear h1 h2 h3 h4 h5 h6 h7 h8 h9 h10 h11 h12
    go_enter Tryz.func34, Tryz.ntmps34
    go_wp2_with fail
    go_ret
    exact ⟨rfl, rfl⟩
  by_cases h14 : k = 14
  · subst h14
    clear h1 h2 h3 h4 h5 h6 h7 h8 h9 h10 h11 h12 h13
    go_enter Tryz.func34, Tryz.ntmps34
    go_wp2_with fail
    go_ret
    exact ⟨rfl, rfl⟩
  have b1 : (k == 1) = false := by simpa using h1
  have b2 : (k == 2) = false := by simpa using h2
  have b3 : (k == 3) = false := by simpa using h3
  have b4 : (k == 4) = false := by simpa using h4
  have b5 : (k == 5) = false := by simpa using h5
  have b6 : (k == 6) = false := by simpa using h6
  have b7 : (k == 7) = false := by simpa using h7
  have b8 : (k == 8) = false := by simpa using h8
  have b9 : (k == 9) = false := by simpa using h9
  have b10 : (k == 10) = false := by simpa using h10
  have b11 : (k == 11) = false := by simpa using h11
  have b12 : (k == 12) = false := by simpa using h12
  have b13 : (k == 13) = false := by simpa using h13
  have b14 : (k == 14) = false := by simpa using h14
  have hF : putF k = 58 := by unfold putF; simp only [if_neg h1, if_neg h2, if_neg h3, if_neg h4, if_neg h5, if_neg h6, if_neg h7, if_neg h8, if_neg h9, if_neg h10, if_neg h11, if_neg h12, if_neg h13, if_neg h14]
  rw [hF]
  clear hF h1 h2 h3 h4 h5 h6 h7 h8 h9 h10 h11 h12 h13 h14
  go_enter Tryz.func34, Tryz.ntmps34
  go_wp2_with fail
  go_ret
  exact ⟨rfl, rfl⟩

/-- What a packet in hand needs. -/
structure PacOk (w : World) (p : Pac) (vf vc : Value) : Prop where
  rd : PacRd w p vf vc
  sized : p.sized 140737488351232
theorem put_all (q : Pac) (vf vc : Value) (g : Nat) (w : World) (hW : WrapAt w g (q.cells vf vc) 0 []) (hH : EnvH w) (hE : EnvU w) (hlow : ∀ W, Keeps [g] w W → EnvU W) (hf : ∀ W, Keeps [g] w W → Ws W vf q.fs) (hq : PacOk w q vf vc) :
    Calls Tryz.prog (putF q.k) #[.pointer (some ⟨g, 0, none⟩)] w (GivesL w g (q.cells vf vc) (paBody q).1 (paBody q).2.1 (paBody q).2.2) := by
  obtain ⟨hT, hX, hC, hS⟩ := hq.sized
  by_cases h1 : q.k = 1
  · have hF : putF q.k = 50 := by rw [h1]; rfl
    rw [hF]
    have hc := putConnect_c q vf vc g 0 [] w hW hE hC
    have hB : paBody q = (0, cPutB q.c, cPutE q.c) := by unfold paBody; rw [h1]; rfl
    rw [hB]
    exact hc
  by_cases h2 : q.k = 2
  · have hF : putF q.k = 51 := by rw [h2]; rfl
    rw [hF]
    have hc := putConnack_c q vf vc g 0 [] w hW
    have hB : paBody q = (0, aPutB q.pr q.code, aPutE q.pr q.code) := by unfold paBody; rw [h2]; rfl
    rw [hB]
    exact hc
  by_cases h3 : q.k = 3
  · have hF : putF q.k = 52 := by rw [h3]; rfl
    rw [hF]
    have hB : paBody q = (hPub q.dup q.q q.rt, (if hPub q.dup q.q q.rt < 0 then [] else pPutB (sB q.tp) (sB q.tx) q.q q.id), (if hPub q.dup q.q q.rt < 0 then 10 else pPutE (sB q.tp) (sB q.tx) q.q q.id)) := by unfold paBody; rw [h3]; rfl
    have hc := putPublish_c q vf vc g 0 w hW hH hlow hT hX
    rw [hB]
    exact hc
  by_cases h4 : q.k = 4
  · have hF : putF q.k = 53 := by rw [h4]; rfl
    rw [hF]
    have hc := putId_c q vf vc g 0 [] w hW
    have hB : paBody q = (0, pIdB q.id, pIdE q.id) := by unfold paBody; rw [h4]; rfl
    rw [hB]
    exact hc
  by_cases h5 : q.k = 5
  · have hF : putF q.k = 53 := by rw [h5]; rfl
    rw [hF]
    have hc := putId_c q vf vc g 0 [] w hW
    have hB : paBody q = (0, pIdB q.id, pIdE q.id) := by unfold paBody; rw [h5]; rfl
    rw [hB]
    exact hc
  by_cases h6 : q.k = 6
  · have hF : putF q.k = 54 := by rw [h6]; rfl
    rw [hF]
    have hc := putRel_c q vf vc g 0 [] w hW
    have hB : paBody q = (2, pIdB q.id, pIdE q.id) := by unfold paBody; rw [h6]; rfl
    rw [hB]
    exact hc
  by_cases h7 : q.k = 7
  · have hF : putF q.k = 53 := by rw [h7]; rfl
    rw [hF]
    have hc := putId_c q vf vc g 0 [] w hW
    have hB : paBody q = (0, pIdB q.id, pIdE q.id) := by unfold paBody; rw [h7]; rfl
    rw [hB]
    exact hc
  by_cases h8 : q.k = 8
  · have hF : putF q.k = 55 := by rw [h8]; rfl
    rw [hF]
    have hB : paBody q = (2, sbPutB q.id q.fs false, sbPutE q.id q.fs false) := by unfold paBody; rw [h8]; rfl
    have hc := putWishes_c q vf vc g 0 [] w hW hE hlow hq.rd.f hf hS
    have hb : (q.k == 10) = false := by rw [h8]; rfl
    rw [hb] at hc
    rw [hB]
    exact hc
  by_cases h9 : q.k = 9
  · have hF : putF q.k = 56 := by rw [h9]; rfl
    rw [hF]
    have hc := putSuback_c q vf vc g 0 [] w hW hq.rd.c
    have hB : paBody q = (0, sbAckB q.id q.cs, sbAckE q.id q.cs) := by unfold paBody; rw [h9]; rfl
    rw [hB]
    exact hc
  by_cases h10 : q.k = 10
  · have hF : putF q.k = 55 := by rw [h10]; rfl
    rw [hF]
    have hB : paBody q = (2, sbPutB q.id q.fs true, sbPutE q.id q.fs true) := by unfold paBody; rw [h10]; rfl
    have hc := putWishes_c q vf vc g 0 [] w hW hE hlow hq.rd.f hf hS
    have hb : (q.k == 10) = true := by rw [h10]; rfl
    rw [hb] at hc
    rw [hB]
    exact hc
  by_cases h11 : q.k = 11
  · have hF : putF q.k = 53 := by rw [h11]; rfl
    rw [hF]
    have hc := putId_c q vf vc g 0 [] w hW
    have hB : paBody q = (0, pIdB q.id, pIdE q.id) := by unfold paBody; rw [h11]; rfl
    rw [hB]
    exact hc
  by_cases h12 : q.k = 12
  · have hF : putF q.k = 57 := by rw [h12]; rfl
    rw [hF]
    have hc := putNothing_c q vf vc g 0 [] w hW
    have hB : paBody q = (0, [], 0) := by unfold paBody; rw [h12]; rfl
    rw [hB]
    exact hc
  by_cases h13 : q.k = 13
  · have hF : putF q.k = 57 := by rw [h13]; rfl
    rw [hF]
    have hc := putNothing_c q vf vc g 0 [] w hW
    have hB : paBody q = (0, [], 0) := by unfold paBody; rw [h13]; rfl
    rw [hB]
    exact hc
  by_cases h14 : q.k = 14
  · have hF : putF q.k = 57 := by rw [h14]; rfl
    rw [hF]
    have hc := putNothing_c q vf vc g 0 [] w hW
    have hB : paBody q = (0, [], 0) := by unfold paBody; rw [h14]; rfl
    rw [hB]
    exact hc
  have hF : putF q.k = 58 := by unfold putF; simp only [if_neg h1, if_neg h2, if_neg h3, if_neg h4, if_neg h5, if_neg h6, if_neg h7, if_neg h8, if_neg h9, if_neg h10, if_neg h11, if_neg h12, if_neg h13, if_neg h14]
  have hB : paBody q = (0, [], 11) := by
    unfold paBody
    rw [if_neg h1, if_neg h2, if_neg h3, if_neg (by omega), if_neg h6, if_neg h8, if_neg h10, if_neg h9, if_neg (by omega)]
  rw [hF, hB]
  exact putNone_c q vf vc g 0 [] w hW

theorem paClean_sized {p : Pac} {n : Nat} (h : p.sized n) : (paClean p).sized n := by
  obtain ⟨h1, h2, ⟨h3, h4, h5, h6, h7⟩, h8⟩ := h
  have hz : Pac.zero.sized n := ⟨Nat.zero_le n, Nat.zero_le n, ⟨Nat.zero_le n, Nat.zero_le n, Nat.zero_le n, Nat.zero_le n, Nat.zero_le n⟩, by simp [Pac.zero]⟩
  obtain ⟨z1, z2, z3, z4⟩ := hz
  unfold paClean
  repeat' split
  all_goals refine ⟨?_, ?_, ?_, ?_⟩
  all_goals first | assumption | exact ⟨h3, h4, h5, h6, h7⟩ | skip
  intro f hf
  obtain ⟨x, hx, rfl⟩ := List.mem_map.1 hf
  exact h8 x hx
theorem paClean_k (p : Pac) : (paClean p).k = p.k := by
  unfold paClean
  repeat' split
  all_goals rfl
set_option maxRecDepth 100000 in
theorem build_wrap (q : Pac) (vf vc : Value) (W : World) : (Instr.build 80 #[(0, .agg (q.cells vf vc).toArray)]).run Tryz.prog W = .ok (.agg (wrapL (q.cells vf vc) 0 []).toArray) W := by
  simp [Instr.build, go_sem, Pac.cells, wrapL, sOf]
theorem sOf_sizeP (l : List UInt8) : (sOf l).size = l.length := by rw [← sB_len]; rfl
theorem paBody_len {q : Pac} (h : (paBody q).2.2 = 0) (f : Int) (k : Int) (hh : hPutE k f (paBody q).2.1.length = 0) : (paBody q).2.1.length ≤ 4096 := by
  have := (hPutE_ok hh).2.2
  omega

set_option maxRecDepth 100000 in
set_option maxHeartbeats 8000000 in
theorem packPut_c (p : Pac) (vf vc : Value) (w : World) (hp : PacOk w p vf vc) (hH : EnvH w) (hE : EnvU w) :
    Calls Tryz.prog 20 #[.agg (p.cells vf vc).toArray] w (GivesB w (paPutB p) (paPutE p)) := by
  have HE := hd hE; have HH := hd hH; have HP := hd hp
  clear hE hH hp
  obtain ⟨L, hL⟩ : ∃ L, p.cells vf vc = L := ⟨_, rfl⟩
  have l0 : L[0]? = some (.int .i64 p.k) := by rw [← hL]; rfl
  have hlen : L.length = 24 := by rw [← hL]; rfl
  have H0 := hd l0; have HL := hd hL; have HN := hd hlen
  have hi : Hd ((Tryz.prog.info? 36).map (·.size) = some L.length) := hd (by rw [hlen]; exact info_pac)
  rw [hL]
  clear l0 hL hlen
  go_enter Tryz.func20, Tryz.ntmps20
  go_wp2_with (first
    | (with_reducible refine wpl_box (o := ⟨some 1, .box 36 (.tmp 0), _, _, _, _⟩) rfl _ _ rfl L rfl w.heap.size rfl ?_; intro w1 h1 f1 b1 z1)
    | ((with_reducible refine wpl_at (o := ⟨some 9, .load 36 (.tmp 1), _, _, _, _⟩) ?_); refine wpl_loadAt rfl _ _ rfl w.heap.size 0 rfl L _ h1.range Tryz.underlying36 rfl hi.out ?_))
  rw [← HL.out]
  refine (Clean_c p vf vc _ (HP.out.rd.below b1 (Nat.le_refl _))).mono ?_
  rintro e w2 ⟨vf', vc', rfl, hr2, hb2⟩
  replace h1 := h1.keep hb2 (by omega)
  have B2 : Below w.heap.size w w2 := b1.trans (hb2.mono (by omega))
  have hs2 := B2.size
  have hs12 := hb2.size
  obtain ⟨q, hq⟩ : ∃ q, paClean p = q := ⟨_, rfl⟩
  have hsz : q.sized 140737488351232 := by rw [← hq]; exact paClean_sized HP.out.sized
  have hqk : q.k = p.k := by rw [← hq]; exact paClean_k p
  rw [hq] at hr2 ⊢
  have HQ := hd hq
  have hbw := fun W => build_wrap q vf' vc' W
  clear hq
  go_wp2_with (first
    | ((with_reducible refine wpl_at (o := ⟨some 11, .build 80 #[(0, .tmp 10)], _, _, _, _⟩) ?_); refine wpl_build rfl _ _ rfl #[(0, .agg (q.cells vf' vc').toArray)] (by simp [Act.eval]) _ hbw ?_)
    | (with_reducible refine wpl_box (o := ⟨some 12, .box 80 (.tmp 11), _, _, _, _⟩) rfl _ _ rfl (wrapL (q.cells vf' vc') 0 []) rfl w2.heap.size rfl ?_; intro w3 h3 f3 b3 z3))
  have hW : WrapAt w3 w2.heap.size (q.cells vf' vc') 0 [] := ⟨h3, rfl, f3⟩
  have B3 : Below w.heap.size w w3 := B2.trans (b3.mono hs2)
  have c0 := hW.cell (j := 0) (u := .int .i64 q.k) rfl
  refine (putter_c w2.heap.size q.k w3 c0).mono ?_
  rintro e w' ⟨rfl, rfl⟩
  have hcf := fun (k : Int) (args : Array Value) (W : World) => putF_call k args W
  clear hqk
  go_wp2_with fail
  have hlow : ∀ W, Keeps [w2.heap.size] w3 W → Below w2.heap.size w2 W := fun W hk => b3.trans (hk.toBelow (by omega) (by simp))
  have hpa := put_all q vf' vc' w2.heap.size w3 hW (HH.out.below B3 (Nat.le_refl _)) (HE.out.below B3) (fun W hk => HE.out.below (B2.trans ((hlow W hk).mono hs2))) (fun W hk => hr2.f.below' (hlow W hk) (Nat.le_refl _)) ⟨hr2.below b3 (Nat.le_refl _), hsz⟩
  obtain ⟨fl, b, E, hB⟩ : ∃ fl b E, paBody q = (fl, b, E) := ⟨_, _, _, rfl⟩
  rw [hB] at hpa
  have hpa' : Calls Tryz.prog (putF q.k) #[.pointer (some ⟨w2.heap.size, 0, none⟩)] w3 (GivesL w3 w2.heap.size (q.cells vf' vc') fl b E) := hpa
  have HB := hd hB
  refine hpa'.mono ?_
  clear hpa hpa' hB
  rintro e w4 ⟨rfl, hW4, hk4⟩
  have B4 : Below w.heap.size w w4 := B2.trans ((hlow w4 hk4).mono hs2)
  replace h1 := (h1.keep b3 (by omega)).keeps hk4 (by simp; omega)
  have hs4 := hW4.lt
  clear h3 f3 b3 c0 hW hlow hk4
  by_cases hE0 : E = 0
  rotate_left
  · have hEb : (E != 0) = true := by simpa using hE0
    have hpe : paPutE p = E := by unfold paPutE; rw [HQ.out, HB.out]; exact if_pos hE0
    have hpb : paPutB p = [] := by unfold paPutB; rw [hpe, if_neg hE0]
    rw [hpe, hpb]
    go_wp2_with fail
    go_ret2
    rw [hpe, hpb]
    exact GivesB.nil B4
  subst hE0
  have hpe : paPutE p = hPutE p.k fl b.length := by unfold paPutE; rw [HQ.out, HB.out]; exact if_neg (by simp)
  have hpb : paPutB p = if hPutE p.k fl b.length = 0 then hPutB p.k fl b.length ++ b else [] := by unfold paPutB; rw [hpe, HQ.out, HB.out]
  have c0 := h1.drew.at 0 H0.out
  have hsb : (sOf b).size = b.length := sOf_sizeP b
  go_wp2_with fail
  have HW4 := hW4.drew
  have B4d := B4.drew
  refine wp_region_M (fun W => W.cell? ⟨w.heap.size, 0, none⟩ = some (.int .i64 p.k) ∧ WrapAt W w2.heap.size (q.cells vf' vc') fl b) 17 [(0, false), (1, false), (2, false), (3, false), (4, false), (5, false), (6, false), (7, false), (8, false), (9, false), (10, false), (11, false), (12, true), (13, false), (14, false), (15, false), (16, false), (17, true)] (by kernel_rfl) (by kernel_rfl) (fun _ _ _ _ h => h) ⟨c0, HW4⟩ ?_
  have hz4 : w4.drew.heap.size = w4.heap.size := rfl
  clear hW4 B4 h1
  generalize w4.drew = w5 at *
  apply wpM_still (by rfl) (by rfl)
  · intro W hC
    go_simp
    rfl
  go_simp
  apply wpM_still (by rfl) (by rfl)
  · intro W hC
    have d := hC.1
    go_simp
    rfl
  go_simp
  apply wpM_still (by rfl) (by rfl)
  · intro W hC
    go_simp
    rfl
  go_simp
  apply wpM_still (by rfl) (by rfl)
  · intro W hC
    go_simp
    rfl
  go_simp
  apply wpM_still (by rfl) (by rfl)
  · intro W hC
    go_simp
    rfl
  go_simp
  apply wpM_still (by rfl) (by rfl)
  · intro W hC
    have d := WrapAt.cf hC.2
    go_simp
    rfl
  go_simp
  apply wpM_still (by rfl) (by rfl)
  · intro W hC
    go_simp
    rfl
  go_simp
  apply wpM_still (by rfl) (by rfl)
  · intro W hC
    go_simp
    rfl
  go_simp
  apply wpM_still (by rfl) (by rfl)
  · intro W hC
    go_simp
    rfl
  go_simp
  apply wpM_still (by rfl) (by rfl)
  · intro W hC
    have d := WrapAt.cb hC.2
    go_simp
    rfl
  go_simp
  apply wpM_still (by rfl) (by rfl)
  · intro W hC
    go_simp
    rfl
  go_simp
  apply wpM_still (by rfl) (by rfl)
  · intro W hC
    go_simp
    rfl
  go_simp
  apply wpM_move (by rfl) (by rfl)
  intro K hK
  go_simp
  refine (hPut_c p.k fl b.length w5 (HH.out.below B4d (Nat.le_refl _))).mono ?_
  rintro e w6 ⟨v6, rfl, ho6, hb6⟩
  go_simp
  refine hK _ _ (fun _ => ⟨(hb6.cell (p := ⟨w.heap.size, 0, none⟩) (by show w.heap.size < w5.heap.size; omega)).trans c0, HW4.keep hb6 HW4.lt⟩) ?_
  clear hK K
  apply wpM_still (by rfl) (by rfl)
  · intro W hC
    go_simp
    rfl
  go_simp
  apply wpM_still (by rfl) (by rfl)
  · intro W hC
    go_simp
    rfl
  go_simp
  apply wpM_still (by rfl) (by rfl)
  · intro W hC
    go_simp
    rfl
  go_simp
  apply wpM_still (by rfl) (by rfl)
  · intro W hC
    go_simp
    rfl
  go_simp
  apply wpM_move (by rfl) (by rfl)
  intro K hK
  go_simp
  refine hK _ _ (fun h => absurd h (by decide)) ?_
  clear hK K
  refine wpM_nil ?_
  have HW6 := HW4.keep hb6 HW4.lt
  have B6 : Below w.heap.size w w6 := B4d.trans (hb6.mono B4d.size)
  by_cases hh : hPutE p.k fl b.length = 0
  rotate_left
  · have hhb : (hPutE p.k fl b.length != 0) = true := by simpa using hh
    go_wp2_with fail
    go_ret2
    rw [hpe, hpb, if_neg hh]
    exact GivesB.nil B6
  have hbl : b.length ≤ 4096 := by have := (hPutE_ok hh).2.2; omega
  have hHB : (hPutB p.k fl b.length).length ≤ 3 := by rw [hPutB_ok hh, hBytes_len]; split <;> omega
  rw [hh]
  have cb := HW6.cb
  generalize hPutB p.k fl b.length = hb at *
  have ho7 : Owned w.heap.size w6 v6 hb := Owns.le ho6 (by omega)
  have HO := hd ho7
  clear ho6 ho7
  go_wp2_with (at_builtin; refine wp_appS rfl _ _ rfl w.heap.size v6 hb rfl HO.out (sOf b) rfl (by omega) B6.size ?_; intro v7 w7 ho7 hb7)
  go_ret2
  rw [hpe, hpb, if_pos hh, hh]
  exact ⟨v7, rfl, ho7, B6.trans hb7⟩
end Go.Proofs.YtjlnlgemngpelaaGreatDoor

/- Wishes: the program's iterator over filters: its contract. -/
namespace Go.Proofs.YtjlnlgemngpelaaGreatDoor
open Go.RowKit Go.Shelf
set_option linter.unusedVariables false
set_option linter.unusedSimpArgs false
attribute [local go_sem] Oper.semAt_some

/-- the place behind k reads; what the k-th read hands out -/
def sbPlace (ends : Bool) (l : List UInt8) : Nat → Int
  | 0 => 2
  | k + 1 => (sbRead l (sbPlace ends l k) ends).2.1
abbrev Item := Wish × Int
def sbItem (ends : Bool) (l : List UInt8) (k : Nat) : Item := ((sbRead l (sbPlace ends l k) ends).1, (sbRead l (sbPlace ends l k) ends).2.2)
def sbItems (ends : Bool) (l : List UInt8) (k : Nat) : List Item := (List.range k).map (sbItem ends l)
theorem sbItems_succ (ends : Bool) (l : List UInt8) (k : Nat) : sbItems ends l (k + 1) = sbItems ends l k ++ [sbItem ends l k] := by simp [sbItems, List.range_succ]
theorem sbItems_len (ends : Bool) (l : List UInt8) (k : Nat) : (sbItems ends l k).length = k := by simp [sbItems]
/-- k reads went well -/
def sbWell (ends : Bool) (l : List UInt8) (k : Nat) : Prop := ∀ j, j < k → (sbItem ends l j).2 = 0 ∧ sbPlace ends l j < l.length
theorem sbWell.place {ends : Bool} {l : List UInt8} : ∀ {k : Nat}, sbWell ends l k → 2 ≤ l.length → 2 + (k : Int) ≤ sbPlace ends l k ∧ sbPlace ends l k ≤ l.length
  | 0, _, h2 => by simp [sbPlace]; omega
  | k + 1, h, h2 => by
    have ih := sbWell.place (k := k) (fun j hj => h j (by omega)) h2
    have hk := sbRead_rng (h k (by omega)).1
    simp only [sbPlace]
    omega
def itemV (x : Item) : Array Value := #[.agg #[.string x.1.1, .int .i64 x.1.2], .int .i64 x.2]
def sbDone (ends : Bool) (l : List UInt8) (xs : List Item) : Prop :=
  ∃ k, xs = sbItems ends l k ∧ sbWell ends l k ∧ (l.length : Int) ≤ sbPlace ends l k ∨ xs = sbItems ends l (k + 1) ∧ sbWell ends l k ∧ sbPlace ends l k < l.length ∧ (sbItem ends l k).2 ≠ 0
def sbStop (ends : Bool) (l : List UInt8) (xs : List Item) : Prop := ∃ k, xs = sbItems ends l (k + 1) ∧ sbWell ends l k ∧ sbPlace ends l k < l.length

/-- A frame: the blocks below B, but those of a list, lie as they lay. -/
structure KeepsU (S : List Nat) (B : Nat) (w w' : World) : Prop where
  os : w'.os = w.os
  tape : w'.tape = w.tape
  output : w'.output = w.output
  size : w.heap.size ≤ w'.heap.size
  block : ∀ k, k < B → k ∉ S → w'.heap[k]? = w.heap[k]?
theorem KeepsU.refl (S : List Nat) (B : Nat) (w : World) : KeepsU S B w w := ⟨rfl, rfl, rfl, Nat.le_refl _, fun _ _ _ => rfl⟩
theorem KeepsU.trans {S : List Nat} {B : Nat} {a b c : World} (h : KeepsU S B a b) (k : KeepsU S B b c) : KeepsU S B a c :=
  ⟨k.os.trans h.os, k.tape.trans h.tape, k.output.trans h.output, Nat.le_trans h.size k.size, fun i hi hn => (k.block i hi hn).trans (h.block i hi hn)⟩
theorem KeepsU.below {S : List Nat} {B n : Nat} {w w' : World} (h : Below n w w') (hn : B ≤ n) : KeepsU S B w w' := ⟨h.os, h.tape, h.output, h.size, fun k hk _ => h.block k (by omega)⟩
theorem KeepsU.alloc {S : List Nat} {B : Nat} {a w : World} (h : KeepsU S B a w) (hB : B ≤ w.heap.size) (o : Obj) : KeepsU S B a (w.alloc o) :=
  h.trans (KeepsU.below ((Below.refl _ w).alloc (Nat.le_refl _) o) hB)
theorem KeepsU.setCell {S : List Nat} {B : Nat} {a w : World} (h : KeepsU S B a w) {p : Addr} (hp : p.block ∈ S ∨ B ≤ p.block) (u : Value) : KeepsU S B a (w.setCell p u) :=
  ⟨h.os, h.tape, h.output, by simpa [World.setCell] using h.size, fun k hk hn => (Below.heap_setCell _ _ _ _ (fun e => by
    rcases hp with hp | hp
    · exact hn (e ▸ hp)
    · omega)).trans (h.block k hk hn)⟩
theorem KeepsU.cell {S : List Nat} {B : Nat} {w w' : World} (h : KeepsU S B w w') {b o : Nat} (hb : b < B) (hn : b ∉ S) : w'.cell? ⟨b, o, none⟩ = w.cell? ⟨b, o, none⟩ := World.cell?_of_block (w := w) (h.block b hb hn)
theorem KeepsU.toBelow {S : List Nat} {B C : Nat} {w w' : World} (h : KeepsU S B w w') (hC : C ≤ B) (hS : ∀ k, k ∈ S → C ≤ k) : Below C w w' :=
  ⟨h.os, h.tape, h.output, h.size, fun k hk => h.block k (by omega) (fun hm => by have := hS k hm; omega)⟩
theorem Bs.keepsU {S : List Nat} {B : Nat} {w w' : World} {v : Value} {l : List UInt8} (h : Bs w v l) (hk : KeepsU S B w w') (ho : ∀ a n c, v = .slice (some a) n c → a.block < B ∧ a.block ∉ S) : Bs w' v l := by
  obtain ⟨a, c, rfl, h1, h2, h3, h4⟩ := h
  refine ⟨a, c, rfl, h1, h2, h3, fun ad had j u hu => ?_⟩
  subst had
  obtain ⟨hlt, hno⟩ := ho ad _ _ rfl
  have e : w'.cell? (ad.add j) = w.cell? (ad.add j) := World.cell?_of_block (w := w) (by
    have : (ad.add j).block = ad.block := by unfold Addr.add; split <;> rfl
    rw [this]
    exact hk.block _ hlt hno)
  rw [e]
  exact h4 ad rfl j u hu

theorem grown_of_below {w w' : World} (h : Below w.heap.size w w') : w.grownBy w' none := ⟨h.os, h.tape, h.output, h.size, fun k hk _ => h.block k hk⟩

set_option maxRecDepth 100000 in
set_option maxHeartbeats 4000000 in
theorem wishes1_in (n : Nat) (hn : 1 ≤ n) (lp Bb Be : Nat) (S : List Nat) (B : Nat) (v : Value) (l : List UInt8) (ends : Bool) (J Jx : List Item → World → Prop)
    (W : World) (hJ : AbidesFrom W.heap.size J)
    (hY : ∀ pre x W, J pre W → pre.length < l.length → YieldAt Fence.wide (n - 1) Tryz.prog lp (itemV x) W fun e W' =>
      (e = .returned (.bool true) ∧ J (pre ++ [x]) W' ∧ KeepsU S B W W') ∨ (e = .returned (.bool false) ∧ Jx (pre ++ [x]) W'))
    (hBb : W.cell? ⟨Bb, 0, none⟩ = some v) (hBe : W.cell? ⟨Be, 0, none⟩ = some (.bool ends)) (hv : Bs W v l) (hn0 : B ≤ W.heap.size) (hb0 : Bb < B ∧ Bb ∉ S) (he0 : Be < B ∧ Be ∉ S) (hvb : ∀ a n c, v = .slice (some a) n c → a.block < B ∧ a.block ∉ S)
    (hE : ∀ W', KeepsU S B W W' → EnvU W') (hl2 : 2 ≤ l.length) (hlm : l.length ≤ 140737488351232) (h0 : J [] W) :
    CallsIn Fence.wide n Tryz.prog 161 #[.func (.yield lp) #[] #[], .pointer (some ⟨Bb, 0, none⟩), .pointer (some ⟨Be, 0, none⟩)] W fun e W' => (∃ v, e = .returned v) ∧
      ((∃ ys, sbDone ends l ys ∧ J ys W') ∨ (∃ pre, sbStop ends l pre ∧ Jx pre W')) := by
  obtain ⟨a, c, rfl⟩ := hv.slice
  have HE := hd hE; have HV := hd hv; have HY := hd hY; clear hE hv hY
  refine callsIn_of_wp Tryz.func161 rfl trivial ?_ rfl
  simp only [Tryz.ntmps161, List.size_toArray, List.length_cons, List.length_nil, Nat.reduceAdd, Nat.reduceSub, Array.replicate_succ, Array.replicate_zero, List.push_toArray, List.append_toArray, List.nil_append, List.cons_append]
  gi_wp2
  gi_loopw [4] (fun p wr => ∃ k : Nat, p = .int .i64 (sbPlace ends l k) ∧ sbWell ends l k ∧ J (sbItems ends l k) wr ∧ KeepsU S B W wr)
    (fun p wr => leftTo l.length p)
  case atStart => exact ⟨0, rfl, fun j hj => by omega, h0, KeepsU.refl _ _ _⟩
  case round =>
    obtain ⟨k, rfl, hw, hJk, hB⟩ := hrel
    have hcb := (hB.cell hb0.1 hb0.2).trans hBb
    have hce := (hB.cell he0.1 he0.2).trans hBe
    have hBs := hB.size
    by_cases hpl : sbPlace ends l k < (l.length : Int)
    rotate_left
    · gi_wp2
      go_end0
      exact ⟨⟨_, rfl⟩, .inl ⟨_, ⟨k, .inl ⟨rfl, hw, by omega⟩⟩, hJk⟩⟩
    have hpk := hw.place hl2
    have hvr : Bs wr (.slice a l.length c) l := HV.out.keepsU hB hvb
    have hrd := read_c _ l (sbPlace ends l k) ends wr (HE.out _ hB) hvr (by omega)
    have hrr := @sbRead_rng l (sbPlace ends l k) ends
    have hpn : sbPlace ends l (k + 1) = (sbRead l (sbPlace ends l k) ends).2.1 := rfl
    have hit : sbItem ends l k = ((sbRead l (sbPlace ends l k) ends).1, (sbRead l (sbPlace ends l k) ends).2.2) := rfl
    have hY1 := HY.out (sbItems ends l k) (sbItem ends l k)
    rw [hit] at hY1
    have hdone : (sbItem ends l k).2 ≠ 0 → sbDone ends l (sbItems ends l k ++ [sbItem ends l k]) := fun h => ⟨k, .inr ⟨(sbItems_succ ends l k).symm, hw, hpl, h⟩⟩
    have hstop : sbStop ends l (sbItems ends l k ++ [sbItem ends l k]) := ⟨k, (sbItems_succ ends l k).symm, hw, hpl⟩
    have hnext : (sbItem ends l k).2 = 0 → sbWell ends l (k + 1) := fun h j hj => by
      rcases Nat.lt_succ_iff_lt_or_eq.1 hj with hj | rfl
      · exact hw j hj
      · exact ⟨h, hpl⟩
    have hsucc := sbItems_succ ends l k
    rw [hit] at hdone hstop hnext hsucc
    clear hit
    generalize sbRead l (sbPlace ends l k) ends = r at hrd hrr hpn hY1 hdone hstop hnext hsucc
    obtain ⟨⟨T, q⟩, tn, er⟩ := r
    unfold GivesRd at hrd
    simp only at hrd hrr hpn hY1 hdone hstop hnext hsucc
    have HRD := hd hrd; have HY1 := hd hY1; clear hrd hY1
    gi_wp2
    refine ⟨trivial, (callsIn_wide.2 HRD.out).mono ?_⟩
    rintro e w3 ⟨rfl, hb3⟩
    have hb3s := hb3.size
    have hJ3 : J (sbItems ends l k) (w3.alloc (.cells #[.string T, .int .i64 q] 76)) :=
      hJ _ _ _ none (hJ _ _ _ none hJk (grown_of_below hb3) (fun r e => by cases e)) (World.grownBy_alloc w3 _ none) (fun r e => by cases e)
    have hB3 : KeepsU S B W (w3.alloc (.cells #[.string T, .int .i64 q] 76)) := (hB.trans (KeepsU.below hb3 (by omega))).alloc (by omega) _
    obtain ⟨fn, tmps, assign, body, hy, hR⟩ := HY1.out _ hJ3 (by rw [sbItems_len]; omega)
    simp only [itemV] at hy
    clear HRD HY1 HY hb3 hJk hcb hce
    gi_wp2
    refine hR.mono ?_
    rintro e W3 (⟨rfl, hJ4, hk4⟩ | ⟨rfl, hJx4⟩)
    · by_cases hz : er = 0
      · subst hz
        obtain ⟨p0, p1, p2⟩ := hrr rfl
        gi_wp2
        go_roundw
        case rel => exact ⟨k + 1, by rw [hpn], hnext (by simp), by rw [hsucc]; exact hJ4, hB3.trans hk4⟩
        case measure => simp [leftTo]; omega
      · have hzb : (er != 0) = true := by simpa using hz
        gi_wp2
        refine bodyPost_ret (results_none rfl _ _ _) rfl ?_
        exact ⟨⟨_, rfl⟩, .inl ⟨_, hdone hz, hJ4⟩⟩
    · gi_wp2
      refine bodyPost_ret (results_none rfl _ _ _) rfl ?_
      exact ⟨⟨_, rfl⟩, .inr ⟨_, hstop, hJx4⟩⟩
end Go.Proofs.YtjlnlgemngpelaaGreatDoor

/- Wishes: what bytes tell: the walk of the program's Of, a loop over its iterator. -/
namespace Go.Proofs.YtjlnlgemngpelaaGreatDoor
open Go.RowKit Go.Shelf
set_option linter.unusedVariables false
set_option linter.unusedSimpArgs false
attribute [local go_sem] Oper.semAt_some

/-- []byte(s): where the new bytes lie. -/
theorem run_bytesW (s : ByteArray) (hs : s.size ≤ 140737488355327) (w : World) : ∃ c W', (convert 9 23 (.string s)).run Tryz.prog w = .ok (.slice (some ⟨w.heap.size, 0, none⟩) (sB s).length c) W' ∧ Bs W' (.slice (some ⟨w.heap.size, 0, none⟩) (sB s).length c) (sB s) ∧ Below w.heap.size w W' ∧ w.heap.size < W'.heap.size := by
  obtain ⟨c, W', hr, hB, hb⟩ := run_bytes s hs w
  refine ⟨c, W', hr, hB, hb, ?_⟩
  have h2 := Lib.run_convert_string_bytes w 9 23 5 s Tryz.underlying9 Tryz.underlying23 Tryz.underlying5
  rw [hr] at h2
  simp only [Result.ok.injEq] at h2
  rw [h2.2, Lib.bytesWorld_size]
  omega
set_option maxRecDepth 100000 in
theorem upon_bytesW {o : Oper} {a : Act} {K : Act → World → Prop} {Q : Exit → Act → World → Prop} {W : World} {s : ByteArray} {f : Value → World → Result Next} (hs : s.size ≤ 140737488355327)
    (h : ∀ ad c W', Bs W' (.slice (some ad) (sB s).length c) (sB s) → Below W.heap.size W W' → W.heap.size ≤ ad.block → ad.block < W'.heap.size → Oper.upon Tryz.prog o a K Q ((Result.ok (.slice (some ad) (sB s).length c) W').andThen f)) :
    Oper.upon Tryz.prog o a K Q ((Sem.run Tryz.prog (convert 9 23 (.string s)) W).andThen f) := by
  obtain ⟨c, W', hr, hB, hb, hl⟩ := run_bytesW s hs W
  rw [hr]
  exact h _ c W' hB hb (Nat.le_refl _) hl

set_option maxRecDepth 100000 in
theorem wishes_c (sa : Option Addr) (sn sc : Nat) (ends : Bool) (w : World) :
    Calls Tryz.prog 151 #[.slice sa sn sc, .bool ends] w fun e w' => e = .returned (.func (.func 161) #[] #[.pointer (some ⟨w.heap.size, 0, none⟩), .pointer (some ⟨w.heap.size + 1, 0, none⟩)]) ∧ w' = (w.alloc (.cells #[.slice sa sn sc] 23)).alloc (.cells #[.bool ends] 4) := by
  have hmf : ∀ (fn : Fn) (first cap : Array Value) (w : World), (Instr.makeFunc fn first cap).run Tryz.prog w = .ok (.func fn first cap) w := fun _ _ _ _ => rfl
  go_enter Tryz.func151, Tryz.ntmps151
  go_wp2_with fail
  go_ret
  exact ⟨rfl, rfl⟩

/-- a boxed wish -/
def Boxed2 (W : World) (B : Nat) (f : Wish) : Prop := W.heap[B]? = some (.cells #[.string f.1, .int .i64 f.2] 76 (0, 0))
theorem ownW_block {B : Nat} {w : World} {v : Value} {l : List Wish} (h : OwnW B w v l) : ∀ k, v.ownBlock = some k → B ≤ k ∧ ∃ o : Obj, w.heap[k]? = some o ∧ o.isCells = true := by
  rcases h.2 with ⟨rfl, _⟩ | ⟨g, cap, cur, rfl, hb, hg, _⟩
  · intro k e; cases e
  · intro k e
    cases e
    exact ⟨hb, _, hg, rfl⟩
theorem ownW_grown {B : Nat} {w w' : World} {row : Option Nat} {v : Value} {l : List Wish} (h : OwnW B w v l) (hg : w.grownBy w' row) (hne : ∀ k, v.ownBlock = some k → some k ≠ row) : OwnW B w' v l := by
  refine ⟨h.1, ?_⟩
  rcases h.2 with h0 | ⟨g, cap, cur, rfl, h1, h2, h3⟩
  · exact .inl h0
  · exact .inr ⟨g, cap, cur, rfl, h1, by rw [hg.block g (Array.getElem?_eq_some_iff.1 h2).1 (hne g rfl)]; exact h2, h3⟩
theorem not_row {B : Nat} {w : World} {row : Option Nat} (hr : ∀ r, row = some r → B ≤ r ∧ ∃ o : Obj, w.heap[r]? = some o ∧ o.isCells = false) : ∀ (k : Nat) (o : Obj), w.heap[k]? = some o → o.isCells = true → some k ≠ row := by
  intro k o ho hc e
  obtain ⟨_, o', ho', hc'⟩ := hr k e.symm
  rw [ho] at ho'
  cases ho'
  rw [hc] at hc'
  cases hc'
/-- append(out, f) of one wish, in a round. -/
theorem wpIn_appW1 {F : Fence} {n : Nat} {w : World} {ops : Array Oper} {rest : List Oper} {o : Oper} {a : Act} {Q : Exit → Act → World → Prop} (hgd : o.guard = none) (s x : Operand)
    (ho : o.op = .call { callee := .builtin .append, args := #[s, x], argTypes := #[33, 33] })
    (B : Nat) (v : Value) (l : List Wish) (hv : a.eval s = v) (hown : OwnW B w v l) (T : ByteArray) (X : Int) (hx : a.eval x = .slice (some ⟨w.heap.size, 0, none⟩) 1 1)
    (hlen : l.length < 1000000) (hbase : B ≤ w.heap.size)
    (h : ∀ v' w', OwnW B w' v' (l ++ [(T, X)]) → Below B w w' → KeepsOthers w w' → wpListIn F n Tryz.prog ops Q rest (a.put o.dst v') w') : wpListIn F n Tryz.prog ops Q (o :: rest) a (w.alloc (.cells #[.string T, .int .i64 X] 76)) := by
  obtain ⟨i0, hi, hz0, hz1, hz2⟩ := info_parts info_filter
  have hb : Below B w (w.alloc (.cells #[.string T, .int .i64 X] 76)) := (Below.refl B w).alloc hbase _
  have hb' : Below w.heap.size w (w.alloc (.cells #[.string T, .int .i64 X] 76)) := (Below.refl _ w).alloc (Nat.le_refl _) _
  have hown' : OwnW B (w.alloc (.cells #[.string T, .int .i64 X] 76)) v l := hown.kept hb' (Nat.le_refl _)
  have hbl := ownW_block hown'
  refine wpListIn_append_own _ hgd s x 33 ho B 76 i0 (.agg #[.string ⟨#[]⟩, .int .i64 0]) 2 24 Tryz.underlying33 hi hz0 hz1 hz2 rfl (by decide) v l.length (wCells l) hv hown' ⟨w.heap.size, 0, none⟩ 1 1 [.string T, .int .i64 X] hx rfl ?_ (by intro u hu; simp at hu; rcases hu with rfl | rfl <;> rfl) (by unfold maxLen; omega) (by omega) (by simp; omega) ?_
  · intro j u hu
    match j, hu with
    | 0, hu => cases hu; exact World.cell?_alloc_new w _ _ 0
    | 1, hu => cases hu; exact World.cell?_alloc_new w _ _ 1
    | j + 2, hu => simp at hu
  · intro v' w' h1 h2 _
    refine h v' w' ?_ (hb.grown h2 (by simp; omega) (fun k e => (hbl k e).1)) ((KeepsOthers.alloc w _).trans (KeepsOthers.of_grownBy h2 (fun j o e ho => by
      obtain ⟨_, o', ho', hc⟩ := hbl j e
      rw [ho'] at ho; cases ho; exact hc)))
    unfold OwnW
    rw [List.length_append, wCells_append]
    exact h1

theorem wishes_stops (n : Nat) (hn : 1 ≤ n) (Bb Be : Nat) (S : List Nat) (B : Nat) (v : Value) (l : List UInt8) (ends : Bool) (w : World)
    (hBb : w.cell? ⟨Bb, 0, none⟩ = some v) (hBe : w.cell? ⟨Be, 0, none⟩ = some (.bool ends)) (hv : Bs w v l) (hn0 : B ≤ w.heap.size) (hb0 : Bb < B ∧ Bb ∉ S) (he0 : Be < B ∧ Be ∉ S) (hvb : ∀ a n c, v = .slice (some a) n c → a.block < B ∧ a.block ∉ S)
    (hE : ∀ W', KeepsU S B w W' → EnvU W') (hl2 : 2 ≤ l.length) (hlm : l.length ≤ 140737488351232) :
    SeqStopsK Fence.wide n Tryz.prog 161 #[.pointer (some ⟨Bb, 0, none⟩), .pointer (some ⟨Be, 0, none⟩)] itemV (KeepsU S B) (sbDone ends l) (sbStop ends l) l.length w := fun lp J Jx W hW hJ hJx hY h0 =>
  wishes1_in n hn lp Bb Be S B v l ends J Jx W hJ hY ((hW.cell (p := ⟨Bb, 0, none⟩) (by simp; omega)).trans hBb) ((hW.cell (p := ⟨Be, 0, none⟩) (by simp; omega)).trans hBe)
    (hv.below' hW (Nat.le_refl _)) (Nat.le_trans hn0 hW.size) hb0 he0 hvb (fun W' hk => hE W' ((KeepsU.below hW hn0).trans hk)) hl2 hlm h0

/-! ### what the loop has come to -/
theorem sbAll_run {ends : Bool} {l : List UInt8} : ∀ {k : Nat}, k ≤ 8 → sbWell ends l k → sbAll ends l 9 [] 2 = sbAll ends l (9 - k) ((sbItems ends l k).map (·.1)) (sbPlace ends l k)
  | 0, _, _ => rfl
  | k + 1, hk, h => by
    have ih := sbAll_run (ends := ends) (l := l) (k := k) (by omega) (fun j hj => h j (by omega))
    obtain ⟨h1, h2⟩ := h k (by omega)
    have hlen : ((sbItems ends l k).map (·.1)).length = k := by rw [List.length_map, sbItems_len]
    have hm := @sbAll_more ends l ((sbItems ends l k).map (·.1)) (sbPlace ends l k) (by omega) h2 h1
    rw [hlen, List.length_append, hlen] at hm
    rw [ih, hm, sbItems_succ, List.map_append]
    rfl
theorem sbAll_done {ends : Bool} {l : List UInt8} {xs : List Item} (h : sbDone ends l xs) (h8 : xs.length ≤ 8) (h0 : ∀ x ∈ xs, x.2 = 0) : sbAll ends l 9 [] 2 = (xs.map (·.1), 0) := by
  obtain ⟨k, ⟨rfl, hw, hp⟩ | ⟨rfl, hw, hp, he⟩⟩ := h
  · rw [sbItems_len] at h8
    have hlen : ((sbItems ends l k).map (·.1)).length = k := by rw [List.length_map, sbItems_len]
    rw [sbAll_run h8 hw]
    have := @sbAll_end ends l ((sbItems ends l k).map (·.1)) (sbPlace ends l k) (by omega) hp
    rw [hlen] at this
    exact this
  · exact absurd (h0 _ (by rw [sbItems_succ]; simp)) he
theorem sbAll_stop {ends : Bool} {l : List UInt8} {ini : List Item} {x : Item} {bad : Int} (h : sbStop ends l (ini ++ [x])) (hb : ini.length = 8 ∧ bad = 6 ∨ ini.length < 8 ∧ x.2 ≠ 0 ∧ bad = x.2) : sbAll ends l 9 [] 2 = ([], bad) := by
  obtain ⟨k, hk, hw, hp⟩ := h
  rw [sbItems_succ] at hk
  have hi : ini = sbItems ends l k := (List.append_inj' hk rfl).1
  have hx : x = sbItem ends l k := by have := (List.append_inj' hk rfl).2; simpa using this
  subst hi hx
  have hlen : ((sbItems ends l k).map (·.1)).length = k := by rw [List.length_map, sbItems_len]
  rw [sbItems_len] at hb
  rcases hb with ⟨h8, rfl⟩ | ⟨h8, he, rfl⟩
  · rw [sbAll_run (by omega) hw]
    have := @sbAll_full ends l ((sbItems ends l k).map (·.1)) (sbPlace ends l k) (by omega) hp
    rw [hlen] at this
    exact this
  · rw [sbAll_run (by omega) hw]
    have := @sbAll_bad ends l ((sbItems ends l k).map (·.1)) (sbPlace ends l k) (by omega) hp he
    rw [hlen] at this
    exact this

theorem below_drewPut {w W : World} {D : Nat} (h : Below w.heap.size w W) (hD : w.heap.size ≤ D) (n : Nat) (o : Obj) : Below w.heap.size w ((W.drewN n).putObj D o) := by
  have h' : Below w.heap.size w (W.drewN n) := ⟨h.os, h.tape, h.output, h.size, h.block⟩
  exact h'.grown (grownBy_putObj' (W.drewN n) D o) h.size (fun k e => by cases e; exact hD)
/-- between two rounds · a round has left -/
structure SbI (w : World) (b n0 : Nat) (pre : List Item) (W : World) : Prop where
  row : ∃ v, Boxed W b 33 v ∧ OwnW n0 W v (pre.map (·.1))
  bad : Boxed W (b + 1) 27 (.int .i64 0)
  few : pre.length ≤ 8
  well : ∀ x ∈ pre, x.2 = 0
  b : Below w.heap.size w W
  size : n0 ≤ W.heap.size
structure SbIx (w : World) (b n0 : Nat) (c : Code) (xs : List Item) (W : World) : Prop where
  c : c = .exit 0
  why : ∃ ini x bad, xs = ini ++ [x] ∧ (ini.length = 8 ∧ bad = 6 ∨ ini.length < 8 ∧ x.2 ≠ 0 ∧ bad = x.2) ∧ bad ≠ 0 ∧ (∃ v n c, Boxed W b 33 (.slice v n c)) ∧ Boxed W (b + 1) 27 (.int .i64 bad)
  b : Below w.heap.size w W
  size : n0 ≤ W.heap.size

set_option maxRecDepth 100000 in
set_option maxHeartbeats 16000000 in
theorem subsOf_c (s : ByteArray) (ends : Bool) (w : World) (hE : EnvU w) (hs : s.size ≤ 140737488351232) :
    Calls Tryz.prog 129 #[.string s, .bool ends] w (GivesW w (sbOf (sB s) ends)) := by
  have HE := hd hE; clear hE
  have hsl : Hd ((sB s).length = s.size) := sB_len s
  have hbr := @sbBegin_rng (sB s)
  have hof : sbOf (sB s) ends = sbOf (sB s) ends := rfl
  conv at hof => rhs; rw [sbOf]
  generalize sbOf (sB s) ends = R at hof ⊢
  have HO := hd hof; clear hof
  refine (callsIn_wide (n := 8)).1 ?_
  refine callsIn_of_wp_marks Tryz.func129 rfl trivial ?_ rfl
  simp only [Tryz.ntmps129, List.size_toArray, List.length_cons, List.length_nil, Nat.reduceAdd, Nat.reduceSub, Array.replicate_succ, Array.replicate_zero, List.push_toArray, List.append_toArray, List.nil_append, List.cons_append]
  refine wpIn_wide.2 ?_
  go_wp2_with fail
  go_step3
  go_wp2_with fail
  refine (subBegin_c s _ hs).mono ?_
  generalize sbBegin (sB s) = g at hbr HO ⊢
  obtain ⟨id, e⟩ := g
  simp only at hbr HO ⊢
  rintro e' w1 ⟨rfl, hb⟩
  by_cases he : e = 0
  rotate_left
  · have heb : (e != 0) = true := by simpa using he
    go_wp2_with fail
    rw [Exit.noGoto_ret]
    exact ⟨_, results_tmp3 rfl _ _ _, GivesW.nil e (by rw [HO.out, if_pos he]) hb⟩
  subst he
  have h2l := (hbr rfl).1
  clear hbr
  have HO2 := hd (HO.out.trans (if_neg (by simp))); clear HO
  go_wp2_with fail
  go_step3
  go_wp2_with fail
  refine upon_bytesW (by omega) fun d1 k1 w2 hs2 hb2 hd0 hd1 => ?_
  go_wp2_with fail
  refine (wishes_c _ _ _ ends _).mono ?_
  rintro e' w3 ⟨rfl, rfl⟩
  have hw1 : w.heap.size ≤ w1.heap.size := hb.size
  have hb10 : Boxed (w1.alloc (Obj.cells #[.slice none 0 0] 33)) w1.heap.size 33 (.slice none 0 0) := Boxed.new _ _ _
  have bL : Boxed ((w2.alloc (.cells #[.slice (some d1) (sB s).length k1] 23)).alloc (.cells #[.bool ends] 4)) w1.heap.size 33 (.slice none 0 0) :=
    Boxed.alloc (Boxed.alloc ((hb2.block _ (by simp; omega)).trans (hb10.alloc _)) _) _
  have bE : Boxed ((w2.alloc (.cells #[.slice (some d1) (sB s).length k1] 23)).alloc (.cells #[.bool ends] 4)) (w1.heap.size + 1) 27 (.int .i64 0) := by
    have h := Boxed.new (w1.alloc (Obj.cells #[.slice none 0 0] 33)) 27 (.int .i64 0)
    rw [World.size_alloc] at h
    exact Boxed.alloc (Boxed.alloc ((hb2.block _ (by simp)).trans h) _) _
  have hs2s : w1.heap.size + 2 ≤ w2.heap.size := by have := hb2.size; simp at this; omega
  simp only [World.size_alloc] at hd0
  have hbW : Below w.heap.size w ((w2.alloc (.cells #[.slice (some d1) (sB s).length k1] 23)).alloc (.cells #[.bool ends] 4)) :=
    ((Below.up (by go_grown) hb2).box).box
  have hcb : ((w2.alloc (.cells #[.slice (some d1) (sB s).length k1] 23)).alloc (.cells #[.bool ends] 4)).cell? ⟨w2.heap.size, 0, none⟩ = some (.slice (some d1) (sB s).length k1) := by simp [go_sem]
  have hce : ((w2.alloc (.cells #[.slice (some d1) (sB s).length k1] 23)).alloc (.cells #[.bool ends] 4)).cell? ⟨w2.heap.size + 1, 0, none⟩ = some (.bool ends) := by simp [go_sem]
  have hv : Bs ((w2.alloc (.cells #[.slice (some d1) (sB s).length k1] 23)).alloc (.cells #[.bool ends] 4)) (.slice (some d1) (sB s).length k1) (sB s) := hs2.below' (((Below.refl w2.heap.size w2).alloc (Nat.le_refl _) _).alloc (by simp) _) (Nat.le_refl _)
  have hsz : ((w2.alloc (.cells #[.slice (some d1) (sB s).length k1] 23)).alloc (.cells #[.bool ends] 4)).heap.size = w2.heap.size + 2 := by simp
  have hll : (sB s).length ≤ 140737488351232 := by rw [hsl.out]; exact hs
  go_wp2_with fail
  obtain ⟨W0, hW0⟩ : ∃ W0, (w2.alloc (.cells #[.slice (some d1) (sB s).length k1] 23)).alloc (.cells #[.bool ends] 4) = W0 := ⟨_, rfl⟩
  rw [hW0] at bL bE hbW hcb hce hv hsz ⊢
  clear hW0 hb10 hs2 hb2 hsl
  generalize sB s = l at *
  refine (wpIn_wide (n := 8)).1 ?_
  refine wpIn_rangeFunc_ownH (F := Fence.wide) rfl (by omega) (gf := 161) (lb := #[.pointer (some ⟨w2.heap.size, 0, none⟩), .pointer (some ⟨w2.heap.size + 1, 0, none⟩)]) rfl trivial (enters_of Tryz.func161 (by kernel_rfl) rfl)
    (wishes_stops (8 - 1) (by omega) w2.heap.size (w2.heap.size + 1) [w1.heap.size, w1.heap.size + 1] W0.heap.size (.slice (some d1) l.length k1) l ends W0 hcb hce hv (Nat.le_refl _) ⟨by omega, by simp; omega⟩ ⟨by omega, by simp; omega⟩
      (fun a n c e => by cases e; exact ⟨by omega, by simp; omega⟩) (fun W' hk => HE.out.below (hbW.trans (hk.toBelow (by omega) (fun k hk => by simp at hk; omega)))) h2l hll)
    (fun h k => h.trans k) (fun W lk o o' hl hW hc hwk => by
      obtain ⟨g1, g2, g3, g4, g5⟩ := grownBy_putObj' W lk o'
      have hlt := (Array.getElem?_eq_some_iff.1 hW).1
      exact ⟨g1, g2, g3, g4, fun k hk _ => g5 k (by omega) (by simp; omega)⟩) (Below.refl _ _) (fun _ => rfl)
    (SbI w w1.heap.size W0.heap.size) (SbIx w w1.heap.size W0.heap.size)
    ?hI ?hIx ⟨⟨_, bL, OwnW.nil _ _⟩, bE, by simp, by simp, hbW, Nat.le_refl _⟩
    (fun x a' W => ∃ Bx, W0.heap.size ≤ Bx ∧ Boxed2 W Bx x.1 ∧ a' = { tmps := #[.string s, .bool ends, undef, undef, .int .i64 0, .slice none 0 0, .int .i64 0, .int .i64 id, .int .i64 0, .pointer (some ⟨w1.heap.size, 0, none⟩), .pointer (some ⟨w1.heap.size + 1, 0, none⟩), .pointer (some ⟨Bx, 0, none⟩), .int .i64 x.2, .tuple #[.int .i64 id, .int .i64 0], .string s, .tuple #[.int .i64 id, .int .i64 0], .int .i64 id, .int .i64 0, .int .i64 0, .bool false, undef, .string s, .slice (some d1) l.length k1, .bool ends, .func (.func 161) #[] #[.pointer (some ⟨w2.heap.size, 0, none⟩), .pointer (some ⟨w2.heap.size + 1, 0, none⟩)], .agg #[.string x.1.1, .int .i64 x.1.2], .int .i64 x.2, undef, undef, undef, undef, undef, undef, undef, undef, undef, undef, undef, undef, undef, undef, undef, undef, undef, undef, undef, undef, undef, undef], defers := [] })
    ?hAx ?assign ?body ?done ?stop
  all_goals (have Hsz := hd hsz; clear hsz)
  case hI =>
    intro pre A B row hs hg hr
    have hq := Hsz.out
    obtain ⟨⟨v, b1, ow⟩, b2, hp8, hp0, hbb, hz⟩ := hs
    have hne := not_row hr
    exact ⟨⟨v, b1.kept hg (hne _ _ b1 rfl), ownW_grown ow hg (fun k e => by obtain ⟨_, o, ho, hc⟩ := ownW_block ow k e; exact hne _ _ ho hc)⟩, b2.kept hg (hne _ _ b2 rfl), hp8, hp0, hbb.grown hg hbb.size (fun k e => by have := (hr k e).1; omega), Nat.le_trans hz hg.size⟩
  case hIx =>
    intro c pre A B row hs hg hr
    have hq := Hsz.out
    obtain ⟨hc, ⟨ini, x, bad, h1, h2, h3, ⟨v, n, cc, b1⟩, b2⟩, hbb, hz⟩ := hs
    have hne := not_row hr
    exact ⟨hc, ⟨ini, x, bad, h1, h2, h3, ⟨v, n, cc, b1.kept hg (hne _ _ b1 rfl)⟩, b2.kept hg (hne _ _ b2 rfl)⟩, hbb.grown hg hbb.size (fun k e => by have := (hr k e).1; omega), Nat.le_trans hz hg.size⟩
  case hAx =>
    intro x a' u A B row hs hg hr
    obtain ⟨Bx, h1, h2, h3⟩ := hs
    exact ⟨Bx, h1, (hg.block Bx (Array.getElem?_eq_some_iff.1 h2).1 (not_row hr _ _ h2 rfl)).trans h2, h3⟩
  case assign =>
    rintro lp pre x W K ⟨⟨v, b1, ow⟩, b2, hp8, hp0, hbb, hz⟩ hK
    obtain ⟨⟨T, q⟩, er⟩ := x
    simp only [itemV]
    gi_wp2
    exact hK _ _ ((KeepsOthers.alloc _ _).from _) ((KeepsU.refl _ _ _).alloc hz _) ⟨⟨v, b1.alloc _, ow.kept ((Below.refl _ _).alloc (Nat.le_refl _) _) (Nat.le_refl _)⟩, b2.alloc _, hp8, hp0, hbb.alloc hbb.size _, by simp; omega⟩ ⟨W.heap.size, hz, World.alloc_heap_new W _, rfl⟩
  case body =>
    rintro lp pre x a' W hlw ⟨r, hr⟩ ⟨⟨v, b1, ow⟩, b2, hp8, hp0, hbb, hz⟩ ⟨Bx, hBx, bX, rfl⟩ hlt
    have hsz' := Hsz.out
    have hq9 : w1.heap.size + 1 < W0.heap.size := by omega
    clear hsz'
    obtain ⟨⟨T, q⟩, er⟩ := x
    obtain ⟨va, vc, rfl⟩ := ow.ws.slice
    simp only [List.length_map] at b1 ow
    have hc1 := b1.cell; have hf1 := b1.frozen; have hc2 := b2.cell; have hf2 := b2.frozen
    have hx0 : W.cell? ⟨Bx, 0, none⟩ = some (.string T) := by simp [World.cell?, show W.heap[Bx]? = _ from bX]
    have hx1 : W.cell? ⟨Bx, 1, none⟩ = some (.int .i64 q) := by simp [World.cell?, show W.heap[Bx]? = _ from bX]
    by_cases h8 : pre.length = 8
    · have h8b : (8 : Int) ≤ (pre.length : Int) := by omega
      dsimp only
      gi_wp2
      exact ⟨(KeepsOthers.setCell _ _ _).from _, rfl, ⟨pre, _, 6, rfl, .inl ⟨h8, rfl⟩, by decide, ⟨_, _, _, b1.kept (grownBy_setCell' W (w1.heap.size + 1) _) (by simp)⟩, b2.set _⟩, hbb.setCell (by simp; omega) _, by simpa using hz⟩
    have h8b : ¬ (8 : Int) ≤ (pre.length : Int) := by omega
    by_cases he : er = 0
    rotate_left
    · have heb : (er != 0) = true := by simpa using he
      dsimp only
      gi_wp2
      exact ⟨(KeepsOthers.setCell _ _ _).from _, rfl, ⟨pre, _, er, rfl, .inr ⟨by omega, he, rfl⟩, he, ⟨_, _, _, b1.kept (grownBy_setCell' W (w1.heap.size + 1) _) (by simp)⟩, b2.set _⟩, hbb.setCell (by simp; omega) _, by simpa using hz⟩
    subst he
    have hlm : (pre.map (·.1)).length < 1000000 := by simp; omega
    dsimp only
    have hle : (pre.map (·.1) ++ [(T, q)]).length = pre.length + 1 := by simp
    have Hle := hd hle; clear hle
    gi_wp2_with (gi_at_builtin; refine wpIn_appW1 rfl _ _ rfl W0.heap.size _ (pre.map (·.1)) rfl ow T q rfl hlm hz ?_; intro v' w' ho' hb' hk'; obtain ⟨a', c', rfl⟩ := ho'.ws.slice; rw [Hle.out] at ho' ⊢; have hc' := (bcell hb' w1.heap.size 0 (by omega)).trans hc1; have hf' := (bfree hb' w1.heap.size 0 (by omega)).trans hf1)
    have bL' : Boxed w' w1.heap.size 33 (.slice va pre.length vc) := (hb'.block _ (by omega)).trans b1
    have bE' : Boxed w' (w1.heap.size + 1) 27 (.int .i64 0) := (hb'.block _ (by omega)).trans b2
    refine ⟨(hk'.trans (KeepsOthers.setCell _ _ _)).from _, (KeepsU.below hb' (Nat.le_refl _)).setCell (.inl (by simp)) _, ⟨_, bL'.set _, ?_⟩, bE'.kept (grownBy_setCell' w' w1.heap.size _) (by simp), by simp; omega, ?_, (hbb.trans (hb'.mono (by omega))).setCell (by simp; omega) _, ?_⟩
    · rw [List.map_append]
      exact ownW_grown ho' (grownBy_setCell' w' w1.heap.size _) (fun k e => by have := (ownW_block ho' k e).1; simp; omega)
    · intro y hy
      rcases List.mem_append.1 hy with hy | hy
      · exact hp0 y hy
      · simp at hy; subst hy; rfl
    · have := hb'.size; simp; omega
  case done =>
    rintro D xs W hD hS ⟨⟨v, b1, ow⟩, b2, hp8, hp0, hbb, hz⟩ hK
    have hall := sbAll_done hS hp8 hp0
    have HO3 := HO2.out; clear HO2
    rw [hall, if_neg (by simp)] at HO3
    simp only at HO3
    obtain ⟨va, vc, rfl⟩ := ow.ws.slice
    have hc1 := b1.cell; have hc2 := b2.cell
    have HO4 := hd HO3; clear HO3
    by_cases hx : xs.map (·.1) = []
    · rw [hx] at hc1 ow HO4
      go_wp2_with fail
      refine ⟨by simp, .inl ⟨_, _, rfl, run_takeDeferred hK, ?_⟩⟩
      exact ⟨_, results_tmp3 rfl _ _ _, GivesW.nil 4 (by rw [HO4.out]; simp) (hbb.grown (grownBy_putObj' W D _) hbb.size (fun k e => by cases e; have := Hsz.out; omega))⟩
    · have hxl : ((xs.map (·.1)).length : Int) ≠ 0 := by
        intro e
        exact hx (List.eq_nil_of_length_eq_zero (by omega))
      have hle : (xs.map (·.1)).length = xs.length := List.length_map ..
      rw [hle] at hxl hc1 ow
      have hxb : ((xs.length : Int) == 0) = false := by simpa using hxl
      have Hx := hd hx; clear hx hxl hle
      go_wp2_with fail
      go_quiet (fail)
      go_wp2_with fail
      rw [Exit.noGoto_ret]
      refine ⟨by simp, .inl ⟨_, _, rfl, run_takeDeferred (show _ from hK), ?_⟩⟩
      refine ⟨_, results_tmp3 rfl _ _ _, ?_⟩
      rw [HO4.out, if_neg Hx.out]
      refine ⟨_, rfl, ?_, ?_⟩
      · exact (ownW_grown (show OwnW W0.heap.size (W.drewN _) _ _ from ow) (grownBy_putObj' _ D _) (fun k e => by
          obtain ⟨_, o, ho, hcl⟩ := ownW_block ow k e
          intro ek
          cases ek
          rw [hK] at ho
          cases ho
          cases hcl)).le hbW.size
      · exact (show Below w.heap.size w (W.drewN _) from ⟨hbb.os, hbb.tape, hbb.output, hbb.size, hbb.block⟩).grown (grownBy_putObj' _ D _) hbb.size (fun k e => by cases e; have := Hsz.out; omega)
  case stop =>
    rintro D c pre W hD hS ⟨rfl, ⟨ini, x, bad, rfl, hbad, hb0, ⟨va, vn, vc, b1⟩, b2⟩, hbb, hz⟩ hK
    have hall := sbAll_stop hS hbad
    have HO3 := HO2.out; clear HO2
    rw [hall, if_pos hb0] at HO3
    have HO4 := hd HO3; clear HO3
    have hc1 := b1.cell; have hc2 := b2.cell
    have hbb0 : (bad != 0) = true := by simpa using hb0
    refine wpIn_wide.2 ?_
    go_wp2_with fail
    go_quiet (fail)
    go_wp2_with fail
    rw [Exit.noGoto_ret]
    refine ⟨by simp, .inl ⟨_, _, rfl, run_takeDeferred (show _ from hK), ?_⟩⟩
    refine ⟨_, results_tmp3 rfl _ _ _, ?_⟩
    have hfin : Below w.heap.size w ((W.drewN nq).putObj D (Obj.deferred none)) := below_drewPut hbb (by have := Hsz.out; omega) _ _
    exact GivesW.nil bad HO4.out hfin
end Go.Proofs.YtjlnlgemngpelaaGreatDoor
