/- A bundle of texts (merged for the limit on files): Cn, Cn2, Cn3, Cn4, Cn5, Cn6, Cn7, Cn8, Cn9, CnPlain, Cn11, Txts, LevSplit, LevFilter, LevRef. -/
import Derived.Test.YtjlnlgemngpelaaGreatDoorZa5
import Derived.Test.YtjlnlgemngpelaaGreatDoorZa20
import Derived.Test.YtjlnlgemngpelaaGreatDoorZa19
import Derived.Lib.Builder
import Derived.Lib.UnsafeStr
import Derived.Test.YtjlnlgemngpelaaGreatDoorZa21
import Derived.Test.YtjlnlgemngpelaaGreatDoorZa27
import Derived.Test.YtjlnlgemngpelaaGreatDoorZa32
import Derived.Laws.LoneSync
import Derived.Test.YtjlnlgemngpelaaGreatDoorZa23
import Derived.Test.YtjlnlgemngpelaaGreatDoorZa3
import Derived.Test.YtjlnlgemngpelaaGreatDoorZa4
import Derived.WalkMore
import Derived.ScopeJumps
import Derived.BigQuiet
/- A connection: its cells; who came, the will, closing, feeding; nobody's connection. -/
namespace Go.Proofs.YtjlnlgemngpelaaGreatDoor
open Go.RowKit
set_option linter.unusedVariables false
set_option linter.unusedSimpArgs false

/-- What a connection holds. -/
structure Cn where
  rw : Bool
  out : List UInt8
  fr : FrS
  first : Bool
  closed : Bool
  bad : Int
  who : Con
  came : Bool
  will : Bool
def Cn.new : Cn := ⟨true, [], ([], 0, 0), true, false, 0, Con.zero, false, false⟩
def Cn.cells (s : Cn) (va vb vg : Value) : List Value :=
  [va, vb, vg, .bool s.first, .bool s.closed, .int .i64 s.bad, .int .i64 s.who.level, .bool s.who.clean, .int .i64 s.who.keep, .string s.who.client, .bool s.who.hasWill, .string s.who.topic, .string s.who.text, .int .i64 s.who.qos, .bool s.who.retain, .bool s.who.hasUser, .string s.who.user, .bool s.who.hasPass, .string s.who.pass, .bool s.came, .bool s.will]
theorem info_conn : (Tryz.prog.info? 69).map (·.size) = some 21 := by kernel_rfl
theorem Owned.blk_ge {B : Nat} {w : World} {v : Value} {l : List UInt8} (h : Owned B w v l) : ∀ k, k ∈ blk v → B ≤ k := by
  intro k hk
  unfold Owned World.ownsRow at h
  rcases h.2 with ⟨rfl, -⟩ | ⟨b, r, c, rfl, hb, -⟩
  · simp [blk, Value.ownBlock] at hk
  · simp [blk, Value.ownBlock] at hk; omega
theorem Owned.lift {B : Nat} {w : World} {v : Value} {l : List UInt8} (h : Owned 0 w v l) (hb : ∀ k, k ∈ blk v → B ≤ k) : Owned B w v l := by
  unfold Owned World.ownsRow at h ⊢
  refine ⟨h.1, ?_⟩
  rcases h.2 with h1 | ⟨b, r, c, rfl, hb0, h2⟩
  · exact .inl h1
  · exact .inr ⟨b, r, c, rfl, hb b (by simp [blk, Value.ownBlock]), h2⟩
theorem Owned.blk_lt {B : Nat} {w : World} {v : Value} {l : List UInt8} (h : Owned B w v l) : ∀ k, k ∈ blk v → k < w.heap.size := by
  intro k hk
  exact (World.ownsRow.lt h k (by simpa [blk] using hk)).2
theorem shape_setCells (b : Nat) : ∀ (vs : List Value) (o : Nat) (w : World) (k : Nat), (w.setCells b o vs).shape? k = w.shape? k
  | [], _, _, _ => rfl
  | v :: r, o, w, k => by rw [World.setCells, shape_setCells b r, shape_setCell]
theorem shape_lt {w : World} {k : Nat} {x : TypeId × Nat} (h : w.shape? k = some x) : k < w.heap.size := by
  unfold World.shape? at h
  by_cases hk : k < w.heap.size
  · exact hk
  · simp [Array.getElem?_eq_none (by omega : w.heap.size ≤ k)] at h
/-- Bytes that may be read: none, or a row that begins its block. -/
def Held (B : Nat) (w : World) (v : Value) (l : List UInt8) : Prop := (v = Nl ∧ l = []) ∨ (l ≠ [] ∧ ∃ b cap n, v = .slice (some ⟨b, 0, none⟩) l.length cap ∧ B ≤ b ∧ l.length ≤ cap ∧ l.length ≤ n ∧ l.length ≤ maxLen ∧ w.shape? b = some (5, n) ∧ ∀ j x, l[j]? = some x → w.cell? ⟨b, j, none⟩ = some (.int .u8 x.toNat))
theorem Held.keeps {B : Nat} {S : List Nat} {w w' : World} {v : Value} {l : List UInt8} (h : Held B w v l) (hk : Keeps S w w') (hS : ∀ k, k ∈ S → k < B) : Held B w' v l := by
  rcases h with h | ⟨h0, b, cap, n, rfl, hb, h1, h2, h3, hs, hc⟩
  · exact .inl h
  · have hlt := shape_lt hs
    have hn : b ∉ S := fun hm => by have := hS b hm; omega
    exact .inr ⟨h0, b, cap, n, rfl, hb, h1, h2, h3, (shape_of_block (hk.block b hlt hn)).trans hs, fun j x hx => (hk.cell hlt hn).trans (hc j x hx)⟩
theorem Held.kept {B : Nat} {w w' : World} {v : Value} {l : List UInt8} (h : Held B w v l) (hb : Below w.heap.size w w') : Held B w' v l := h.keeps (S := []) (Keeps.below hb) (by simp)
theorem Held.of {B : Nat} {w : World} {v : Value} {l : List UInt8} (h : Owned B w v l) (hn : l = [] → v = Nl) : Held B w v l := by
  by_cases hl : l = []
  · exact .inl ⟨hn hl, hl⟩
  · have hl0 : l.length ≠ 0 := by simpa using hl
    have h' := h
    unfold Owned World.ownsRow at h
    rcases h.2 with ⟨-, hz⟩ | ⟨b, cap, cur, rfl, hbg, hg, hnc, hcm, hcs, htake⟩
    · exact absurd hz hl0
    · refine .inr ⟨hl, b, cap, cur.size, rfl, hbg, hnc, by omega, by omega, by simp [World.shape?, hg], fun j x hx => ?_⟩
      have := World.ownsRow.cells h' (g := b) rfl j (.int .u8 x.toNat) (by simp [byteV, hx])
      have e : ((⟨b, 0, none⟩ : Addr).add j) = ⟨b, j, none⟩ := by cases j <;> simp [Addr.add]
      rw [e] at this
      exact this
theorem Held.blk_ge {B : Nat} {w : World} {v : Value} {l : List UInt8} (h : Held B w v l) : ∀ k, k ∈ blk v → B ≤ k := by
  intro k hk
  rcases h with ⟨rfl, -⟩ | ⟨-, b, cap, n, rfl, hb, -⟩
  · simp [blk, Value.ownBlock] at hk
  · simp [blk, Value.ownBlock] at hk; omega
structure CnAt (w : World) (g c : Nat) (s : Cn) : Prop where
  ex : ∃ va vb, At w c (s.cells va vb (.pointer (some ⟨g, 0, none⟩))) ∧ (va = .pointer none ∨ va = .pointer (some ⟨c, 0, none⟩)) ∧ (Held (c + 1) w vb s.out ∧ (s.rw = true → Owned (c + 1) w vb s.out)) ∧ FrAt w g s.fr.1 s.fr.2.1 s.fr.2.2 (c :: blk vb)
  free : Free w c
  gc : g < c
  sh : w.shape? c = some (69, 21)
theorem CnAt.lt {w : World} {g c : Nat} {s : Cn} (h : CnAt w g c s) : c < w.heap.size := by
  obtain ⟨va, vb, hA, -⟩ := h.ex
  exact hA.lt
theorem CnAt.mk' {w w' : World} {g c : Nat} {s s' : Cn} {va vb : Value} (hA : At w' c (s'.cells va vb (.pointer (some ⟨g, 0, none⟩)))) (hf : Free w' c) (hk : Keeps [c] w w') (hva : va = .pointer none ∨ va = .pointer (some ⟨c, 0, none⟩))
    (hown : Held (c + 1) w vb s.out ∧ (s.rw = true → Owned (c + 1) w vb s.out)) (hfr : FrAt w g s.fr.1 s.fr.2.1 s.fr.2.2 (c :: blk vb)) (gc : g < c) (hsh : w'.shape? c = some (69, 21)) (ho : s'.out = s.out) (hr : s'.fr = s.fr) (hw : s'.rw = s.rw) : CnAt w' g c s' := by
  have hlt : ∀ k, k ∈ [c] → k < c + 1 := by intro k hk; simp at hk; omega
  refine ⟨⟨va, vb, hA, hva, ⟨?_, fun hr => ?_⟩, ?_⟩, hf, gc, hsh⟩
  · rw [ho]; exact hown.1.keeps hk hlt
  · rw [ho]; exact Owns.keeps (hown.2 (by rw [← hw]; exact hr)) hk hlt
  · rw [hr]
    refine hfr.after (S := c :: blk vb) (hk.mono (by intro k hk; simp at hk; simp [hk])) ?_ (fun k hk => .inl hk) (fun k hk' => Nat.lt_of_lt_of_le (hfr.ltS k hk') hk.size)
    intro hm
    rcases List.mem_cons.1 hm with rfl | hm
    · omega
    · have := hown.1.blk_ge g hm; omega
theorem CnAt.grow {w w' : World} {g c : Nat} {s : Cn} (h : CnAt w g c s) (hb : Below w.heap.size w w') : CnAt w' g c s := by
  obtain ⟨⟨va, vb, hA, hva, hown, hfr⟩, hf, gc, hsh⟩ := h
  exact ⟨⟨va, vb, hA.keep hb hA.lt, hva, ⟨hown.1.kept hb, fun hr => Owned.kept (hown.2 hr) hb (Nat.le_refl _)⟩, hfr.below hb⟩, hf.keep hb hA.lt, gc, (shape_of_block (hb.block c hA.lt)).trans hsh⟩

/-- Nobody made it. -/
def CnNil (w : World) (p : Option Addr) : Prop := p = none ∨ ∃ z, p = some ⟨z, 0, none⟩ ∧ w.cell? ⟨z, 2, none⟩ = some (.pointer none)
set_option maxRecDepth 100000 in
theorem cnNone_c (c g : Nat) (w : World) (h : w.cell? ⟨c, 2, none⟩ = some (.pointer (some ⟨g, 0, none⟩))) : Calls Tryz.prog 27 #[.pointer (some ⟨c, 0, none⟩)] w fun e w' => e = .returned (.bool false) ∧ w = w' := by
  go_enter Tryz.func27, Tryz.ntmps27
  go_wp2_with fail
  go_ret
  exact ⟨rfl, rfl⟩
set_option maxRecDepth 100000 in
theorem cnNoneN_c (p : Option Addr) (w : World) (h : CnNil w p) : Calls Tryz.prog 27 #[.pointer p] w fun e w' => e = .returned (.bool true) ∧ w = w' := by
  rcases h with rfl | ⟨z, rfl, hz⟩
  all_goals
    go_enter Tryz.func27, Tryz.ntmps27
    go_wp2_with fail
    go_ret
    exact ⟨rfl, rfl⟩

/-! ### Nobody's -/
theorem CnNil.low {w w' : World} {p : Option Addr} (h : CnNil w p) (hb : Below w.heap.size w w') (hp : ∀ z, p = some z → z.block < w.heap.size) : CnNil w' p := by
  rcases h with h | ⟨z, h, hz⟩
  · exact .inl h
  · exact .inr ⟨z, h, (bcell hb z 2 (hp _ h)).trans hz⟩
set_option maxRecDepth 100000 in
theorem cnFeedN_c (p : Option Addr) (s : ByteArray) (w : World) (h : CnNil w p) : Calls Tryz.prog 10 #[.pointer p, .string s] w fun e w' => e = .returned (.int .i64 8) ∧ w = w' := by
  have H := hd h; clear h
  go_enter Tryz.func10, Tryz.ntmps10
  go_wp2_with fail
  refine (cnNoneN_c p _ H.out).mono ?_
  rintro e w' ⟨rfl, rfl⟩
  go_wp2_with fail
  go_ret
  exact ⟨rfl, rfl⟩
set_option maxRecDepth 100000 in
theorem cnClosedN_c (p : Option Addr) (w : World) (h : CnNil w p) : Calls Tryz.prog 25 #[.pointer p] w fun e w' => e = .returned (.bool true) ∧ w = w' := by
  have H := hd h; clear h
  go_enter Tryz.func25, Tryz.ntmps25
  go_wp2_with fail
  refine (cnNoneN_c p _ H.out).mono ?_
  rintro e w' ⟨rfl, rfl⟩
  go_wp2_with fail
  go_ret
  exact ⟨rfl, rfl⟩
set_option maxRecDepth 100000 in
theorem cnCloseN_c (p : Option Addr) (w : World) (h : CnNil w p) : Calls Tryz.prog 24 #[.pointer p] w fun e w' => e = .returned (.bool false) ∧ w = w' := by
  have H := hd h; clear h
  go_enter Tryz.func24, Tryz.ntmps24
  go_wp2_with fail
  refine (cnClosedN_c p _ H.out).mono ?_
  rintro e w' ⟨rfl, rfl⟩
  go_wp2_with fail
  go_ret
  exact ⟨rfl, rfl⟩
set_option maxRecDepth 100000 in
theorem cnWaitsN_c (p : Option Addr) (w : World) (h : CnNil w p) : Calls Tryz.prog 15 #[.pointer p] w fun e w' => e = .returned (.int .i64 0) ∧ w = w' := by
  have H := hd h; clear h
  go_enter Tryz.func15, Tryz.ntmps15
  go_wp2_with fail
  refine (cnNoneN_c p _ H.out).mono ?_
  rintro e w' ⟨rfl, rfl⟩
  go_wp2_with fail
  go_ret
  exact ⟨rfl, rfl⟩
set_option maxRecDepth 100000 in
theorem cnOutN_c (p : Option Addr) (w : World) (h : CnNil w p) : Calls Tryz.prog 22 #[.pointer p] w fun e w' => e = .returned (.string ⟨#[]⟩) ∧ w = w' := by
  have H := hd h; clear h
  go_enter Tryz.func22, Tryz.ntmps22
  go_wp2_with fail
  refine (cnNoneN_c p _ H.out).mono ?_
  rintro e w' ⟨rfl, rfl⟩
  go_wp2_with fail
  go_ret
  exact ⟨rfl, rfl⟩
theorem Below.alloc' {w w' : World} {p : Option Addr} (h : CnNil w p) (hp : ∀ z, p = some z → z.block < w.heap.size) (hb : Below w.heap.size w w') : Hd (CnNil w' p) := hd (h.low hb hp)
set_option maxRecDepth 100000 in
theorem cnAlloc_con (W : World) : (Instr.alloc 32 true (.tuple #[])).run Tryz.prog W = .ok (.pointer (some ⟨W.heap.size, 0, none⟩)) (W.alloc (.cells Con.zero.cells.toArray 32)) := by
  simp [Instr.alloc, newVar, go_sem, Con.cells, Con.zero]
set_option maxRecDepth 100000 in
theorem build_con0 (W : World) : (Instr.build 32 #[]).run Tryz.prog W = .ok (.agg Con.zero.cells.toArray) W := by
  simp [Instr.build, go_sem, Con.cells, Con.zero]
theorem ret_con {w : World} {b : Nat} {l : List Value} (h : At w b l) (hl : l.length = 13) : (loadVar 32 ⟨b, 0, none⟩).run Tryz.prog w = .ok (.agg l.toArray) w :=
  run_loadVar_mid w b 0 32 l _ h.range Tryz.underlying32 rfl (by rw [hl]; exact info_con)
def msg0 : List Value := [.string ⟨#[]⟩, .string ⟨#[]⟩, .int .i64 0, .bool false]
theorem msg0_one : ∀ v ∈ msg0, v.oneCell' = true := by
  intro v hv
  have : msg0.all (·.oneCell') = true := rfl
  exact (List.all_eq_true.1 this) v hv
theorem cnAlloc_msg (W : World) : (Instr.alloc 30 true (.tuple #[])).run Tryz.prog W = .ok (.pointer (some ⟨W.heap.size, 0, none⟩)) (W.alloc (.cells msg0.toArray 30)) := by
  simp [Instr.alloc, newVar, go_sem, msg0]
theorem build_msg0 (W : World) : (Instr.build 30 #[]).run Tryz.prog W = .ok (.agg msg0.toArray) W := by
  simp [Instr.build, go_sem, msg0]
theorem ret_msg {w : World} {b : Nat} {l : List Value} (h : At w b l) (hl : l.length = 4) : (loadVar 30 ⟨b, 0, none⟩).run Tryz.prog w = .ok (.agg l.toArray) w :=
  run_loadVar_mid w b 0 30 l _ h.range Tryz.underlying30 rfl (by rw [hl]; exact info_msg)
set_option maxRecDepth 100000 in
theorem cnWhoN_c (p : Option Addr) (w : World) (h : CnNil w p) (hp : ∀ z, p = some z → z.block < w.heap.size) : Calls Tryz.prog 16 #[.pointer p] w fun e w' => e = .returned (.tuple #[.agg Con.zero.cells.toArray, .bool false]) ∧ Below w.heap.size w w' := by
  have H := hd h; clear h
  have HP := hd hp; clear hp
  go_enter Tryz.func16, Tryz.ntmps16
  go_wp2_with (first
    | (with_reducible refine wpl_alloc (o := ⟨some 2, .alloc 32, _, _, _, _⟩) rfl _ rfl Con.zero.cells cnAlloc_con _ rfl ?_; intro w1 h1 f1 b1 z1))
  refine (cnNoneN_c p _ (H.out.low b1 HP.out)).mono ?_
  rintro e w' ⟨rfl, rfl⟩
  go_wp2_with (first
    | ((with_reducible refine wpl_at (o := ⟨some 13, .build 32 #[], _, _, _, _⟩) ?_); refine wpl_build rfl _ _ rfl #[] (by simp) _ build_con0 ?_)
    | ((with_reducible refine wpl_at (o := ⟨none, .store 32 (.tmp 2) (.tmp 13), _, _, _, _⟩) ?_); refine wpl_storeAll rfl rfl _ _ _ rfl w.heap.size Con.zero.cells Con.zero.cells rfl rfl info_con (Con.one _) h1 rfl f1 ?_; intro w9 h9 f9 k9 z9))
  refine bodyPost_ret (v := .tuple #[.agg Con.zero.cells.toArray, .bool false]) (results_cell_tmp Tryz.results16 rfl (ret_con h9 rfl) rfl) rfl ?_
  exact ⟨rfl, b1.trans (k9.toBelow b1.size (by simp))⟩
set_option maxRecDepth 100000 in
theorem cnWillN_c (p : Option Addr) (w : World) (h : CnNil w p) (hp : ∀ z, p = some z → z.block < w.heap.size) : Calls Tryz.prog 17 #[.pointer p] w fun e w' => e = .returned (.tuple #[.agg msg0.toArray, .bool false]) ∧ Below w.heap.size w w' := by
  have H := hd h; clear h
  have HP := hd hp; clear hp
  go_enter Tryz.func17, Tryz.ntmps17
  go_wp2_with (first
    | (with_reducible refine wpl_alloc (o := ⟨some 2, .alloc 30, _, _, _, _⟩) rfl _ rfl msg0 cnAlloc_msg _ rfl ?_; intro w1 h1 f1 b1 z1))
  refine (cnNoneN_c p _ (H.out.low b1 HP.out)).mono ?_
  rintro e w' ⟨rfl, rfl⟩
  go_wp2_with (first
    | ((with_reducible refine wpl_at (o := ⟨some 13, .build 30 #[], _, _, _, _⟩) ?_); refine wpl_build rfl _ _ rfl #[] (by simp) _ build_msg0 ?_)
    | ((with_reducible refine wpl_at (o := ⟨none, .store 30 (.tmp 2) (.tmp 13), _, _, _, _⟩) ?_); refine wpl_storeAll rfl rfl _ _ _ rfl w.heap.size msg0 msg0 rfl rfl info_msg msg0_one h1 rfl f1 ?_; intro w9 h9 f9 k9 z9))
  refine bodyPost_ret (v := .tuple #[.agg msg0.toArray, .bool false]) (results_cell_tmp Tryz.results17 rfl (ret_msg h9 rfl) rfl) rfl ?_
  exact ⟨rfl, b1.trans (k9.toBelow b1.size (by simp))⟩
end Go.Proofs.YtjlnlgemngpelaaGreatDoor

/- A connection that was made: New, Feed, Who, Will, Forget, Accept, Close, Waits. -/
namespace Go.Proofs.YtjlnlgemngpelaaGreatDoor
open Go.RowKit
set_option linter.unusedVariables false
set_option linter.unusedSimpArgs false

theorem Cn.who_in (s : Cn) (va vb vg : Value) : ∀ j v, s.who.cells[j]? = some v → (s.cells va vb vg)[6 + j]? = some v := by
  intro j v h
  have e : s.cells va vb vg = [va, vb, vg, .bool s.first, .bool s.closed, .int .i64 s.bad] ++ (s.who.cells ++ [.bool s.came, .bool s.will]) := rfl
  rw [e, List.getElem?_append_right (by simp), List.getElem?_append_left (by have := (List.getElem?_eq_some_iff.1 h).1; simpa using this)]
  simpa using h
def Con.msg (x : Con) : List Value := [.string x.topic, .string x.text, .int .i64 x.qos, .bool x.retain]
theorem Con.msg_one (x : Con) : ∀ v ∈ x.msg, v.oneCell' = true := by
  intro v hv
  have : (x.msg).all (·.oneCell') = true := rfl
  exact (List.all_eq_true.1 this) v hv
theorem Cn.msg_in (s : Cn) (va vb vg : Value) : ∀ j v, s.who.msg[j]? = some v → (s.cells va vb vg)[11 + j]? = some v := by
  intro j v h
  have e : s.cells va vb vg = [va, vb, vg, .bool s.first, .bool s.closed, .int .i64 s.bad, .int .i64 s.who.level, .bool s.who.clean, .int .i64 s.who.keep, .string s.who.client, .bool s.who.hasWill] ++ (s.who.msg ++ [.bool s.who.hasUser, .string s.who.user, .bool s.who.hasPass, .string s.who.pass, .bool s.came, .bool s.will]) := rfl
  rw [e, List.getElem?_append_right (by simp), List.getElem?_append_left (by have := (List.getElem?_eq_some_iff.1 h).1; simpa using this)]
  simpa using h
theorem wpl_boxS {w : World} {ops : Array Oper} {rest : List Oper} {o : Oper} {a : Act} {Q : Exit → Act → World → Prop} (hgd : o.guard = none) (ty : TypeId) (x : Operand) (ho : o.op = .box ty x) (L : List Value) (hx : a.eval x = .agg L.toArray) (g : Nat) (hg : w.heap.size = g)
    (h : ∀ w', At w' g L → Free w' g → Below g w w' → w'.heap.size = g + 1 → w'.shape? g = some (ty, L.length) → wpList Tryz.prog ops Q rest (a.put o.dst (.pointer (some ⟨g, 0, none⟩))) w') : wpList Tryz.prog ops Q (o :: rest) a w := by
  subst hg
  refine wpList_plain hgd fun K hK => ?_
  have hr : (Instr.box ty (.agg L.toArray)).run Tryz.prog w = .ok (.pointer (some ⟨w.heap.size, 0, none⟩)) (w.alloc (.cells L.toArray ty)) := by
    simp [Instr.box, newVar, go_sem]
  unfold Oper.wp execOp
  simp only [ho, hx, Sem.run_bind, Sem.run_pure, hr, Result.andThen_ok]
  exact hK _ _ (h _ (At.new _ _ _) (Free.new _ _ _) ((Below.refl _ _).alloc (Nat.le_refl _) _) (by simp [go_sem]) (by have e : (w.alloc (.cells L.toArray ty)).heap = w.heap.push (.cells L.toArray ty) := rfl; unfold World.shape?; rw [e]; simp))
/-- The framer has turned, nothing else. -/
theorem CnAt.side {w w' : World} {g c : Nat} {s : Cn} {va vb : Value} (hA : At w c (s.cells va vb (.pointer (some ⟨g, 0, none⟩)))) (hf : Free w c) (hva : va = .pointer none ∨ va = .pointer (some ⟨c, 0, none⟩)) (hown : Held (c + 1) w vb s.out ∧ (s.rw = true → Owned (c + 1) w vb s.out)) (gc : g < c) (hsh : w.shape? c = some (69, 21))
    (hk : Keeps [g] w w') {l : List UInt8} {t d : Int} (hfr : FrAt w' g l t d (c :: blk vb)) : CnAt w' g c { s with fr := (l, t, d) } := by
  have hn : c ∉ [g] := by simp; omega
  have hlt : ∀ k, k ∈ [g] → k < c + 1 := by intro k hk; simp at hk; omega
  exact ⟨⟨va, vb, hA.keeps hk hn, hva, ⟨hown.1.keeps hk hlt, fun hr => Owns.keeps (hown.2 hr) hk hlt⟩, hfr⟩, hf.keeps hk hA.lt hn, gc, (shape_of_block (hk.block c hA.lt hn)).trans hsh⟩
set_option maxRecDepth 100000 in
theorem build_conn (p : Option Addr) (W : World) : (Instr.build 69 #[(1, .pointer p), (2, .bool true)]).run Tryz.prog W = .ok (.agg (Cn.new.cells (.pointer none) Nl (.pointer p)).toArray) W := by
  simp [Instr.build, go_sem, Cn.cells, Cn.new, Con.zero]
set_option maxRecDepth 100000 in
theorem cnNew_c (w : World) : Calls Tryz.prog 8 #[] w fun e w' => ∃ g c, e = .returned (.pointer (some ⟨c, 0, none⟩)) ∧ CnAt w' g c Cn.new ∧ w.heap.size ≤ g ∧ Below w.heap.size w w' := by
  go_enter Tryz.func8, Tryz.ntmps8
  go_wp2_with fail
  refine (frNew_c _).mono ?_
  rintro e w1 ⟨rfl, hf1, hb1⟩
  have hl := hf1.lt
  go_wp2_with (first
    | ((with_reducible refine wpl_at (o := ⟨some 2, .build 69 _, _, _, _, _⟩) ?_); refine wpl_build rfl _ _ rfl #[(1, .pointer (some ⟨w.heap.size, 0, none⟩)), (2, .bool true)] (by simp [Act.eval]) _ (fun W => build_conn _ W) ?_)
    | (with_reducible refine wpl_boxS (o := ⟨some 3, .box 69 (.tmp 2), _, _, _, _⟩) rfl _ _ rfl (Cn.new.cells (.pointer none) Nl (.pointer (some ⟨w.heap.size, 0, none⟩))) rfl w1.heap.size rfl ?_; intro w2 h2 f2 b2 z2 s2))
  go_ret
  refine ⟨w.heap.size, w1.heap.size, rfl, ⟨⟨_, Nl, h2, .inl rfl, ⟨.inl ⟨rfl, rfl⟩, fun _ => Owned.nil _ _⟩, ?_⟩, f2, hl, s2⟩, Nat.le_refl _, hb1.trans (b2.mono (by omega))⟩
  exact hf1.after (S := []) (Keeps.below b2) (by simp) (fun k hk => .inr (by simp [blk, Value.ownBlock] at hk; omega)) (fun k hk => by simp [blk, Value.ownBlock] at hk; omega)

set_option maxRecDepth 100000 in
theorem cnClosed_c (g c : Nat) (s : Cn) (w : World) (h : CnAt w g c s) : Calls Tryz.prog 25 #[.pointer (some ⟨c, 0, none⟩)] w fun e w' => e = .returned (.bool s.closed) ∧ w = w' := by
  obtain ⟨⟨va, vb, hA, hva, hown, hfr⟩, hf, gc, hsh⟩ := h
  have c2 := hA.at 2 rfl; have c4 := hA.at 4 rfl
  clear hA hf hown hfr hva
  go_enter Tryz.func25, Tryz.ntmps25
  go_wp2_with fail
  refine (cnNone_c c g _ c2).mono ?_
  rintro e w' ⟨rfl, rfl⟩
  go_wp2_with fail
  go_ret
  exact ⟨rfl, rfl⟩
set_option maxRecDepth 100000 in
theorem cnClose_c (g c : Nat) (s : Cn) (w : World) (h : CnAt w g c s) : Calls Tryz.prog 24 #[.pointer (some ⟨c, 0, none⟩)] w fun e w' => e = .returned (.bool (!s.closed)) ∧ CnAt w' g c { s with closed := true } ∧ Below g w w' := by
  have H := hd h
  obtain ⟨⟨va, vb, hA, hva, hown, hfr⟩, hf, gc, hsh⟩ := h
  have HA := hd hA; have HF := hd hf; have HFR := hd hfr; have HOW := hd hown
  have c4 := hA.at 4 rfl
  have f4 := hf 4
  clear hA hf hown hfr
  cases hcl : s.closed
  · go_enter Tryz.func24, Tryz.ntmps24
    go_wp2_with fail
    refine (cnClosed_c g c s _ H.out).mono ?_
    rintro e w' ⟨rfl, rfl⟩
    rw [hcl]
    go_wp2_with fail
    go_ret
    refine ⟨rfl, CnAt.mk' (s := s) (HA.out.set 4 (.bool true) (by show 4 < 21; decide)) (HF.out.set _ _) ((Keeps.refl _ _).setCell (.inl (by simp)) _) hva HOW.out HFR.out gc (by rw [shape_setCell]; exact hsh) rfl rfl rfl, (Below.refl _ _).setCell (by show g ≤ c; omega) _⟩
  · go_enter Tryz.func24, Tryz.ntmps24
    go_wp2_with fail
    refine (cnClosed_c g c s _ H.out).mono ?_
    rintro e w' ⟨rfl, rfl⟩
    rw [hcl]
    go_wp2_with fail
    go_ret
    refine ⟨rfl, ?_, Below.refl _ _⟩
    have e : ({ s with closed := true } : Cn) = s := by rw [← hcl]
    rw [e]
    exact H.out
set_option maxRecDepth 100000 in
theorem cnWaits_c (g c : Nat) (s : Cn) (w : World) (h : CnAt w g c s) : Calls Tryz.prog 15 #[.pointer (some ⟨c, 0, none⟩)] w fun e w' => e = .returned (.int .i64 s.fr.1.length) ∧ w = w' := by
  obtain ⟨⟨va, vb, hA, hva, hown, hfr⟩, hf, gc, hsh⟩ := h
  have c2 := hA.at 2 rfl
  have HFR := hd hfr
  clear hA hf hown hfr hva
  go_enter Tryz.func15, Tryz.ntmps15
  go_wp2_with fail
  refine (cnNone_c c g _ c2).mono ?_
  rintro e w' ⟨rfl, rfl⟩
  go_wp2_with fail
  refine (waits_c g _ _ _ _ HFR.out).mono ?_
  rintro e w' ⟨rfl, rfl⟩
  go_wp2_with fail
  go_ret
  exact ⟨rfl, rfl⟩
def cnFeed (s : Cn) (x : ByteArray) : Cn := if s.closed then s else { s with fr := (if s.fr.2.2 = 0 then s.fr.1 ++ sB x else s.fr.1, s.fr.2.1, s.fr.2.2) }
set_option maxRecDepth 100000 in
theorem cnFeed_c (g c : Nat) (s : Cn) (x : ByteArray) (w : World) (h : CnAt w g c s) (hlen : s.fr.1.length + x.size ≤ 140737488355328) :
    Calls Tryz.prog 10 #[.pointer (some ⟨c, 0, none⟩), .string x] w fun e w' => e = .returned (.int .i64 0) ∧ CnAt w' g c (cnFeed s x) ∧ Below g w w' := by
  have H := hd h
  have HL := hd hlen
  obtain ⟨⟨va, vb, hA, hva, hown, hfr⟩, hf, gc, hsh⟩ := h
  have HA := hd hA; have HF := hd hf; have HFR := hd hfr; have HOW := hd hown
  have c2 := hA.at 2 rfl; have c4 := hA.at 4 rfl
  have glt := hfr.lt
  clear hA hf hown hfr hlen
  cases hcl : s.closed
  · rw [hcl] at c4
    have hst : cnFeed s x = { s with fr := (if s.fr.2.2 = 0 then s.fr.1 ++ sB x else s.fr.1, s.fr.2.1, s.fr.2.2) } := by unfold cnFeed; rw [if_neg (by simp [hcl])]
    have HST := hd hst; clear hst
    go_enter Tryz.func10, Tryz.ntmps10
    go_wp2_with fail
    refine (cnNone_c c g _ c2).mono ?_
    rintro e w' ⟨rfl, rfl⟩
    go_wp2_with fail
    refine (feed_c g _ _ _ x _ HFR.out HL.out).mono ?_
    rintro e w2 ⟨rfl, hf2, hk2⟩
    have hs2 := CnAt.side HA.out HF.out hva HOW.out gc hsh hk2 hf2
    rw [← HST.out] at hs2
    clear hf2
    go_wp2_with fail
    go_ret
    exact ⟨rfl, hs2, hk2.toBelow (by omega) (by simp)⟩
  · rw [hcl] at c4
    have hst : cnFeed s x = s := by unfold cnFeed; rw [if_pos hcl]
    rw [hst]
    go_enter Tryz.func10, Tryz.ntmps10
    go_wp2_with fail
    refine (cnNone_c c g _ c2).mono ?_
    rintro e w' ⟨rfl, rfl⟩
    go_wp2_with fail
    go_ret
    exact ⟨rfl, H.out, Below.refl _ _⟩
def cnWho (s : Cn) : Con := if s.came then s.who else Con.zero
set_option maxRecDepth 100000 in
theorem cnWho_c (g c : Nat) (s : Cn) (w : World) (h : CnAt w g c s) : Calls Tryz.prog 16 #[.pointer (some ⟨c, 0, none⟩)] w fun e w' => e = .returned (.tuple #[.agg (cnWho s).cells.toArray, .bool s.came]) ∧ Below w.heap.size w w' := by
  obtain ⟨⟨va, vb, hA, hva, hown, hfr⟩, hf, gc, hsh⟩ := h
  have HA := hd hA
  have hlt := hA.lt
  clear hown hfr hva hf hA
  unfold cnWho
  cases hcm : s.came
  · go_enter Tryz.func16, Tryz.ntmps16
    go_wp2_with (first
      | (with_reducible refine wpl_alloc (o := ⟨some 2, .alloc 32, _, _, _, _⟩) rfl _ rfl Con.zero.cells cnAlloc_con _ rfl ?_; intro w1 h1 f1 b1 z1))
    have hA1 := HA.out.keep b1 hlt
    have c2 := hA1.at 2 rfl; have c19 := hA1.at 19 rfl
    rw [hcm] at c19
    refine (cnNone_c c g _ c2).mono ?_
    rintro e w' ⟨rfl, rfl⟩
    go_wp2_with (first
      | ((with_reducible refine wpl_at (o := ⟨some 13, .build 32 #[], _, _, _, _⟩) ?_); refine wpl_build rfl _ _ rfl #[] (by simp) _ build_con0 ?_)
      | ((with_reducible refine wpl_at (o := ⟨none, .store 32 (.tmp 2) (.tmp 13), _, _, _, _⟩) ?_); refine wpl_storeAll rfl rfl _ _ _ rfl w.heap.size Con.zero.cells Con.zero.cells rfl rfl info_con (Con.one _) h1 rfl f1 ?_; intro w9 h9 f9 k9 z9))
    refine bodyPost_ret (v := .tuple #[.agg Con.zero.cells.toArray, .bool false]) (results_cell_tmp Tryz.results16 rfl (ret_con h9 rfl) rfl) rfl ?_
    exact ⟨rfl, b1.trans (k9.toBelow b1.size (by simp))⟩
  · go_enter Tryz.func16, Tryz.ntmps16
    go_wp2_with (first
      | (with_reducible refine wpl_alloc (o := ⟨some 2, .alloc 32, _, _, _, _⟩) rfl _ rfl Con.zero.cells cnAlloc_con _ rfl ?_; intro w1 h1 f1 b1 z1))
    have hA1 := HA.out.keep b1 hlt
    have c2 := hA1.at 2 rfl; have c19 := hA1.at 19 rfl
    rw [hcm] at c19
    refine (cnNone_c c g _ c2).mono ?_
    rintro e w' ⟨rfl, rfl⟩
    go_wp2_with (first
      | ((with_reducible refine wpl_at (o := ⟨some 17, .load 32 (.tmp 16), _, _, _, _⟩) ?_); refine wpl_loadAt rfl _ _ rfl c 6 rfl s.who.cells _ (hA1.part 6 (Cn.who_in s _ _ _)) Tryz.underlying32 rfl info_con ?_)
      | ((with_reducible refine wpl_at (o := ⟨none, .store 32 (.tmp 2) (.tmp 17), _, _, _, _⟩) ?_); refine wpl_storeAll rfl rfl _ _ _ rfl w.heap.size s.who.cells Con.zero.cells rfl rfl info_con (Con.one _) h1 rfl f1 ?_; intro w9 h9 f9 k9 z9))
    refine bodyPost_ret (v := .tuple #[.agg s.who.cells.toArray, .bool true]) (results_cell_tmp Tryz.results16 rfl (ret_con h9 rfl) rfl) rfl ?_
    exact ⟨rfl, b1.trans (k9.toBelow b1.size (by simp))⟩
def cnWill (s : Cn) : List Value := if s.will then s.who.msg else msg0
set_option maxRecDepth 100000 in
theorem cnWill_c (g c : Nat) (s : Cn) (w : World) (h : CnAt w g c s) : Calls Tryz.prog 17 #[.pointer (some ⟨c, 0, none⟩)] w fun e w' => e = .returned (.tuple #[.agg (cnWill s).toArray, .bool s.will]) ∧ Below w.heap.size w w' := by
  obtain ⟨⟨va, vb, hA, hva, hown, hfr⟩, hf, gc, hsh⟩ := h
  have HA := hd hA
  have hlt := hA.lt
  clear hown hfr hva hf hA
  unfold cnWill
  cases hcm : s.will
  · go_enter Tryz.func17, Tryz.ntmps17
    go_wp2_with (first
      | (with_reducible refine wpl_alloc (o := ⟨some 2, .alloc 30, _, _, _, _⟩) rfl _ rfl msg0 cnAlloc_msg _ rfl ?_; intro w1 h1 f1 b1 z1))
    have hA1 := HA.out.keep b1 hlt
    have c2 := hA1.at 2 rfl; have c20 := hA1.at 20 rfl
    rw [hcm] at c20
    refine (cnNone_c c g _ c2).mono ?_
    rintro e w' ⟨rfl, rfl⟩
    go_wp2_with (first
      | ((with_reducible refine wpl_at (o := ⟨some 13, .build 30 #[], _, _, _, _⟩) ?_); refine wpl_build rfl _ _ rfl #[] (by simp) _ build_msg0 ?_)
      | ((with_reducible refine wpl_at (o := ⟨none, .store 30 (.tmp 2) (.tmp 13), _, _, _, _⟩) ?_); refine wpl_storeAll rfl rfl _ _ _ rfl w.heap.size msg0 msg0 rfl rfl info_msg msg0_one h1 rfl f1 ?_; intro w9 h9 f9 k9 z9))
    refine bodyPost_ret (v := .tuple #[.agg msg0.toArray, .bool false]) (results_cell_tmp Tryz.results17 rfl (ret_msg h9 rfl) rfl) rfl ?_
    exact ⟨rfl, b1.trans (k9.toBelow b1.size (by simp))⟩
  · go_enter Tryz.func17, Tryz.ntmps17
    go_wp2_with (first
      | (with_reducible refine wpl_alloc (o := ⟨some 2, .alloc 30, _, _, _, _⟩) rfl _ rfl msg0 cnAlloc_msg _ rfl ?_; intro w1 h1 f1 b1 z1))
    have hA1 := HA.out.keep b1 hlt
    have c2 := hA1.at 2 rfl; have c20 := hA1.at 20 rfl
    rw [hcm] at c20
    refine (cnNone_c c g _ c2).mono ?_
    rintro e w' ⟨rfl, rfl⟩
    go_wp2_with (first
      | ((with_reducible refine wpl_at (o := ⟨some 18, .load 30 (.tmp 17), _, _, _, _⟩) ?_); refine wpl_loadAt rfl _ _ rfl c 11 rfl s.who.msg _ (hA1.part 11 (Cn.msg_in s _ _ _)) Tryz.underlying30 rfl info_msg ?_)
      | ((with_reducible refine wpl_at (o := ⟨none, .store 30 (.tmp 2) (.tmp 18), _, _, _, _⟩) ?_); refine wpl_storeAll rfl rfl _ _ _ rfl w.heap.size s.who.msg msg0 rfl rfl info_msg s.who.msg_one h1 rfl f1 ?_; intro w9 h9 f9 k9 z9))
    refine bodyPost_ret (v := .tuple #[.agg s.who.msg.toArray, .bool true]) (results_cell_tmp Tryz.results17 rfl (ret_msg h9 rfl) rfl) rfl ?_
    exact ⟨rfl, b1.trans (k9.toBelow b1.size (by simp))⟩
end Go.Proofs.YtjlnlgemngpelaaGreatDoor

/- A connection: what goes out: the builder inside; Emit, Out. -/
namespace Go.Proofs.YtjlnlgemngpelaaGreatDoor
open Go.RowKit
set_option linter.unusedVariables false
set_option linter.unusedSimpArgs false

theorem cnApp_block (w : World) (ty : TypeId) (v : Value) (l : List UInt8) (hown : Owned 0 w v l) (s : ByteArray) (hlen : l.length + s.size ≤ 140737488355328) :
    ∃ v' w', (Builtin.append_ #[23, 9] ty #[v, .string s]).run Tryz.prog w = .ok v' w' ∧ Owned 0 w' v' (l ++ sB s) ∧ Keeps (blk v) w w' ∧ (∀ k, k ∈ blk v' → k ∈ blk v ∨ w.heap.size ≤ k) := by
  obtain ⟨i, hi, hz, hs1, hby⟩ := info_parts info_u8
  have hmx : l.length + s.size ≤ maxLen := by unfold maxLen; omega
  obtain ⟨v', w', hr, h2, h3, -⟩ := Lib.run_append_own_string (P := Tryz.prog) w 0 23 9 ty 5 i Tryz.underlying23 Tryz.underlying9 hi hz hs1 hby v l.length (l.map byteV) hown s hmx hlen (Nat.zero_le _)
  refine ⟨v', w', hr, ?_, ⟨h3.os, h3.tape, h3.output, h3.size, fun k hk hn => h3.block k hk (fun e => hn (by unfold blk; rw [← e]; simp))⟩, ?_⟩
  · unfold Owned
    rw [List.length_append, List.map_append, sB_len, ← strCells_B]
    exact h2
  intro k hk
  have hk' : v'.ownBlock = some k := by simpa [blk] using hk
  unfold Owned at hown
  rcases hown.2 with ⟨rfl, hl0⟩ | ⟨g, cap, cur, rfl, hbg, hg, hnc, hcm, hcs, htake⟩
  · right
    have hx : l = [] := List.eq_nil_of_length_eq_zero hl0
    subst hx
    obtain ⟨v2, w2, hr2, h22, -⟩ := Lib.run_append_own_string (P := Tryz.prog) w w.heap.size 23 9 ty 5 i Tryz.underlying23 Tryz.underlying9 hi hz hs1 hby (.slice none 0 0) 0 [] (World.ownsRow_nil w w.heap.size 5 1) s (by simpa using hmx) (by simpa using hlen) (Nat.le_refl _)
    rw [hr] at hr2
    cases hr2
    exact (h22.lt k hk').1
  · by_cases hroom : l.length + s.size ≤ cap
    · left
      have hcs' : cur.size = cap := by simpa using hcs
      have hr2 := Lib.run_append_room_string (P := Tryz.prog) w 23 9 ty 5 i Tryz.underlying23 Tryz.underlying9 hi hs1 g l.length cap cur hg s hroom (by omega)
      rw [hr] at hr2
      cases hr2
      simpa [blk, Value.ownBlock] using hk'.symm
    · right
      have holds : ∀ j u, (l.map byteV)[j]? = some u → w.cell? ((⟨g, 0, none⟩ : Addr).add j) = some u := World.ownsRow.cells hown (g := g) rfl
      have hr2 := Lib.run_append_grow_string (P := Tryz.prog) w 23 9 ty 5 i (.int .u8 0) Tryz.underlying23 Tryz.underlying9 hi hz ⟨g, 0, none⟩ l.length cap (l.map byteV) (by rw [hs1]; simp) holds s (by omega) (by omega) (by rw [hby]; exact growslice_fits (by omega) (by omega))
      rw [hr] at hr2
      cases hr2
      simp only [Value.ownBlock, Option.some.injEq] at hk'
      omega
theorem wp_cnApp {w : World} {ops : Array Oper} {rest : List Oper} {o : Oper} {a : Act} {Q : Exit → Act → World → Prop} (hgd : o.guard = none) (s x : Operand)
    (ho : o.op = .call { callee := .builtin .append, args := #[s, x], argTypes := #[23, 9] })
    (v : Value) (l : List UInt8) (hv : a.eval s = v) (hown : Owned 0 w v l) (str : ByteArray) (hx : a.eval x = .string str)
    (hlen : l.length + str.size ≤ 140737488355328)
    (h : ∀ v' w', Owned 0 w' v' (l ++ sB str) → Keeps (blk v) w w' → (∀ k, k ∈ blk v' → k ∈ blk v ∨ w.heap.size ≤ k) → wpList Tryz.prog ops Q rest (a.put o.dst v') w') : wpList Tryz.prog ops Q (o :: rest) a w := by
  refine wpList_plain hgd fun K hK => ?_
  obtain ⟨v', w', hr, h2, h3, h4⟩ := cnApp_block w o.type v l hown str hlen
  unfold Oper.wp execOp
  simp only [ho, resolve, invoke, builtin, Sem.run_bind, Sem.run_pure, Result.andThen_ok, List.map_toArray, List.map_cons, List.map_nil, hv, hx, hr]
  exact hK _ _ (h v' w' h2 h3 h4)
theorem info_bld : (Tryz.prog.info? 64).map (·.size) = some 2 := by kernel_rfl
theorem bld_lies : liesAt Tryz.prog Tryz.prog.depth 69 (21 / Tryz.prog.cellsOf 69) 0 64 1 = true := by kernel_rfl
theorem byte_cells : Tryz.prog.cellsOf 5 = 1 := by kernel_rfl
def CnIn (w : World) (g c : Nat) (s : Cn) (va vb : Value) : Prop := At w c (s.cells va vb (.pointer (some ⟨g, 0, none⟩))) ∧ (Held (c + 1) w vb s.out ∧ (s.rw = true → Owned (c + 1) w vb s.out)) ∧ FrAt w g s.fr.1 s.fr.2.1 s.fr.2.2 (c :: blk vb) ∧ Free w c ∧ w.shape? c = some (69, 21)
set_option maxRecDepth 100000 in
set_option maxHeartbeats 1000000 in
theorem cnCopy_c (g c : Nat) (s : Cn) (w : World) (h : CnAt w g c s) : Calls Tryz.prog 60 #[.pointer (some ⟨c, 0, none⟩)] w fun e w' => e = .returned (.tuple #[]) ∧ (∃ vb, CnIn w' g c s (.pointer (some ⟨c, 0, none⟩)) vb) ∧ Keeps [c] w w' ∧ w'.cell? ⟨c, 1, none⟩ = w.cell? ⟨c, 1, none⟩ := by
  obtain ⟨j, hj, hjs⟩ := Option.map_eq_some_iff.1 info_bld
  obtain ⟨⟨va, vb, hA, hva, hown, hfr⟩, hf, gc, hsh⟩ := h
  rcases hva with rfl | rfl
  · have h0 := hA.at 0 rfl
    have f0 := hf 0
    have HA := hd hA; have HF := hd hf; have HFR := hd hfr; have HOW := hd hown
    clear hA hf hown hfr
    have r1 := Lib.run_to_unsafe (P := Tryz.prog) w ⟨c, 0, none⟩ Tryz.underlying62 Tryz.underlying135 hj (by rw [hjs]; decide) hsh (by show 0 < 21; decide)
    have r2 := Lib.run_from_unsafe (P := Tryz.prog) w ⟨c, 0, none⟩ Tryz.underlying135 Tryz.underlying62 hj hsh bld_lies
    have r3 := @run_callFunc_extern Tryz.prog 82 _ Extern.AbiNoEscape.same Tryz.func82 (by kernel_rfl) (by kernel_rfl) (by kernel_rfl) (by kernel_rfl)
    have r4 : ∀ x W, (Extern.AbiNoEscape.same #[x]).run Tryz.prog W = .ok x W := fun x W => Lib.run_noEscape W x
    go_enter Tryz.func60, Tryz.ntmps60
    go_wp2_with fail
    go_end0
    have hk : Keeps [c] w (w.setCell ⟨c, 0, none⟩ (.pointer (some ⟨c, 0, none⟩))) := (Keeps.refl _ _).setCell (.inl (by simp)) _
    have hs2 : CnAt (w.setCell ⟨c, 0, none⟩ (.pointer (some ⟨c, 0, none⟩))) g c s := CnAt.mk' (s := s) (HA.out.set 0 (.pointer (some ⟨c, 0, none⟩)) (by show 0 < 21; decide)) (HF.out.set _ _) hk (.inr rfl) HOW.out HFR.out gc (by rw [shape_setCell]; exact hsh) rfl rfl rfl
    refine ⟨rfl, ?_, hk, World.cell?_setCell_other _ _ _ _ (by simp)⟩
    obtain ⟨⟨va, vb2, hA2, hva2, hown2, hfr2⟩, hf2, -, hsh2⟩ := hs2
    have e : va = .pointer (some ⟨c, 0, none⟩) := by
      have h1 := hA2.at 0 rfl
      have h2 := (HA.out.set 0 (.pointer (some ⟨c, 0, none⟩)) (by show 0 < 21; decide)).at 0 rfl
      exact Option.some.inj (h1.symm.trans h2)
    subst e
    exact ⟨vb2, hA2, hown2, hfr2, hf2, hsh2⟩
  · have h0 := hA.at 0 rfl
    have HX : Hd (CnIn w g c s (.pointer (some ⟨c, 0, none⟩)) vb) := hd ⟨hA, hown, hfr, hf, hsh⟩
    clear hA hf hown hfr hsh
    have r1 := fun W => Lib.run_neq_ptr_same (P := Tryz.prog) W ⟨c, 0, none⟩ Tryz.underlying62 hj
    go_enter Tryz.func60, Tryz.ntmps60
    go_wp2_with fail
    go_end0
    exact ⟨rfl, ⟨vb, HX.out⟩, Keeps.refl _ _, rfl⟩
set_option maxRecDepth 100000 in
set_option maxHeartbeats 1000000 in
theorem cnWrite_c (g c : Nat) (s : Cn) (x : ByteArray) (w : World) (h : CnAt w g c s) (hrw : s.rw = true) (hx : x.size ≠ 0) (hlen : s.out.length + x.size ≤ 140737488355328) :
    Calls Tryz.prog 36 #[.pointer (some ⟨c, 0, none⟩), .string x] w fun e w' => e = .returned (.tuple #[.int .i64 x.size, .nilIface]) ∧ CnAt w' g c { s with out := s.out ++ sB x } ∧ Below g w w' ∧ (∀ u, w.cell? ⟨c, 1, none⟩ = some u → Keeps (c :: blk u) w w') := by
  have H := hd h
  have gc := h.gc
  have hgw : g ≤ w.heap.size := by have := h.lt; omega
  have HL := hd hlen
  clear h hlen
  go_enter Tryz.func36, Tryz.ntmps36
  go_wp2_with fail
  refine (cnCopy_c g c s _ H.out).mono ?_
  rintro e w2 ⟨rfl, ⟨vb, hA, hown, hfr, hf, hsh⟩, hk2, hq1⟩
  have HQ1 := hd hq1; clear hq1
  have hb2 : Below g w w2 := hk2.toBelow hgw (by intro k hk; simp at hk; omega)
  have c1 := hA.at 1 rfl
  have hlt := hA.lt
  have how := hown.2 hrw
  have hvb : c ∉ blk vb := fun hm => by have := how.blk_ge c hm; omega
  have HA := hd hA; have HF := hd hf; have HFR := hd hfr; have HOW := hd how
  clear hA hf hown hfr how
  go_wp2_with (first
    | ((with_reducible refine wpl_at (o := ⟨some 14, .call { callee := .builtin .append, args := #[.tmp 12, .tmp 13], argTypes := #[23, 9] }, _, _, _, _⟩) ?_); refine wp_cnApp rfl _ _ rfl vb s.out rfl (HOW.out.le (Nat.zero_le _)) x rfl HL.out ?_; intro v3 w3 ho3 hk3 hb3; have d1 := (hk3.cell (o := 1) hlt hvb).trans c1; have f1 := (hk3.free (o := 1) hlt hvb).trans (HF.out 1); clear c1; obtain ⟨a3, n3, e3⟩ := Owns.slice ho3; generalize hm : (s.out ++ sB x).length = m at e3; subst e3; have HM := hd hm; clear hm; have HO3 := hd ho3; clear ho3; have HK3 := hd hk3; clear hk3))
  go_ret2
  have hk3 := HK3.out
  have hA3 := HA.out.keeps hk3 hvb
  have hA4 := hA3.set 1 (.slice a3 m n3) (by show 1 < 21; decide)
  have hk4 : Keeps (c :: blk vb) w2 (w3.setCell ⟨c, 1, none⟩ (.slice a3 m n3)) := (hk3.mono (fun k hk => List.mem_cons_of_mem _ hk)).setCell (.inl (by simp)) _
  have hge : ∀ k, k ∈ blk (.slice a3 m n3) → c + 1 ≤ k := by
    intro k hk
    rcases hb3 k hk with h1 | h1
    · exact HOW.out.blk_ge k h1
    · omega
  have hne : s.out ++ sB x ≠ [] := by
    intro e
    have := congrArg List.length e
    rw [List.length_append, sB_len, List.length_nil] at this
    omega
  have ho4 : Owned (c + 1) (w3.setCell ⟨c, 1, none⟩ (.slice a3 m n3)) (.slice a3 m n3) (s.out ++ sB x) := (HO3.out.lift hge).aside (by show c < c + 1; omega) _
  refine ⟨rfl, ⟨⟨_, _, hA4, .inr rfl, ⟨Held.of ho4 (fun h => absurd h hne), fun _ => ho4⟩, ?_⟩, (HF.out.keeps hk3 hlt hvb).set _ _, gc, ?_⟩, ?_, ?_⟩
  · refine HFR.out.after (S := c :: blk vb) hk4 ?_ ?_ ?_
    · intro hm
      rcases List.mem_cons.1 hm with h1 | h1
      · omega
      · have := HOW.out.blk_ge g h1; omega
    · intro k hk
      rcases List.mem_cons.1 hk with rfl | h1
      · exact .inl (by simp)
      · rcases hb3 k h1 with h2 | h2
        · exact .inl (List.mem_cons_of_mem _ h2)
        · exact .inr h2
    · intro k hk
      rcases List.mem_cons.1 hk with rfl | h1
      · exact hA4.lt
      · exact ho4.blk_lt k h1
  · rw [shape_setCell]
    exact (shape_of_block (hk3.block c hlt hvb)).trans hsh
  · refine hb2.trans (hk4.toBelow (by have := hk2.size; omega) ?_)
    intro k hk
    rcases List.mem_cons.1 hk with rfl | h1
    · omega
    · have := HOW.out.blk_ge k h1; omega
  · intro u hu
    have e := HA.out.at 1 rfl
    rw [HQ1.out, hu] at e
    obtain rfl := Option.some.inj e
    exact (hk2.mono (by intro k hk; simp at hk; simp [hk])).trans hk4
theorem cell_freeze (w : World) (p a : Addr) (n : Nat) : (w.freeze p n).cell? a = w.cell? a := by
  unfold World.freeze
  split
  · rfl
  · unfold World.cell?
    simp only [Array.getElem?_modify]
    by_cases h : p.block = a.block
    · simp only [h, if_true]
      cases w.heap[a.block]? with
      | none => rfl
      | some o => cases o <;> rfl
    · simp [h]
theorem shape_freeze (w : World) (p : Addr) (n k : Nat) : (w.freeze p n).shape? k = w.shape? k := by
  unfold World.freeze
  split
  · rfl
  · unfold World.shape?
    simp only [Array.getElem?_modify]
    by_cases h : p.block = k
    · simp only [h, if_true]
      cases w.heap[k]? with
      | none => rfl
      | some o => cases o <;> rfl
    · simp [h]
theorem keeps_freeze (w : World) (p : Addr) (n : Nat) : Keeps [p.block] w (w.freeze p n) := by
  unfold World.freeze
  split
  · exact Keeps.refl _ _
  · exact ⟨rfl, rfl, rfl, by simp, fun k hk hn => by simp only [Array.getElem?_modify]; rw [if_neg (by intro e; exact hn (by simp [e]))]⟩
theorem CnIn.drew {w : World} {g c : Nat} {s : Cn} (h : CnAt w g c s) : CnAt w.drew g c s := h.grow ((Below.refl _ _).drew)
set_option maxRecDepth 100000 in
set_option maxHeartbeats 2000000 in
theorem cnString_c (g c : Nat) (s : Cn) (w : World) (h : CnAt w g c s) :
    Calls Tryz.prog 37 #[.pointer (some ⟨c, 0, none⟩)] w fun e w' => e = .returned (.string (sOf s.out)) ∧ CnAt w' g c { s with rw := false } ∧ Below g w w' := by
  have hd' := h.grow ((Below.refl w.heap.size w).drew)
  obtain ⟨⟨va, vb, hA, hva, hown, hfr⟩, hf, gc, hsh⟩ := hd'
  have hB0 : Below g w w.drew := (Below.refl _ _).drew
  have c1 := hA.at 1 rfl
  rcases hown.1 with ⟨rfl, ho⟩ | ⟨h0, b, cap, n, rfl, hb, hnc, hnn, hmx, hs, hc⟩
  · have HX : Hd (CnAt w.drew g c { s with rw := false }) := hd ⟨⟨va, Nl, hA, hva, ⟨hown.1, fun h => absurd h (by simp)⟩, hfr⟩, hf, gc, hsh⟩
    have e0 : sOf s.out = ⟨#[]⟩ := by rw [ho]; rfl
    rw [e0]
    clear hA hown hfr hf hsh hva h
    have hSD : ∀ ts ty W, (Builtin.unsafeSliceData_ ts ty #[Nl]).run Tryz.prog W = .ok (.pointer none) W := fun _ _ _ => rfl
    have hUS := fun ts W => Lib.run_unsafeString_none (P := Tryz.prog) W 111 3 ts none
    go_enter Tryz.func37, Tryz.ntmps37
    go_wp2_with fail
    refine wp_region_M (fun W => W.cell? ⟨c, 1, none⟩ = some (Nl)) 11 [(0, false), (1, false), (2, false), (3, false), (4, false), (5, false), (6, false), (7, false), (8, false), (9, false), (10, true), (11, true)] (by kernel_rfl) (by kernel_rfl) (fun _ _ _ _ h => h) c1 ?_
    iterate 10
      apply wpM_still (by rfl) (by rfl)
      · intro W hC
        go_simp
        rfl
      go_simp
    apply wpM_move (by rfl) (by rfl)
    intro K hK
    go_simp
    refine hK _ _ (fun _ => c1) ?_
    clear hK K
    apply wpM_move (by rfl) (by rfl)
    intro K hK
    go_simp
    refine hK _ _ (fun h => absurd h (by decide)) ?_
    clear hK K
    refine wpM_nil ?_
    go_wp2_with fail
    go_ret
    exact ⟨rfl, HX.out, hB0⟩
  · have hl0 : s.out.length ≠ 0 := by simpa using h0
    have hSD : ∀ ts ty W, (Builtin.unsafeSliceData_ ts ty #[.slice (some ⟨b, 0, none⟩) s.out.length cap]).run Tryz.prog W = .ok (.pointer (some ⟨b, 0, none⟩)) W := fun ts ty W => Lib.run_unsafeSliceData_row _ _ _ _ _ _ (by omega)
    have hUS : ∀ ty, (Builtin.unsafeString_ #[111, 3] ty #[.pointer (some ⟨b, 0, none⟩), .int .i64 s.out.length]).run Tryz.prog w.drew = .ok (.string ⟨s.out.toArray⟩) (w.drew.freeze ⟨b, 0, none⟩ s.out.length) := fun ty =>
      Lib.run_unsafeString_row (P := Tryz.prog) w.drew 111 3 ty 5 Tryz.underlying111 byte_cells b n hs s.out h0 hnn (by unfold maxLen at hmx; omega) (fun j x hx => by
        have e : ((⟨b, 0, none⟩ : Addr).add j) = ⟨b, j, none⟩ := by cases j <;> simp [Addr.add]
        rw [e]; exact hc j x hx)
    have hk := keeps_freeze w.drew ⟨b, 0, none⟩ s.out.length
    have hcb : c ∉ [b] := by simp; omega
    have hS : ∀ k, k ∈ [b] → k ∈ c :: blk (.slice (some ⟨b, 0, none⟩) s.out.length cap) := by intro k hk; simp at hk; subst hk; simp [blk, Value.ownBlock]
    have hX : CnAt (w.drew.freeze ⟨b, 0, none⟩ s.out.length) g c { s with rw := false } := by
      refine ⟨⟨va, _, hA.keeps hk hcb, hva, ⟨.inr ⟨h0, b, cap, n, rfl, hb, hnc, hnn, hmx, ?_, ?_⟩, fun h => absurd h (by simp)⟩, ?_⟩, hf.keeps hk hA.lt hcb, gc, ?_⟩
      · rw [shape_freeze]; exact hs
      · intro j x hx; rw [cell_freeze]; exact hc j x hx
      · refine hfr.after (S := c :: blk (.slice (some ⟨b, 0, none⟩) s.out.length cap)) (hk.mono hS) ?_ (fun k hk => .inl hk) (fun k hk' => Nat.lt_of_lt_of_le (hfr.ltS k hk') hk.size)
        intro hm
        rcases List.mem_cons.1 hm with h1 | h1
        · omega
        · have := hown.1.blk_ge g h1; omega
      · rw [shape_freeze]; exact hsh
    have HX := hd hX
    have hB1 := hB0.trans (hk.toBelow (by show g ≤ w.heap.size; have := hA.lt; have e : w.drew.heap.size = w.heap.size := rfl; omega) (by intro k hk; simp at hk; omega))
    clear hA hown hfr hf hsh hva h hX hk hS hs hc hB0 hcb
    go_enter Tryz.func37, Tryz.ntmps37
    go_wp2_with fail
    refine wp_region_M (fun W => W.cell? ⟨c, 1, none⟩ = some (.slice (some ⟨b, 0, none⟩) s.out.length cap)) 11 [(0, false), (1, false), (2, false), (3, false), (4, false), (5, false), (6, false), (7, false), (8, false), (9, false), (10, true), (11, true)] (by kernel_rfl) (by kernel_rfl) (fun _ _ _ _ h => h) c1 ?_
    iterate 10
      apply wpM_still (by rfl) (by rfl)
      · intro W hC
        go_simp
        rfl
      go_simp
    apply wpM_move (by rfl) (by rfl)
    intro K hK
    go_simp
    refine hK _ _ (fun _ => by rw [cell_freeze]; exact c1) ?_
    clear hK K
    apply wpM_move (by rfl) (by rfl)
    intro K hK
    go_simp
    refine hK _ _ (fun h => absurd h (by decide)) ?_
    clear hK K
    refine wpM_nil ?_
    go_wp2_with fail
    go_ret
    exact ⟨rfl, HX.out, hB1⟩
set_option maxRecDepth 100000 in
theorem cnOut_c (g c : Nat) (s : Cn) (w : World) (h : CnAt w g c s) :
    Calls Tryz.prog 22 #[.pointer (some ⟨c, 0, none⟩)] w fun e w' => e = .returned (.string (sOf s.out)) ∧ CnAt w' g c { s with rw := false } ∧ Below g w w' := by
  have H := hd h
  obtain ⟨⟨va, vb, hA, hva, hown, hfr⟩, hf, gc, hsh⟩ := h
  have c2 := hA.at 2 rfl
  clear hA hf hown hfr hva
  go_enter Tryz.func22, Tryz.ntmps22
  go_wp2_with fail
  refine (cnNone_c c g _ c2).mono ?_
  rintro e w' ⟨rfl, rfl⟩
  go_wp2_with fail
  refine (cnString_c g c s _ H.out).mono ?_
  rintro e w2 ⟨rfl, h2, hb2⟩
  have H2 := hd h2; clear h2
  go_wp2_with fail
  go_ret
  exact ⟨rfl, H2.out, hb2⟩
end Go.Proofs.YtjlnlgemngpelaaGreatDoor

/- A connection: Emit, Accept, Forget; and nobody's. -/
namespace Go.Proofs.YtjlnlgemngpelaaGreatDoor
open Go.RowKit
set_option linter.unusedVariables false
set_option linter.unusedSimpArgs false

section
variable {w : World} {o : Oper} {a : Act} {K : Act → World → Prop} {Q : Exit → Act → World → Prop}
theorem wpo_storeMidS (hdst : o.dst = none) (ty : TypeId) (x y : Operand) (ho : o.op = .store ty x y) (b k : Nat) (cells l0 l1 : List Value) (hx : a.eval x = .pointer (some ⟨b, k, none⟩)) (hy : a.eval y = .agg cells.toArray)
    (hi : (Tryz.prog.info? ty).map (·.size) = some cells.length) (h1 : ∀ v ∈ cells, v.oneCell' = true) (hA : At w b l0) (hl : l1 = l0.take k ++ cells ++ l0.drop (k + cells.length)) (hk : k + cells.length ≤ l0.length) (hF : Free w b)
    (h : ∀ w', At w' b l1 → Free w' b → Keeps [b] w w' → w'.heap.size = w.heap.size → (∀ k, w'.shape? k = w.shape? k) → K a w') : o.wp Tryz.prog a w K Q := by
  have hth := hA.there hF k cells.length (by omega)
  refine wp_store_mid ty x y ho b k cells.toArray hx hy (by simpa using hth) (by simpa using hi) (all_oneCell_toArray h1) ?_
  rw [hdst]
  refine h _ ⟨?_, fun j u hu => ?_⟩ (free_setCells _ _ _ hF) (keeps_setCells b _ _ _ _ (Keeps.refl _ _)) (setCells_size b _ _ _) (fun k => shape_setCells b _ _ _ k)
  · rw [setCells_size]; exact hA.1
  · subst hl
    have htl : (l0.take k).length = k := by simp; omega
    by_cases hj1 : j < k
    · rw [List.append_assoc, List.getElem?_append_left (by omega), List.getElem?_take_of_lt hj1] at hu
      rw [World.cell?_setCells_out b _ k w ⟨b, j, none⟩ (fun _ _ => .inl hj1)]
      exact hA.2 j u hu
    · by_cases hj2 : j < k + cells.length
      · rw [List.append_assoc, List.getElem?_append_right (by omega), List.getElem?_append_left (by omega), htl] at hu
        have := World.rangeAt_setCells_same w b k cells hth (j - k) u hu
        rwa [show k + (j - k) = j by omega] at this
      · rw [List.getElem?_append_right (by simp; omega), List.getElem?_drop] at hu
        rw [World.cell?_setCells_out b _ k w ⟨b, j, none⟩ (fun _ _ => .inr (by show k + cells.toArray.toList.length ≤ j; rw [List.toList_toArray]; omega))]
        refine hA.2 j u ?_
        rw [← hu]
        have e2 : k + cells.length + (j - (l0.take k ++ cells).length) = j := by rw [List.length_append, htl]; omega
        rw [e2]
end
theorem results_cell_tmp2 {P : Program} {fn : Func} {tmps : Array Value} {a b c : Nat} {t : TypeId} {g : Nat} {v u x : Value} {w : World} (hf : fn.results = #[.cell a t, .tmp b, .tmp c]) (ha : tmps.getD a undef = .pointer (some ⟨g, 0, none⟩))
    (hl : (loadVar t ⟨g, 0, none⟩).run P w = .ok v w) (hb : tmps.getD b undef = u) (hc : tmps.getD c undef = x) : (results fn tmps).run P w = .ok (.tuple #[v, u, x]) w := by
  have three : ∀ (f : ResultVar → Sem Value) (x y z : ResultVar), #[x, y, z].mapM f = (do let a ← f x; let b ← f y; let c ← f z; pure #[a, b, c]) := fun f x y z => by simp
  unfold results
  rw [hf, three]
  simp only [Sem.run_bind, Sem.run_pure, ha, asAddr, Result.andThen_ok, hl, hb, hc]
  rfl
theorem cnWill_one (s : Cn) : ∀ v ∈ cnWill s, v.oneCell' = true := by
  unfold cnWill
  split
  · exact s.who.msg_one
  · exact msg0_one
theorem cnWill_len (s : Cn) : (cnWill s).length = 4 := by
  unfold cnWill
  split <;> rfl

/-! ### Nobody's -/
set_option maxRecDepth 100000 in
theorem cnAcceptN_c (p : Option Addr) (L : List Value) (w : World) (h : CnNil w p) (hp : ∀ z, p = some z → z.block < w.heap.size) : Calls Tryz.prog 19 #[.pointer p, .agg L.toArray] w fun e w' => e = .returned (.int .i64 8) ∧ Below w.heap.size w w' := by
  have H := hd h; clear h
  have HP := hd hp; clear hp
  go_enter Tryz.func19, Tryz.ntmps19
  go_wp2_with (first
    | (with_reducible refine wpl_box (o := ⟨some 3, .box 32 (.tmp 1), _, _, _, _⟩) rfl _ _ rfl L rfl w.heap.size rfl ?_; intro w1 h1 f1 b1 z1))
  refine (cnNoneN_c p _ (H.out.low b1 HP.out)).mono ?_
  rintro e w' ⟨rfl, rfl⟩
  go_wp2_with fail
  go_ret
  exact ⟨rfl, b1⟩
set_option maxRecDepth 100000 in
theorem cnEmitN_c (p : Option Addr) (L : List Value) (w : World) (h : CnNil w p) (hp : ∀ z, p = some z → z.block < w.heap.size) : Calls Tryz.prog 21 #[.pointer p, .agg L.toArray] w fun e w' => e = .returned (.int .i64 8) ∧ Below w.heap.size w w' := by
  have H := hd h; clear h
  have HP := hd hp; clear hp
  go_enter Tryz.func21, Tryz.ntmps21
  go_wp2_with (first
    | (with_reducible refine wpl_box (o := ⟨some 3, .box 36 (.tmp 1), _, _, _, _⟩) rfl _ _ rfl L rfl w.heap.size rfl ?_; intro w1 h1 f1 b1 z1))
  refine (cnNoneN_c p _ (H.out.low b1 HP.out)).mono ?_
  rintro e w' ⟨rfl, rfl⟩
  go_wp2_with fail
  go_ret
  exact ⟨rfl, b1⟩
set_option maxRecDepth 100000 in
theorem cnForgetN_c (p : Option Addr) (w : World) (h : CnNil w p) (hp : ∀ z, p = some z → z.block < w.heap.size) : Calls Tryz.prog 18 #[.pointer p] w fun e w' => e = .returned (.bool false) ∧ Below w.heap.size w w' := by
  have H := hd h; clear h
  have HP := hd hp; clear hp
  go_enter Tryz.func18, Tryz.ntmps18
  go_wp2_with fail
  refine (cnWillN_c p _ H.out HP.out).mono ?_
  rintro e w1 ⟨rfl, b1⟩
  have hz := b1.size
  go_wp2_with (first
    | (with_reducible refine wpl_alloc (o := ⟨some 3, .alloc 30, _, _, _, _⟩) rfl _ rfl msg0 cnAlloc_msg w1.heap.size rfl ?_; intro w2 h2 f2 b2 z2)
    | ((with_reducible refine wpl_at (o := ⟨none, .store 30 (.tmp 3) (.tmp 8), _, _, _, _⟩) ?_); refine wpl_storeAll rfl rfl _ _ _ rfl w1.heap.size msg0 msg0 rfl rfl info_msg msg0_one h2 rfl f2 ?_; intro w9 h9 f9 k9 z9))
  go_ret
  exact ⟨rfl, (b1.trans (b2.mono hz)).trans (k9.toBelow (by omega) (by intro k hk; simp at hk; omega))⟩
set_option maxRecDepth 100000 in
theorem cnNextN_c (p : Option Addr) (w : World) (h : CnNil w p) (hp : ∀ z, p = some z → z.block < w.heap.size) : Calls Tryz.prog 11 #[.pointer p] w fun e w' => e = .returned (.tuple #[.agg (zK 0).toArray, .bool false, .int .i64 8]) ∧ Below w.heap.size w w' := by
  have H := hd h; clear h
  have HP := hd hp; clear hp
  go_enter Tryz.func11, Tryz.ntmps11
  go_wp2_with (first
    | (with_reducible refine wpl_alloc (o := ⟨some 2, .alloc 36, _, _, _, _⟩) rfl _ rfl (zK 0) alloc_pac w.heap.size rfl ?_; intro w1 h1 f1 b1 z1))
  refine (cnNoneN_c p _ (H.out.low b1 HP.out)).mono ?_
  rintro e w' ⟨rfl, rfl⟩
  go_wp2_with (first
    | ((with_reducible refine wpl_at (o := ⟨none, .store 36 (.tmp 2) (.tmp 11), _, _, _, _⟩) ?_); refine wpl_storeAll rfl rfl _ _ _ rfl w.heap.size (zK 0) (zK 0) rfl rfl info_pac (zK_one 0) h1 rfl f1 ?_; intro w9 h9 f9 k9 z9))
  refine bodyPost_ret (v := .tuple #[.agg (zK 0).toArray, .bool false, .int .i64 8]) (results_cell_tmp2 Tryz.results11 rfl (ret_pac h9 rfl) rfl rfl) rfl ?_
  exact ⟨rfl, b1.trans (k9.toBelow b1.size (by simp))⟩

/-! ### One that was made -/
set_option maxRecDepth 100000 in
theorem cnForget_c (g c : Nat) (s : Cn) (w : World) (h : CnAt w g c s) : Calls Tryz.prog 18 #[.pointer (some ⟨c, 0, none⟩)] w fun e w' => e = .returned (.bool s.will) ∧ CnAt w' g c { s with will := false } ∧ Below g w w' := by
  have H := hd h
  have hlt := h.lt
  have gc := h.gc
  have hone := cnWill_one s; have hln := cnWill_len s
  clear h
  cases hcm : s.will
  · go_enter Tryz.func18, Tryz.ntmps18
    go_wp2_with fail
    refine (cnWill_c g c s _ H.out).mono ?_
    rintro e w1 ⟨rfl, b1⟩
    rw [hcm]
    have hz := b1.size
    have e1 : ({ s with will := false } : Cn) = s := by rw [← hcm]
    generalize hL : cnWill s = L at *
    go_wp2_with (first
      | (with_reducible refine wpl_alloc (o := ⟨some 3, .alloc 30, _, _, _, _⟩) rfl _ rfl msg0 cnAlloc_msg w1.heap.size rfl ?_; intro w2 h2 f2 b2 z2)
      | ((with_reducible refine wpl_at (o := ⟨none, .store 30 (.tmp 3) (.tmp 8), _, _, _, _⟩) ?_); refine wpl_storeAll rfl rfl _ _ _ rfl w1.heap.size L msg0 rfl rfl (by rw [hln]; exact info_msg) hone h2 (by rw [hln]; rfl) f2 ?_; intro w9 h9 f9 k9 z9))
    have B9 : Below w.heap.size w w9 := (b1.trans (b2.mono hz)).trans (k9.toBelow (by omega) (by intro k hk; simp at hk; omega))
    go_ret
    refine ⟨rfl, ?_, B9.mono (by omega)⟩
    rw [e1]
    exact H.out.grow B9
  · go_enter Tryz.func18, Tryz.ntmps18
    go_wp2_with fail
    refine (cnWill_c g c s _ H.out).mono ?_
    rintro e w1 ⟨rfl, b1⟩
    rw [hcm]
    have hz := b1.size
    generalize hL : cnWill s = L at *
    go_wp2_with (first
      | (with_reducible refine wpl_alloc (o := ⟨some 3, .alloc 30, _, _, _, _⟩) rfl _ rfl msg0 cnAlloc_msg w1.heap.size rfl ?_; intro w2 h2 f2 b2 z2)
      | ((with_reducible refine wpl_at (o := ⟨none, .store 30 (.tmp 3) (.tmp 8), _, _, _, _⟩) ?_); refine wpl_storeAll rfl rfl _ _ _ rfl w1.heap.size L msg0 rfl rfl (by rw [hln]; exact info_msg) hone h2 (by rw [hln]; rfl) f2 ?_; intro w9 h9 f9 k9 z9; have B9 : Below w.heap.size w w9 := (b1.trans (b2.mono hz)).trans (k9.toBelow (by omega) (by intro k hk; simp at hk; omega)); have h9c := H.out.grow B9; obtain ⟨⟨va, vb, hA, hva, hown, hfr⟩, hf, -, hsh⟩ := h9c; have c20 := hA.at 20 rfl; have f20 := hf 20; have HA := hd hA; have HF := hd hf; have HFR := hd hfr; have HOW := hd hown; clear hA hf hown hfr h2 f2))
    go_ret
    exact ⟨rfl, CnAt.mk' (s := s) (HA.out.set 20 (.bool false) (by show 20 < 21; decide)) (HF.out.set _ _) ((Keeps.refl _ _).setCell (.inl (by simp)) _) hva HOW.out HFR.out gc (by rw [shape_setCell]; exact hsh) rfl rfl rfl, (B9.mono (by omega)).setCell (by show g ≤ c; omega) _⟩
set_option maxRecDepth 100000 in
theorem cnAccept_c (g c : Nat) (s : Cn) (x : Con) (w : World) (h : CnAt w g c s) : Calls Tryz.prog 19 #[.pointer (some ⟨c, 0, none⟩), .agg x.cells.toArray] w fun e w' => e = .returned (.int .i64 0) ∧ CnAt w' g c { s with who := x, came := true, will := x.hasWill } ∧ Below g w w' := by
  have H := hd h
  have hlt := h.lt
  have gc := h.gc
  clear h
  go_enter Tryz.func19, Tryz.ntmps19
  go_wp2_with (first
    | (with_reducible refine wpl_box (o := ⟨some 3, .box 32 (.tmp 1), _, _, _, _⟩) rfl _ _ rfl x.cells rfl w.heap.size rfl ?_; intro w1 h1 f1 b1 z1))
  have c2 : w1.cell? ⟨c, 2, none⟩ = some (.pointer (some ⟨g, 0, none⟩)) := by
    obtain ⟨⟨va, vb, hA, -⟩, -⟩ := H.out.grow b1
    exact hA.at 2 rfl
  refine (cnNone_c c g _ c2).mono ?_
  rintro e w' ⟨rfl, rfl⟩
  clear c2
  obtain ⟨⟨va, vb, hA, hva, hown, hfr⟩, hf, -, hsh⟩ := H.out.grow (b1.drew)
  have h1d := h1.drew
  have B1 : Below w.heap.size w w1.drew := b1.drew
  have hs1 : w1.drew.heap.size = w.heap.size + 1 := z1
  go_wp2_with fail
  refine wp_region_M (fun W => At W w.heap.size x.cells) 14 [(0, false), (1, false), (2, false), (3, false), (4, false), (5, false), (6, false), (7, false), (8, true), (9, false), (10, false), (11, true), (12, false), (13, false), (14, true)] (by kernel_rfl) (by kernel_rfl) (fun _ _ _ _ h => h) h1d ?_
  clear h1 f1 b1 z1
  generalize w1.drew = w2 at *
  iterate 3
    apply wpM_still (by rfl) (by rfl)
    · intro W hC
      go_simp
      rfl
    go_simp
  apply wpM_still (by rfl) (by rfl)
  · intro W hC
    exact still_loadAt _ _ rfl w.heap.size 0 rfl x.cells _ (At.range hC) Tryz.underlying32 rfl info_con
  iterate 4
    apply wpM_still (by rfl) (by rfl)
    · intro W hC
      have d4 := At.at hC 4 (u := .bool x.hasWill) rfl
      go_simp
      rfl
    go_simp
  apply wpM_move (by rfl) (by rfl)
  intro K hK
  refine wpo_storeMidS rfl _ _ _ rfl c 6 x.cells (s.cells va vb (.pointer (some ⟨g, 0, none⟩))) (({ s with who := x } : Cn).cells va vb (.pointer (some ⟨g, 0, none⟩))) rfl rfl info_con x.one hA rfl (by show 6 + 13 ≤ 21; decide) hf ?_
  intro w3 h3 f3 k3 z3 s3
  have h1e := h1d.keeps k3 (by simp; omega)
  refine hK _ _ (fun _ => h1e) ?_
  clear hK K
  iterate 2
    apply wpM_still (by rfl) (by rfl)
    · intro W hC
      go_simp
      rfl
    go_simp
  have d19 := h3.at 19 rfl; have e19 := f3 19
  have d20 := h3.at 20 rfl; have e20 := f3 20
  apply wpM_move (by rfl) (by rfl)
  intro K hK
  go_simp
  refine hK _ _ (fun _ => h1e.other c 19 _ (by omega)) ?_
  clear hK K
  iterate 2
    apply wpM_still (by rfl) (by rfl)
    · intro W hC
      go_simp
      rfl
    go_simp
  apply wpM_move (by rfl) (by rfl)
  intro K hK
  go_simp
  refine hK _ _ (fun h => absurd h (by decide)) ?_
  clear hK K
  refine wpM_nil ?_
  have hX : CnAt ((w3.setCell ⟨c, 19, none⟩ (.bool true)).setCell ⟨c, 20, none⟩ (.bool x.hasWill)) g c { s with who := x, came := true, will := x.hasWill } :=
    CnAt.mk' (s := s) ((h3.set 19 (.bool true) (by show 19 < 21; decide)).set 20 (.bool x.hasWill) (by show 20 < 21; decide)) ((f3.set _ _).set _ _) ((k3.setCell (.inl (by simp)) _).setCell (.inl (by simp)) _) hva hown hfr gc (by rw [shape_setCell, shape_setCell, s3]; exact hsh) rfl rfl rfl
  have HX := hd hX
  have B4 : Below g w ((w3.setCell ⟨c, 19, none⟩ (.bool true)).setCell ⟨c, 20, none⟩ (.bool x.hasWill)) :=
    ((((B1.mono (by omega)).trans (k3.toBelow (by omega) (by intro k hk; simp at hk; omega))).setCell (by show g ≤ c; omega) _).setCell (by show g ≤ c; omega) _)
  clear hX hA hf hown hfr h3 f3 k3 d19 e19 d20 e20
  go_wp2_with fail
  go_ret
  exact ⟨rfl, HX.out, B4⟩
end Go.Proofs.YtjlnlgemngpelaaGreatDoor

/- A connection: Emit. -/
namespace Go.Proofs.YtjlnlgemngpelaaGreatDoor
open Go.RowKit
set_option linter.unusedVariables false
set_option linter.unusedSimpArgs false

def cnEmit (s : Cn) (p : Pac) : Cn := if s.closed then s else { s with out := s.out ++ paPutB p }
theorem cnEmit_bad {s : Cn} {p : Pac} (h : paPutE p ≠ 0) : cnEmit s p = s := by
  unfold cnEmit
  split
  · rfl
  · rw [paPutB_bad h, List.append_nil]
theorem paPutB_ne {p : Pac} (h : paPutE p = 0) : paPutB p ≠ [] := by
  have h2 : hPutE p.k (paBody (paClean p)).1 (paBody (paClean p)).2.1.length = 0 := by
    unfold paPutE at h
    split at h
    · contradiction
    · exact h
  unfold paPutB
  rw [if_pos h, hPutB_ok h2]
  unfold hBytes
  simp
set_option maxRecDepth 100000 in
set_option maxHeartbeats 2000000 in
theorem cnEmit_c (g c : Nat) (s : Cn) (p : Pac) (vf vc : Value) (w : World) (h : CnAt w g c s) (hp : PacOk w p vf vc) (hH : EnvH w) (hE : EnvU w) (hrw : s.closed = false → s.rw = true) (hlen : s.out.length ≤ 1000000) :
    Calls Tryz.prog 21 #[.pointer (some ⟨c, 0, none⟩), .agg (p.cells vf vc).toArray] w fun e w' => e = .returned (.int .i64 (paPutE p)) ∧ CnAt w' g c (cnEmit s p) ∧ Below g w w' ∧ (∀ u, w.cell? ⟨c, 1, none⟩ = some u → Keeps (c :: blk u) w w') := by
  have H := hd h; have HP := hd hp; have HE := hd hE; have HH := hd hH
  have hlt := h.lt
  have gc := h.gc
  clear h hp hE hH
  go_enter Tryz.func21, Tryz.ntmps21
  go_wp2_with (first
    | (with_reducible refine wpl_box (o := ⟨some 3, .box 36 (.tmp 1), _, _, _, _⟩) rfl _ _ rfl (p.cells vf vc) rfl w.heap.size rfl ?_; intro w1 h1 f1 b1 z1))
  have c2 : w1.cell? ⟨c, 2, none⟩ = some (.pointer (some ⟨g, 0, none⟩)) := by
    obtain ⟨⟨va, vb, hA, -⟩, -⟩ := H.out.grow b1
    exact hA.at 2 rfl
  refine (cnNone_c c g _ c2).mono ?_
  rintro e w' ⟨rfl, rfl⟩
  clear c2
  go_wp2_with (first
    | ((with_reducible refine wpl_at (o := ⟨some 10, .load 36 (.tmp 3), _, _, _, _⟩) ?_); refine wpl_loadAt rfl _ _ rfl w.heap.size 0 rfl (p.cells vf vc) _ h1.range Tryz.underlying36 rfl info_pac ?_))
  refine (packPut_c p vf vc _ (HP.out.below b1 (Nat.le_refl _)) (HH.out.below b1 (Nat.le_refl _)) (HE.out.below b1)).mono ?_
  rintro e w2 ⟨v2, rfl, ho2, hb2⟩
  have B2 : Below w.heap.size w w2 := b1.trans (hb2.mono b1.size)
  have H2 := hd (H.out.grow B2)
  obtain ⟨a2, n2, rfl⟩ := ho2.bs.slice
  have hcv := run_str ho2.bs
  have HB2 := hd ho2
  clear ho2 hb2 h1 f1 b1 z1
  by_cases hE0 : paPutE p = 0
  rotate_left
  · have hEb : (paPutE p != 0) = true := by simpa using hE0
    have hst := hd (cnEmit_bad (s := s) hE0)
    obtain ⟨E, hLe⟩ : ∃ E, paPutE p = E := ⟨_, rfl⟩
    have HLE := hd hLe
    rw [hLe] at hEb hE0 ⊢
    clear hLe
    generalize (paPutB p).length = m at *
    go_wp2_with fail
    go_ret
    have H5 := H2.out
    rw [← hst.out] at H5
    exact ⟨by rw [HLE.out]; rfl, H5, B2.mono (by omega), fun _ _ => Keeps.below B2⟩
  have hne := paPutB_ne hE0
  have hle := paPutB_len p
  rw [hE0]
  have hsO : s.closed = false → cnEmit s p = { s with out := s.out ++ paPutB p } := fun h => by unfold cnEmit; rw [if_neg (by simp [h])]
  have hsC : s.closed = true → cnEmit s p = s := fun h => by unfold cnEmit; rw [if_pos h]
  have HE0 := hd hE0
  generalize hpb : paPutB p = L at *
  have hx : (sOf L).size ≠ 0 := by rw [sOf_sizeP]; simpa using hne
  have hl2 : s.out.length + (sOf L).size ≤ 140737488355328 := by rw [sOf_sizeP]; omega
  have HX := hd hx; have HL2 := hd hl2
  have hso : (⟨L.toArray⟩ : ByteArray) = sOf L := rfl
  rw [hso] at hcv
  clear hx hl2 hso hE0
  generalize L.length = m at *
  have c4 : w2.cell? ⟨c, 4, none⟩ = some (.bool s.closed) := by
    obtain ⟨⟨va, vb, hA, -⟩, -⟩ := H2.out
    exact hA.at 4 rfl
  cases hcl : s.closed
  · rw [hcl] at c4
    have hrw2 := hrw hcl
    have hs2 := hd (hsO hcl)
    clear hsO hsC
    have HB3 := hd HB2.out.bs
    go_wp2_with fail
    have H3 := hd (H2.out.grow ((Below.refl w2.heap.size w2).drew))
    have B3 : Below w.heap.size w w2.drew := B2.drew
    refine wp_region_M (fun W => Bs W (.slice a2 m n2) L) 6 [(0, false), (1, false), (2, false), (3, false), (4, false), (5, false), (6, true)] (by kernel_rfl) (by kernel_rfl) (fun _ _ _ _ h => h) (HB3.out.below' ((Below.refl w2.heap.size _).drew) (Nat.le_refl _)) ?_
    clear hcv HB2 HB3
    generalize w2.drew = w3 at *
    iterate 6
      apply wpM_still (by rfl) (by rfl)
      · intro W hC
        have d := run_str hC
        rw [show (⟨L.toArray⟩ : ByteArray) = sOf L from rfl] at d
        go_simp
        rfl
      go_simp
    apply wpM_move (by rfl) (by rfl)
    intro K hK
    go_simp
    refine (cnWrite_c g c s (sOf L) _ H3.out hrw2 HX.out HL2.out).mono ?_
    rintro e w4 ⟨rfl, h4, hb4, hk4⟩
    rw [sB_sOf] at h4
    have H4 := hd h4
    have B4 := (B3.mono (by omega : g ≤ w.heap.size)).trans hb4
    clear h4
    go_simp
    refine hK _ _ (fun h => absurd h (by decide)) ?_
    clear hK K
    refine wpM_nil ?_
    go_wp2_with fail
    go_ret
    have H5 := H4.out
    rw [← hs2.out] at H5
    exact ⟨by rw [HE0.out]; rfl, H5, B4, fun u hu => (Keeps.below B3).trans (hk4 u ((bcell B3 c 1 hlt).trans hu))⟩
  · rw [hcl] at c4
    have hs2 := hd (hsC hcl)
    clear hsO hsC
    go_wp2_with fail
    go_ret
    have H5 := H2.out
    rw [← hs2.out] at H5
    exact ⟨by rw [HE0.out]; rfl, H5, B2.mono (by omega), fun _ _ => Keeps.below B2⟩
end Go.Proofs.YtjlnlgemngpelaaGreatDoor

/- A connection: why a packet may not come. -/
namespace Go.Proofs.YtjlnlgemngpelaaGreatDoor
open Go.RowKit
set_option linter.unusedVariables false
set_option linter.unusedSimpArgs false

inductive Refusal where
  | never
  | turn
  | topic (s : ByteArray)
  | fine
def Refusal.val : Refusal → Value
  | .never => .iface 120 (.agg #[])
  | .turn => .iface 121 (.agg #[])
  | .topic s => .iface 123 (.agg #[.string s])
  | .fine => .nilIface
def Refusal.err : Refusal → Int
  | .never => 11
  | .turn => 15
  | .topic s => if lName (sB s) then 0 else 13
  | .fine => 0
def cnWhy (p : Pac) (first : Bool) : Refusal :=
  if p.k = 2 ∨ p.k = 9 ∨ p.k = 11 ∨ p.k = 13 then .never
  else if first ≠ (p.k == 1) then .turn
  else if p.k = 3 then .topic p.tp
  else if p.k = 1 ∧ p.c.hasWill = true then .topic p.c.topic
  else .fine
set_option maxRecDepth 100000 in
set_option maxHeartbeats 1000000 in
theorem refused_never_c (w : World) : Calls Tryz.prog 42 #[Refusal.never.val] w fun e w' => e = .returned (.int .i64 11) ∧ Below w.heap.size w w' := by
  have r1 : ∀ W, (Instr.typeAssert (.iface 120 (.agg #[])) 101 120 true).run Tryz.prog W = .ok (.tuple #[.agg #[], .bool true]) W := by intro W; kernel_rfl
  unfold Refusal.val
  go_enter Tryz.func42, Tryz.ntmps42
  go_wp2_with fail
  go_ret
  exact ⟨rfl, by go_grown⟩
set_option maxRecDepth 100000 in
set_option maxHeartbeats 1000000 in
theorem refused_turn_c (w : World) : Calls Tryz.prog 42 #[Refusal.turn.val] w fun e w' => e = .returned (.int .i64 15) ∧ Below w.heap.size w w' := by
  have r1 : ∀ W, (Instr.typeAssert (.iface 121 (.agg #[])) 101 120 true).run Tryz.prog W = .ok (.tuple #[.agg #[], .bool false]) W := by intro W; kernel_rfl
  have r2 : ∀ W, (Instr.typeAssert (.iface 121 (.agg #[])) 101 121 true).run Tryz.prog W = .ok (.tuple #[.agg #[], .bool true]) W := by intro W; kernel_rfl
  unfold Refusal.val
  go_enter Tryz.func42, Tryz.ntmps42
  go_wp2_with fail
  go_ret
  exact ⟨rfl, by go_grown⟩
set_option maxRecDepth 100000 in
set_option maxHeartbeats 1000000 in
theorem refused_fine_c (w : World) : Calls Tryz.prog 42 #[Refusal.fine.val] w fun e w' => e = .returned (.int .i64 0) ∧ Below w.heap.size w w' := by
  have r1 : ∀ W, (Instr.typeAssert .nilIface 101 120 true).run Tryz.prog W = .ok (.tuple #[.agg #[], .bool false]) W := by intro W; kernel_rfl
  have r2 : ∀ W, (Instr.typeAssert .nilIface 101 121 true).run Tryz.prog W = .ok (.tuple #[.agg #[], .bool false]) W := by intro W; kernel_rfl
  have r3 : ∀ W, (Instr.typeAssert .nilIface 101 123 true).run Tryz.prog W = .ok (.tuple #[.agg #[.string ⟨#[]⟩], .bool false]) W := by intro W; kernel_rfl
  unfold Refusal.val
  go_enter Tryz.func42, Tryz.ntmps42
  go_wp2_with fail
  go_ret
  exact ⟨rfl, Below.refl _ _⟩
set_option maxRecDepth 100000 in
set_option maxHeartbeats 1000000 in
theorem refused_topic_c (s : ByteArray) (w : World) (hE : EnvU w) (hs : s.size ≤ 9223372036854775000) : Calls Tryz.prog 42 #[(Refusal.topic s).val] w fun e w' => e = .returned (.int .i64 (Refusal.topic s).err) ∧ Below w.heap.size w w' := by
  have r1 : ∀ W, (Instr.typeAssert (.iface 123 (.agg #[.string s])) 101 120 true).run Tryz.prog W = .ok (.tuple #[.agg #[], .bool false]) W := by intro W; kernel_rfl
  have r2 : ∀ W, (Instr.typeAssert (.iface 123 (.agg #[.string s])) 101 121 true).run Tryz.prog W = .ok (.tuple #[.agg #[], .bool false]) W := by intro W; kernel_rfl
  have r3 : ∀ W, (Instr.typeAssert (.iface 123 (.agg #[.string s])) 101 123 true).run Tryz.prog W = .ok (.tuple #[.agg #[.string s], .bool true]) W := by intro W; kernel_rfl
  have hn := fun W h => Name_c (sB s) W h (by rw [sB_len]; exact hs)
  rw [show sOf (sB s) = s from by cases s; simp [sOf, sB]] at hn
  have HN := hd hn; have HE := hd hE
  clear hn hE
  obtain ⟨b, hb⟩ : ∃ b, lName (sB s) = b := ⟨_, rfl⟩
  rw [hb] at HN
  have he : (Refusal.topic s).err = if b then 0 else 13 := by show (if lName (sB s) = true then (0 : Int) else 13) = _; rw [hb]
  rw [he]
  unfold Refusal.val
  cases b
  all_goals
    go_enter Tryz.func42, Tryz.ntmps42
    go_wp2_with fail
    refine (HN.out _ (HE.out.below (by go_grown))).mono ?_
    rintro e w2 ⟨rfl, hb2⟩
    go_wp2_with fail
    go_ret
    refine ⟨rfl, Below.trans ?_ (hb2.mono ?_)⟩
    · go_grown
    · simp
set_option maxRecDepth 100000 in
set_option maxHeartbeats 2000000 in
theorem why_n2 (p : Pac) (vf vc : Value) (first : Bool) (w : World) (hk : p.k = 2) : Calls Tryz.prog 43 #[.agg (p.cells vf vc).toArray, .bool first] w fun e w' => e = .returned (.never : Refusal).val ∧ Below w.heap.size w w' := by
  have k2 : (p.k == 2) = true := by rw [hk]; rfl
  clear hk
  unfold Refusal.val
  go_enter Tryz.func43, Tryz.ntmps43
  go_wp2_with (first
    | (with_reducible refine wpl_box (o := ⟨some 2, .box 36 (.tmp 0), _, _, _, _⟩) rfl _ _ rfl (p.cells vf vc) rfl w.heap.size rfl ?_; intro w1 h1 f1 b1 z1; have c0 := h1.at 0 (u := .int .i64 p.k) rfl; have c3 := h1.at 3 (u := .string p.tp) rfl; have c11 := h1.at 11 (u := .bool p.c.hasWill) rfl; have c12 := h1.at 12 (u := .string p.c.topic) rfl; clear h1 f1))
  go_ret
  exact ⟨rfl, b1⟩
set_option maxRecDepth 100000 in
set_option maxHeartbeats 2000000 in
theorem why_n9 (p : Pac) (vf vc : Value) (first : Bool) (w : World) (hk : p.k = 9) : Calls Tryz.prog 43 #[.agg (p.cells vf vc).toArray, .bool first] w fun e w' => e = .returned (.never : Refusal).val ∧ Below w.heap.size w w' := by
  have k2 : (p.k == 2) = false := by rw [hk]; rfl
  have k9 : (p.k == 9) = true := by rw [hk]; rfl
  clear hk
  unfold Refusal.val
  go_enter Tryz.func43, Tryz.ntmps43
  go_wp2_with (first
    | (with_reducible refine wpl_box (o := ⟨some 2, .box 36 (.tmp 0), _, _, _, _⟩) rfl _ _ rfl (p.cells vf vc) rfl w.heap.size rfl ?_; intro w1 h1 f1 b1 z1; have c0 := h1.at 0 (u := .int .i64 p.k) rfl; have c3 := h1.at 3 (u := .string p.tp) rfl; have c11 := h1.at 11 (u := .bool p.c.hasWill) rfl; have c12 := h1.at 12 (u := .string p.c.topic) rfl; clear h1 f1))
  go_ret
  exact ⟨rfl, b1⟩
set_option maxRecDepth 100000 in
set_option maxHeartbeats 2000000 in
theorem why_n11 (p : Pac) (vf vc : Value) (first : Bool) (w : World) (hk : p.k = 11) : Calls Tryz.prog 43 #[.agg (p.cells vf vc).toArray, .bool first] w fun e w' => e = .returned (.never : Refusal).val ∧ Below w.heap.size w w' := by
  have k2 : (p.k == 2) = false := by rw [hk]; rfl
  have k9 : (p.k == 9) = false := by rw [hk]; rfl
  have k11 : (p.k == 11) = true := by rw [hk]; rfl
  clear hk
  unfold Refusal.val
  go_enter Tryz.func43, Tryz.ntmps43
  go_wp2_with (first
    | (with_reducible refine wpl_box (o := ⟨some 2, .box 36 (.tmp 0), _, _, _, _⟩) rfl _ _ rfl (p.cells vf vc) rfl w.heap.size rfl ?_; intro w1 h1 f1 b1 z1; have c0 := h1.at 0 (u := .int .i64 p.k) rfl; have c3 := h1.at 3 (u := .string p.tp) rfl; have c11 := h1.at 11 (u := .bool p.c.hasWill) rfl; have c12 := h1.at 12 (u := .string p.c.topic) rfl; clear h1 f1))
  go_ret
  exact ⟨rfl, b1⟩
set_option maxRecDepth 100000 in
set_option maxHeartbeats 2000000 in
theorem why_n13 (p : Pac) (vf vc : Value) (first : Bool) (w : World) (hk : p.k = 13) : Calls Tryz.prog 43 #[.agg (p.cells vf vc).toArray, .bool first] w fun e w' => e = .returned (.never : Refusal).val ∧ Below w.heap.size w w' := by
  have k2 : (p.k == 2) = false := by rw [hk]; rfl
  have k9 : (p.k == 9) = false := by rw [hk]; rfl
  have k11 : (p.k == 11) = false := by rw [hk]; rfl
  have k13 : (p.k == 13) = true := by rw [hk]; rfl
  clear hk
  unfold Refusal.val
  go_enter Tryz.func43, Tryz.ntmps43
  go_wp2_with (first
    | (with_reducible refine wpl_box (o := ⟨some 2, .box 36 (.tmp 0), _, _, _, _⟩) rfl _ _ rfl (p.cells vf vc) rfl w.heap.size rfl ?_; intro w1 h1 f1 b1 z1; have c0 := h1.at 0 (u := .int .i64 p.k) rfl; have c3 := h1.at 3 (u := .string p.tp) rfl; have c11 := h1.at 11 (u := .bool p.c.hasWill) rfl; have c12 := h1.at 12 (u := .string p.c.topic) rfl; clear h1 f1))
  go_ret
  exact ⟨rfl, b1⟩
set_option maxRecDepth 100000 in
set_option maxHeartbeats 2000000 in
theorem why_t1 (p : Pac) (vf vc : Value) (first : Bool) (w : World) (k2 : (p.k == 2) = false) (k9 : (p.k == 9) = false) (k11 : (p.k == 11) = false) (k13 : (p.k == 13) = false) (hf : first = false) (k1 : (p.k == 1) = true) : Calls Tryz.prog 43 #[.agg (p.cells vf vc).toArray, .bool first] w fun e w' => e = .returned (.turn : Refusal).val ∧ Below w.heap.size w w' := by
  subst hf
  unfold Refusal.val
  go_enter Tryz.func43, Tryz.ntmps43
  go_wp2_with (first
    | (with_reducible refine wpl_box (o := ⟨some 2, .box 36 (.tmp 0), _, _, _, _⟩) rfl _ _ rfl (p.cells vf vc) rfl w.heap.size rfl ?_; intro w1 h1 f1 b1 z1; have c0 := h1.at 0 (u := .int .i64 p.k) rfl; have c3 := h1.at 3 (u := .string p.tp) rfl; have c11 := h1.at 11 (u := .bool p.c.hasWill) rfl; have c12 := h1.at 12 (u := .string p.c.topic) rfl; clear h1 f1))
  go_ret
  exact ⟨rfl, b1⟩
set_option maxRecDepth 100000 in
set_option maxHeartbeats 2000000 in
theorem why_t2 (p : Pac) (vf vc : Value) (first : Bool) (w : World) (k2 : (p.k == 2) = false) (k9 : (p.k == 9) = false) (k11 : (p.k == 11) = false) (k13 : (p.k == 13) = false) (hf : first = true) (k1 : (p.k == 1) = false) : Calls Tryz.prog 43 #[.agg (p.cells vf vc).toArray, .bool first] w fun e w' => e = .returned (.turn : Refusal).val ∧ Below w.heap.size w w' := by
  subst hf
  unfold Refusal.val
  go_enter Tryz.func43, Tryz.ntmps43
  go_wp2_with (first
    | (with_reducible refine wpl_box (o := ⟨some 2, .box 36 (.tmp 0), _, _, _, _⟩) rfl _ _ rfl (p.cells vf vc) rfl w.heap.size rfl ?_; intro w1 h1 f1 b1 z1; have c0 := h1.at 0 (u := .int .i64 p.k) rfl; have c3 := h1.at 3 (u := .string p.tp) rfl; have c11 := h1.at 11 (u := .bool p.c.hasWill) rfl; have c12 := h1.at 12 (u := .string p.c.topic) rfl; clear h1 f1))
  go_ret
  exact ⟨rfl, b1⟩
set_option maxRecDepth 100000 in
set_option maxHeartbeats 2000000 in
theorem why_p3 (p : Pac) (vf vc : Value) (first : Bool) (w : World) (k2 : (p.k == 2) = false) (k9 : (p.k == 9) = false) (k11 : (p.k == 11) = false) (k13 : (p.k == 13) = false) (hf : first = false) (k1 : (p.k == 1) = false) (k3 : (p.k == 3) = true) : Calls Tryz.prog 43 #[.agg (p.cells vf vc).toArray, .bool first] w fun e w' => e = .returned (.topic p.tp : Refusal).val ∧ Below w.heap.size w w' := by
  subst hf
  unfold Refusal.val
  go_enter Tryz.func43, Tryz.ntmps43
  go_wp2_with (first
    | (with_reducible refine wpl_box (o := ⟨some 2, .box 36 (.tmp 0), _, _, _, _⟩) rfl _ _ rfl (p.cells vf vc) rfl w.heap.size rfl ?_; intro w1 h1 f1 b1 z1; have c0 := h1.at 0 (u := .int .i64 p.k) rfl; have c3 := h1.at 3 (u := .string p.tp) rfl; have c11 := h1.at 11 (u := .bool p.c.hasWill) rfl; have c12 := h1.at 12 (u := .string p.c.topic) rfl; clear h1 f1))
  go_ret
  exact ⟨rfl, b1⟩
set_option maxRecDepth 100000 in
set_option maxHeartbeats 2000000 in
theorem why_f3 (p : Pac) (vf vc : Value) (first : Bool) (w : World) (k2 : (p.k == 2) = false) (k9 : (p.k == 9) = false) (k11 : (p.k == 11) = false) (k13 : (p.k == 13) = false) (hf : first = false) (k1 : (p.k == 1) = false) (k3 : (p.k == 3) = false) : Calls Tryz.prog 43 #[.agg (p.cells vf vc).toArray, .bool first] w fun e w' => e = .returned (.fine : Refusal).val ∧ Below w.heap.size w w' := by
  subst hf
  unfold Refusal.val
  go_enter Tryz.func43, Tryz.ntmps43
  go_wp2_with (first
    | (with_reducible refine wpl_box (o := ⟨some 2, .box 36 (.tmp 0), _, _, _, _⟩) rfl _ _ rfl (p.cells vf vc) rfl w.heap.size rfl ?_; intro w1 h1 f1 b1 z1; have c0 := h1.at 0 (u := .int .i64 p.k) rfl; have c3 := h1.at 3 (u := .string p.tp) rfl; have c11 := h1.at 11 (u := .bool p.c.hasWill) rfl; have c12 := h1.at 12 (u := .string p.c.topic) rfl; clear h1 f1))
  go_ret
  exact ⟨rfl, b1⟩
set_option maxRecDepth 100000 in
set_option maxHeartbeats 2000000 in
theorem why_c1 (p : Pac) (vf vc : Value) (first : Bool) (w : World) (k2 : (p.k == 2) = false) (k9 : (p.k == 9) = false) (k11 : (p.k == 11) = false) (k13 : (p.k == 13) = false) (hf : first = true) (k1 : (p.k == 1) = true) (k3 : (p.k == 3) = false) (hw : p.c.hasWill = true) : Calls Tryz.prog 43 #[.agg (p.cells vf vc).toArray, .bool first] w fun e w' => e = .returned (.topic p.c.topic : Refusal).val ∧ Below w.heap.size w w' := by
  subst hf
  unfold Refusal.val
  go_enter Tryz.func43, Tryz.ntmps43
  go_wp2_with (first
    | (with_reducible refine wpl_box (o := ⟨some 2, .box 36 (.tmp 0), _, _, _, _⟩) rfl _ _ rfl (p.cells vf vc) rfl w.heap.size rfl ?_; intro w1 h1 f1 b1 z1; have c0 := h1.at 0 (u := .int .i64 p.k) rfl; have c3 := h1.at 3 (u := .string p.tp) rfl; have c11 := h1.at 11 (u := .bool p.c.hasWill) rfl; have c12 := h1.at 12 (u := .string p.c.topic) rfl; clear h1 f1))
  go_ret
  exact ⟨rfl, b1⟩
set_option maxRecDepth 100000 in
set_option maxHeartbeats 2000000 in
theorem why_c0 (p : Pac) (vf vc : Value) (first : Bool) (w : World) (k2 : (p.k == 2) = false) (k9 : (p.k == 9) = false) (k11 : (p.k == 11) = false) (k13 : (p.k == 13) = false) (hf : first = true) (k1 : (p.k == 1) = true) (k3 : (p.k == 3) = false) (hw : p.c.hasWill = false) : Calls Tryz.prog 43 #[.agg (p.cells vf vc).toArray, .bool first] w fun e w' => e = .returned (.fine : Refusal).val ∧ Below w.heap.size w w' := by
  subst hf
  unfold Refusal.val
  go_enter Tryz.func43, Tryz.ntmps43
  go_wp2_with (first
    | (with_reducible refine wpl_box (o := ⟨some 2, .box 36 (.tmp 0), _, _, _, _⟩) rfl _ _ rfl (p.cells vf vc) rfl w.heap.size rfl ?_; intro w1 h1 f1 b1 z1; have c0 := h1.at 0 (u := .int .i64 p.k) rfl; have c3 := h1.at 3 (u := .string p.tp) rfl; have c11 := h1.at 11 (u := .bool p.c.hasWill) rfl; have c12 := h1.at 12 (u := .string p.c.topic) rfl; clear h1 f1))
  go_ret
  exact ⟨rfl, b1⟩
theorem why_c (p : Pac) (vf vc : Value) (first : Bool) (w : World) : Calls Tryz.prog 43 #[.agg (p.cells vf vc).toArray, .bool first] w fun e w' => e = .returned (cnWhy p first).val ∧ Below w.heap.size w w' := by
  by_cases h : p.k = 2 ∨ p.k = 9 ∨ p.k = 11 ∨ p.k = 13
  · have e : cnWhy p first = .never := by unfold cnWhy; rw [if_pos h]
    rw [e]
    rcases h with h | h | h | h
    · exact why_n2 p vf vc first w h
    · exact why_n9 p vf vc first w h
    · exact why_n11 p vf vc first w h
    · exact why_n13 p vf vc first w h
  have k2 : (p.k == 2) = false := by simp; omega
  have k9 : (p.k == 9) = false := by simp; omega
  have k11 : (p.k == 11) = false := by simp; omega
  have k13 : (p.k == 13) = false := by simp; omega
  have e0 : cnWhy p first = if first ≠ (p.k == 1) then .turn else if p.k = 3 then .topic p.tp else if p.k = 1 ∧ p.c.hasWill = true then .topic p.c.topic else .fine := by unfold cnWhy; rw [if_neg h]
  rw [e0]
  clear e0
  by_cases h1 : p.k = 1
  · have k1 : (p.k == 1) = true := by simp [h1]
    have k3 : (p.k == 3) = false := by rw [h1]; rfl
    cases hf : first
    · rw [k1, if_pos (by simp)]
      exact why_t1 p vf vc false w k2 k9 k11 k13 rfl k1
    · rw [k1, if_neg (by simp), if_neg (by omega)]
      cases hw : p.c.hasWill
      · rw [if_neg (by simp)]
        exact why_c0 p vf vc true w k2 k9 k11 k13 rfl k1 k3 hw
      · rw [if_pos ⟨h1, rfl⟩]
        exact why_c1 p vf vc true w k2 k9 k11 k13 rfl k1 k3 hw
  · have k1 : (p.k == 1) = false := by simp [h1]
    cases hf : first
    · rw [k1, if_neg (by simp)]
      by_cases h3 : p.k = 3
      · rw [if_pos h3]
        exact why_p3 p vf vc false w k2 k9 k11 k13 rfl k1 (by simp [h3])
      · rw [if_neg h3, if_neg (by omega)]
        exact why_f3 p vf vc false w k2 k9 k11 k13 rfl k1 (by simp [h3])
    · rw [k1, if_pos (by simp)]
      exact why_t2 p vf vc true w k2 k9 k11 k13 rfl k1
theorem refused_c (r : Refusal) (w : World) (hE : EnvU w) (hs : ∀ s, r = .topic s → s.size ≤ 9223372036854775000) : Calls Tryz.prog 42 #[r.val] w fun e w' => e = .returned (.int .i64 r.err) ∧ Below w.heap.size w w' := by
  cases r with
  | never => exact refused_never_c w
  | turn => exact refused_turn_c w
  | topic s => exact refused_topic_c s w hE (hs s rfl)
  | fine => exact refused_fine_c w
def cnWrong (p : Pac) (first : Bool) : Int := (cnWhy p first).err
end Go.Proofs.YtjlnlgemngpelaaGreatDoor

/- A connection: take. -/
namespace Go.Proofs.YtjlnlgemngpelaaGreatDoor
open Go.RowKit
set_option linter.unusedVariables false
set_option linter.unusedSimpArgs false

def cnTake (s : Cn) : (Pac × Bool × Int) × Cn :=
  if (frNext s.fr).1.2.1 = false then ((Pac.zero, false, (frNext s.fr).1.2.2), { s with fr := (frNext s.fr).2 })
  else if (paOf (frNext s.fr).1.1.1.1 (frNext s.fr).1.1.1.2.1 (frNext s.fr).1.1.1.2.2 (frNext s.fr).1.1.2).2 ≠ 0 then ((Pac.zero, false, (paOf (frNext s.fr).1.1.1.1 (frNext s.fr).1.1.1.2.1 (frNext s.fr).1.1.1.2.2 (frNext s.fr).1.1.2).2), { s with fr := (frNext s.fr).2 })
  else if cnWrong (paOf (frNext s.fr).1.1.1.1 (frNext s.fr).1.1.1.2.1 (frNext s.fr).1.1.1.2.2 (frNext s.fr).1.1.2).1 s.first ≠ 0 then ((Pac.zero, false, cnWrong (paOf (frNext s.fr).1.1.1.1 (frNext s.fr).1.1.1.2.1 (frNext s.fr).1.1.1.2.2 (frNext s.fr).1.1.2).1 s.first), { s with fr := (frNext s.fr).2 })
  else (((paOf (frNext s.fr).1.1.1.1 (frNext s.fr).1.1.1.2.1 (frNext s.fr).1.1.1.2.2 (frNext s.fr).1.1.2).1, true, 0), { s with fr := (frNext s.fr).2, first := false })
def GivesCn (w : World) (g c : Nat) (r : (Pac × Bool × Int) × Cn) (e : Ending) (w' : World) : Prop :=
  ∃ vf vc, e = .returned (.tuple #[.agg (r.1.1.cells vf vc).toArray, .bool r.1.2.1, .int .i64 r.1.2.2]) ∧ PacOwn w.heap.size w' r.1.1 vf vc ∧ CnAt w' g c r.2 ∧ Keeps [g, c] w w'
def CnEnv (g : Nat) (w : World) : Prop := ∀ W, Below g w W → EnvF W ∧ EnvU W
theorem CnEnv.next {g : Nat} {w w' : World} (h : CnEnv g w) (hb : Below g w w') : CnEnv g w' := fun W hW => h W (hb.trans hW)
theorem CnEnv.of {g : Nat} {w0 w : World} (h1 : EnvF w0) (h2 : EnvU w0) (hb : Below w0.heap.size w0 w) (hg : w0.heap.size ≤ g) : CnEnv g w := fun W hW => ⟨h1.below (hb.trans (hW.mono hg)), h2.below (hb.trans (hW.mono hg))⟩
def pkL (x : Pk) : List Value := [.int .i64 x.1.1, .int .i64 x.1.2.1, .int .i64 x.1.2.2, .string (sOf x.2)]
theorem pkL_one (x : Pk) : ∀ v ∈ pkL x, v.oneCell' = true := by
  intro v hv
  have : (pkL x).all (·.oneCell') = true := rfl
  exact (List.all_eq_true.1 this) v hv
def zRaw : List Value := [.int .i64 0, .int .i64 0, .int .i64 0, .string ⟨#[]⟩]
theorem info_rawC : (Tryz.prog.info? 95).map (·.size) = some 4 := by kernel_rfl
theorem alloc_rawC (W : World) : (Instr.alloc 95 true (.tuple #[])).run Tryz.prog W = .ok (.pointer (some ⟨W.heap.size, 0, none⟩)) (W.alloc (.cells zRaw.toArray 95)) := by
  simp [Instr.alloc, newVar, go_sem, zRaw]
theorem frNext_body (s : FrS) : (frNext s).1.1.2.length ≤ s.1.length := by
  unfold frNext
  repeat' split
  all_goals first
    | simp [pk0]; done
    | (simp only [List.length_take, List.length_drop]; omega)
theorem kCon_topic (lv : Int) (l : List UInt8) (s : Int × Int) : (kCon lv l s).topic.size ≤ 65535 := by
  show (sOf (rTextV (uGet l (k4 l s).1) (fb (kf l s) 4) (k4 l s))).size ≤ 65535
  rw [sOf_sizeP]
  unfold rTextV
  split
  · simp
  · split
    · simp
    · exact uGet_len _ _
theorem cOf_topic (l : List UInt8) : (cOf l).1.topic.size ≤ 65535 := by
  unfold cOf cFin
  repeat' split
  all_goals first
    | exact kCon_topic _ _ _
    | exact Nat.zero_le _
theorem pOf_tp (l : List UInt8) (q : Int) : (pOf l q).1.length ≤ 65535 := by
  unfold pOf
  repeat' split
  all_goals first
    | exact uGet_len _ _
    | exact Nat.zero_le _
theorem paOf_texts (k f n : Int) (b : List UInt8) : (paOf k f n b).1.tp.size ≤ 65535 ∧ (paOf k f n b).1.c.topic.size ≤ 65535 := by
  have ht : (paTold k f b).1.tp.size ≤ 65535 ∧ (paTold k f b).1.c.topic.size ≤ 65535 := by
    unfold paTold
    repeat' split
    all_goals first
      | exact ⟨Nat.zero_le _, cOf_topic b⟩
      | exact ⟨by rw [sOf_sizeP]; exact pOf_tp _ _, Nat.zero_le _⟩
      | exact ⟨Nat.zero_le _, Nat.zero_le _⟩
  unfold paOf
  repeat' split
  all_goals first
    | exact ht
    | exact ⟨Nat.zero_le _, Nat.zero_le _⟩
theorem Held.keepsN {B : Nat} {S : List Nat} {w w' : World} {v : Value} {l : List UInt8} (h : Held B w v l) (hk : Keeps S w w') (hS : ∀ k, k ∈ blk v → k ∉ S) : Held B w' v l := by
  rcases h with h | ⟨h0, b, cap, n, rfl, hb, h1, h2, h3, hs, hc⟩
  · exact .inl h
  · have hlt := shape_lt hs
    have hn : b ∉ S := hS b (by simp [blk, Value.ownBlock])
    exact .inr ⟨h0, b, cap, n, rfl, hb, h1, h2, h3, (shape_of_block (hk.block b hlt hn)).trans hs, fun j x hx => (hk.cell hlt hn).trans (hc j x hx)⟩
theorem CnAt.fin {w w' : World} {g c r : Nat} {s s' : Cn} {va vb : Value} (hA : At w' c (s'.cells va vb (.pointer (some ⟨g, 0, none⟩)))) (hf : Free w' c) (hk : Keeps [r, c] w w') (hva : va = .pointer none ∨ va = .pointer (some ⟨c, 0, none⟩))
    (hown : Held (c + 1) w vb s.out ∧ (s.rw = true → Owned (c + 1) w vb s.out)) {l : List UInt8} {t d : Int} (hfr : FrAt w g l t d (r :: c :: blk vb)) (gc : g < c) (hcr : c < r) (hrb : r ∉ blk vb) (hsh : w'.shape? c = some (69, 21)) (ho : s'.out = s.out) (hr : s'.fr = (l, t, d)) (hw : s'.rw = s.rw) : CnAt w' g c s' := by
  have hcb : c ∉ blk vb := fun hm => by have := hown.1.blk_ge c hm; omega
  have hbl : ∀ k, k ∈ blk vb → k ∉ [r, c] := by
    intro k hkb hm
    simp at hm
    rcases hm with h1 | h1
    · exact hrb (h1 ▸ hkb)
    · exact hcb (h1 ▸ hkb)
  refine ⟨⟨va, vb, hA, hva, ⟨?_, fun hq => ?_⟩, ?_⟩, hf, gc, hsh⟩
  · rw [ho]; exact hown.1.keepsN hk hbl
  · rw [ho]
    have h1 := hown.2 (by rw [← hw]; exact hq)
    exact Owned.lift (Keeps.row hk (h1.le (Nat.zero_le _)) hbl) h1.blk_ge
  · rw [hr]
    refine hfr.after (S := r :: c :: blk vb) (hk.mono (by intro k hk; simp at hk; simp; omega)) ?_ (fun k hk => .inl (List.mem_cons_of_mem _ hk)) (fun k hk' => Nat.lt_of_lt_of_le (hfr.ltS k (List.mem_cons_of_mem _ hk')) hk.size)
    intro hm
    rcases List.mem_cons.1 hm with h1 | hm
    · omega
    · rcases List.mem_cons.1 hm with h1 | hm
      · omega
      · have := hown.1.blk_ge g hm; omega
end Go.Proofs.YtjlnlgemngpelaaGreatDoor

/- A connection: take: the walk. -/
namespace Go.Proofs.YtjlnlgemngpelaaGreatDoor
open Go.RowKit
set_option linter.unusedVariables false
set_option linter.unusedSimpArgs false

set_option maxRecDepth 100000 in
set_option maxHeartbeats 8000000 in
theorem cnTake_c (g c : Nat) (s : Cn) (w : World) (h : CnAt w g c s) (hN : CnEnv g w) (hlm : s.fr.1.length ≤ 1000000000) (ht : 0 ≤ s.fr.2.1 ∧ s.fr.2.1 ≤ 1000000000) :
    Calls Tryz.prog 29 #[.pointer (some ⟨c, 0, none⟩)] w (GivesCn w g c (cnTake s)) := by
  obtain ⟨⟨⟨X, ok, E⟩, F⟩, hR⟩ : ∃ R, frNext s.fr = R := ⟨_, rfl⟩
  have hbd : X.2.length ≤ s.fr.1.length := by have := frNext_body s.fr; rw [hR] at this; exact this
  obtain ⟨⟨P, E2⟩, hO⟩ : ∃ o, paOf X.1.1 X.1.2.1 X.1.2.2 X.2 = o := ⟨_, rfl⟩
  have htx : P.tp.size ≤ 65535 ∧ P.c.topic.size ≤ 65535 := by have := paOf_texts X.1.1 X.1.2.1 X.1.2.2 X.2; rw [hO] at this; exact this
  have hT : cnTake s = if ok = false then ((Pac.zero, false, E), { s with fr := F }) else if E2 ≠ 0 then ((Pac.zero, false, E2), { s with fr := F }) else if cnWrong P s.first ≠ 0 then ((Pac.zero, false, cnWrong P s.first), { s with fr := F }) else ((P, true, 0), { s with fr := F, first := false }) := by
    unfold cnTake
    rw [hR]
    simp only [hO]
  obtain ⟨T, hT2⟩ : ∃ T, cnTake s = T := ⟨_, rfl⟩
  rw [hT2] at hT ⊢
  have HT := hd hT; have HN := hd hN; have HLM := hd hlm; have HTK := hd ht; have HBD := hd hbd; have HTX := hd htx; have HO := hd hO; have HR := hd hR
  have H := hd h
  have hlt := h.lt; have gc := h.gc
  clear h hN hlm ht hbd htx hO hR hT hT2
  go_enter Tryz.func29, Tryz.ntmps29
  go_wp2_with (first
    | (with_reducible refine wpl_alloc (o := ⟨some 2, .alloc 36, _, _, _, _⟩) rfl _ rfl (zK 0) alloc_pac w.heap.size rfl ?_; intro w1 h1 f1 b1 z1; have c2 : w1.cell? ⟨c, 2, none⟩ = some (.pointer (some ⟨g, 0, none⟩)) := by { obtain ⟨⟨va, vb, hA, -⟩, -⟩ := H.out.grow b1; exact hA.at 2 rfl }))
  have hgw : g ≤ w.heap.size := by omega
  have B1 : Below g w w1 := b1.mono hgw
  obtain ⟨⟨va, vb, hA0, hva, hown0, hfr0⟩, hf0, -, hsh0⟩ := H.out
  have hrb : w.heap.size ∉ blk vb := fun hm => by have := hfr0.ltS _ (List.mem_cons_of_mem _ hm); omega
  have hA1 := hA0.keep b1 hlt
  have hf1 := hf0.keep b1 hlt
  have hsh1 := (shape_of_block (b1.block c hlt)).trans hsh0
  have hown1 : Held (c + 1) w1 vb s.out ∧ (s.rw = true → Owned (c + 1) w1 vb s.out) := ⟨hown0.1.kept b1, fun hr => Owned.kept (hown0.2 hr) b1 (Nat.le_refl _)⟩
  have hfr1 : FrAt w1 g s.fr.1 s.fr.2.1 s.fr.2.2 (w.heap.size :: c :: blk vb) := by
    refine hfr0.after (S := c :: blk vb) (Keeps.below b1) ?_ ?_ ?_
    · intro hm
      rcases List.mem_cons.1 hm with h2 | h2
      · omega
      · have := hown0.1.blk_ge g h2; omega
    · intro k hk
      rcases List.mem_cons.1 hk with rfl | h2
      · exact .inr (Nat.le_refl _)
      · exact .inl h2
    · intro k hk
      rcases List.mem_cons.1 hk with rfl | h2
      · omega
      · have := hfr0.ltS k h2; omega
  clear hA0 hown0 hfr0 hf0 hsh0
  refine (next_c g s.fr _ (HN.out _ B1).1 hfr1 (by have := HLM.out; omega) (by have := HTK.out; omega)).mono ?_
  rw [HR.out]
  rintro e w2 ⟨rfl, hf2, hk2⟩
  replace hf2 : FrAt w2 g F.1 F.2.1 F.2.2 (w.heap.size :: c :: blk vb) := hf2
  have hcg : c ∉ [g] := by simp; omega
  have hrg : w.heap.size ∉ [g] := by simp; omega
  have hA2 := hA1.keeps hk2 hcg
  have hfc2 := hf1.keeps hk2 hA1.lt hcg
  have hsh2 := (shape_of_block (hk2.block c hA1.lt hcg)).trans hsh1
  have hlg : ∀ k, k ∈ [g] → k < c + 1 := by intro k hk; simp at hk; omega
  have hown2 : Held (c + 1) w2 vb s.out ∧ (s.rw = true → Owned (c + 1) w2 vb s.out) := ⟨hown1.1.keeps hk2 hlg, fun hr => Owns.keeps (hown1.2 hr) hk2 hlg⟩
  have hr2 := h1.keeps hk2 hrg
  have fr2 := f1.keeps hk2 (by omega) hrg
  have B2 : Below g w w2 := B1.trans (hk2.toBelow (by omega) (by simp))
  have hs2 := hk2.size
  have K2 : Keeps [g, c] w w2 := (Keeps.below b1).trans (hk2.mono (by intro k hk; simp at hk; simp [hk]))
  have HA := hd hA2; have HF := hd hfc2; have HSH := hd hsh2; have HOW := hd hown2; have HFR := hd hf2
  clear hA1 hf1 hsh1 hown1 hfr1 hA2 hfc2 hsh2 hown2 hf2 h1 f1 b1 c2 hk2 B1 H HR
  have hpk : pkV X = .agg (pkL X).toArray := rfl
  rw [hpk]
  clear hpk
  generalize hr : w.heap.size = r at *
  cases ok
  · have hT : T = ((Pac.zero, false, E), { s with fr := F }) := by rw [HT.out, if_pos rfl]
    subst hT
    go_wp2_with (first
      | (with_reducible refine wpl_alloc (o := ⟨some 5, .alloc 95, _, _, _, _⟩) rfl _ rfl zRaw alloc_rawC w2.heap.size rfl ?_; intro w3 h3 f3 b3 z3)
      | ((with_reducible refine wpl_at (o := ⟨none, .store 95 (.tmp 5) (.tmp 16), _, _, _, _⟩) ?_); refine wpl_storeAll rfl rfl _ _ _ rfl w2.heap.size (pkL X) zRaw rfl rfl info_rawC (pkL_one X) h3 rfl f3 ?_; intro w4 h4 f4 k4 z4; have B4 : Below w2.heap.size w2 w4 := b3.trans (k4.toBelow b3.size (by simp)); have hr4 := hr2.keep B4 hr2.lt; have fr4 := fr2.keep B4 hr2.lt; clear h3 f3 b3 k4 z4 z3 hr2 fr2)
      | ((with_reducible refine wpl_at (o := ⟨none, .store 36 (.tmp 2) (.tmp 21), _, _, _, _⟩) ?_); refine wpl_storeAll rfl rfl _ _ _ rfl r (zK 0) (zK 0) rfl rfl info_pac (zK_one 0) hr4 rfl fr4 ?_; intro w9 h9 f9 k9 z9))
    refine bodyPost_ret (v := .tuple #[.agg (zK 0).toArray, .bool false, .int .i64 E]) (results_cell_tmp2 Tryz.results29 rfl (ret_pac h9 rfl) rfl rfl) rfl ?_
    have K9 : Keeps [r] w2 w9 := (Keeps.below B4).trans k9
    have hcr : c ∉ [r] := by simp; omega
    exact ⟨Nl, Nl, rfl, PacOwn.nil (p := Pac.zero) _ _ rfl rfl, CnAt.fin (s := s) (HA.out.keeps K9 hcr) (HF.out.keeps K9 HA.out.lt hcr) (K9.mono (by intro k hk; simp at hk; simp [hk])) hva HOW.out HFR.out gc (by omega) hrb ((shape_of_block (K9.block c HA.out.lt hcr)).trans HSH.out) rfl rfl rfl, K2.next K9 (by intro k hk; simp at hk; right; omega)⟩
  have hO := HO.out
  have hsz : (sOf X.2).size ≤ 140737488351232 := by rw [sOf_sizeP]; have := HBD.out; have := HLM.out; omega
  have hof := fun W h1 h2 => packOf_c X.1.1 X.1.2.1 X.1.2.2 (sOf X.2) W hsz h1 h2
  rw [sB_sOf, hO] at hof
  have HOF := hd hof
  clear hO hsz hof HO HBD
  go_wp2_with (first
    | (with_reducible refine wpl_alloc (o := ⟨some 5, .alloc 95, _, _, _, _⟩) rfl _ rfl zRaw alloc_rawC w2.heap.size rfl ?_; intro w3 h3 f3 b3 z3)
    | ((with_reducible refine wpl_at (o := ⟨none, .store 95 (.tmp 5) (.tmp 16), _, _, _, _⟩) ?_); refine wpl_storeAll rfl rfl _ _ _ rfl w2.heap.size (pkL X) zRaw rfl rfl info_rawC (pkL_one X) h3 rfl f3 ?_; intro w4 h4 f4 k4 z4; have B4 : Below w2.heap.size w2 w4 := b3.trans (k4.toBelow b3.size (by simp)); have hr4 := hr2.keep B4 hr2.lt; have fr4 := fr2.keep B4 hr2.lt; clear h3 f3 b3 k4 z4 z3 hr2 fr2)
    | ((with_reducible refine wpl_at (o := ⟨some 24, .load 95 (.tmp 5), _, _, _, _⟩) ?_); refine wpl_loadAt rfl _ _ rfl w2.heap.size 0 rfl (pkL X) _ h4.range Tryz.underlying95 rfl info_rawC ?_))
  have B4g : Below g w w4 := B2.trans (B4.mono (by omega))
  refine (HOF.out _ (HN.out _ B4g).1.1 (HN.out _ B4g).2).mono ?_
  rintro e w5 ⟨vf, vc, rfl, ho5, hb5⟩
  have hs4 := B4.size
  have B5 : Below w2.heap.size w2 w5 := B4.trans (hb5.mono (by omega))
  have hr5 := hr4.keep hb5 hr4.lt
  have fr5 := fr4.keep hb5 hr4.lt
  have hone := Pac.one P vf vc ho5.rd.f.oneCell ho5.rd.c.oneCell
  have HO5 := hd ho5
  have hs5 := hb5.size
  clear ho5 hb5 h4 f4 hr4 fr4 B4 B4g
  by_cases hE2 : E2 = 0
  rotate_left
  · have hE2b : (E2 != 0) = true := by simpa using hE2
    have hT : T = ((Pac.zero, false, E2), { s with fr := F }) := by rw [HT.out, if_neg (by simp), if_pos hE2]
    subst hT
    go_wp2_with (first
      | (with_reducible refine wpl_alloc (o := ⟨some 8, .alloc 36, _, _, _, _⟩) rfl _ rfl (zK 0) alloc_pac w5.heap.size rfl ?_; intro w6 h6 f6 b6 z6)
      | ((with_reducible refine wpl_at (o := ⟨none, .store 36 (.tmp 8) (.tmp 26), _, _, _, _⟩) ?_); refine wpl_storeAll rfl rfl _ _ _ rfl w5.heap.size (P.cells vf vc) (zK 0) rfl rfl info_pac hone h6 rfl f6 ?_; intro w7 h7 f7 k7 z7; have B7 : Below w5.heap.size w5 w7 := b6.trans (k7.toBelow b6.size (by simp)); have hr7 := hr5.keep B7 hr5.lt; have fr7 := fr5.keep B7 hr5.lt; clear h6 f6 b6 k7 z7 z6 hr5 fr5)
      | ((with_reducible refine wpl_at (o := ⟨none, .store 36 (.tmp 2) (.tmp 30), _, _, _, _⟩) ?_); refine wpl_storeAll rfl rfl _ _ _ rfl r (zK 0) (zK 0) rfl rfl info_pac (zK_one 0) hr7 rfl fr7 ?_; intro w9 h9 f9 k9 z9))
    refine bodyPost_ret (v := .tuple #[.agg (zK 0).toArray, .bool false, .int .i64 E2]) (results_cell_tmp2 Tryz.results29 rfl (ret_pac h9 rfl) rfl rfl) rfl ?_
    have K9 : Keeps [r] w2 w9 := (Keeps.below (B5.trans (B7.mono (by omega)))).trans k9
    have hcr : c ∉ [r] := by simp; omega
    exact ⟨Nl, Nl, rfl, PacOwn.nil (p := Pac.zero) _ _ rfl rfl, CnAt.fin (s := s) (HA.out.keeps K9 hcr) (HF.out.keeps K9 HA.out.lt hcr) (K9.mono (by intro k hk; simp at hk; simp [hk])) hva HOW.out HFR.out gc (by omega) hrb ((shape_of_block (K9.block c HA.out.lt hcr)).trans HSH.out) rfl rfl rfl, K2.next K9 (by intro k hk; simp at hk; right; omega)⟩
  subst hE2
  have hwc := fun W => why_c P vf vc s.first W
  have hrc := fun W h => refused_c (cnWhy P s.first) W h (by
    intro x hx
    have h1 := HTX.out
    have h2 : x = P.tp ∨ x = P.c.topic := by
      unfold cnWhy at hx
      split at hx
      · cases hx
      · split at hx
        · cases hx
        · split at hx
          · cases hx; exact .inl rfl
          · split at hx
            · cases hx; exact .inr rfl
            · cases hx
    rcases h2 with rfl | rfl <;> omega)
  obtain ⟨rv, hrv⟩ : ∃ rv, (cnWhy P s.first).val = rv := ⟨_, rfl⟩
  obtain ⟨z, hz⟩ : ∃ z, cnWrong P s.first = z := ⟨_, rfl⟩
  have hz2 : (cnWhy P s.first).err = z := hz
  rw [hrv, hz2] at hrc
  have hwc2 : ∀ W : World, Calls Tryz.prog 43 #[.agg (P.cells vf vc).toArray, .bool s.first] W fun e w' => e = .returned rv ∧ Below W.heap.size W w' := by intro W; have := hwc W; rw [hrv] at this; exact this
  have HWC := hd hwc2; have HRC := hd hrc; have HZ := hd hz
  clear hwc hwc2 hrc hrv hz hz2
  have c3 : w5.cell? ⟨c, 3, none⟩ = some (.bool s.first) := (bcell B5 c 3 HA.out.lt).trans (HA.out.at 3 rfl)
  have hc5 : c < w5.heap.size := by have := HA.out.lt; omega
  by_cases hz0 : z = 0
  all_goals
    go_wp2_with (first
      | (with_reducible refine wpl_alloc (o := ⟨some 8, .alloc 36, _, _, _, _⟩) rfl _ rfl (zK 0) alloc_pac w5.heap.size rfl ?_; intro w6 h6 f6 b6 z6)
      | ((with_reducible refine wpl_at (o := ⟨none, .store 36 (.tmp 8) (.tmp 26), _, _, _, _⟩) ?_); refine wpl_storeAll rfl rfl _ _ _ rfl w5.heap.size (P.cells vf vc) (zK 0) rfl rfl info_pac hone h6 rfl f6 ?_; intro w7 h7 f7 k7 z7; have B7 : Below w5.heap.size w5 w7 := b6.trans (k7.toBelow b6.size (by simp)); have hr7 := hr5.keep B7 hr5.lt; have fr7 := fr5.keep B7 hr5.lt; have d3 := (bcell B7 c 3 hc5).trans c3; clear h6 f6 b6 k7 z7 z6 hr5 fr5 c3))
    have h7d := h7.drew
    have hr7d := hr7.drew
    have fr7d := fr7.drew
    have B7d : Below w5.heap.size w5 w7.drew := B7.drew
    have hs7 : w7.drew.heap.size = w7.heap.size := rfl
    have d3d : w7.drew.cell? ⟨c, 3, none⟩ = some (.bool s.first) := d3
    refine wp_region_M (fun W => At W w5.heap.size (P.cells vf vc) ∧ W.cell? ⟨c, 3, none⟩ = some (.bool s.first)) 7 [(0, false), (1, false), (2, false), (3, false), (4, false), (5, true), (6, true), (7, true)] (by kernel_rfl) (by kernel_rfl) (fun _ _ _ _ h => h) ⟨h7d, d3d⟩ ?_
    clear h7 hr7 fr7 B7 d3 f7
    generalize w7.drew = w8 at *
    apply wpM_still (by rfl) (by rfl)
    · intro W hC
      exact still_loadAt _ _ rfl w5.heap.size 0 rfl (P.cells vf vc) _ (At.range hC.1) Tryz.underlying36 rfl info_pac
    iterate 4
      apply wpM_still (by rfl) (by rfl)
      · intro W hC
        obtain ⟨-, q⟩ := hC
        go_simp
        rfl
      go_simp
    apply wpM_move (by rfl) (by rfl)
    intro K hK
    go_simp
    refine (HWC.out _).mono ?_
    rintro e wa ⟨rfl, hba⟩
    go_simp
    have ha7 := h7d.keep hba h7d.lt
    have hc8 : c < w8.heap.size := by have := B7d.size; omega
    have da3 := (bcell hba c 3 hc8).trans d3d
    refine hK _ _ (fun _ => ⟨ha7, da3⟩) ?_
    clear hK K
    have Ba : Below w5.heap.size w5 wa := B7d.trans (hba.mono B7d.size)
    have BaG : Below g w wa := B2.trans ((B5.trans (Ba.mono (by omega))).mono (by omega))
    apply wpM_move (by rfl) (by rfl)
    intro K hK
    go_simp
    refine (HRC.out _ (HN.out _ BaG).2).mono ?_
    rintro e wb ⟨rfl, hbb⟩
    go_simp
    have hb7 := ha7.keep hbb ha7.lt
    have hca : c < wa.heap.size := by have := Ba.size; omega
    have db3 := (bcell hbb c 3 hca).trans da3
    refine hK _ _ (fun _ => ⟨hb7, db3⟩) ?_
    clear hK K
    have Bb : Below w5.heap.size w5 wb := Ba.trans (hbb.mono Ba.size)
    have hrb' := (hr7d.keep hba hr7d.lt)
    have hrb2 := hrb'.keep hbb hrb'.lt
    have frb' := (fr7d.keep hba hr7d.lt)
    have frb2 := frb'.keep hbb hrb'.lt
    have Bz : Below w2.heap.size w2 wb := B5.trans (Bb.mono (by omega))
    clear hba hbb ha7 da3 h7d d3d hr7d fr7d B7d Ba BaG hrb' frb'
    apply wpM_move (by rfl) (by rfl)
    intro K hK
    go_simp
    refine hK _ _ (fun h => absurd h (by decide)) ?_
    clear hK K
    refine wpM_nil ?_
  · subst hz0
    have hT : T = ((P, true, 0), { s with fr := F, first := false }) := by rw [HT.out, if_neg (by simp), if_neg (by simp), HZ.out, if_neg (by simp)]
    subst hT
    have hAb := HA.out.keep Bz HA.out.lt
    have hfb := HF.out.keep Bz HA.out.lt
    have ff3 := hfb 3
    have hne : c ≠ r := by omega
    have hne2 : c ≠ w5.heap.size := by omega
    have HAB := hd hAb; have HFB := hd hfb
    clear hAb hfb
    have hX3 := hrb2.other c 3 (.bool false) (by omega)
    have hX7 := hb7.other c 3 (.bool false) (by omega)
    have fX3 := frb2.set ⟨c, 3, none⟩ (.bool false)
    go_wp2_with (first
      | ((with_reducible refine wpl_at (o := ⟨some 46, .load 36 (.tmp 8), _, _, _, _⟩) ?_); refine wpl_loadAt rfl _ _ rfl w5.heap.size 0 rfl (P.cells vf vc) _ hX7.range Tryz.underlying36 rfl info_pac ?_)
      | ((with_reducible refine wpl_at (o := ⟨none, .store 36 (.tmp 2) (.tmp 46), _, _, _, _⟩) ?_); refine wpl_storeAll rfl rfl _ _ _ rfl r (P.cells vf vc) (zK 0) rfl rfl info_pac hone hX3 rfl fX3 ?_; intro w9 h9 f9 k9 z9))
    refine bodyPost_ret (v := .tuple #[.agg (P.cells vf vc).toArray, .bool true, .int .i64 0]) (results_cell_tmp2 Tryz.results29 rfl (ret_pac h9 rfl) rfl rfl) rfl ?_
    have kc : Keeps [r, c] wb (wb.setCell ⟨c, 3, none⟩ (.bool false)) := (Keeps.refl _ _).setCell (.inl (by simp)) _
    have K9 : Keeps [r, c] w2 w9 := ((Keeps.below Bz).trans kc).trans (k9.mono (by intro k hk; simp at hk; simp [hk]))
    have hcr : c ∉ [r] := by simp; omega
    have hcl : c < (wb.setCell ⟨c, 3, none⟩ (.bool false)).heap.size := by have h1 := Bz.size; have h2 := HA.out.lt; simp; omega
    have hA9 := (HAB.out.set 3 (.bool false) (by show 3 < 21; decide)).keeps k9 hcr
    have hf9 := (HFB.out.set ⟨c, 3, none⟩ (.bool false)).keeps k9 hcl hcr
    have hsh9 : w9.shape? c = some (69, 21) := (shape_of_block (k9.block c hcl hcr)).trans (by rw [shape_setCell]; exact (shape_of_block (Bz.block c HA.out.lt)).trans HSH.out)
    have hpo : PacOwn r w9 P vf vc := by
      have h1 : PacOwn r w5 P vf vc := HO5.out.le (by omega)
      have h2 := h1.kept Bb (Nat.le_refl _)
      have h3 := h2.keeps (S := [c]) ((Keeps.refl _ _).setCell (p := ⟨c, 3, none⟩) (.inl (by simp)) (.bool false)) (by intro k hk; simp at hk; omega)
      have h4 : PacOwn w4.heap.size w5 P vf vc := HO5.out
      have h5 := (h4.kept Bb (Nat.le_refl _)).keeps (S := [c]) ((Keeps.refl _ _).setCell (p := ⟨c, 3, none⟩) (.inl (by simp)) (.bool false)) (by intro k hk; simp at hk; omega)
      exact (h5.keeps k9 (by intro k hk; simp at hk; omega)).le (by omega)
    exact ⟨vf, vc, rfl, (by rw [hr]; exact hpo), CnAt.fin (s := s) hA9 hf9 K9 hva HOW.out HFR.out gc (by omega) hrb hsh9 rfl rfl rfl, K2.next K9 (by intro k hk; simp at hk; rcases hk with h1 | h1; exact .inr (by omega); exact .inl (by simp [h1]))⟩
  · have hzb : (z != 0) = true := by simpa using hz0
    have hT : T = ((Pac.zero, false, z), { s with fr := F }) := by rw [HT.out, if_neg (by simp), if_neg (by simp), HZ.out, if_pos hz0]
    subst hT
    go_wp2_with (first
      | ((with_reducible refine wpl_at (o := ⟨none, .store 36 (.tmp 2) (.tmp 41), _, _, _, _⟩) ?_); refine wpl_storeAll rfl rfl _ _ _ rfl r (zK 0) (zK 0) rfl rfl info_pac (zK_one 0) hrb2 rfl frb2 ?_; intro w9 h9 f9 k9 z9))
    refine bodyPost_ret (v := .tuple #[.agg (zK 0).toArray, .bool false, .int .i64 z]) (results_cell_tmp2 Tryz.results29 rfl (ret_pac h9 rfl) rfl rfl) rfl ?_
    have K9 : Keeps [r] w2 w9 := (Keeps.below Bz).trans k9
    have hcr : c ∉ [r] := by simp; omega
    exact ⟨Nl, Nl, rfl, PacOwn.nil (p := Pac.zero) _ _ rfl rfl, CnAt.fin (s := s) (HA.out.keeps K9 hcr) (HF.out.keeps K9 HA.out.lt hcr) (K9.mono (by intro k hk; simp at hk; simp [hk])) hva HOW.out HFR.out gc (by omega) hrb ((shape_of_block (K9.block c HA.out.lt hcr)).trans HSH.out) rfl rfl rfl, K2.next K9 (by intro k hk; simp at hk; right; omega)⟩
end Go.Proofs.YtjlnlgemngpelaaGreatDoor

/- A connection: Next. -/
namespace Go.Proofs.YtjlnlgemngpelaaGreatDoor
open Go.RowKit
set_option linter.unusedVariables false
set_option linter.unusedSimpArgs false

theorem out_of_row {w : World} {v : Value} {l : List UInt8} {r : Nat} {L : List Value} {t : TypeId} (h : Bs w v l) (hl : l ≠ []) (hr : At w r L) (hs : w.shape? r = some (t, L.length)) (hu : ∀ u ∈ L, ∀ b : Int, u ≠ .int .u8 b) : OutOf v [r] := by
  intro a n c e hm
  obtain ⟨a', c', e', h1, h2, h3, h4⟩ := h
  rw [e] at e'
  cases e'
  simp only [List.mem_singleton] at hm
  cases l with
  | nil => exact absurd rfl hl
  | cons x rest =>
    have h5 := h4 a rfl 0 (byteV x) rfl
    have e0 : a.add 0 = a := by cases a; simp [Addr.add]
    rw [e0] at h5
    obtain ⟨e1, n1, hs1, ho1, hsp⟩ := World.shape?_of_cell? h5
    rw [hm, hs] at hs1
    simp only [Option.some.injEq, Prod.mk.injEq] at hs1
    obtain ⟨-, rfl⟩ := hs1
    have ea : a = ⟨r, a.off, none⟩ := by cases a; simp at hm hsp; simp [hm, hsp]
    have h6 := hr.2 a.off _ (List.getElem?_eq_getElem ho1)
    rw [ea] at h5
    rw [h5] at h6
    exact hu _ (List.getElem_mem ho1) x.toNat (Option.some.inj h6).symm
theorem CnAt.aside {w w' : World} {g c r : Nat} {s : Cn} {L : List Value} {t : TypeId} (h : CnAt w g c s) (hk : Keeps [r] w w') (hcr : c < r) (hr : At w r L) (hs : w.shape? r = some (t, L.length)) (hu : ∀ u ∈ L, ∀ b : Int, u ≠ .int .u8 b) (ht : t ≠ 5) : CnAt w' g c s := by
  obtain ⟨⟨va, vb, hA, hva, hown, hfr⟩, hf, gc, hsh⟩ := h
  have hcn : c ∉ [r] := by simp; omega
  have hrb : r ∉ blk vb := by
    intro hm
    rcases hown.1 with ⟨rfl, -⟩ | ⟨-, b, cap, n, rfl, hb, h1, h2, h3, hs2, hc⟩
    · simp [blk, Value.ownBlock] at hm
    · simp [blk, Value.ownBlock] at hm
      subst hm
      rw [hs] at hs2
      simp only [Option.some.injEq, Prod.mk.injEq] at hs2
      exact ht hs2.1
  have hfr2 : FrAt w g s.fr.1 s.fr.2.1 s.fr.2.2 (r :: c :: blk vb) := by
    obtain ⟨⟨v, c0, hv, ho⟩, c1, c2, c3, fr, lt, ltS, shg, tyg⟩ := hfr
    refine ⟨⟨v, c0, hv, fun hl a n cc e hm => ?_⟩, c1, c2, c3, fr, lt, ?_, shg, tyg⟩
    · rcases List.mem_cons.1 hm with h1 | hm
      · exact ho hl a n cc e (by rw [h1]; simp)
      · rcases List.mem_cons.1 hm with h1 | hm
        · exact out_of_row hv hl hr hs hu a n cc e (by rw [h1]; simp)
        · exact ho hl a n cc e (List.mem_cons_of_mem _ hm)
    · intro k hk
      rcases List.mem_cons.1 hk with rfl | hk
      · exact hr.lt
      · exact ltS k hk
  exact CnAt.fin (s := s) (hA.keeps hk hcn) (hf.keeps hk hA.lt hcn) (hk.mono (by intro k hk; simp at hk; simp [hk])) hva hown hfr2 gc hcr hrb ((shape_of_block (hk.block c hA.lt hcn)).trans hsh) rfl rfl rfl
theorem CnAt.poke {w : World} {g c : Nat} {s s' : Cn} (h : CnAt w g c s) (i : Nat) (v : Value) (hi : i < 21) (he : ∀ va vb vg, (s.cells va vb vg).set i v = s'.cells va vb vg) (ho : s'.out = s.out) (hr : s'.fr = s.fr) (hw : s'.rw = s.rw) : CnAt (w.setCell ⟨c, i, none⟩ v) g c s' := by
  obtain ⟨⟨va, vb, hA, hva, hown, hfr⟩, hf, gc, hsh⟩ := h
  have hA2 := hA.set i v hi
  rw [he] at hA2
  exact CnAt.mk' (s := s) hA2 (hf.set _ _) ((Keeps.refl _ _).setCell (.inl (by simp)) _) hva hown hfr gc (by rw [shape_setCell]; exact hsh) ho hr hw
theorem CnAt.cell {w : World} {g c : Nat} {s : Cn} (h : CnAt w g c s) (i : Nat) (v : Value) (he : ∀ va vb, (s.cells va vb (.pointer (some ⟨g, 0, none⟩)))[i]? = some v) : w.cell? ⟨c, i, none⟩ = some v := by
  obtain ⟨⟨va, vb, hA, -⟩, -⟩ := h
  exact hA.at i (he va vb)
theorem wpl_allocS {w : World} {ops : Array Oper} {rest : List Oper} {o : Oper} {a : Act} {Q : Exit → Act → World → Prop} (hgd : o.guard = none) (ty : TypeId) (ho : o.op = .alloc ty) (L : List Value) (hz : ∀ W : World, (Instr.alloc ty true (.tuple #[])).run Tryz.prog W = .ok (.pointer (some ⟨W.heap.size, 0, none⟩)) (W.alloc (.cells L.toArray ty))) (g : Nat) (hg : w.heap.size = g)
    (h : ∀ w', At w' g L → Free w' g → Below g w w' → w'.heap.size = g + 1 → w'.shape? g = some (ty, L.length) → wpList Tryz.prog ops Q rest (a.put o.dst (.pointer (some ⟨g, 0, none⟩))) w') : wpList Tryz.prog ops Q (o :: rest) a w := by
  subst hg
  refine wpList_plain hgd fun K hK => ?_
  unfold Oper.wp execOp
  simp only [ho, Sem.run_bind, Sem.run_pure, hz, Result.andThen_ok]
  exact hK _ _ (h _ (At.new _ _ _) (Free.new _ _ _) ((Below.refl _ _).alloc (Nat.le_refl _) _) (by simp [go_sem]) (by have e : (w.alloc (.cells L.toArray ty)).heap = w.heap.push (.cells L.toArray ty) := rfl; unfold World.shape?; rw [e]; simp))
theorem zK_u8 : ∀ u ∈ zK 0, ∀ b : Int, u ≠ .int .u8 b := by
  intro u hu b
  simp only [zK, List.mem_cons, List.not_mem_nil, or_false] at hu
  rcases hu with rfl | rfl | rfl | rfl | rfl | rfl | rfl | rfl | rfl | rfl | rfl | rfl | rfl | rfl | rfl | rfl | rfl | rfl | rfl | rfl | rfl | rfl | rfl | rfl <;> simp
def cnNext (s : Cn) : (Pac × Bool × Int) × Cn :=
  if s.closed then ((Pac.zero, false, 0), s)
  else if s.bad ≠ 0 then ((Pac.zero, false, s.bad), s)
  else ((cnTake s).1, { (cnTake s).2 with bad := (cnTake s).1.2.2 })
set_option maxRecDepth 100000 in
theorem still_buildPac {o : Oper} {a : Act} (W : World) (ho : o.op = .build 36 #[]) : (execOp a.eval o).run Tryz.prog W = .ok (.value (.agg (zK 0).toArray)) W := by
  unfold execOp
  simp [ho, Instr.build, go_sem, zK]
set_option maxRecDepth 100000 in
set_option maxHeartbeats 8000000 in
theorem cnNext_c (g c : Nat) (s : Cn) (w : World) (h : CnAt w g c s) (hN : CnEnv g w) (hlm : s.fr.1.length ≤ 1000000000) (ht : 0 ≤ s.fr.2.1 ∧ s.fr.2.1 ≤ 1000000000) :
    Calls Tryz.prog 11 #[.pointer (some ⟨c, 0, none⟩)] w (GivesCn w g c (cnNext s)) := by
  obtain ⟨T, hT⟩ : ∃ T, cnNext s = T := ⟨_, rfl⟩
  rw [hT]
  have HT := hd hT; have H := hd h; have HN := hd hN
  have hlt := h.lt; have gc := h.gc
  have hgw : g ≤ w.heap.size := by omega
  have htk := fun W h1 h2 => cnTake_c g c s W h1 h2 hlm ht
  have HTK := hd htk
  clear hT h hN htk hlm ht
  generalize hr : w.heap.size = r at *
  cases hcl : s.closed
  rotate_left
  · have hT : T = ((Pac.zero, false, 0), s) := by rw [← HT.out]; unfold cnNext; rw [if_pos hcl]
    subst hT
    go_enter Tryz.func11, Tryz.ntmps11
    go_wp2_with (first
      | (with_reducible refine wpl_allocS (o := ⟨some 2, .alloc 36, _, _, _, _⟩) rfl _ rfl (zK 0) alloc_pac r hr ?_; intro w1 h1 f1 b1 z1 s1; have h1c := H.out.grow (by rw [hr]; exact b1); have c2 := h1c.cell 2 _ (fun _ _ => rfl); have c4 := h1c.cell 4 _ (fun _ _ => rfl); rw [hcl] at c4; have H1 := hd h1c; clear h1c))
    refine (cnNone_c c g _ c2).mono ?_
    rintro e w' ⟨rfl, rfl⟩
    go_wp2_with (first
      | ((with_reducible refine wpl_at (o := ⟨none, .store 36 (.tmp 2) (.tmp 17), _, _, _, _⟩) ?_); refine wpl_storeAll rfl rfl _ _ _ rfl r (zK 0) (zK 0) rfl rfl info_pac (zK_one 0) h1 rfl f1 ?_; intro w9 h9 f9 k9 z9))
    refine bodyPost_ret (v := .tuple #[.agg (zK 0).toArray, .bool false, .int .i64 0]) (results_cell_tmp2 Tryz.results11 rfl (ret_pac h9 rfl) rfl rfl) rfl ?_
    have B9 : Below w.heap.size w w9 := by rw [hr]; exact b1.trans (k9.toBelow (by omega) (by simp))
    exact ⟨Nl, Nl, rfl, PacOwn.nil (p := Pac.zero) _ _ rfl rfl, H.out.grow B9, Keeps.below B9⟩
  by_cases hb : s.bad = 0
  rotate_left
  · have hbb : (s.bad != 0) = true := by simpa using hb
    have hT : T = ((Pac.zero, false, s.bad), s) := by rw [← HT.out]; unfold cnNext; rw [if_neg (by simp [hcl]), if_pos hb]
    subst hT
    go_enter Tryz.func11, Tryz.ntmps11
    go_wp2_with (first
      | (with_reducible refine wpl_allocS (o := ⟨some 2, .alloc 36, _, _, _, _⟩) rfl _ rfl (zK 0) alloc_pac r hr ?_; intro w1 h1 f1 b1 z1 s1; have h1c := H.out.grow (by rw [hr]; exact b1); have c2 := h1c.cell 2 _ (fun _ _ => rfl); have c4 := h1c.cell 4 _ (fun _ _ => rfl); rw [hcl] at c4; have c5 := h1c.cell 5 _ (fun _ _ => rfl); have H1 := hd h1c; clear h1c))
    refine (cnNone_c c g _ c2).mono ?_
    rintro e w' ⟨rfl, rfl⟩
    go_wp2_with fail
    have h1d := h1.drew
    have f1d := f1.drew
    have b1d : Below r w w1.drew := b1.drew
    have hs1 : w1.drew.heap.size = w1.heap.size := rfl
    refine wp_region_M (fun W => W.cell? ⟨c, 5, none⟩ = some (.int .i64 s.bad)) 7 [(0, false), (1, false), (2, false), (3, false), (4, false), (5, true), (6, false), (7, true)] (by kernel_rfl) (by kernel_rfl) (fun _ _ _ _ h => h) c5 ?_
    have c5d : w1.drew.cell? ⟨c, 5, none⟩ = some (.int .i64 s.bad) := c5
    clear h1 f1 b1 c2 c4 c5
    generalize w1.drew = w2 at *
    apply wpM_still (by rfl) (by rfl)
    · intro W hC
      exact still_buildPac W rfl
    iterate 4
      apply wpM_still (by rfl) (by rfl)
      · intro W hC
        go_simp
        rfl
      go_simp
    apply wpM_move (by rfl) (by rfl)
    intro K hK
    refine wpo_storeMid rfl _ _ _ rfl r 0 (zK 0) (zK 0) (zK 0) rfl rfl info_pac (zK_one 0) h1d rfl (by show 0 + 24 ≤ 24; decide) f1d ?_
    intro w9 h9 f9 k9 z9
    have hc9 : c ∉ [r] := by simp; omega
    refine hK _ _ (fun _ => (k9.cell (by omega) hc9).trans c5d) ?_
    clear hK K
    apply wpM_still (by rfl) (by rfl)
    · intro W hC
      go_simp
      rfl
    go_simp
    apply wpM_move (by rfl) (by rfl)
    intro K hK
    go_simp
    refine hK _ _ (fun h => absurd h (by decide)) ?_
    clear hK K
    refine wpM_nil ?_
    go_wp2_with fail
    refine bodyPost_ret (v := .tuple #[.agg (zK 0).toArray, .bool false, .int .i64 s.bad]) (results_cell_tmp2 Tryz.results11 rfl (ret_pac h9 rfl) rfl rfl) rfl ?_
    have B9 : Below w.heap.size w w9 := by rw [hr]; exact b1d.trans (k9.toBelow (by omega) (by simp))
    exact ⟨Nl, Nl, rfl, PacOwn.nil (p := Pac.zero) _ _ rfl rfl, H.out.grow B9, Keeps.below B9⟩
  have hbb : (s.bad != 0) = false := by simpa using hb
  have hT : T = ((cnTake s).1, { (cnTake s).2 with bad := (cnTake s).1.2.2 }) := by rw [← HT.out]; unfold cnNext; rw [if_neg (by simp [hcl]), if_neg (by simpa using hb)]
  generalize hcT : cnTake s = CT at *
  obtain ⟨⟨P, ok, E⟩, s2⟩ := CT
  simp only at hT
  subst hT
  go_enter Tryz.func11, Tryz.ntmps11
  go_wp2_with (first
    | (with_reducible refine wpl_allocS (o := ⟨some 2, .alloc 36, _, _, _, _⟩) rfl _ rfl (zK 0) alloc_pac r hr ?_; intro w1 h1 f1 b1 z1 s1; have h1c := H.out.grow (by rw [hr]; exact b1); have c2 := h1c.cell 2 _ (fun _ _ => rfl); have c4 := h1c.cell 4 _ (fun _ _ => rfl); rw [hcl] at c4; have c5 := h1c.cell 5 _ (fun _ _ => rfl); have H1 := hd h1c; clear h1c))
  refine (cnNone_c c g _ c2).mono ?_
  rintro e w' ⟨rfl, rfl⟩
  go_wp2_with fail
  refine (HTK.out _ H1.out (HN.out.next (b1.mono (by omega)))).mono ?_
  rintro e w2 ⟨vf, vc, rfl, hp2, hc2, hk2⟩
  simp only
  have hrn : r ∉ [g, c] := by simp; omega
  have hr2 := h1.keeps hk2 hrn
  have fr2 := f1.keeps hk2 (by omega) hrn
  have sr2 : w2.shape? r = some (36, (zK 0).length) := (shape_of_block (hk2.block r (by omega) hrn)).trans s1
  have hz2 := hk2.size
  have hone := Pac.one P vf vc hp2.rd.f.oneCell hp2.rd.c.oneCell
  have HP2 := hd hp2; have HC2 := hd hc2
  have K2 : Keeps [g, c] w w2 := (Keeps.below (by rw [hr]; exact b1)).trans hk2
  clear hp2 hc2 h1 f1 c2 c4 c5 hk2 H1
  go_wp2_with (first
    | (with_reducible refine wpl_alloc (o := ⟨some 5, .alloc 36, _, _, _, _⟩) rfl _ rfl (zK 0) alloc_pac w2.heap.size rfl ?_; intro w3 h3 f3 b3 z3)
    | ((with_reducible refine wpl_at (o := ⟨none, .store 36 (.tmp 5) (.tmp 32), _, _, _, _⟩) ?_); refine wpl_storeAll rfl rfl _ _ _ rfl w2.heap.size (P.cells vf vc) (zK 0) rfl rfl info_pac hone h3 rfl f3 ?_; intro w4 h4 f4 k4 z4; have B4 : Below w2.heap.size w2 w4 := b3.trans (k4.toBelow b3.size (by simp)); have hr4 := hr2.keep B4 hr2.lt; have fr4 := fr2.keep B4 hr2.lt; have sr4 := (shape_of_block (B4.block r hr2.lt)).trans sr2; have hc4 := HC2.out.grow B4; have c5 := hc4.cell 5 _ (fun _ _ => rfl); have f5 := hc4.free 5; have HC4 := hd hc4; have hp4 := HP2.out.kept B4 (Nat.le_refl _); have HP4 := hd hp4; have hl2 := hr2.lt; clear h3 f3 b3 k4 z3 hr2 fr2 hc4 hp4 f4; have X4 := h4.other c 5 (.int .i64 E) (by have := HC2.out.lt; omega); have Y4 := hr4.other c 5 (.int .i64 E) (by omega); have Z4 := fr4.set ⟨c, 5, none⟩ (.int .i64 E))
    | ((with_reducible refine wpl_at (o := ⟨some 39, .load 36 (.tmp 5), _, _, _, _⟩) ?_); refine wpl_loadAt rfl _ _ rfl w2.heap.size 0 rfl (P.cells vf vc) _ X4.range Tryz.underlying36 rfl info_pac ?_)
    | ((with_reducible refine wpl_at (o := ⟨none, .store 36 (.tmp 2) (.tmp 39), _, _, _, _⟩) ?_); refine wpl_storeAll rfl rfl _ _ _ rfl r (P.cells vf vc) (zK 0) rfl rfl info_pac hone Y4 rfl Z4 ?_; intro w9 h9 f9 k9 z9))
  refine bodyPost_ret (v := .tuple #[.agg (P.cells vf vc).toArray, .bool ok, .int .i64 E]) (results_cell_tmp2 Tryz.results11 rfl (ret_pac h9 rfl) rfl rfl) rfl ?_
  have hX : CnAt (w4.setCell ⟨c, 5, none⟩ (.int .i64 E)) g c { s2 with bad := E } := HC4.out.poke 5 (.int .i64 E) (by decide) (fun _ _ _ => rfl) rfl rfl rfl
  have hX9 := hX.aside k9 (by omega) Y4 (by rw [shape_setCell]; exact sr4) zK_u8 (by decide)
  have kc : Keeps [c] w4 (w4.setCell ⟨c, 5, none⟩ (.int .i64 E)) := (Keeps.refl _ _).setCell (.inl (by simp)) _
  have hp9 : PacOwn w1.heap.size w9 P vf vc := (HP4.out.keeps kc (by intro k hk; simp at hk; omega)).keeps k9 (by intro k hk; simp at hk; omega)
  have K9 : Keeps [g, c] w w9 := ((K2.trans (Keeps.below B4)).trans (kc.mono (by intro k hk; simp at hk; simp [hk]))).next k9 (by intro k hk; simp at hk; right; omega)
  exact ⟨vf, vc, rfl, hp9.le (by omega), hX9, K9⟩
end Go.Proofs.YtjlnlgemngpelaaGreatDoor

/- A connection: what comes out of bytes; chunks play no part: plain laws. No program. -/
namespace Go.Proofs.YtjlnlgemngpelaaGreatDoor
open Go.RowKit
set_option linter.unusedVariables false
set_option linter.unusedSimpArgs false

/-! ### The packet at a place is the first one of what lies from there on -/
theorem hGet_drop {A : List UInt8} {a : Nat} (h : a ≤ A.length) : hGet A a = ((hGet (A.drop a) 0).1, (if (hGet (A.drop a) 0).2.2 = 0 then (hGet (A.drop a) 0).2.1 + a else 0), (hGet (A.drop a) 0).2.2) := by
  have e1 : bN (A.drop a) (0 : Int).toNat = bN A ((a : Int).toNat) := by rw [bN_drop]; simp
  have e2 : (A.drop a).drop ((0 : Int).toNat + 1) = A.drop ((a : Int).toNat + 1) := by rw [List.drop_drop]; rfl
  have l1 : ((A.drop a).length : Int) = A.length - a := by rw [List.length_drop]; omega
  unfold hGet
  rw [if_neg (by omega : ¬ ((a : Int) < 0 ∨ (A.length : Int) < a)), if_neg (by omega : ¬ ((0 : Int) < 0 ∨ ((A.drop a).length : Int) < 0)), e1, e2]
  by_cases c : (a : Int) = A.length
  · rw [if_pos c, if_pos (by omega : (0 : Int) = ((A.drop a).length : Int))]
    simp
  rw [if_neg c, if_neg (by omega : ¬ (0 : Int) = ((A.drop a).length : Int))]
  generalize bN A (a : Int).toNat = z
  generalize A.drop ((a : Int).toNat + 1) = D
  by_cases c2 : hRight ((z : Int) / 16) ((z : Int) % 16) = 0
  rotate_left
  · simp [c2]
  by_cases c3 : (hLen D).2.2 = 0
  rotate_left
  · simp [c2, c3]
  by_cases c4 : 4096 < (hLen D).1
  · simp [c2, c3, c4]
  · simp [c2, c3, c4]
    omega
theorem paOne_zero (l : List UInt8) : paOne l 0 = if (hGet l 0).2.2 = 2 then (Pac.zero, 0, false, 0)
  else if (hGet l 0).2.2 ≠ 0 then (Pac.zero, 0, false, (hGet l 0).2.2)
  else if (l.length : Int) - (hGet l 0).2.1 < (hGet l 0).1.2.2 then (Pac.zero, 0, false, 0)
  else ((paOf (hGet l 0).1.1 (hGet l 0).1.2.1 (hGet l 0).1.2.2 ((l.drop (hGet l 0).2.1.toNat).take (hGet l 0).1.2.2.toNat)).1, (hGet l 0).2.1 + (hGet l 0).1.2.2,
    decide ((paOf (hGet l 0).1.1 (hGet l 0).1.2.1 (hGet l 0).1.2.2 ((l.drop (hGet l 0).2.1.toNat).take (hGet l 0).1.2.2.toNat)).2 = 0),
    (paOf (hGet l 0).1.1 (hGet l 0).1.2.1 (hGet l 0).1.2.2 ((l.drop (hGet l 0).2.1.toNat).take (hGet l 0).1.2.2.toNat)).2) := rfl
theorem paOne_drop {A : List UInt8} {a : Nat} (h : a ≤ A.length) : (paOne A a).1 = (paOne (A.drop a) 0).1 ∧ (paOne A a).2.2 = (paOne (A.drop a) 0).2.2 ∧ ((paOne A a).2.2.1 = true → (paOne A a).2.1 = (paOne (A.drop a) 0).2.1 + a) := by
  have hg := hGet_drop h
  have l1 : ((A.drop a).length : Int) = A.length - a := by rw [List.length_drop]; omega
  have hn : (hGet (A.drop a) 0).2.2 = 0 → 1 ≤ (hGet (A.drop a) 0).2.1 := fun h => (hGet_rng h).1
  rw [paOne_zero]
  unfold paOne
  rw [hg]
  generalize hGet (A.drop a) 0 = R at *
  obtain ⟨⟨k, f, n⟩, q, E⟩ := R
  simp only at hn ⊢
  by_cases c1 : E = 2
  · simp [c1]
  by_cases c2 : E = 0
  rotate_left
  · simp [c1, c2]
  subst c2
  have hq := hn rfl
  have e : (A.drop a).drop q.toNat = A.drop (q + a).toNat := by rw [List.drop_drop]; congr 1; omega
  simp only [if_neg c1, ne_eq, not_true_eq_false, if_false, if_true, e, l1]
  by_cases c3 : (A.length : Int) - (q + a) < n
  · simp only [if_pos c3, if_pos (show (A.length : Int) - a - q < n by omega)]
    exact ⟨trivial, trivial, fun h => by simp at h⟩
  simp only [if_neg c3, if_neg (show ¬ (A.length : Int) - a - q < n by omega)]
  exact ⟨trivial, trivial, fun _ => by omega⟩
theorem paOne_mono0 {l B : List UInt8} (h : (paOne l 0).2.2.1 = true) : paOne (l ++ B) 0 = paOne l 0 := by
  rw [paOne_zero] at h
  rw [paOne_zero, paOne_zero]
  by_cases c1 : (hGet l 0).2.2 = 2
  · rw [if_pos c1] at h; simp at h
  have hm := hGet_mono (B := B) c1
  rw [hm]
  by_cases c2 : (hGet l 0).2.2 = 0
  rotate_left
  · rw [if_neg c1, if_pos c2] at h; simp at h
  obtain ⟨r1, r2, r3, r4⟩ := hGet_rng c2
  by_cases c3 : (l.length : Int) - (hGet l 0).2.1 < (hGet l 0).1.2.2
  · rw [if_neg c1, if_neg (by simpa using c2), if_pos c3] at h; simp at h
  have q2 : ((l ++ B).drop (hGet l 0).2.1.toNat).take (hGet l 0).1.2.2.toNat = (l.drop (hGet l 0).2.1.toNat).take (hGet l 0).1.2.2.toNat := by
    rw [List.drop_append_of_le_length (by omega), List.take_append_of_le_length (by simp; omega)]
  have c4 : ¬ ((l ++ B).length : Int) - (hGet l 0).2.1 < (hGet l 0).1.2.2 := by simp only [List.length_append]; omega
  rw [q2]
  simp only [if_neg c1, ne_eq, c2, not_true_eq_false, if_false, if_neg c3, if_neg c4]
theorem paOne_mono {A B : List UInt8} {a : Nat} (ha : a ≤ A.length) (h : (paOne A a).2.2.1 = true) : paOne (A ++ B) a = paOne A a := by
  obtain ⟨h1, h2, h3⟩ := paOne_drop ha
  obtain ⟨g1, g2, g3⟩ := paOne_drop (A := A ++ B) (a := a) (by simp; omega)
  have e : (A ++ B).drop a = A.drop a ++ B := by rw [List.drop_append_of_le_length ha]
  rw [e, paOne_mono0 (by rw [← h2]; exact h)] at g1 g2 g3
  have h4 := h3 h
  have g4 := g3 (by rw [g2, ← h2]; exact h)
  refine Prod.ext (by rw [g1, h1]) (Prod.ext (by rw [g4, h4]) (by rw [g2, h2]))

/-- So many packets were got, and the place behind them. -/
inductive Got (A : List UInt8) : List Pac → Nat → Prop
  | nil : Got A [] 0
  | snoc {L : List Pac} {a : Nat} (h : Got A L a) (ok : (paOne A a).2.2.1 = true) : Got A (L ++ [(paOne A a).1]) (paOne A a).2.1.toNat
theorem Got.le {A : List UInt8} {L : List Pac} {a : Nat} (h : Got A L a) : a ≤ A.length ∧ L.length ≤ a := by
  induction h with
  | nil => simp
  | snoc h ok ih =>
    have hr := paOne_rng ok
    rw [List.length_append, List.length_singleton]
    omega
theorem Got.mono {A B : List UInt8} {L : List Pac} {a : Nat} (h : Got A L a) : Got (A ++ B) L a := by
  induction h with
  | nil => exact .nil
  | snoc h ok ih =>
    have e := paOne_mono (B := B) h.le.1 ok
    have := Got.snoc ih (by rw [e]; exact ok)
    rw [e] at this
    exact this
theorem Got.all {A : List UInt8} {L : List Pac} {a : Nat} (h : Got A L a) : paAllB A = (L ++ (paAll (A.length - a + 1) A a).1, (paAll (A.length - a + 1) A a).2) := by
  induction h with
  | nil => unfold paAllB; simp
  | snoc h ok ih =>
    rename_i L a
    have hr := paOne_rng ok
    have hl := h.le
    obtain ⟨m, hm⟩ : ∃ m, A.length - a = m + 1 := ⟨A.length - a - 1, by omega⟩
    rw [ih, hm, paAll_succ (m + 1), if_pos ok, paAll_fuel A m (A.length - (paOne A a).2.1.toNat) (paOne A a).2.1.toNat (by omega) (by omega)]
    simp

/-! ### The document's answer -/
def rfLook (l : List Pac) (n : Nat) : Nat → Nat → Int
  | 0, _ => 0
  | f + 1, i => if i < l.length ∧ i ≤ n then (if cnWrong (l.getD i Pac.zero) (i == 0) ≠ 0 then cnWrong (l.getD i Pac.zero) (i == 0) else rfLook l n f (i + 1)) else 0
def rfPacket (A : List UInt8) (n : Nat) : Pac × Bool × Int :=
  if rfLook (paAllB A).1 n ((paAllB A).1.length + 1) 0 ≠ 0 then (Pac.zero, false, rfLook (paAllB A).1 n ((paAllB A).1.length + 1) 0)
  else if n < (paAllB A).1.length then ((paAllB A).1.getD n Pac.zero, true, 0) else (Pac.zero, false, (paAllB A).2.2)
theorem rfLook_succ (l : List Pac) (n f i : Nat) : rfLook l n (f + 1) i = if i < l.length ∧ i ≤ n then (if cnWrong (l.getD i Pac.zero) (i == 0) ≠ 0 then cnWrong (l.getD i Pac.zero) (i == 0) else rfLook l n f (i + 1)) else 0 := rfl
/-- None of these is wrong. -/
def Good (L : List Pac) : Prop := ∀ i p, L[i]? = some p → cnWrong p (i == 0) = 0
theorem rfLook_good {L M : List Pac} (hG : Good L) (n : Nat) (hn : L.length ≤ n) : ∀ (f i : Nat), i ≤ L.length → L.length - i < f → rfLook (L ++ M) n f i = (match M with | [] => 0 | p :: _ => if cnWrong p (L.length == 0) ≠ 0 then cnWrong p (L.length == 0) else rfLook (L ++ M) n (f - (L.length - i) - 1) (L.length + 1))
  | 0, i, hi, hf => by omega
  | f + 1, i, hi, hf => by
    rw [rfLook_succ]
    by_cases hil : i < L.length
    · have hx : (L ++ M).getD i Pac.zero = L[i] := by simp [List.getD, List.getElem?_append_left hil, List.getElem?_eq_getElem hil]
      have hg := hG i L[i] (List.getElem?_eq_getElem hil)
      rw [if_pos ⟨by rw [List.length_append]; omega, by omega⟩, hx, hg, if_neg (by simp), rfLook_good hG n hn f (i + 1) (by omega) (by omega)]
      have e : f - (L.length - (i + 1)) - 1 = f + 1 - (L.length - i) - 1 := by omega
      rw [e]
    · have hie : i = L.length := by omega
      subst hie
      cases M with
      | nil => rw [if_neg (by simp)]
      | cons p M =>
        have hx : (L ++ p :: M).getD L.length Pac.zero = p := by simp [List.getD]
        rw [if_pos ⟨by simp, hn⟩, hx]
        simp only [Nat.sub_self, Nat.sub_zero, Nat.add_sub_cancel]
theorem rfLook_over (l : List Pac) (n : Nat) : ∀ (f i : Nat), n < i → rfLook l n f i = 0
  | 0, _, _ => rfl
  | f + 1, i, h => by rw [rfLook_succ, if_neg (by omega)]
/-- What the document answers where the next packet is there, and where not. -/
theorem rf_there {A : List UInt8} {L : List Pac} {a : Nat} (h : Got A L a) (hG : Good L) (ok : (paOne A a).2.2.1 = true) :
    rfPacket A L.length = if cnWrong (paOne A a).1 (L.length == 0) ≠ 0 then (Pac.zero, false, cnWrong (paOne A a).1 (L.length == 0)) else ((paOne A a).1, true, 0) := by
  have ha := (Got.snoc h ok).all
  generalize (paAll (A.length - (paOne A a).2.1.toNat + 1) A (paOne A a).2.1.toNat).1 = M at ha
  have e1 : (paAllB A).1 = L ++ ((paOne A a).1 :: M) := by rw [ha]; simp
  have hl := rfLook_good (M := (paOne A a).1 :: M) hG L.length (Nat.le_refl _) ((L ++ ((paOne A a).1 :: M)).length + 1) 0 (Nat.zero_le _) (by simp; omega)
  rw [rfLook_over _ _ _ _ (Nat.lt_succ_self _)] at hl
  unfold rfPacket
  rw [e1, hl]
  by_cases hw : cnWrong (paOne A a).1 (L.length == 0) = 0
  · have hw' : ¬ (cnWrong (paOne A a).1 (L.length == 0) ≠ 0) := by simpa using hw
    simp only [if_neg hw']
    rw [if_neg (by simp), if_pos (by simp)]
    simp [List.getD]
  · simp only [if_pos hw]
theorem rf_end {A : List UInt8} {L : List Pac} {a : Nat} (h : Got A L a) (hG : Good L) (ok : (paOne A a).2.2.1 = false) :
    rfPacket A L.length = (Pac.zero, false, (paOne A a).2.2.2) := by
  have ha := h.all
  rw [paAll_succ, if_neg (by rw [ok]; simp)] at ha
  simp only [List.append_nil] at ha
  have hl := rfLook_good (M := []) hG L.length (Nat.le_refl _) (L.length + 1) 0 (Nat.zero_le _) (by omega)
  rw [List.append_nil] at hl
  unfold rfPacket
  rw [ha]
  simp only [hl]
  rw [if_neg (by simp), if_neg (by omega)]

/-! ### One step of a connection -/
def GoneTo (s s' : Cn) (l : List UInt8) (t : Int) (E : Int) : Prop := ∃ F : FrS, s' = { s with fr := F, bad := E } ∧ F.1.length ≤ l.length ∧ t ≤ F.2.1 ∧ F.2.1 ≤ t + 1
theorem cnNext_one (s : Cn) (l : List UInt8) (t : Int) (hc : s.closed = false) (hb : s.bad = 0) (hf : s.fr = (l, t, 0)) :
    ((paOne l 0).2.2.1 = true →
      (cnWrong (paOne l 0).1 s.first = 0 → cnNext s = (((paOne l 0).1, true, 0), { s with fr := (l.drop (paOne l 0).2.1.toNat, t + 1, 0), first := false, bad := 0 })) ∧
      (cnWrong (paOne l 0).1 s.first ≠ 0 → (cnNext s).1 = (Pac.zero, false, cnWrong (paOne l 0).1 s.first) ∧ GoneTo s (cnNext s).2 l t (cnWrong (paOne l 0).1 s.first))) ∧
    ((paOne l 0).2.2.1 = false → (cnNext s).1 = (Pac.zero, false, (paOne l 0).2.2.2) ∧ ((paOne l 0).2.2.2 = 0 → (cnNext s).2 = s) ∧ GoneTo s (cnNext s).2 l t (paOne l 0).2.2.2) := by
  have z : ((0 : Nat) : Int) = 0 := rfl
  have hn : cnNext s = ((cnTake s).1, { (cnTake s).2 with bad := (cnTake s).1.2.2 }) := by unfold cnNext; rw [if_neg (by simp [hc]), if_neg (by simpa using hb)]
  have hs : s = { s with fr := (l, t, 0), bad := 0 } := by rw [← hf, ← hb]
  rw [hn]
  unfold cnTake paOne
  rw [hf, z]
  by_cases h2 : (hGet l 0).2.2 = 2
  · have e : frNext (l, t, 0) = ((pk0, false, 0), (l, t, 0)) := by rw [frNext, if_neg (by simp), if_pos h2]
    rw [e]
    simp only [if_pos h2, if_true]
    exact ⟨fun h => absurd h (by simp), fun _ => ⟨by first | rfl | trivial, fun _ => hs.symm, (l, t, 0), rfl, Nat.le_refl _, by simp only; omega, by simp only; omega⟩⟩
  by_cases h0 : (hGet l 0).2.2 = 0
  rotate_left
  · have e : frNext (l, t, 0) = ((pk0, false, (hGet l 0).2.2), ([], t, (hGet l 0).2.2)) := by rw [frNext, if_neg (by simp), if_neg h2, if_pos h0]
    rw [e]
    simp only [if_neg h2, if_pos h0, if_true]
    exact ⟨fun h => absurd h (by simp), fun _ => ⟨by first | rfl | trivial, fun h => absurd h h0, ([], t, (hGet l 0).2.2), rfl, by simp, by simp only; omega, by simp only; omega⟩⟩
  have h0' : ¬ ((hGet l 0).2.2 ≠ 0) := by simpa using h0
  obtain ⟨r1, r2, r3, r4⟩ := hGet_rng h0
  by_cases hsm : (l.length : Int) - (hGet l 0).2.1 < (hGet l 0).1.2.2
  · have e : frNext (l, t, 0) = ((pk0, false, 0), (l, t, 0)) := by
      rw [frNext, if_neg (by simp), if_neg h2, if_neg h0']
      simp only
      rw [if_pos hsm]
    rw [e]
    simp only [if_neg h2, if_neg h0', if_pos hsm, if_true]
    exact ⟨fun h => absurd h (by simp), fun _ => ⟨by first | rfl | trivial, fun _ => hs.symm, (l, t, 0), rfl, Nat.le_refl _, by simp only; omega, by simp only; omega⟩⟩
  have e : frNext (l, t, 0) = ((((hGet l 0).1, (l.drop (hGet l 0).2.1.toNat).take (hGet l 0).1.2.2.toNat), true, 0), (l.drop ((hGet l 0).2.1 + (hGet l 0).1.2.2).toNat, t + 1, 0)) := by
    rw [frNext, if_neg (by simp), if_neg h2, if_neg h0']
    simp only
    rw [if_neg hsm]
  rw [e]
  simp only [if_neg h2, if_neg h0', if_neg hsm]
  generalize paOf (hGet l 0).1.1 (hGet l 0).1.2.1 (hGet l 0).1.2.2 ((l.drop (hGet l 0).2.1.toNat).take (hGet l 0).1.2.2.toNat) = O
  rw [if_neg (by simp)]
  have gone : ∀ E, GoneTo s { ({ s with fr := (l.drop ((hGet l 0).2.1 + (hGet l 0).1.2.2).toNat, t + 1, 0) } : Cn) with bad := E } l t E := fun E =>
    ⟨(l.drop ((hGet l 0).2.1 + (hGet l 0).1.2.2).toNat, t + 1, 0), rfl, by simp, by simp only; omega, by simp only; omega⟩
  by_cases hO : O.2 = 0
  rotate_left
  · rw [if_pos hO]
    refine ⟨fun h => absurd h (by simpa using hO), fun _ => ⟨rfl, fun h => absurd h hO, gone _⟩⟩
  rw [if_neg (by simpa using hO)]
  refine ⟨fun _ => ⟨fun hw => ?_, fun hw => ?_⟩, fun h => absurd hO (by simpa using h)⟩
  · rw [if_neg (by simpa using hw)]
  · rw [if_pos hw]
    exact ⟨rfl, gone _⟩

/-! ### The connection beside the document's answer -/
structure CI (s : Cn) (A : List UInt8) (n : Nat) (d : Bool) : Prop where
  open' : s.closed = false
  taken : 0 ≤ s.fr.2.1 ∧ s.fr.2.1 ≤ A.length + 1
  cnt : n ≤ A.length
  st : (d = false ∧ s.bad = 0 ∧ ∃ L a, Got A L a ∧ Good L ∧ L.length = n ∧ s.first = (n == 0) ∧ s.fr = (A.drop a, (n : Int), 0)) ∨ (d = true ∧ s.bad ≠ 0 ∧ rfPacket A n = (Pac.zero, false, s.bad))
theorem CI.new : CI Cn.new [] 0 false := ⟨rfl, by simp [Cn.new], Nat.zero_le _, .inl ⟨rfl, rfl, [], 0, .nil, fun i p h => by simp at h, rfl, rfl, rfl⟩⟩
theorem CI.feed {s : Cn} {A : List UInt8} {n : Nat} {d : Bool} (h : CI s A n d) (x : ByteArray) : CI (cnFeed s x) (if d = true then A else A ++ sB x) n d := by
  have ef : cnFeed s x = { s with fr := (if s.fr.2.2 = 0 then s.fr.1 ++ sB x else s.fr.1, s.fr.2.1, s.fr.2.2) } := by unfold cnFeed; rw [if_neg (by simp [h.open'])]
  rw [ef]
  obtain ⟨ho, ht, hc, hs⟩ := h
  rcases hs with ⟨rfl, hb, L, a, hG, hgd, hL, hfi, hfr⟩ | ⟨rfl, hb, hrf⟩
  · show CI _ (A ++ sB x) n false
    refine ⟨ho, ?_, ?_, .inl ⟨rfl, hb, L, a, hG.mono, hgd, hL, hfi, ?_⟩⟩
    · simp only [List.length_append]; push_cast; omega
    · rw [List.length_append]; omega
    · rw [List.drop_append_of_le_length hG.le.1, hfr]
      rfl
  · show CI _ A n true
    exact ⟨ho, ht, hc, .inr ⟨rfl, hb, hrf⟩⟩
theorem CI.feed_len {s : Cn} {A : List UInt8} {n : Nat} {d : Bool} (h : CI s A n d) (x : ByteArray) : (cnFeed s x).fr.1.length ≤ s.fr.1.length + x.size := by
  have e : (sB x).length = x.size := sB_lenP x
  unfold cnFeed
  rw [if_neg (by simp [h.open'])]
  simp only
  split
  · rw [List.length_append, e]; omega
  · omega
theorem CI.next {s : Cn} {A : List UInt8} {n : Nat} {d : Bool} (h : CI s A n d) : (cnNext s).1 = rfPacket A n ∧
    CI (cnNext s).2 A (if (cnNext s).1.2.1 = true then n + 1 else n) (d || decide ((cnNext s).1.2.2 ≠ 0)) ∧ (cnNext s).2.fr.1.length ≤ s.fr.1.length := by
  obtain ⟨ho, ht, hc, hs⟩ := h
  rcases hs with ⟨rfl, hb, L, a, hG, hgd, hL, hfi, hfr⟩ | ⟨rfl, hb, hrf⟩
  · obtain ⟨k1, k2⟩ := cnNext_one s (A.drop a) n ho hb hfr
    have hle := hG.le
    obtain ⟨d1, d2, d3⟩ := paOne_drop hle.1
    have hlen : s.fr.1.length = (A.drop a).length := by rw [hfr]
    have bad : ∀ E, (cnNext s).1 = (Pac.zero, false, E) → E ≠ 0 → rfPacket A n = (Pac.zero, false, E) → GoneTo s (cnNext s).2 (A.drop a) n E → (cnNext s).1 = rfPacket A n ∧
        CI (cnNext s).2 A (if (cnNext s).1.2.1 = true then n + 1 else n) (false || decide ((cnNext s).1.2.2 ≠ 0)) ∧ (cnNext s).2.fr.1.length ≤ s.fr.1.length := by
      rintro E e1 hE e2 ⟨F, e3, g1, g2, g3⟩
      rw [e1, e2, e3]
      refine ⟨rfl, ⟨ho, ?_, ?_, .inr ⟨by simp [hE], hE, ?_⟩⟩, by rw [hlen]; exact g1⟩
      · simp only; omega
      · simp only; rw [if_neg (by simp)]; exact hc
      · simp only; rw [if_neg (by simp)]; exact e2
    by_cases hok : (paOne A a).2.2.1 = true
    · have hok' : (paOne (A.drop a) 0).2.2.1 = true := by rw [← d2]; exact hok
      obtain ⟨k3, k4⟩ := k1 hok'
      have hrf := rf_there hG hgd hok
      rw [hL] at hrf
      rw [← d1, hfi] at k3 k4
      by_cases hw : cnWrong (paOne A a).1 (n == 0) = 0
      · have e1 := k3 hw
        rw [if_neg (by simpa using hw)] at hrf
        rw [e1, hrf]
        have hr := paOne_rng hok
        have hq := d3 hok
        refine ⟨rfl, ⟨ho, by simp only; omega, by simp; omega, .inl ⟨rfl, rfl, L ++ [(paOne A a).1], (paOne A a).2.1.toNat, .snoc hG hok, ?_, ?_, ?_, ?_⟩⟩, ?_⟩
        · intro i p hp
          by_cases hi : i < L.length
          · rw [List.getElem?_append_left hi] at hp
            exact hgd i p hp
          · rw [List.getElem?_append_right (by omega)] at hp
            have hi0 : i - L.length = 0 := by
              have := (List.getElem?_eq_some_iff.1 hp).1
              simp at this
              omega
            rw [hi0] at hp
            simp at hp
            have : i = n := by omega
            rw [← hp, this]
            exact hw
        · simp [hL]
        · simp
        · have e9 : (A.drop a).drop (paOne (A.drop a) 0).2.1.toNat = A.drop (paOne A a).2.1.toNat := by
            rw [List.drop_drop]; congr 1
            have := paOne_rng hok'
            omega
          simp only [e9, if_true]
          push_cast
          rfl
        · rw [hlen]; simp only [List.length_drop]; omega
      · obtain ⟨e1, e2⟩ := k4 hw
        rw [if_pos hw] at hrf
        exact bad _ e1 hw hrf e2
    · have hok0 : (paOne A a).2.2.1 = false := by simpa using hok
      have hok' : (paOne (A.drop a) 0).2.2.1 = false := by rw [← d2]; exact hok0
      obtain ⟨e1, e2, e3⟩ := k2 hok'
      have hrf := rf_end hG hgd hok0
      rw [hL, d2] at hrf
      by_cases hE : (paOne (A.drop a) 0).2.2.2 = 0
      · rw [hE] at e1 hrf
        rw [e1, hrf, e2 hE]
        exact ⟨rfl, ⟨ho, ht, by simpa using hc, .inl ⟨rfl, hb, L, a, hG, hgd, by simpa using hL, by simpa using hfi, by simpa using hfr⟩⟩, Nat.le_refl _⟩
      · exact bad _ e1 hE hrf e3
  · have e1 : cnNext s = ((Pac.zero, false, s.bad), s) := by unfold cnNext; rw [if_neg (by simp [ho]), if_pos hb]
    rw [e1, hrf]
    exact ⟨rfl, ⟨ho, ht, by simpa using hc, .inr ⟨rfl, hb, by simpa using hrf⟩⟩, Nat.le_refl _⟩

/-! ### Chunks play no part -/
def fdS (s : Cn) (B : List UInt8) : Cn := { s with fr := feedS s.fr B }
theorem cnFeed_fd {s : Cn} (h : s.closed = false) (x : ByteArray) : cnFeed s x = fdS s (sB x) := by unfold cnFeed; rw [if_neg (by simp [h])]; rfl
theorem fdS_fdS (s : Cn) (A B : List UInt8) : fdS (fdS s A) B = fdS s (A ++ B) := by unfold fdS; simp only [feedS_feed]
theorem frNext_zero (s : FrS) (hf : (frNext s).1.2.1 = false) (hz : s.2.2 = 0) (h : (frNext s).2 = s) : (frNext s).1.2.2 = 0 := by
  obtain ⟨l, t, d⟩ := s
  have hz : d = 0 := hz
  subst hz
  unfold frNext at hf h ⊢
  rw [if_neg (by simp)] at hf h ⊢
  by_cases h2 : (hGet l 0).2.2 = 2
  · rw [if_pos h2]
  by_cases h0 : (hGet l 0).2.2 = 0
  rotate_left
  · rw [if_neg h2, if_pos h0] at h
    simp only [Prod.mk.injEq] at h
    exact absurd h.2.2 h0
  have h0' : ¬ ((hGet l 0).2.2 ≠ 0) := by simpa using h0
  rw [if_neg h2, if_neg h0'] at hf ⊢
  by_cases hsm : (l.length : Int) - (hGet l 0).2.1 < (hGet l 0).1.2.2
  · simp only [if_pos hsm]
  · simp only [if_neg hsm] at hf
    simp at hf
def tkS (s : Cn) (r : (Pk × Bool × Int) × FrS) : (Pac × Bool × Int) × Cn :=
  if r.1.2.1 = false then ((Pac.zero, false, r.1.2.2), { s with fr := r.2 })
  else if (paOf r.1.1.1.1 r.1.1.1.2.1 r.1.1.1.2.2 r.1.1.2).2 ≠ 0 then ((Pac.zero, false, (paOf r.1.1.1.1 r.1.1.1.2.1 r.1.1.1.2.2 r.1.1.2).2), { s with fr := r.2 })
  else if cnWrong (paOf r.1.1.1.1 r.1.1.1.2.1 r.1.1.1.2.2 r.1.1.2).1 s.first ≠ 0 then ((Pac.zero, false, cnWrong (paOf r.1.1.1.1 r.1.1.1.2.1 r.1.1.1.2.2 r.1.1.2).1 s.first), { s with fr := r.2 })
  else (((paOf r.1.1.1.1 r.1.1.1.2.1 r.1.1.1.2.2 r.1.1.2).1, true, 0), { s with fr := r.2, first := false })
theorem cnNext_tk (s : Cn) (hc : s.closed = false) (hb : s.bad = 0) : cnNext s = ((tkS s (frNext s.fr)).1, { (tkS s (frNext s.fr)).2 with bad := (tkS s (frNext s.fr)).1.2.2 }) := by
  unfold cnNext
  rw [if_neg (by simp [hc]), if_neg (by simpa using hb)]
  rfl
theorem cnNext_fd (s : Cn) (B : List UInt8) (hc : s.closed = false) (hb : s.bad = 0) :
    ((cnNext s).1.2.1 = true → cnNext (fdS s B) = ((cnNext s).1, fdS (cnNext s).2 B) ∧ (cnNext s).2.closed = false ∧ (cnNext s).2.bad = 0 ∧ (cnNext s).2.fr.1.length + 2 ≤ s.fr.1.length ∧ (cnNext s).2.fr.2.1 = s.fr.2.1 + 1) ∧
    ((cnNext s).1.2.1 = false → ((cnNext s).1.2.2 = 0 → (cnNext s).2 = s) ∧ ((cnNext s).1.2.2 ≠ 0 → (cnNext (fdS s B)).1 = (cnNext s).1)) := by
  rw [cnNext_tk s hc hb, cnNext_tk (fdS s B) hc hb]
  have hfr : (fdS s B).fr = feedS s.fr B := rfl
  rw [hfr]
  obtain ⟨h1, h2⟩ := frNext_feed s.fr B
  have h3 := frNext_zero s.fr
  have h4 : s.fr.2.2 ≠ 0 → (frNext s.fr).1.2.2 = s.fr.2.2 := fun hd => by rw [frNext, if_pos hd]
  have hs : { s with fr := s.fr, bad := 0 } = s := by rw [← hb]
  generalize frNext s.fr = R at *
  obtain ⟨⟨⟨⟨k, f, n⟩, X⟩, ok, E⟩, F⟩ := R
  cases ok
  · obtain ⟨e1, e2, e3⟩ := h2 rfl
    have t1 : tkS s ((((k, f, n), X), false, E), F) = ((Pac.zero, false, E), { s with fr := F }) := by unfold tkS; rw [if_pos rfl]
    rw [t1]
    refine ⟨fun h => absurd h (by simp), fun _ => ?_⟩
    rcases e3 with e3 | ⟨e3, e4, e5⟩
    · have e3 : F = s.fr := e3
      subst e3
      refine ⟨fun h => ?_, fun h => ?_⟩
      · have h : E = 0 := h
        subst h
        exact hs
      · have hd : s.fr.2.2 ≠ 0 := fun hz => h (h3 rfl hz rfl)
        have e6 : feedS s.fr B = s.fr := by unfold feedS; rw [if_neg hd]
        have e7 : frNext (s.fr) = ((pk0, false, s.fr.2.2), s.fr) := by rw [frNext, if_pos hd]
        have e8 : E = s.fr.2.2 := h4 hd
        rw [e6, e7]
        have t2 : tkS (fdS s B) ((pk0, false, s.fr.2.2), s.fr) = ((Pac.zero, false, s.fr.2.2), { (fdS s B) with fr := s.fr }) := by unfold tkS; rw [if_pos rfl]
        rw [t2, e8]
    · refine ⟨fun h => ?_, fun h => ?_⟩
      · have h : E = 0 := h
        have e4 : (((k, f, n), X), false, E) = (pk0, false, F.2.2) := e4
        simp only [Prod.mk.injEq] at e4
        exact absurd (e4.2.2.symm.trans h) e5
      · rw [e3]
        have t2 : tkS (fdS s B) ((((k, f, n), X), false, E), F) = ((Pac.zero, false, E), { (fdS s B) with fr := F }) := by unfold tkS; rw [if_pos rfl]
        rw [t2]
  · obtain ⟨e1, e2, e3⟩ := h1 rfl
    rw [e1]
    have hfi : (fdS s B).first = s.first := rfl
    obtain ⟨O, hO⟩ : ∃ O, paOf k f n X = O := ⟨_, rfl⟩
    have t1 : tkS s ((((k, f, n), X), true, E), F) = if O.2 ≠ 0 then ((Pac.zero, false, O.2), { s with fr := F }) else if cnWrong O.1 s.first ≠ 0 then ((Pac.zero, false, cnWrong O.1 s.first), { s with fr := F }) else ((O.1, true, 0), { s with fr := F, first := false }) := by
      unfold tkS; simp only [hO]; rw [if_neg (by simp)]
    have t2 : tkS (fdS s B) ((((k, f, n), X), true, E), feedS F B) = if O.2 ≠ 0 then ((Pac.zero, false, O.2), { (fdS s B) with fr := feedS F B }) else if cnWrong O.1 s.first ≠ 0 then ((Pac.zero, false, cnWrong O.1 s.first), { (fdS s B) with fr := feedS F B }) else ((O.1, true, 0), { (fdS s B) with fr := feedS F B, first := false }) := by
      unfold tkS; simp only [hO, hfi]; rw [if_neg (by simp)]
    by_cases hO2 : O.2 = 0
    rotate_left
    · rw [if_pos hO2] at t1 t2
      rw [t1]
      simp only
      rw [t2]
      exact ⟨fun h => absurd h (by simp), fun _ => ⟨fun h => absurd h hO2, fun _ => rfl⟩⟩
    rw [if_neg (by simpa using hO2)] at t1 t2
    by_cases hw : cnWrong O.1 s.first = 0
    · rw [if_neg (by simpa using hw)] at t1 t2
      rw [t1]
      simp only
      rw [t2]
      exact ⟨fun _ => ⟨by first | rfl | trivial, hc, by first | rfl | trivial, e2, e3⟩, fun h => absurd h (by simp)⟩
    · rw [if_pos hw] at t1 t2
      rw [t1]
      simp only
      rw [t2]
      exact ⟨fun h => absurd h (by simp), fun _ => ⟨fun h => absurd h hw, fun _ => rfl⟩⟩
def cnAll : Nat → Cn → (List Pac × Int) × Cn
  | 0, s => (([], 0), s)
  | n + 1, s => if (cnNext s).1.2.1 = true then (((cnNext s).1.1 :: (cnAll n (cnNext s).2).1.1, (cnAll n (cnNext s).2).1.2), (cnAll n (cnNext s).2).2) else (([], (cnNext s).1.2.2), (cnNext s).2)
theorem cnAll_len : ∀ (n : Nat) (s : Cn), s.closed = false → s.bad = 0 → 2 * (cnAll n s).1.1.length + (if (cnAll n s).1.2 = 0 then (cnAll n s).2.fr.1.length else 0) ≤ s.fr.1.length ∧ (cnAll n s).1.1.length ≤ n ∧ ((cnAll n s).1.2 = 0 → (cnAll n s).2.closed = false ∧ (cnAll n s).2.bad = 0 ∧ (cnAll n s).2.fr.2.1 = s.fr.2.1 + (cnAll n s).1.1.length)
  | 0, s, hc, hb => by simp [cnAll, hc, hb]
  | n + 1, s, hc, hb => by
    obtain ⟨h1, h2⟩ := cnNext_fd s [] hc hb
    rw [cnAll]
    by_cases ho : (cnNext s).1.2.1 = true
    · obtain ⟨h3, h4, h5, h6, h7⟩ := h1 ho
      obtain ⟨i1, i2, i3⟩ := cnAll_len n (cnNext s).2 h4 h5
      rw [if_pos ho]
      simp only [List.length_cons]
      exact ⟨by omega, by omega, fun h => by obtain ⟨j1, j2, j3⟩ := i3 h; exact ⟨j1, j2, by rw [j3, h7]; push_cast; omega⟩⟩
    · obtain ⟨h3, h4⟩ := h2 (by simpa using ho)
      rw [if_neg ho]
      simp only [List.length_nil]
      refine ⟨?_, by omega, fun h => by rw [h3 h]; exact ⟨hc, hb, by simp⟩⟩
      split
      · rename_i h; rw [h3 h]; omega
      · omega
theorem cnAll_succ (n : Nat) (s : Cn) : cnAll (n + 1) s = if (cnNext s).1.2.1 = true then (((cnNext s).1.1 :: (cnAll n (cnNext s).2).1.1, (cnAll n (cnNext s).2).1.2), (cnAll n (cnNext s).2).2) else (([], (cnNext s).1.2.2), (cnNext s).2) := rfl
theorem cnAll_more (m : Nat) : ∀ (n : Nat) (s : Cn), (cnAll m s).1.1.length < m → m ≤ n → cnAll n s = cnAll m s := by
  induction m with
  | zero => intro n s h _; exact absurd h (Nat.not_lt_zero _)
  | succ m ih =>
    intro n s h hmn
    obtain ⟨n, rfl⟩ : ∃ k, n = k + 1 := ⟨n - 1, by omega⟩
    rw [cnAll_succ] at h
    rw [cnAll_succ, cnAll_succ]
    by_cases hb : (cnNext s).1.2.1 = true
    · rw [if_pos hb] at h
      rw [if_pos hb, if_pos hb]
      simp only [List.length_cons] at h
      rw [ih n _ (by omega) (by omega)]
    · rw [if_neg hb, if_neg hb]
theorem cnAll_fd : ∀ (n : Nat) (s : Cn) (B : List UInt8), s.closed = false → s.bad = 0 → (cnAll n s).1.1.length < n →
    ((cnAll n s).1.2 ≠ 0 → (cnAll n (fdS s B)).1 = (cnAll n s).1) ∧
    ((cnAll n s).1.2 = 0 → cnAll n (fdS s B) = (((cnAll n s).1.1 ++ (cnAll (n - (cnAll n s).1.1.length) (fdS (cnAll n s).2 B)).1.1, (cnAll (n - (cnAll n s).1.1.length) (fdS (cnAll n s).2 B)).1.2), (cnAll (n - (cnAll n s).1.1.length) (fdS (cnAll n s).2 B)).2))
  | 0, s, B, _, _, h => by simp at h
  | n + 1, s, B, hc, hb, h => by
    obtain ⟨h1, h2⟩ := cnNext_fd s B hc hb
    by_cases ho : (cnNext s).1.2.1 = true
    · obtain ⟨h3, h4, h5, h6, h7⟩ := h1 ho
      have e : cnAll (n + 1) s = (((cnNext s).1.1 :: (cnAll n (cnNext s).2).1.1, (cnAll n (cnNext s).2).1.2), (cnAll n (cnNext s).2).2) := by rw [cnAll, if_pos ho]
      have e2 : cnAll (n + 1) (fdS s B) = (((cnNext s).1.1 :: (cnAll n (fdS (cnNext s).2 B)).1.1, (cnAll n (fdS (cnNext s).2 B)).1.2), (cnAll n (fdS (cnNext s).2 B)).2) := by rw [cnAll, h3, if_pos ho]
      rw [e] at h ⊢
      rw [e2]
      simp only [List.length_cons] at h ⊢
      obtain ⟨i1, i2⟩ := cnAll_fd n (cnNext s).2 B h4 h5 (by omega)
      refine ⟨fun hz => ?_, fun hz => ?_⟩
      · rw [i1 hz]
      · rw [i2 hz, Nat.add_sub_add_right]
        simp
    · have ho0 : (cnNext s).1.2.1 = false := by simpa using ho
      obtain ⟨h3, h4⟩ := h2 ho0
      have e : cnAll (n + 1) s = (([], (cnNext s).1.2.2), (cnNext s).2) := by rw [cnAll, if_neg ho]
      rw [e]
      simp only
      refine ⟨fun hz => ?_, fun hz => ?_⟩
      · have h5 := h4 hz
        rw [cnAll, h5, if_neg ho]
      · rw [h3 hz]
        simp
/-- The same bytes at once, and in two parts. -/
theorem cnAll_cut {s : Cn} (hc : s.closed = false) (hb : s.bad = 0) (hl : s.fr.1 = []) (A B : List UInt8) (hlen : A.length + B.length ≤ 2000) :
    ((cnAll 1100 (fdS s A)).1.2 ≠ 0 → (cnAll 1100 (fdS s (A ++ B))).1 = (cnAll 1100 (fdS s A)).1) ∧
    ((cnAll 1100 (fdS s A)).1.2 = 0 → cnAll 1100 (fdS s (A ++ B)) = (((cnAll 1100 (fdS s A)).1.1 ++ (cnAll 1100 (fdS (cnAll 1100 (fdS s A)).2 B)).1.1, (cnAll 1100 (fdS (cnAll 1100 (fdS s A)).2 B)).1.2), (cnAll 1100 (fdS (cnAll 1100 (fdS s A)).2 B)).2)) := by
  have hfl : (fdS s A).fr.1.length ≤ A.length := by
    show (feedS s.fr A).1.length ≤ _
    unfold feedS
    simp only
    split <;> simp [hl]
  obtain ⟨l1, l2, l3⟩ := cnAll_len 1100 (fdS s A) hc hb
  obtain ⟨h1, h2⟩ := cnAll_fd 1100 (fdS s A) B hc hb (by omega)
  rw [← fdS_fdS]
  refine ⟨h1, fun hz => ?_⟩
  obtain ⟨k1, k2, k3⟩ := l3 hz
  rw [if_pos hz] at l1
  rw [h2 hz]
  have hfl2 : (fdS (cnAll 1100 (fdS s A)).2 B).fr.1.length ≤ (cnAll 1100 (fdS s A)).2.fr.1.length + B.length := by
    show (feedS _ B).1.length ≤ _
    unfold feedS
    simp only
    split <;> simp
  obtain ⟨m1, m2, m3⟩ := cnAll_len (1100 - (cnAll 1100 (fdS s A)).1.1.length) (fdS (cnAll 1100 (fdS s A)).2 B) k1 k2
  have hm := cnAll_more (1100 - (cnAll 1100 (fdS s A)).1.1.length) 1100 (fdS (cnAll 1100 (fdS s A)).2 B) (by omega) (by omega)
  rw [hm]
end Go.Proofs.YtjlnlgemngpelaaGreatDoor

/- A connection beside others; all packets that come: the walk. -/
namespace Go.Proofs.YtjlnlgemngpelaaGreatDoor
open Go.RowKit
set_option linter.unusedVariables false
set_option linter.unusedSimpArgs false

theorem Held.off {B : Nat} {w : World} {v : Value} {l : List UInt8} (h : Held B w v l) {k : Nat} {t : TypeId} {n : Nat} (hs : w.shape? k = some (t, n)) (ht : t ≠ 5) : k ∉ blk v := by
  intro hm
  rcases h with ⟨rfl, -⟩ | ⟨-, b, cap, m, rfl, hb, h1, h2, h3, hs2, -⟩
  · simp [blk, Value.ownBlock] at hm
  · simp [blk, Value.ownBlock] at hm
    subst hm
    rw [hs] at hs2
    simp only [Option.some.injEq, Prod.mk.injEq] at hs2
    exact ht hs2.1
/-- What turns in blocks that are none of bytes, and not its own: it stands. -/
theorem CnAt.off {w w' : World} {g c : Nat} {s : Cn} {S : List Nat} (h : CnAt w g c s) (hk : Keeps S w w') (hS : ∀ r, r ∈ S → r ≠ g ∧ r ≠ c ∧ ∃ t n, w.shape? r = some (t, n) ∧ t ≠ 5) : CnAt w' g c s := by
  obtain ⟨⟨va, vb, hA, hva, hown, hfr⟩, hf, gc, hsh⟩ := h
  have hc : c ∉ S := fun hm => (hS c hm).2.1 rfl
  have hg : g ∉ S := fun hm => (hS g hm).1 rfl
  have hbl : ∀ k, k ∈ blk vb → k ∉ S := fun k hkb hm => by obtain ⟨-, -, t, n, h1, h2⟩ := hS k hm; exact hown.1.off h1 h2 hkb
  refine ⟨⟨va, vb, hA.keeps hk hc, hva, ⟨hown.1.keepsN hk hbl, fun hr => Owned.lift (Keeps.row hk (Owns.le (hown.2 hr) (Nat.zero_le _)) hbl) (hown.2 hr).blk_ge⟩, ?_⟩, hf.keeps hk hA.lt hc, gc, (shape_of_block (hk.block c hA.lt hc)).trans hsh⟩
  obtain ⟨⟨v, c0, hv, ho⟩, c1, c2, c3, fr, lt, ltS, sh, ty⟩ := hfr
  have hoS : s.fr.1 ≠ [] → OutOf v S := fun hl a n cc e hm => by
    obtain ⟨m, hm2⟩ := ty hl v c0 a n cc e
    obtain ⟨-, -, t, k, h1, h2⟩ := hS _ hm
    rw [h1] at hm2
    simp only [Option.some.injEq, Prod.mk.injEq] at hm2
    exact h2 hm2.1
  exact ⟨⟨v, (hk.cell lt hg).trans c0, hv.keepsL hk hoS, ho⟩, (hk.cell lt hg).trans c1, (hk.cell lt hg).trans c2, (hk.cell lt hg).trans c3, fun o => (hk.free lt hg).trans (fr o), Nat.lt_of_lt_of_le lt hk.size, fun k hk' => Nat.lt_of_lt_of_le (ltS k hk') hk.size, (shape_of_block (hk.block g lt hg)).trans sh, fun hl v' e => (ty hl v' ((hk.cell lt hg).symm.trans e)).keeps hk (by rw [(hk.cell lt hg).trans c0] at e; cases e; exact hoS hl)⟩
theorem CnAt.shg {w : World} {g c : Nat} {s : Cn} (h : CnAt w g c s) : w.shape? g = some (93, 4) := by
  obtain ⟨⟨va, vb, hA, hva, hown, hfr⟩, -⟩ := h
  exact hfr.sh
/-- Two connections: what one does leaves the other. -/
theorem CnAt.beside {w w' : World} {g c g' c' : Nat} {s s' : Cn} (h : CnAt w g c s) (h' : CnAt w g' c' s') (n1 : g' ≠ g) (n2 : g' ≠ c) (n3 : c' ≠ g) (n4 : c' ≠ c) (hk : Keeps [g', c'] w w') : CnAt w' g c s :=
  h.off hk (fun r hr => by
    simp only [List.mem_cons, List.not_mem_nil, or_false] at hr
    rcases hr with rfl | rfl
    · exact ⟨n1, n2, _, _, h'.shg, by decide⟩
    · exact ⟨n3, n4, _, _, h'.sh, by decide⟩)
theorem row_shape {w : World} {B e size n : Nat} {v : Value} {xs : List Value} (h : w.ownsRow B e size v n xs) {k : Nat} (hk : k ∈ blk v) : ∃ m, w.shape? k = some (e, m) := by
  rcases h.2 with ⟨rfl, -⟩ | ⟨b, cap, cur, rfl, hb, hg, -⟩
  · simp [blk, Value.ownBlock] at hk
  · simp [blk, Value.ownBlock] at hk
    subst hk
    exact ⟨cur.size, by simp [World.shape?, hg]⟩
theorem OwnPs.away {B : Nat} {S : List Nat} {w w' : World} {v : Value} {l : List PacV} (h : OwnPs B w v l) (hk : Keeps S w w') (hS : ∀ k, k ∈ S → k < B) : OwnPs B w' v l :=
  ⟨own_keeps hk h.row (fun k hk' hm => by have := blk_ge h.row hk'; have := hS k hm; omega), fun x hx => ⟨(h.each x hx).1.keeps hk hS, (h.each x hx).2⟩⟩

set_option maxRecDepth 100000 in
theorem cnFeedK_c (g c : Nat) (s : Cn) (x : ByteArray) (w : World) (h : CnAt w g c s) (hlen : s.fr.1.length + x.size ≤ 140737488355328) (hcl : s.closed = false) :
    Calls Tryz.prog 10 #[.pointer (some ⟨c, 0, none⟩), .string x] w fun e w' => e = .returned (.int .i64 0) ∧ CnAt w' g c (cnFeed s x) ∧ Keeps [g, c] w w' := by
  have H := hd h
  have HL := hd hlen
  obtain ⟨⟨va, vb, hA, hva, hown, hfr⟩, hf, gc, hsh⟩ := h
  have HA := hd hA; have HF := hd hf; have HFR := hd hfr; have HOW := hd hown
  have c2 := hA.at 2 rfl; have c4 := hA.at 4 rfl
  have glt := hfr.lt
  clear hA hf hown hfr hlen
  rw [hcl] at c4
  have hst : cnFeed s x = { s with fr := (if s.fr.2.2 = 0 then s.fr.1 ++ sB x else s.fr.1, s.fr.2.1, s.fr.2.2) } := by unfold cnFeed; rw [if_neg (by simp [hcl])]
  have HST := hd hst; clear hst
  go_enter Tryz.func10, Tryz.ntmps10
  go_wp2_with fail
  refine (cnNone_c c g _ c2).mono ?_
  rintro e w' ⟨rfl, rfl⟩
  go_wp2_with fail
  refine (feed_c g _ _ _ x _ HFR.out HL.out).mono ?_
  rintro e w2 ⟨rfl, hf2, hk2⟩
  have hs2 := CnAt.side HA.out HF.out hva HOW.out gc hsh hk2 hf2
  rw [← HST.out] at hs2
  clear hf2
  go_wp2_with fail
  go_ret
  exact ⟨rfl, hs2, hk2.mono (by intro k hk; simp at hk; simp [hk])⟩

def GivesCAll (w : World) (g c : Nat) (r : (List Pac × Int) × Cn) (e : Ending) (w' : World) : Prop :=
  ∃ v xs, e = .returned (.tuple #[v, .int .i64 r.1.2]) ∧ OwnPs w.heap.size w' v xs ∧ xs.map (·.1) = r.1.1 ∧ CnAt w' g c r.2 ∧ Keeps [g, c] w w'
structure CAllI (w : World) (g c : Nat) (S0 : Cn) (v : Value) (xs : List PacV) (s : Cn) (i : Nat) (w' : World) : Prop where
  own : OwnPs w.heap.size w' v xs
  con : CnAt w' g c s
  len : xs.length = i
  le : i ≤ 1100
  eq : cnAll 1100 S0 = ((xs.map (·.1) ++ (cnAll (1100 - i) s).1.1, (cnAll (1100 - i) s).1.2), (cnAll (1100 - i) s).2)
  op : s.closed = false
  bd : s.bad = 0
  fl : s.fr.1.length ≤ 1000000
  tk : 0 ≤ s.fr.2.1 ∧ s.fr.2.1 ≤ 1000000 + i
  keeps : Keeps [g, c] w w'
set_option maxRecDepth 100000 in
set_option maxHeartbeats 8000000 in
theorem all38_c (g c : Nat) (S0 : Cn) (w : World) (h : CnAt w g c S0) (hN : CnEnv g w) (hc : S0.closed = false) (hb : S0.bad = 0) (hl : S0.fr.1.length ≤ 1000000) (ht : 0 ≤ S0.fr.2.1 ∧ S0.fr.2.1 ≤ 1000000) :
    Calls Tryz.prog 14 #[.pointer (some ⟨c, 0, none⟩)] w (GivesCAll w g c (cnAll 1100 S0)) := by
  have I0 : CAllI w g c S0 (.slice none 0 0) [] S0 0 w := ⟨OwnPs.nil _ _, h, rfl, by omega, by simp, hc, hb, hl, ⟨ht.1, by omega⟩, Keeps.refl _ _⟩
  have HN := hd hN
  have hgc := h.gc; have hcl := h.lt
  clear h hN hc hb hl ht
  obtain ⟨T, hT⟩ : ∃ T, cnAll 1100 S0 = T := ⟨_, rfl⟩
  rw [hT]
  have HT := hd hT
  clear hT
  go_enter Tryz.func14, Tryz.ntmps14
  go_wp2_with fail
  go_loopw [4, 5] (fun v a w' => ∃ (xs : List PacV) (s : Cn) (n : Nat), a = .int .i64 n ∧ CAllI w g c S0 v xs s n w') (fun _ a _ => match a with | .int _ m => 1100 - m.toNat | _ => 0)
  case atStart => exact ⟨[], S0, 0, rfl, I0⟩
  case round =>
    obtain ⟨xs, s, n, rfl, I⟩ := hrel
    have HI := hd I
    have hle := I.le
    have hlen := I.len
    have hsz := I.keeps.size
    clear I I0
    by_cases hn : n < 1100
    rotate_left
    · have he : 1100 - n = 0 := by omega
      have heq := HI.out.eq
      rw [he, HT.out] at heq
      simp only [cnAll, List.append_nil] at heq
      subst heq
      have hne : n = 1100 := by omega
      subst hne
      go_wp2_with fail
      go_ret2
      exact ⟨_, xs, rfl, HI.out.own, rfl, HI.out.con, HI.out.keeps⟩
    have hB : Below g w wr := HI.out.keeps.toBelow (by omega) (by intro k hk; simp at hk; omega)
    have hc1 := cnNext_c g c s wr HI.out.con (HN.out.next hB) (by have := HI.out.fl; omega) (by have := HI.out.tk; omega)
    obtain ⟨h1, h2⟩ := cnNext_fd s [] HI.out.op HI.out.bd
    have hek : 1100 - n = (1100 - (n + 1)) + 1 := by omega
    have heq := HI.out.eq
    rw [HT.out, hek, cnAll_succ] at heq
    generalize cnNext s = R at *
    obtain ⟨⟨P, ok, E⟩, s2⟩ := R
    simp only at h1 heq
    have h3 := fun h => (h1 h).2
    clear h1 h2 hek
    have H3 := hd h3; have HQ := hd heq
    clear h3 heq
    go_wp2_with fail
    refine hc1.mono ?_
    clear hc1
    rintro e w2 ⟨vf, vc, rfl, hp2, hc2, hk2⟩
    simp only at hp2 hc2 ⊢
    have hz2 := hk2.size
    have hS : ∀ k, k ∈ [g, c] → k < w.heap.size := by intro k hk; simp at hk; omega
    have hor := HI.out.own.away hk2 hS
    have K2 : Keeps [g, c] w w2 := HI.out.keeps.trans hk2
    have hone := Pac.one P vf vc hp2.rd.f.oneCell hp2.rd.c.oneCell
    have HOR := hd hor; have HC2 := hd hc2
    clear hor hc2
    cases ok with
    | false =>
      have heq := HQ.out
      simp only [Bool.false_eq_true, if_false, List.append_nil] at heq
      subst heq
      go_wp2_with (first
        | (with_reducible refine wpl_alloc (o := ⟨some 6, .alloc 36, _, _, _, _⟩) rfl _ rfl (zK 0) alloc_pac _ rfl ?_; intro w3 h3 f3 b3 z3)
        | ((with_reducible refine wpl_at (o := ⟨none, .store 36 (.tmp 6) (.tmp 16), _, _, _, _⟩) ?_); refine wpl_storeAll rfl rfl _ _ _ rfl w2.heap.size (P.cells vf vc) (zK 0) rfl rfl info_pac hone h3 rfl f3 ?_; intro w4 h4 f4 k4 z4; have B4 : Below w2.heap.size w2 w4 := b3.trans (k4.toBelow b3.size (by simp))))
      go_ret2
      exact ⟨_, xs, rfl, HOR.out.kept B4 (Nat.le_refl _), rfl, HC2.out.grow B4, K2.trans (Keeps.below B4)⟩
    | true =>
      have hr2 : PacOwn wr.heap.size w2 P vf vc := hp2
      go_wp2_with (first
        | (with_reducible refine wpl_alloc (o := ⟨some 6, .alloc 36, _, _, _, _⟩) rfl _ rfl (zK 0) alloc_pac _ rfl ?_; intro w3 h3 f3 b3 z3)
        | ((with_reducible refine wpl_at (o := ⟨none, .store 36 (.tmp 6) (.tmp 16), _, _, _, _⟩) ?_); refine wpl_storeAll rfl rfl _ _ _ rfl w2.heap.size (P.cells vf vc) (zK 0) rfl rfl info_pac hone h3 rfl f3 ?_; intro w4 h4 f4 k4 z4; have B4 : Below w2.heap.size w2 w4 := b3.trans (k4.toBelow b3.size (by simp)))
        | ((with_reducible refine wpl_at (o := ⟨some 24, .load 36 (.tmp 6), _, _, _, _⟩) ?_); refine wpl_loadAt rfl _ _ rfl w2.heap.size 0 rfl (P.cells vf vc) _ h4.range Tryz.underlying36 rfl info_pac ?_)
        | ((with_reducible refine wpl_at (o := ⟨some 25, .buildSlice 44 1 #[(0, .tmp 24)], _, _, _, _⟩) ?_); refine wpl_buildSlice1 rfl _ _ rfl (.agg (P.cells vf vc).toArray) rfl _ (w4.alloc (.cells (P.cells vf vc).toArray 36)) (build_row P vf vc w4) ?_; have b5 := (Below.refl w4.heap.size w4).alloc (Nat.le_refl _) (.cells (P.cells vf vc).toArray 36); have h5 : At (w4.alloc (.cells (P.cells vf vc).toArray 36)) w4.heap.size (P.cells vf vc) := At.new _ _ _; generalize w4.alloc (.cells (P.cells vf vc).toArray 36) = w5 at *; have B5 : Below w2.heap.size w2 w5 := B4.trans (b5.mono B4.size); have ho5 := HOR.out.kept B5 (Nat.le_refl _); have hr5 := hr2.kept B5 (Nat.le_refl _); have hc5 := HC2.out.grow B5; have HC5 := hd hc5; clear hc5)
        | (at_builtin; refine wpl_appPs rfl _ _ rfl w.heap.size u4 xs rfl ho5 P vf vc w4.heap.size rfl h5 (hr5.le hsz) (fun k hk hm => by have h1 := blk_ge hr5.f hk; have h2 := blk_lt HI.out.own.row hm; omega) (fun k hk hm => by have h1 := blk_ge hr5.c hk; have h2 := blk_lt HI.out.own.row hm; omega) (by omega) (by have := B5.size; omega) ?_; intro v6 w6 ho6 hk6 hb6 hn6))
      obtain ⟨q1, q2, q3, q4⟩ := H3.out rfl
      have heq := HQ.out
      simp only [if_true] at heq
      have hfl := HI.out.fl
      have htk := HI.out.tk
      have hc6 : CnAt w6 g c s2 := HC5.out.off hk6 (fun r hr => by
        have h1 := blk_ge ho5.row hr
        obtain ⟨m, hm⟩ := row_shape ho5.row hr
        exact ⟨by omega, by omega, _, _, hm, by decide⟩)
      have K5 : Keeps [g, c] w w5 := K2.trans (Keeps.below B5)
      have I6 : CAllI w g c S0 v6 (xs ++ [(P, vf, vc)]) s2 (n + 1) w6 := ⟨ho6, hc6, by simp [hlen], by omega, by rw [HT.out, heq]; simp, q1, q2, by omega, ⟨by omega, by push_cast; omega⟩, K5.next hk6 (fun r hr => .inr (blk_ge ho5.row hr))⟩
      go_roundw
      case rel => exact ⟨xs ++ [(P, vf, vc)], s2, n + 1, by congr 1, I6⟩
      all_goals (show 1100 - (n + 1) < 1100 - (n : Int).toNat; omega)
set_option maxRecDepth 100000 in
/-- append(m, n...) of two rows. -/
theorem wpl_appPsN {w : World} {ops : Array Oper} {rest : List Oper} {o : Oper} {a : Act} {Q : Exit → Act → World → Prop} (hgd : o.guard = none) (s x : Operand)
    (ho : o.op = .call { callee := .builtin .append, args := #[s, x], argTypes := #[44, 44] })
    (B B' : Nat) (v : Value) (l : List PacV) (hv : a.eval s = v) (hown : OwnPs B w v l) (vk : Value) (k : List PacV) (hx : a.eval x = vk) (hkn : OwnPs B' w vk k)
    (hap : ∀ y ∈ k, (∀ i, i ∈ blk y.2.1 → i ∉ blk v) ∧ (∀ i, i ∈ blk y.2.2 → i ∉ blk v)) (hBB : B ≤ B')
    (hlen : l.length + k.length < 400000) (hB : B ≤ w.heap.size)
    (h : ∀ v' w', OwnPs B w' v' (l ++ k) → Keeps (blk v) w w' → Below B w w' → wpList Tryz.prog ops Q rest (a.put o.dst v') w') : wpList Tryz.prog ops Q (o :: rest) a w := by
  obtain ⟨i0, hi, hz0, hz1, hz2⟩ := info_parts info_pacz
  have h1 : ∀ u ∈ k.flatMap PacV.cells, u.oneCell' = true := by
    intro u hu
    obtain ⟨y, hy, hu2⟩ := List.mem_flatMap.1 hu
    have := (hkn.each y hy).1
    exact pacv_one y this.rd.f.oneCell this.rd.c.oneCell u hu2
  have hrow0 : w.ownsRow 0 36 24 v l.length (l.flatMap PacV.cells) := Owns.le hown.row (Nat.zero_le _)
  refine wpList_plain hgd fun K hK => ?_
  unfold Oper.wp execOp
  simp only [ho, resolve, invoke, builtin, Sem.run_bind, Sem.run_pure, Result.andThen_ok, List.map_toArray, List.map_cons, List.map_nil, hv, hx]
  rcases hkn.row.2 with ⟨rfl, hk0⟩ | ⟨b, cap, cur, rfl, hbg, hg, hnc, hcm, hcs, htake⟩
  · have hk0 : k = [] := List.eq_nil_of_length_eq_zero hk0
    subst hk0
    have hr := run_append_owned_none (P := Tryz.prog) w 0 44 o.type 36 i0 24 Tryz.underlying44 hi v l.length (l.flatMap PacV.cells) hrow0
    simp only [hr, Result.andThen_ok]
    exact hK _ _ (h v w (by simpa using hown) (Keeps.refl _ _) (Below.refl _ _))
  · obtain ⟨v', w', hr, h2, h3, h4⟩ := app_block (P := Tryz.prog) w 44 o.type 36 i0 (.agg (zK 0).toArray) 24 280 Tryz.underlying44 hi hz0 hz1 hz2 rfl (by decide) v l.length (l.flatMap PacV.cells)
      hrow0 ⟨b, 0, none⟩ k.length cap (k.flatMap PacV.cells) (pcells_len k) (fun j u hu => hkn.row.cells (g := b) rfl j u hu) h1 (by unfold maxLen; omega) (by omega)
    simp only [hr, Result.andThen_ok]
    have hkB : Below B w w' := h3.toBelow hB (fun k hk => blk_ge hown.row hk)
    have hblk : ∀ k, k ∈ blk v' → B ≤ k := fun k hk => by
      rcases h4 k hk with h5 | h5
      · exact blk_ge hown.row h5
      · omega
    have hrow : w'.ownsRow B 36 24 v' (l.length + k.length) (l.flatMap PacV.cells ++ k.flatMap PacV.cells) := by
      refine ⟨h2.1, ?_⟩
      rcases h2.2 with h0 | ⟨g', cap, cur, rfl, hg1, hg2, hg3⟩
      · exact .inl h0
      · exact .inr ⟨g', cap, cur, rfl, hblk g' (by simp [blk, Value.ownBlock]), hg2, hg3⟩
    have apart : ∀ (q : Value), (∀ k, k ∈ blk q → k < w.heap.size) → (∀ k, k ∈ blk q → k ∉ blk v) → ∀ k, k ∈ blk q → k ∉ blk v' := fun q hq hn k hk hm => by
      rcases h4 k hm with h5 | h5
      · exact hn k hk h5
      · have := hq k hk; omega
    have keep : ∀ (y : PacV), PacOwn B w y.1 y.2.1 y.2.2 → (∀ k, k ∈ blk y.2.1 → k ∉ blk v) → (∀ k, k ∈ blk y.2.2 → k ∉ blk v) → PacOwn B w' y.1 y.2.1 y.2.2 ∧ (∀ k, k ∈ blk y.2.1 → k ∉ blk v') ∧ (∀ k, k ∈ blk y.2.2 → k ∉ blk v') := fun y hy ha hb =>
      ⟨⟨own_keeps h3 hy.f ha, own_keeps h3 hy.c hb, hy.lf, hy.lc⟩, apart _ (fun k hk => blk_lt hy.f hk) ha, apart _ (fun k hk => blk_lt hy.c hk) hb⟩
    refine hK _ _ (h v' w' ⟨?_, fun y hy => ?_⟩ h3 hkB)
    · rw [List.length_append, List.flatMap_append]
      exact hrow
    · rcases List.mem_append.1 hy with hy | hy
      · obtain ⟨e1, e2, e3⟩ := hown.each y hy
        exact keep y e1 e2 e3
      · obtain ⟨e1, e2⟩ := hap y hy
        exact keep y ((hkn.each y hy).1.le hBB) e1 e2
end Go.Proofs.YtjlnlgemngpelaaGreatDoor

/- Rows of texts. Of no function of the program. -/
namespace Go.Proofs.YtjlnlgemngpelaaGreatDoor
open Go.RowKit
set_option linter.unusedVariables false
set_option linter.unusedSimpArgs false

def txV (x : List UInt8) : Value := .string (sOf x)
/-- Texts that a slice reads as. -/
def Ls (w : World) (v : Value) (p : List (List UInt8)) : Prop := Rd w v p.length (p.map txV)
theorem Ls.slice {w : World} {v : Value} {p : List (List UInt8)} (h : Ls w v p) : ∃ a c, v = .slice a p.length c := by
  obtain ⟨a, c, rfl, _⟩ := h; exact ⟨a, c, rfl⟩
theorem Ls.below' {B : Nat} {w w' : World} {v : Value} {p : List (List UInt8)} (h : Ls w v p) (hb : Below B w w') (hB : w.heap.size ≤ B) : Ls w' v p := Rd.below' h hb hB
theorem Ls.len {w : World} {v : Value} {p : List (List UInt8)} (h : Ls w v p) : p.length ≤ maxLen := Rd.len h
theorem Ls.at {w : World} {a : Option Addr} {n c : Nat} {p : List (List UInt8)} (h : Ls w (.slice a n c) p) {k : Nat} {x : List UInt8} (hk : p[k]? = some x) :
    ∃ b o, a = some ⟨b, o, none⟩ ∧ b < w.heap.size ∧ w.cell? ⟨b, o + k, none⟩ = some (.string (sOf x)) := by
  rcases @Rd.split w (.slice a n c) p.length (p.map txV) h with ⟨hn, _⟩ | ⟨_, b, o, c', hv, _, _, hlt, hcell⟩
  · have : p = [] := by simpa using hn
    subst this
    simp at hk
  · simp only [Value.slice.injEq] at hv
    exact ⟨b, o, hv.1, hlt, hcell _ _ (by simp [hk, txV])⟩
def OwnL (B : Nat) (w : World) (v : Value) (p : List (List UInt8)) : Prop := w.ownsRow B 9 1 v p.length (p.map txV)
theorem OwnL.ls {B : Nat} {w : World} {v : Value} {p : List (List UInt8)} (h : OwnL B w v p) : Ls w v p := Owns.rd h
theorem OwnL.kept {B B' : Nat} {w w' : World} {v : Value} {p : List (List UInt8)} (h : OwnL B w v p) (hb : Below B' w w') (hB : w.heap.size ≤ B') : OwnL B w' v p := Owns.kept h hb hB
theorem OwnL.le {B B' : Nat} {w : World} {v : Value} {p : List (List UInt8)} (h : OwnL B w v p) (hB : B' ≤ B) : OwnL B' w v p := Owns.le h hB
theorem OwnL.nil (B : Nat) (w : World) : OwnL B w (.slice none 0 0) [] := ⟨rfl, .inl ⟨rfl, rfl⟩⟩
theorem info_string : (Tryz.prog.info? 9).map (fun i => (i.zero, i.size, i.bytes)) = some (some (.string ⟨#[]⟩), 1, 16) := by kernel_rfl
/-- append(out, x) of one text: the walk has laid a block of its cell for it. -/
theorem wpo_appL {w : World} {o : Oper} {a : Act} {K : Act → World → Prop} {Q : Exit → Act → World → Prop} (s x : Operand)
    (ho : o.op = .call { callee := .builtin .append, args := #[s, x], argTypes := #[22, 22] })
    (B : Nat) (v : Value) (p : List (List UInt8)) (hv : a.eval s = v) (hown : OwnL B w v p) (y : List UInt8) (hx : a.eval x = .slice (some ⟨w.heap.size, 0, none⟩) 1 1)
    (hlen : p.length < 1000000000) (hbase : B ≤ w.heap.size)
    (h : ∀ v' w', OwnL B w' v' (p ++ [y]) → Below B w w' → K (a.put o.dst v') w') : Oper.wp Tryz.prog o a (w.alloc (.cells #[.string (sOf y)] 9)) K Q := by
  obtain ⟨i0, hi, hz0, hz1, hz2⟩ := info_parts info_string
  have hb : Below B w (w.alloc (.cells #[.string (sOf y)] 9)) := (Below.refl B w).alloc hbase _
  have hb' : Below w.heap.size w (w.alloc (.cells #[.string (sOf y)] 9)) := (Below.refl _ w).alloc (Nat.le_refl _) _
  have hone : Rd (w.alloc (.cells #[.string (sOf y)] 9)) (.slice (some ⟨w.heap.size, 0, none⟩) 1 1) 1 [.string (sOf y)] :=
    Owns.rd (owns_lit w.heap.size 9 w 1 1 [.string (sOf y)] w.heap.size rfl (Nat.le_refl _) (by unfold maxLen; simp) rfl)
  obtain ⟨v', w', hr, h2, h3, h4⟩ := run_app (P := Tryz.prog) (w.alloc (.cells #[.string (sOf y)] 9)) B 22 o.type 9 i0 (.string ⟨#[]⟩) 1 16 Tryz.underlying22 hi hz0 hz1 hz2 rfl (by decide) v p.length (p.map txV) (hown.kept hb' (Nat.le_refl _)) _ 1 [.string (sOf y)] hone rfl (by intro u hu; simp at hu; rcases hu with rfl; rfl) (by omega) (by unfold maxLen; omega) (by simp; omega)
  unfold Oper.wp execOp
  simp only [ho, resolve, invoke, builtin, Sem.run_bind, Sem.run_pure, Result.andThen_ok, List.map_toArray, List.map_cons, List.map_nil, hv, hx, hr]
  refine h v' w' ?_ (hb.trans h3)
  unfold OwnL
  rw [List.length_append, List.map_append]
  exact h2
theorem wp_appL {w : World} {ops : Array Oper} {rest : List Oper} {o : Oper} {a : Act} {Q : Exit → Act → World → Prop} (hgd : o.guard = none) (s x : Operand)
    (ho : o.op = .call { callee := .builtin .append, args := #[s, x], argTypes := #[22, 22] })
    (B : Nat) (v : Value) (p : List (List UInt8)) (hv : a.eval s = v) (hown : OwnL B w v p) (y : List UInt8) (hx : a.eval x = .slice (some ⟨w.heap.size, 0, none⟩) 1 1)
    (hlen : p.length < 1000000000) (hbase : B ≤ w.heap.size)
    (h : ∀ v' w', OwnL B w' v' (p ++ [y]) → Below B w w' → wpList Tryz.prog ops Q rest (a.put o.dst v') w') : wpList Tryz.prog ops Q (o :: rest) a (w.alloc (.cells #[.string (sOf y)] 9)) :=
  wpList_plain hgd fun _ hK => wpo_appL s x ho B v p hv hown y hx hlen hbase fun v' w' h1 h2 => hK _ _ (h v' w' h1 h2)

theorem sl_to (l : List UInt8) (n : Nat) (hn : n ≤ l.length) (hl : l.length ≤ 9223372036854775000) (W : World) : (Instr.slice 9 (.string (sOf l)) none (some (.int .i64 n)) none).run Tryz.prog W = .ok (.string (sOf (l.take n))) W := by
  have hs := sOf_size l
  rw [run_slice_string_h W 9 (sOf l) Tryz.underlying9 .i64 n (by omega) (by omega)]
  have : (sOf l).extract 0 (n : Int).toNat = sOf (l.take n) := by
    have h : sB ((sOf l).extract 0 n) = l.take n := by simp [sB, sOf]
    have e : ∀ t : ByteArray, sOf (sB t) = t := fun t => by cases t; simp [sOf, sB]
    rw [Int.toNat_natCast, ← e ((sOf l).extract 0 n), h]
  rw [this]
theorem sl_from (l : List UInt8) (n : Nat) (hn : n ≤ l.length) (hl : l.length ≤ 9223372036854775000) (W : World) : (Instr.slice 9 (.string (sOf l)) (some (.int .i64 n)) none none).run Tryz.prog W = .ok (.string (sOf (l.drop n))) W := by
  have hs := sOf_size l
  rw [run_slice_string_l W 9 (sOf l) Tryz.underlying9 .i64 n (by omega) (by omega)]
  have : (sOf l).extract (n : Int).toNat (sOf l).size = sOf (l.drop n) := by
    have h : sB ((sOf l).extract n (sOf l).size) = l.drop n := by
      rw [hs]
      simp [sB, sOf]
      exact List.take_of_length_le (by simp)
    have e : ∀ t : ByteArray, sOf (sB t) = t := fun t => by cases t; simp [sOf, sB]
    rw [Int.toNat_natCast, ← e ((sOf l).extract n (sOf l).size), h]
  rw [this]

def GivesLv (w : World) (p : List (List UInt8)) (e : Ending) (w' : World) : Prop := ∃ v, e = .returned v ∧ OwnL w.heap.size w' v p ∧ Below w.heap.size w w'
end Go.Proofs.YtjlnlgemngpelaaGreatDoor

/- Levels of texts: Split: the walk. -/
namespace Go.Proofs.YtjlnlgemngpelaaGreatDoor
open Go.RowKit
set_option linter.unusedVariables false
set_option linter.unusedSimpArgs false

/-- A scope whose one label stands behind its first part, and to which its rest jumps back. -/
theorem wp_scope_label {P : Program} {a : Act} {w : World} {Q : Exit → Act → World → Prop} {c1 rest : Code} (l : Nat) (J : Act → World → Prop) (μ : Act → World → Nat)
    (hf : findLabel (c1.seq ((Code.label l).seq rest)) l = some (Code.skip.seq rest))
    (pre : c1.wp P (fun e a w => e = .normal ∧ J a w) a w)
    (pass : ∀ a w, J a w → rest.wp P (Exit.jump l (fun a' w' => J a' w' ∧ μ a' w' < μ a w) Q) a w) : (Code.scope (c1.seq ((Code.label l).seq rest))).wp P Q a w := by
  refine wp_scope_jumps l J μ hf ?_ (fun a w h => wp_seq (wp_skip (pass a w h)))
  refine wp_seq (wp_mono pre ?_)
  rintro e a w ⟨rfl, hJ⟩
  refine wp_seq (wp_label ?_)
  refine wp_mono (pass a w hJ) (fun e a w h => ?_)
  cases e with
  | goto l' => exact ⟨h.1, h.2.1⟩
  | normal => exact h
  | exit id => exact h
  | ret => exact h
  | panic ch => exact h
  | outgrown => exact h

def strSize : Value → Nat
  | .string s => s.size
  | _ => 0
structure SplitI (l : List UInt8) (w : World) (l' : List UInt8) (p : List (List UInt8)) (v : Value) (w' : World) : Prop where
  own : OwnL w.heap.size w' v p
  below : Below w.heap.size w w'
  eq : lSplit l = p ++ lSplit l'
  len : l'.length + p.length ≤ l.length

end Go.Proofs.YtjlnlgemngpelaaGreatDoor

/- Levels of texts: Filter: the walk. -/
namespace Go.Proofs.YtjlnlgemngpelaaGreatDoor
open Go.RowKit
set_option linter.unusedVariables false
set_option linter.unusedSimpArgs false

def leftL (n : Nat) : Value → Nat
  | .int _ k => ((n : Int) - k).toNat
  | _ => 0
theorem toList_sOf (x : List UInt8) : (sOf x).toList = x := by rw [ByteArray.toList_eq]; rfl
theorem lSized_len {l : List UInt8} (h : lSized l = true) : l ≠ [] ∧ l.length ≤ 96 ∧ (lSplit l).length ≤ 12 := by
  unfold lSized at h
  simp at h
  exact ⟨h.1, h.2.1, h.2.2.2⟩

end Go.Proofs.YtjlnlgemngpelaaGreatDoor

/- Levels of texts: the reference: the walks. -/
namespace Go.Proofs.YtjlnlgemngpelaaGreatDoor
open Go.RowKit
set_option linter.unusedVariables false
set_option linter.unusedSimpArgs false

theorem at_sOf (l : List UInt8) (k : Nat) (hk : k < l.length) (W : World) : (Instr.index 9 (.string (sOf l)) (.int .i64 (k : Int))).run Tryz.prog W = .ok (.int .u8 (bN l k)) W := run_at (sOf l) k k rfl (by rw [sOf_sizeL]; exact hk) W
theorem sl_mid (l : List UInt8) (i j : Nat) (hij : i ≤ j) (hj : j ≤ l.length) (hl : l.length ≤ 9223372036854775000) (W : World) : (Instr.slice 9 (.string (sOf l)) (some (.int .i64 i)) (some (.int .i64 j)) none).run Tryz.prog W = .ok (.string (sOf ((l.drop i).take (j - i)))) W := by
  have hs := sOf_size l
  rw [run_slice_string W 9 (sOf l) .i64 .i64 i j Tryz.underlying9 (by omega) (by omega) (by omega)]
  have : (sOf l).extract (i : Int).toNat (j : Int).toNat = sOf ((l.drop i).take (j - i)) := by
    have h : sB ((sOf l).extract i j) = (l.drop i).take (j - i) := by simp [sB, sOf]
    have e : ∀ t : ByteArray, sOf (sB t) = t := fun t => by cases t; simp [sOf, sB]
    rw [Int.toNat_natCast, Int.toNat_natCast, ← e ((sOf l).extract i j), h]
  rw [this]

set_option maxRecDepth 100000 in
set_option maxHeartbeats 1000000 in
theorem refWild_c (l : List UInt8) (w : World) (hs : l.length ≤ 9223372036854775000) : Calls Tryz.prog 71 #[.string (sOf l)] w fun e w' => e = .returned (.bool (wildL l)) ∧ w = w' := by
  obtain ⟨r, hr⟩ : ∃ r, wildL l = r := ⟨_, rfl⟩
  rw [hr]
  have hsz := sOf_sizeL l
  go_enter Tryz.func71, Tryz.ntmps71
  go_wp2_with fail
  go_loopw [3] (fun n w' => ∃ k : Nat, n = .int .i64 k ∧ k ≤ l.length ∧ w = w' ∧ wildL (l.drop k) = r) (fun n _ => leftL l.length n)
  case atStart => exact ⟨0, rfl, by omega, rfl, by simpa using hr⟩
  case round =>
    obtain ⟨k, rfl, hk, rfl, hc⟩ := hrel
    by_cases hks : k < l.length
    · have hx : ∀ W : World, (Instr.index 9 (.string (sOf l)) (.int .i64 (k : Int))).run Tryz.prog W = .ok (.int .u8 (bN l k)) W := at_sOf l k hks
      have hb0 := bN_lt l k
      have hit : (bN l k = 43 ∨ bN l k = 35) → wildL (l.drop k) = true := wildL_hit hks
      have miss : (bN l k ≠ 43 ∧ bN l k ≠ 35) → wildL (l.drop k) = wildL (l.drop (k + 1)) := fun h => wildL_miss (by omega) (fun j hj => by
        match j, hj with
        | 0, _ => rw [Nat.add_zero]; exact h)
      generalize bN l k = x at *
      by_cases hr0 : x = 43 ∨ x = 35
      · rw [hit hr0] at hc
        subst hc
        clear hit miss
        rcases hr0 with rfl | rfl
        all_goals
          go_wp2_with fail
          go_ret
          exact ⟨rfl, rfl⟩
      · rw [miss (by omega)] at hc
        have hr0b : ((x : Int) == 43) = false := by simp; omega
        have hr1b : ((x : Int) == 35) = false := by simp; omega
        clear hit miss
        go_wp2_with fail
        go_roundw
        case rel => exact ⟨k + 1, by congr 1, by omega, trivial, hc⟩
        case measure => simp [leftL]; omega
    · have : k = l.length := by omega
      subst this
      rw [List.drop_of_length_le (Nat.le_refl _)] at hc
      have hc2 : false = r := hc
      subst hc2
      go_wp2_with fail
      go_ret
      exact ⟨rfl, rfl⟩

structure RefS (l : List UInt8) (w : World) (p : List (List UInt8)) (i k : Nat) (v : Value) (w' : World) : Prop where
  own : OwnL w.heap.size w' v p
  below : Below w.heap.size w w'
  eq : lSplit l = p ++ lSplit (l.drop i)
  ik : i ≤ k
  len : p.length ≤ k
  no : ∀ j, i ≤ j → j < k → bN l j ≠ 47

set_option maxRecDepth 100000 in
set_option maxHeartbeats 4000000 in
theorem refSplit_c (l : List UInt8) (w : World) (hs : l.length ≤ 100000000) : Calls Tryz.prog 104 #[.string (sOf l)] w (GivesLv w (lSplit l)) := by
  have hsz := sOf_sizeL l
  go_enter Tryz.func104, Tryz.ntmps104
  go_wp2_with fail
  go_loopw [3, 4, 5] (fun o f n w' => ∃ (p : List (List UInt8)) (i k : Nat), f = .int .i64 i ∧ n = .int .i64 k ∧ k ≤ l.length ∧ RefS l w p i k o w') (fun _ _ n _ => leftL l.length n)
  case atStart => exact ⟨[], 0, 0, rfl, rfl, by omega, ⟨OwnL.nil _ _, Below.refl _ _, by simp, by omega, by simp, fun j h1 h2 => by omega⟩⟩
  case round =>
    obtain ⟨p, i, k, rfl, rfl, hk, R⟩ := hrel
    obtain ⟨va, vc, rfl⟩ := R.own.ls.slice
    have hik := R.ik; have hpl := R.len
    have hO := R.own
    have hBs := R.below.size
    have HR := hd R; clear R
    by_cases hks : k < l.length
    · have hx : ∀ W : World, (Instr.index 9 (.string (sOf l)) (.int .i64 (k : Int))).run Tryz.prog W = .ok (.int .u8 (bN l k)) W := at_sOf l k hks
      have hb0 := bN_lt l k
      obtain ⟨x, hxe⟩ : ∃ x, bN l k = x := ⟨_, rfl⟩
      rw [hxe] at hx hb0
      have HX := hd hxe; clear hxe
      by_cases h47 : x = 47
      · subst h47
        have hsl := fun W => sl_mid l i k hik (by omega) (by omega) W
        have hhit := lSplit_hit (k - i) (l.drop i) (by simp; omega) (fun j hj => by rw [bN_drop]; exact HR.out.no _ (by omega) (by omega)) (by rw [bN_drop, show i + (k - i) = k by omega]; exact HX.out)
        rw [List.drop_drop, show i + (k - i + 1) = k + 1 by omega] at hhit
        have HH := hd hhit; clear hhit
        go_wp2_with (at_builtin; refine wp_appL rfl _ _ rfl w.heap.size _ p rfl hO ((l.drop i).take (k - i)) rfl (by omega) hBs ?_; intro v4 w4 ho4 hb4)
        go_roundw
        case rel => exact ⟨p ++ [(l.drop i).take (k - i)], k + 1, k + 1, by congr 1, by congr 1, by omega, ⟨ho4, HR.out.below.trans hb4, by rw [HR.out.eq, HH.out]; simp, by omega, by simp; omega, fun j h1 h2 => by omega⟩⟩
        case measure => simp [leftL]; omega
      · have hr0b : ((x : Int) == 47) = false := by simp; omega
        have HO := hd hO; clear hO
        go_wp2_with fail
        go_roundw
        case rel =>
          refine ⟨p, i, k + 1, rfl, by congr 1, by omega, ⟨HO.out, HR.out.below, HR.out.eq, by omega, by omega, fun j h1 h2 => ?_⟩⟩
          by_cases hj : j = k
          · subst hj; rw [HX.out]; exact h47
          · exact HR.out.no j h1 (by omega)
        case measure => simp [leftL]; omega
    · have : k = l.length := by omega
      subst this
      have hsl := fun W => sl_from l i (by omega) (by omega) W
      have hnone := lSplit_none (l.drop i) (fun j hj => by rw [bN_drop]; exact HR.out.no _ (by omega) (by simp at hj; omega))
      have HN := hd hnone; clear hnone
      go_wp2_with (at_builtin; refine wp_appL rfl _ _ rfl w.heap.size _ p rfl hO (l.drop i) rfl (by omega) hBs ?_; intro v4 w4 ho4 hb4)
      go_ret
      exact ⟨_, rfl, by rw [HR.out.eq, HN.out]; exact ho4, HR.out.below.trans hb4⟩

set_option maxRecDepth 100000 in
set_option maxHeartbeats 1000000 in
theorem refSized_c (l : List UInt8) (w : World) (hs : l.length ≤ 9223372036854775000) : Calls Tryz.prog 70 #[.string (sOf l)] w fun e w' => e = .returned (.bool (lSized l)) ∧ Below w.heap.size w w' := by
  have hsz := sOf_sizeL l
  by_cases h0 : l = []
  · subst h0
    have hn : lSized [] = false := rfl
    rw [hn]
    have hz : (sOf []).size = 0 := hsz
    clear hsz hn
    go_enter Tryz.func70, Tryz.ntmps70
    go_wp2_with fail
    go_ret
    exact ⟨rfl, Below.refl _ _⟩
  have h1 : 1 ≤ l.length := List.length_pos_iff.2 h0
  by_cases h96 : 96 < l.length
  · have hn : lSized l = false := by unfold lSized; rw [decide_eq_false (by omega)]; simp
    rw [hn]
    go_enter Tryz.func70, Tryz.ntmps70
    go_wp2_with fail
    go_ret
    exact ⟨rfl, Below.refl _ _⟩
  obtain ⟨r, hr⟩ : ∃ r, lSized l = r := ⟨_, rfl⟩
  rw [hr]
  have hr2 : (uRight l && decide ((lSplit l).length ≤ 12)) = r := by
    rw [← hr]; unfold lSized
    have e0 : l.isEmpty = false := by simpa using h0
    rw [e0, decide_eq_true (by omega : l.length ≤ 96)]
    simp
  have HR := hd hr2
  clear hr hr2
  go_enter Tryz.func70, Tryz.ntmps70
  go_wp2_with fail
  refine (refRight_c (sOf l) _ (by omega)).mono ?_
  rw [sB_sOfL]
  rintro e w1 ⟨rfl, hb1⟩
  cases hu : uRight l
  · have hr := HR.out; rw [hu] at hr
    have hr3 : false = r := hr
    subst hr3
    clear HR hr hu
    go_wp2_with fail
    go_ret
    exact ⟨rfl, hb1⟩
  · have hr := HR.out; rw [hu, Bool.true_and] at hr
    have HR2 := hd hr
    clear HR hr hu
    go_wp2_with fail
    refine (refSplit_c l _ (by omega)).mono ?_
    rintro e w2 ⟨v2, rfl, ho2, hb2⟩
    obtain ⟨a2, c2, rfl⟩ := ho2.ls.slice
    have hb := Below.up hb1 hb2
    clear ho2
    go_wp2_with fail
    go_ret
    exact ⟨ret_bool (by rw [← HR2.out, Bool.eq_iff_iff]; simp; omega), hb⟩

set_option maxRecDepth 100000 in
set_option maxHeartbeats 1000000 in
theorem refName_c (l : List UInt8) (w : World) (hs : l.length ≤ 9223372036854775000) : Calls Tryz.prog 46 #[.string (sOf l)] w fun e w' => e = .returned (.bool (lName l)) ∧ Below w.heap.size w w' := by
  obtain ⟨r, hr⟩ : ∃ r, lName l = r := ⟨_, rfl⟩
  rw [hr]
  unfold lName at hr
  have HR := hd hr; clear hr
  go_enter Tryz.func46, Tryz.ntmps46
  go_wp2_with fail
  refine (refSized_c l _ hs).mono ?_
  rintro e w1 ⟨rfl, hb1⟩
  cases hu : lSized l
  · have hr := HR.out; rw [hu, Bool.false_and] at hr; subst hr
    go_wp2_with fail
    go_ret
    exact ⟨rfl, hb1⟩
  · have hr := HR.out; rw [hu, Bool.true_and] at hr
    have HR2 := hd hr; clear HR hr hu
    go_wp2_with fail
    refine (refWild_c l _ hs).mono ?_
    rintro e w2 ⟨rfl, rfl⟩
    go_wp2_with fail
    go_ret
    exact ⟨ret_bool HR2.out, hb1⟩

end Go.Proofs.YtjlnlgemngpelaaGreatDoor
