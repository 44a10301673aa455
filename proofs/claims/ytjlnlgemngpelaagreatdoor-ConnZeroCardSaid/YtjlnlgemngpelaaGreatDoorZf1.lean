/- A bundle of texts (merged for the limit on files): Cn, Cn2, Cn3, Cn4, Cn5, Cn6, Cn7, Cn8, Cn9, Cn10, CnZero, CnVars. -/
import Derived.Test.YtjlnlgemngpelaaGreatDoorZa5
import Derived.Test.YtjlnlgemngpelaaGreatDoorZa20
import Derived.Test.YtjlnlgemngpelaaGreatDoorZa19
import Derived.Lib.Builder
import Derived.Lib.UnsafeStr
import Derived.Test.YtjlnlgemngpelaaGreatDoorZa21
import Derived.Test.YtjlnlgemngpelaaGreatDoorZa27
import Derived.Test.YtjlnlgemngpelaaGreatDoorZa32
import Derived.Laws.LoneSync
import Derived.Test.YtjlnlgemngpelaaGreatDoorZa23
/- A connection: its cells; who came, the will, closing, feeding; nobody's connection. -/
namespace Go.Proofs.YtjlnlgemngpelaaGreatDoor
open Go.RowKit
set_option linter.unusedVariables false
set_option linter.unusedSimpArgs false

/-- What a connection holds. -/
structure Cn where
  rw : Bool
  out : List UInt8
  fr : FrS
  first : Bool
  closed : Bool
  bad : Int
  who : Con
  came : Bool
  will : Bool
def Cn.new : Cn := ⟨true, [], ([], 0, 0), true, false, 0, Con.zero, false, false⟩
def Cn.cells (s : Cn) (va vb vg : Value) : List Value :=
  [va, vb, vg, .bool s.first, .bool s.closed, .int .i64 s.bad, .int .i64 s.who.level, .bool s.who.clean, .int .i64 s.who.keep, .string s.who.client, .bool s.who.hasWill, .string s.who.topic, .string s.who.text, .int .i64 s.who.qos, .bool s.who.retain, .bool s.who.hasUser, .string s.who.user, .bool s.who.hasPass, .string s.who.pass, .bool s.came, .bool s.will]
theorem info_conn : (Tryz.prog.info? 69).map (·.size) = some 21 := by kernel_rfl
theorem Owned.blk_ge {B : Nat} {w : World} {v : Value} {l : List UInt8} (h : Owned B w v l) : ∀ k, k ∈ blk v → B ≤ k := by
  intro k hk
  unfold Owned World.ownsRow at h
  rcases h.2 with ⟨rfl, -⟩ | ⟨b, r, c, rfl, hb, -⟩
  · simp [blk, Value.ownBlock] at hk
  · simp [blk, Value.ownBlock] at hk; omega
theorem Owned.lift {B : Nat} {w : World} {v : Value} {l : List UInt8} (h : Owned 0 w v l) (hb : ∀ k, k ∈ blk v → B ≤ k) : Owned B w v l := by
  unfold Owned World.ownsRow at h ⊢
  refine ⟨h.1, ?_⟩
  rcases h.2 with h1 | ⟨b, r, c, rfl, hb0, h2⟩
  · exact .inl h1
  · exact .inr ⟨b, r, c, rfl, hb b (by simp [blk, Value.ownBlock]), h2⟩
theorem Owned.blk_lt {B : Nat} {w : World} {v : Value} {l : List UInt8} (h : Owned B w v l) : ∀ k, k ∈ blk v → k < w.heap.size := by
  intro k hk
  exact (World.ownsRow.lt h k (by simpa [blk] using hk)).2
theorem shape_setCells (b : Nat) : ∀ (vs : List Value) (o : Nat) (w : World) (k : Nat), (w.setCells b o vs).shape? k = w.shape? k
  | [], _, _, _ => rfl
  | v :: r, o, w, k => by rw [World.setCells, shape_setCells b r, shape_setCell]
theorem shape_lt {w : World} {k : Nat} {x : TypeId × Nat} (h : w.shape? k = some x) : k < w.heap.size := by
  unfold World.shape? at h
  by_cases hk : k < w.heap.size
  · exact hk
  · simp [Array.getElem?_eq_none (by omega : w.heap.size ≤ k)] at h
/-- Bytes that may be read: none, or a row that begins its block. -/
def Held (B : Nat) (w : World) (v : Value) (l : List UInt8) : Prop := (v = Nl ∧ l = []) ∨ (l ≠ [] ∧ ∃ b cap n, v = .slice (some ⟨b, 0, none⟩) l.length cap ∧ B ≤ b ∧ l.length ≤ cap ∧ l.length ≤ n ∧ l.length ≤ maxLen ∧ w.shape? b = some (5, n) ∧ ∀ j x, l[j]? = some x → w.cell? ⟨b, j, none⟩ = some (.int .u8 x.toNat))
theorem Held.keeps {B : Nat} {S : List Nat} {w w' : World} {v : Value} {l : List UInt8} (h : Held B w v l) (hk : Keeps S w w') (hS : ∀ k, k ∈ S → k < B) : Held B w' v l := by
  rcases h with h | ⟨h0, b, cap, n, rfl, hb, h1, h2, h3, hs, hc⟩
  · exact .inl h
  · have hlt := shape_lt hs
    have hn : b ∉ S := fun hm => by have := hS b hm; omega
    exact .inr ⟨h0, b, cap, n, rfl, hb, h1, h2, h3, (shape_of_block (hk.block b hlt hn)).trans hs, fun j x hx => (hk.cell hlt hn).trans (hc j x hx)⟩
theorem Held.kept {B : Nat} {w w' : World} {v : Value} {l : List UInt8} (h : Held B w v l) (hb : Below w.heap.size w w') : Held B w' v l := h.keeps (S := []) (Keeps.below hb) (by simp)
theorem Held.of {B : Nat} {w : World} {v : Value} {l : List UInt8} (h : Owned B w v l) (hn : l = [] → v = Nl) : Held B w v l := by
  by_cases hl : l = []
  · exact .inl ⟨hn hl, hl⟩
  · have hl0 : l.length ≠ 0 := by simpa using hl
    have h' := h
    unfold Owned World.ownsRow at h
    rcases h.2 with ⟨-, hz⟩ | ⟨b, cap, cur, rfl, hbg, hg, hnc, hcm, hcs, htake⟩
    · exact absurd hz hl0
    · refine .inr ⟨hl, b, cap, cur.size, rfl, hbg, hnc, by omega, by omega, by simp [World.shape?, hg], fun j x hx => ?_⟩
      have := World.ownsRow.cells h' (g := b) rfl j (.int .u8 x.toNat) (by simp [byteV, hx])
      have e : ((⟨b, 0, none⟩ : Addr).add j) = ⟨b, j, none⟩ := by cases j <;> simp [Addr.add]
      rw [e] at this
      exact this
theorem Held.blk_ge {B : Nat} {w : World} {v : Value} {l : List UInt8} (h : Held B w v l) : ∀ k, k ∈ blk v → B ≤ k := by
  intro k hk
  rcases h with ⟨rfl, -⟩ | ⟨-, b, cap, n, rfl, hb, -⟩
  · simp [blk, Value.ownBlock] at hk
  · simp [blk, Value.ownBlock] at hk; omega
structure CnAt (w : World) (g c : Nat) (s : Cn) : Prop where
  ex : ∃ va vb, At w c (s.cells va vb (.pointer (some ⟨g, 0, none⟩))) ∧ (va = .pointer none ∨ va = .pointer (some ⟨c, 0, none⟩)) ∧ (Held (c + 1) w vb s.out ∧ (s.rw = true → Owned (c + 1) w vb s.out)) ∧ FrAt w g s.fr.1 s.fr.2.1 s.fr.2.2 (c :: blk vb)
  free : Free w c
  gc : g < c
  sh : w.shape? c = some (69, 21)
theorem CnAt.lt {w : World} {g c : Nat} {s : Cn} (h : CnAt w g c s) : c < w.heap.size := by
  obtain ⟨va, vb, hA, -⟩ := h.ex
  exact hA.lt
theorem CnAt.mk' {w w' : World} {g c : Nat} {s s' : Cn} {va vb : Value} (hA : At w' c (s'.cells va vb (.pointer (some ⟨g, 0, none⟩)))) (hf : Free w' c) (hk : Keeps [c] w w') (hva : va = .pointer none ∨ va = .pointer (some ⟨c, 0, none⟩))
    (hown : Held (c + 1) w vb s.out ∧ (s.rw = true → Owned (c + 1) w vb s.out)) (hfr : FrAt w g s.fr.1 s.fr.2.1 s.fr.2.2 (c :: blk vb)) (gc : g < c) (hsh : w'.shape? c = some (69, 21)) (ho : s'.out = s.out) (hr : s'.fr = s.fr) (hw : s'.rw = s.rw) : CnAt w' g c s' := by
  have hlt : ∀ k, k ∈ [c] → k < c + 1 := by intro k hk; simp at hk; omega
  refine ⟨⟨va, vb, hA, hva, ⟨?_, fun hr => ?_⟩, ?_⟩, hf, gc, hsh⟩
  · rw [ho]; exact hown.1.keeps hk hlt
  · rw [ho]; exact Owns.keeps (hown.2 (by rw [← hw]; exact hr)) hk hlt
  · rw [hr]
    refine hfr.after (S := c :: blk vb) (hk.mono (by intro k hk; simp at hk; simp [hk])) ?_ (fun k hk => .inl hk) (fun k hk' => Nat.lt_of_lt_of_le (hfr.ltS k hk') hk.size)
    intro hm
    rcases List.mem_cons.1 hm with rfl | hm
    · omega
    · have := hown.1.blk_ge g hm; omega
theorem CnAt.grow {w w' : World} {g c : Nat} {s : Cn} (h : CnAt w g c s) (hb : Below w.heap.size w w') : CnAt w' g c s := by
  obtain ⟨⟨va, vb, hA, hva, hown, hfr⟩, hf, gc, hsh⟩ := h
  exact ⟨⟨va, vb, hA.keep hb hA.lt, hva, ⟨hown.1.kept hb, fun hr => Owned.kept (hown.2 hr) hb (Nat.le_refl _)⟩, hfr.below hb⟩, hf.keep hb hA.lt, gc, (shape_of_block (hb.block c hA.lt)).trans hsh⟩

/-- Nobody made it. -/
def CnNil (w : World) (p : Option Addr) : Prop := p = none ∨ ∃ z, p = some ⟨z, 0, none⟩ ∧ w.cell? ⟨z, 2, none⟩ = some (.pointer none)
set_option maxRecDepth 100000 in
theorem cnNone_c (c g : Nat) (w : World) (h : w.cell? ⟨c, 2, none⟩ = some (.pointer (some ⟨g, 0, none⟩))) : Calls Tryz.prog 27 #[.pointer (some ⟨c, 0, none⟩)] w fun e w' => e = .returned (.bool false) ∧ w = w' := by
  go_enter Tryz.func27, Tryz.ntmps27
  go_wp2_with fail
  go_ret
  exact ⟨rfl, rfl⟩
set_option maxRecDepth 100000 in
theorem cnNoneN_c (p : Option Addr) (w : World) (h : CnNil w p) : Calls Tryz.prog 27 #[.pointer p] w fun e w' => e = .returned (.bool true) ∧ w = w' := by
  rcases h with rfl | ⟨z, rfl, hz⟩
  all_goals
    go_enter Tryz.func27, Tryz.ntmps27
    go_wp2_with fail
    go_ret
    exact ⟨rfl, rfl⟩

/-! ### Nobody's -/
theorem CnNil.low {w w' : World} {p : Option Addr} (h : CnNil w p) (hb : Below w.heap.size w w') (hp : ∀ z, p = some z → z.block < w.heap.size) : CnNil w' p := by
  rcases h with h | ⟨z, h, hz⟩
  · exact .inl h
  · exact .inr ⟨z, h, (bcell hb z 2 (hp _ h)).trans hz⟩
set_option maxRecDepth 100000 in
theorem cnFeedN_c (p : Option Addr) (s : ByteArray) (w : World) (h : CnNil w p) : Calls Tryz.prog 10 #[.pointer p, .string s] w fun e w' => e = .returned (.int .i64 8) ∧ w = w' := by
  have H := hd h; clear h
  go_enter Tryz.func10, Tryz.ntmps10
  go_wp2_with fail
  refine (cnNoneN_c p _ H.out).mono ?_
  rintro e w' ⟨rfl, rfl⟩
  go_wp2_with fail
  go_ret
  exact ⟨rfl, rfl⟩
set_option maxRecDepth 100000 in
theorem cnClosedN_c (p : Option Addr) (w : World) (h : CnNil w p) : Calls Tryz.prog 25 #[.pointer p] w fun e w' => e = .returned (.bool true) ∧ w = w' := by
  have H := hd h; clear h
  go_enter Tryz.func25, Tryz.ntmps25
  go_wp2_with fail
  refine (cnNoneN_c p _ H.out).mono ?_
  rintro e w' ⟨rfl, rfl⟩
  go_wp2_with fail
  go_ret
  exact ⟨rfl, rfl⟩
set_option maxRecDepth 100000 in
theorem cnCloseN_c (p : Option Addr) (w : World) (h : CnNil w p) : Calls Tryz.prog 24 #[.pointer p] w fun e w' => e = .returned (.bool false) ∧ w = w' := by
  have H := hd h; clear h
  go_enter Tryz.func24, Tryz.ntmps24
  go_wp2_with fail
  refine (cnClosedN_c p _ H.out).mono ?_
  rintro e w' ⟨rfl, rfl⟩
  go_wp2_with fail
  go_ret
  exact ⟨rfl, rfl⟩
set_option maxRecDepth 100000 in
theorem cnWaitsN_c (p : Option Addr) (w : World) (h : CnNil w p) : Calls Tryz.prog 15 #[.pointer p] w fun e w' => e = .returned (.int .i64 0) ∧ w = w' := by
  have H := hd h; clear h
  go_enter Tryz.func15, Tryz.ntmps15
  go_wp2_with fail
  refine (cnNoneN_c p _ H.out).mono ?_
  rintro e w' ⟨rfl, rfl⟩
  go_wp2_with fail
  go_ret
  exact ⟨rfl, rfl⟩
set_option maxRecDepth 100000 in
theorem cnOutN_c (p : Option Addr) (w : World) (h : CnNil w p) : Calls Tryz.prog 22 #[.pointer p] w fun e w' => e = .returned (.string ⟨#[]⟩) ∧ w = w' := by
  have H := hd h; clear h
  go_enter Tryz.func22, Tryz.ntmps22
  go_wp2_with fail
  refine (cnNoneN_c p _ H.out).mono ?_
  rintro e w' ⟨rfl, rfl⟩
  go_wp2_with fail
  go_ret
  exact ⟨rfl, rfl⟩
theorem Below.alloc' {w w' : World} {p : Option Addr} (h : CnNil w p) (hp : ∀ z, p = some z → z.block < w.heap.size) (hb : Below w.heap.size w w') : Hd (CnNil w' p) := hd (h.low hb hp)
set_option maxRecDepth 100000 in
theorem cnAlloc_con (W : World) : (Instr.alloc 32 true (.tuple #[])).run Tryz.prog W = .ok (.pointer (some ⟨W.heap.size, 0, none⟩)) (W.alloc (.cells Con.zero.cells.toArray 32)) := by
  simp [Instr.alloc, newVar, go_sem, Con.cells, Con.zero]
set_option maxRecDepth 100000 in
theorem build_con0 (W : World) : (Instr.build 32 #[]).run Tryz.prog W = .ok (.agg Con.zero.cells.toArray) W := by
  simp [Instr.build, go_sem, Con.cells, Con.zero]
theorem ret_con {w : World} {b : Nat} {l : List Value} (h : At w b l) (hl : l.length = 13) : (loadVar 32 ⟨b, 0, none⟩).run Tryz.prog w = .ok (.agg l.toArray) w :=
  run_loadVar_mid w b 0 32 l _ h.range Tryz.underlying32 rfl (by rw [hl]; exact info_con)
def msg0 : List Value := [.string ⟨#[]⟩, .string ⟨#[]⟩, .int .i64 0, .bool false]
theorem msg0_one : ∀ v ∈ msg0, v.oneCell' = true := by
  intro v hv
  have : msg0.all (·.oneCell') = true := rfl
  exact (List.all_eq_true.1 this) v hv
theorem cnAlloc_msg (W : World) : (Instr.alloc 30 true (.tuple #[])).run Tryz.prog W = .ok (.pointer (some ⟨W.heap.size, 0, none⟩)) (W.alloc (.cells msg0.toArray 30)) := by
  simp [Instr.alloc, newVar, go_sem, msg0]
theorem build_msg0 (W : World) : (Instr.build 30 #[]).run Tryz.prog W = .ok (.agg msg0.toArray) W := by
  simp [Instr.build, go_sem, msg0]
theorem ret_msg {w : World} {b : Nat} {l : List Value} (h : At w b l) (hl : l.length = 4) : (loadVar 30 ⟨b, 0, none⟩).run Tryz.prog w = .ok (.agg l.toArray) w :=
  run_loadVar_mid w b 0 30 l _ h.range Tryz.underlying30 rfl (by rw [hl]; exact info_msg)
set_option maxRecDepth 100000 in
theorem cnWhoN_c (p : Option Addr) (w : World) (h : CnNil w p) (hp : ∀ z, p = some z → z.block < w.heap.size) : Calls Tryz.prog 16 #[.pointer p] w fun e w' => e = .returned (.tuple #[.agg Con.zero.cells.toArray, .bool false]) ∧ Below w.heap.size w w' := by
  have H := hd h; clear h
  have HP := hd hp; clear hp
  go_enter Tryz.func16, Tryz.ntmps16
  go_wp2_with (first
    | (with_reducible refine wpl_alloc (o := ⟨some 2, .alloc 32, _, _, _, _⟩) rfl _ rfl Con.zero.cells cnAlloc_con _ rfl ?_; intro w1 h1 f1 b1 z1))
  refine (cnNoneN_c p _ (H.out.low b1 HP.out)).mono ?_
  rintro e w' ⟨rfl, rfl⟩
  go_wp2_with (first
    | ((with_reducible refine wpl_at (o := ⟨some 13, .build 32 #[], _, _, _, _⟩) ?_); refine wpl_build rfl _ _ rfl #[] (by simp) _ build_con0 ?_)
    | ((with_reducible refine wpl_at (o := ⟨none, .store 32 (.tmp 2) (.tmp 13), _, _, _, _⟩) ?_); refine wpl_storeAll rfl rfl _ _ _ rfl w.heap.size Con.zero.cells Con.zero.cells rfl rfl info_con (Con.one _) h1 rfl f1 ?_; intro w9 h9 f9 k9 z9))
  refine bodyPost_ret (v := .tuple #[.agg Con.zero.cells.toArray, .bool false]) (results_cell_tmp Tryz.results16 rfl (ret_con h9 rfl) rfl) rfl ?_
  exact ⟨rfl, b1.trans (k9.toBelow b1.size (by simp))⟩
set_option maxRecDepth 100000 in
theorem cnWillN_c (p : Option Addr) (w : World) (h : CnNil w p) (hp : ∀ z, p = some z → z.block < w.heap.size) : Calls Tryz.prog 17 #[.pointer p] w fun e w' => e = .returned (.tuple #[.agg msg0.toArray, .bool false]) ∧ Below w.heap.size w w' := by
  have H := hd h; clear h
  have HP := hd hp; clear hp
  go_enter Tryz.func17, Tryz.ntmps17
  go_wp2_with (first
    | (with_reducible refine wpl_alloc (o := ⟨some 2, .alloc 30, _, _, _, _⟩) rfl _ rfl msg0 cnAlloc_msg _ rfl ?_; intro w1 h1 f1 b1 z1))
  refine (cnNoneN_c p _ (H.out.low b1 HP.out)).mono ?_
  rintro e w' ⟨rfl, rfl⟩
  go_wp2_with (first
    | ((with_reducible refine wpl_at (o := ⟨some 13, .build 30 #[], _, _, _, _⟩) ?_); refine wpl_build rfl _ _ rfl #[] (by simp) _ build_msg0 ?_)
    | ((with_reducible refine wpl_at (o := ⟨none, .store 30 (.tmp 2) (.tmp 13), _, _, _, _⟩) ?_); refine wpl_storeAll rfl rfl _ _ _ rfl w.heap.size msg0 msg0 rfl rfl info_msg msg0_one h1 rfl f1 ?_; intro w9 h9 f9 k9 z9))
  refine bodyPost_ret (v := .tuple #[.agg msg0.toArray, .bool false]) (results_cell_tmp Tryz.results17 rfl (ret_msg h9 rfl) rfl) rfl ?_
  exact ⟨rfl, b1.trans (k9.toBelow b1.size (by simp))⟩
end Go.Proofs.YtjlnlgemngpelaaGreatDoor

/- A connection that was made: New, Feed, Who, Will, Forget, Accept, Close, Waits. -/
namespace Go.Proofs.YtjlnlgemngpelaaGreatDoor
open Go.RowKit
set_option linter.unusedVariables false
set_option linter.unusedSimpArgs false

theorem Cn.who_in (s : Cn) (va vb vg : Value) : ∀ j v, s.who.cells[j]? = some v → (s.cells va vb vg)[6 + j]? = some v := by
  intro j v h
  have e : s.cells va vb vg = [va, vb, vg, .bool s.first, .bool s.closed, .int .i64 s.bad] ++ (s.who.cells ++ [.bool s.came, .bool s.will]) := rfl
  rw [e, List.getElem?_append_right (by simp), List.getElem?_append_left (by have := (List.getElem?_eq_some_iff.1 h).1; simpa using this)]
  simpa using h
def Con.msg (x : Con) : List Value := [.string x.topic, .string x.text, .int .i64 x.qos, .bool x.retain]
theorem Con.msg_one (x : Con) : ∀ v ∈ x.msg, v.oneCell' = true := by
  intro v hv
  have : (x.msg).all (·.oneCell') = true := rfl
  exact (List.all_eq_true.1 this) v hv
theorem Cn.msg_in (s : Cn) (va vb vg : Value) : ∀ j v, s.who.msg[j]? = some v → (s.cells va vb vg)[11 + j]? = some v := by
  intro j v h
  have e : s.cells va vb vg = [va, vb, vg, .bool s.first, .bool s.closed, .int .i64 s.bad, .int .i64 s.who.level, .bool s.who.clean, .int .i64 s.who.keep, .string s.who.client, .bool s.who.hasWill] ++ (s.who.msg ++ [.bool s.who.hasUser, .string s.who.user, .bool s.who.hasPass, .string s.who.pass, .bool s.came, .bool s.will]) := rfl
  rw [e, List.getElem?_append_right (by simp), List.getElem?_append_left (by have := (List.getElem?_eq_some_iff.1 h).1; simpa using this)]
  simpa using h
theorem wpl_boxS {w : World} {ops : Array Oper} {rest : List Oper} {o : Oper} {a : Act} {Q : Exit → Act → World → Prop} (hgd : o.guard = none) (ty : TypeId) (x : Operand) (ho : o.op = .box ty x) (L : List Value) (hx : a.eval x = .agg L.toArray) (g : Nat) (hg : w.heap.size = g)
    (h : ∀ w', At w' g L → Free w' g → Below g w w' → w'.heap.size = g + 1 → w'.shape? g = some (ty, L.length) → wpList Tryz.prog ops Q rest (a.put o.dst (.pointer (some ⟨g, 0, none⟩))) w') : wpList Tryz.prog ops Q (o :: rest) a w := by
  subst hg
  refine wpList_plain hgd fun K hK => ?_
  have hr : (Instr.box ty (.agg L.toArray)).run Tryz.prog w = .ok (.pointer (some ⟨w.heap.size, 0, none⟩)) (w.alloc (.cells L.toArray ty)) := by
    simp [Instr.box, newVar, go_sem]
  unfold Oper.wp execOp
  simp only [ho, hx, Sem.run_bind, Sem.run_pure, hr, Result.andThen_ok]
  exact hK _ _ (h _ (At.new _ _ _) (Free.new _ _ _) ((Below.refl _ _).alloc (Nat.le_refl _) _) (by simp [go_sem]) (by have e : (w.alloc (.cells L.toArray ty)).heap = w.heap.push (.cells L.toArray ty) := rfl; unfold World.shape?; rw [e]; simp))
/-- The framer has turned, nothing else. -/
theorem CnAt.side {w w' : World} {g c : Nat} {s : Cn} {va vb : Value} (hA : At w c (s.cells va vb (.pointer (some ⟨g, 0, none⟩)))) (hf : Free w c) (hva : va = .pointer none ∨ va = .pointer (some ⟨c, 0, none⟩)) (hown : Held (c + 1) w vb s.out ∧ (s.rw = true → Owned (c + 1) w vb s.out)) (gc : g < c) (hsh : w.shape? c = some (69, 21))
    (hk : Keeps [g] w w') {l : List UInt8} {t d : Int} (hfr : FrAt w' g l t d (c :: blk vb)) : CnAt w' g c { s with fr := (l, t, d) } := by
  have hn : c ∉ [g] := by simp; omega
  have hlt : ∀ k, k ∈ [g] → k < c + 1 := by intro k hk; simp at hk; omega
  exact ⟨⟨va, vb, hA.keeps hk hn, hva, ⟨hown.1.keeps hk hlt, fun hr => Owns.keeps (hown.2 hr) hk hlt⟩, hfr⟩, hf.keeps hk hA.lt hn, gc, (shape_of_block (hk.block c hA.lt hn)).trans hsh⟩
set_option maxRecDepth 100000 in
theorem build_conn (p : Option Addr) (W : World) : (Instr.build 69 #[(1, .pointer p), (2, .bool true)]).run Tryz.prog W = .ok (.agg (Cn.new.cells (.pointer none) Nl (.pointer p)).toArray) W := by
  simp [Instr.build, go_sem, Cn.cells, Cn.new, Con.zero]
set_option maxRecDepth 100000 in
theorem cnNew_c (w : World) : Calls Tryz.prog 8 #[] w fun e w' => ∃ g c, e = .returned (.pointer (some ⟨c, 0, none⟩)) ∧ CnAt w' g c Cn.new ∧ w.heap.size ≤ g ∧ Below w.heap.size w w' := by
  go_enter Tryz.func8, Tryz.ntmps8
  go_wp2_with fail
  refine (frNew_c _).mono ?_
  rintro e w1 ⟨rfl, hf1, hb1⟩
  have hl := hf1.lt
  go_wp2_with (first
    | ((with_reducible refine wpl_at (o := ⟨some 2, .build 69 _, _, _, _, _⟩) ?_); refine wpl_build rfl _ _ rfl #[(1, .pointer (some ⟨w.heap.size, 0, none⟩)), (2, .bool true)] (by simp [Act.eval]) _ (fun W => build_conn _ W) ?_)
    | (with_reducible refine wpl_boxS (o := ⟨some 3, .box 69 (.tmp 2), _, _, _, _⟩) rfl _ _ rfl (Cn.new.cells (.pointer none) Nl (.pointer (some ⟨w.heap.size, 0, none⟩))) rfl w1.heap.size rfl ?_; intro w2 h2 f2 b2 z2 s2))
  go_ret
  refine ⟨w.heap.size, w1.heap.size, rfl, ⟨⟨_, Nl, h2, .inl rfl, ⟨.inl ⟨rfl, rfl⟩, fun _ => Owned.nil _ _⟩, ?_⟩, f2, hl, s2⟩, Nat.le_refl _, hb1.trans (b2.mono (by omega))⟩
  exact hf1.after (S := []) (Keeps.below b2) (by simp) (fun k hk => .inr (by simp [blk, Value.ownBlock] at hk; omega)) (fun k hk => by simp [blk, Value.ownBlock] at hk; omega)

set_option maxRecDepth 100000 in
theorem cnClosed_c (g c : Nat) (s : Cn) (w : World) (h : CnAt w g c s) : Calls Tryz.prog 25 #[.pointer (some ⟨c, 0, none⟩)] w fun e w' => e = .returned (.bool s.closed) ∧ w = w' := by
  obtain ⟨⟨va, vb, hA, hva, hown, hfr⟩, hf, gc, hsh⟩ := h
  have c2 := hA.at 2 rfl; have c4 := hA.at 4 rfl
  clear hA hf hown hfr hva
  go_enter Tryz.func25, Tryz.ntmps25
  go_wp2_with fail
  refine (cnNone_c c g _ c2).mono ?_
  rintro e w' ⟨rfl, rfl⟩
  go_wp2_with fail
  go_ret
  exact ⟨rfl, rfl⟩
set_option maxRecDepth 100000 in
theorem cnClose_c (g c : Nat) (s : Cn) (w : World) (h : CnAt w g c s) : Calls Tryz.prog 24 #[.pointer (some ⟨c, 0, none⟩)] w fun e w' => e = .returned (.bool (!s.closed)) ∧ CnAt w' g c { s with closed := true } ∧ Below g w w' := by
  have H := hd h
  obtain ⟨⟨va, vb, hA, hva, hown, hfr⟩, hf, gc, hsh⟩ := h
  have HA := hd hA; have HF := hd hf; have HFR := hd hfr; have HOW := hd hown
  have c4 := hA.at 4 rfl
  have f4 := hf 4
  clear hA hf hown hfr
  cases hcl : s.closed
  · go_enter Tryz.func24, Tryz.ntmps24
    go_wp2_with fail
    refine (cnClosed_c g c s _ H.out).mono ?_
    rintro e w' ⟨rfl, rfl⟩
    rw [hcl]
    go_wp2_with fail
    go_ret
    refine ⟨rfl, CnAt.mk' (s := s) (HA.out.set 4 (.bool true) (by show 4 < 21; decide)) (HF.out.set _ _) ((Keeps.refl _ _).setCell (.inl (by simp)) _) hva HOW.out HFR.out gc (by rw [shape_setCell]; exact hsh) rfl rfl rfl, (Below.refl _ _).setCell (by show g ≤ c; omega) _⟩
  · go_enter Tryz.func24, Tryz.ntmps24
    go_wp2_with fail
    refine (cnClosed_c g c s _ H.out).mono ?_
    rintro e w' ⟨rfl, rfl⟩
    rw [hcl]
    go_wp2_with fail
    go_ret
    refine ⟨rfl, ?_, Below.refl _ _⟩
    have e : ({ s with closed := true } : Cn) = s := by rw [← hcl]
    rw [e]
    exact H.out
set_option maxRecDepth 100000 in
theorem cnWaits_c (g c : Nat) (s : Cn) (w : World) (h : CnAt w g c s) : Calls Tryz.prog 15 #[.pointer (some ⟨c, 0, none⟩)] w fun e w' => e = .returned (.int .i64 s.fr.1.length) ∧ w = w' := by
  obtain ⟨⟨va, vb, hA, hva, hown, hfr⟩, hf, gc, hsh⟩ := h
  have c2 := hA.at 2 rfl
  have HFR := hd hfr
  clear hA hf hown hfr hva
  go_enter Tryz.func15, Tryz.ntmps15
  go_wp2_with fail
  refine (cnNone_c c g _ c2).mono ?_
  rintro e w' ⟨rfl, rfl⟩
  go_wp2_with fail
  refine (waits_c g _ _ _ _ HFR.out).mono ?_
  rintro e w' ⟨rfl, rfl⟩
  go_wp2_with fail
  go_ret
  exact ⟨rfl, rfl⟩
def cnFeed (s : Cn) (x : ByteArray) : Cn := if s.closed then s else { s with fr := (if s.fr.2.2 = 0 then s.fr.1 ++ sB x else s.fr.1, s.fr.2.1, s.fr.2.2) }
set_option maxRecDepth 100000 in
theorem cnFeed_c (g c : Nat) (s : Cn) (x : ByteArray) (w : World) (h : CnAt w g c s) (hlen : s.fr.1.length + x.size ≤ 140737488355328) :
    Calls Tryz.prog 10 #[.pointer (some ⟨c, 0, none⟩), .string x] w fun e w' => e = .returned (.int .i64 0) ∧ CnAt w' g c (cnFeed s x) ∧ Below g w w' := by
  have H := hd h
  have HL := hd hlen
  obtain ⟨⟨va, vb, hA, hva, hown, hfr⟩, hf, gc, hsh⟩ := h
  have HA := hd hA; have HF := hd hf; have HFR := hd hfr; have HOW := hd hown
  have c2 := hA.at 2 rfl; have c4 := hA.at 4 rfl
  have glt := hfr.lt
  clear hA hf hown hfr hlen
  cases hcl : s.closed
  · rw [hcl] at c4
    have hst : cnFeed s x = { s with fr := (if s.fr.2.2 = 0 then s.fr.1 ++ sB x else s.fr.1, s.fr.2.1, s.fr.2.2) } := by unfold cnFeed; rw [if_neg (by simp [hcl])]
    have HST := hd hst; clear hst
    go_enter Tryz.func10, Tryz.ntmps10
    go_wp2_with fail
    refine (cnNone_c c g _ c2).mono ?_
    rintro e w' ⟨rfl, rfl⟩
    go_wp2_with fail
    refine (feed_c g _ _ _ x _ HFR.out HL.out).mono ?_
    rintro e w2 ⟨rfl, hf2, hk2⟩
    have hs2 := CnAt.side HA.out HF.out hva HOW.out gc hsh hk2 hf2
    rw [← HST.out] at hs2
    clear hf2
    go_wp2_with fail
    go_ret
    exact ⟨rfl, hs2, hk2.toBelow (by omega) (by simp)⟩
  · rw [hcl] at c4
    have hst : cnFeed s x = s := by unfold cnFeed; rw [if_pos hcl]
    rw [hst]
    go_enter Tryz.func10, Tryz.ntmps10
    go_wp2_with fail
    refine (cnNone_c c g _ c2).mono ?_
    rintro e w' ⟨rfl, rfl⟩
    go_wp2_with fail
    go_ret
    exact ⟨rfl, H.out, Below.refl _ _⟩
def cnWho (s : Cn) : Con := if s.came then s.who else Con.zero
set_option maxRecDepth 100000 in
theorem cnWho_c (g c : Nat) (s : Cn) (w : World) (h : CnAt w g c s) : Calls Tryz.prog 16 #[.pointer (some ⟨c, 0, none⟩)] w fun e w' => e = .returned (.tuple #[.agg (cnWho s).cells.toArray, .bool s.came]) ∧ Below w.heap.size w w' := by
  obtain ⟨⟨va, vb, hA, hva, hown, hfr⟩, hf, gc, hsh⟩ := h
  have HA := hd hA
  have hlt := hA.lt
  clear hown hfr hva hf hA
  unfold cnWho
  cases hcm : s.came
  · go_enter Tryz.func16, Tryz.ntmps16
    go_wp2_with (first
      | (with_reducible refine wpl_alloc (o := ⟨some 2, .alloc 32, _, _, _, _⟩) rfl _ rfl Con.zero.cells cnAlloc_con _ rfl ?_; intro w1 h1 f1 b1 z1))
    have hA1 := HA.out.keep b1 hlt
    have c2 := hA1.at 2 rfl; have c19 := hA1.at 19 rfl
    rw [hcm] at c19
    refine (cnNone_c c g _ c2).mono ?_
    rintro e w' ⟨rfl, rfl⟩
    go_wp2_with (first
      | ((with_reducible refine wpl_at (o := ⟨some 13, .build 32 #[], _, _, _, _⟩) ?_); refine wpl_build rfl _ _ rfl #[] (by simp) _ build_con0 ?_)
      | ((with_reducible refine wpl_at (o := ⟨none, .store 32 (.tmp 2) (.tmp 13), _, _, _, _⟩) ?_); refine wpl_storeAll rfl rfl _ _ _ rfl w.heap.size Con.zero.cells Con.zero.cells rfl rfl info_con (Con.one _) h1 rfl f1 ?_; intro w9 h9 f9 k9 z9))
    refine bodyPost_ret (v := .tuple #[.agg Con.zero.cells.toArray, .bool false]) (results_cell_tmp Tryz.results16 rfl (ret_con h9 rfl) rfl) rfl ?_
    exact ⟨rfl, b1.trans (k9.toBelow b1.size (by simp))⟩
  · go_enter Tryz.func16, Tryz.ntmps16
    go_wp2_with (first
      | (with_reducible refine wpl_alloc (o := ⟨some 2, .alloc 32, _, _, _, _⟩) rfl _ rfl Con.zero.cells cnAlloc_con _ rfl ?_; intro w1 h1 f1 b1 z1))
    have hA1 := HA.out.keep b1 hlt
    have c2 := hA1.at 2 rfl; have c19 := hA1.at 19 rfl
    rw [hcm] at c19
    refine (cnNone_c c g _ c2).mono ?_
    rintro e w' ⟨rfl, rfl⟩
    go_wp2_with (first
      | ((with_reducible refine wpl_at (o := ⟨some 17, .load 32 (.tmp 16), _, _, _, _⟩) ?_); refine wpl_loadAt rfl _ _ rfl c 6 rfl s.who.cells _ (hA1.part 6 (Cn.who_in s _ _ _)) Tryz.underlying32 rfl info_con ?_)
      | ((with_reducible refine wpl_at (o := ⟨none, .store 32 (.tmp 2) (.tmp 17), _, _, _, _⟩) ?_); refine wpl_storeAll rfl rfl _ _ _ rfl w.heap.size s.who.cells Con.zero.cells rfl rfl info_con (Con.one _) h1 rfl f1 ?_; intro w9 h9 f9 k9 z9))
    refine bodyPost_ret (v := .tuple #[.agg s.who.cells.toArray, .bool true]) (results_cell_tmp Tryz.results16 rfl (ret_con h9 rfl) rfl) rfl ?_
    exact ⟨rfl, b1.trans (k9.toBelow b1.size (by simp))⟩
def cnWill (s : Cn) : List Value := if s.will then s.who.msg else msg0
set_option maxRecDepth 100000 in
theorem cnWill_c (g c : Nat) (s : Cn) (w : World) (h : CnAt w g c s) : Calls Tryz.prog 17 #[.pointer (some ⟨c, 0, none⟩)] w fun e w' => e = .returned (.tuple #[.agg (cnWill s).toArray, .bool s.will]) ∧ Below w.heap.size w w' := by
  obtain ⟨⟨va, vb, hA, hva, hown, hfr⟩, hf, gc, hsh⟩ := h
  have HA := hd hA
  have hlt := hA.lt
  clear hown hfr hva hf hA
  unfold cnWill
  cases hcm : s.will
  · go_enter Tryz.func17, Tryz.ntmps17
    go_wp2_with (first
      | (with_reducible refine wpl_alloc (o := ⟨some 2, .alloc 30, _, _, _, _⟩) rfl _ rfl msg0 cnAlloc_msg _ rfl ?_; intro w1 h1 f1 b1 z1))
    have hA1 := HA.out.keep b1 hlt
    have c2 := hA1.at 2 rfl; have c20 := hA1.at 20 rfl
    rw [hcm] at c20
    refine (cnNone_c c g _ c2).mono ?_
    rintro e w' ⟨rfl, rfl⟩
    go_wp2_with (first
      | ((with_reducible refine wpl_at (o := ⟨some 13, .build 30 #[], _, _, _, _⟩) ?_); refine wpl_build rfl _ _ rfl #[] (by simp) _ build_msg0 ?_)
      | ((with_reducible refine wpl_at (o := ⟨none, .store 30 (.tmp 2) (.tmp 13), _, _, _, _⟩) ?_); refine wpl_storeAll rfl rfl _ _ _ rfl w.heap.size msg0 msg0 rfl rfl info_msg msg0_one h1 rfl f1 ?_; intro w9 h9 f9 k9 z9))
    refine bodyPost_ret (v := .tuple #[.agg msg0.toArray, .bool false]) (results_cell_tmp Tryz.results17 rfl (ret_msg h9 rfl) rfl) rfl ?_
    exact ⟨rfl, b1.trans (k9.toBelow b1.size (by simp))⟩
  · go_enter Tryz.func17, Tryz.ntmps17
    go_wp2_with (first
      | (with_reducible refine wpl_alloc (o := ⟨some 2, .alloc 30, _, _, _, _⟩) rfl _ rfl msg0 cnAlloc_msg _ rfl ?_; intro w1 h1 f1 b1 z1))
    have hA1 := HA.out.keep b1 hlt
    have c2 := hA1.at 2 rfl; have c20 := hA1.at 20 rfl
    rw [hcm] at c20
    refine (cnNone_c c g _ c2).mono ?_
    rintro e w' ⟨rfl, rfl⟩
    go_wp2_with (first
      | ((with_reducible refine wpl_at (o := ⟨some 18, .load 30 (.tmp 17), _, _, _, _⟩) ?_); refine wpl_loadAt rfl _ _ rfl c 11 rfl s.who.msg _ (hA1.part 11 (Cn.msg_in s _ _ _)) Tryz.underlying30 rfl info_msg ?_)
      | ((with_reducible refine wpl_at (o := ⟨none, .store 30 (.tmp 2) (.tmp 18), _, _, _, _⟩) ?_); refine wpl_storeAll rfl rfl _ _ _ rfl w.heap.size s.who.msg msg0 rfl rfl info_msg s.who.msg_one h1 rfl f1 ?_; intro w9 h9 f9 k9 z9))
    refine bodyPost_ret (v := .tuple #[.agg s.who.msg.toArray, .bool true]) (results_cell_tmp Tryz.results17 rfl (ret_msg h9 rfl) rfl) rfl ?_
    exact ⟨rfl, b1.trans (k9.toBelow b1.size (by simp))⟩
end Go.Proofs.YtjlnlgemngpelaaGreatDoor

/- A connection: what goes out: the builder inside; Emit, Out. -/
namespace Go.Proofs.YtjlnlgemngpelaaGreatDoor
open Go.RowKit
set_option linter.unusedVariables false
set_option linter.unusedSimpArgs false

theorem cnApp_block (w : World) (ty : TypeId) (v : Value) (l : List UInt8) (hown : Owned 0 w v l) (s : ByteArray) (hlen : l.length + s.size ≤ 140737488355328) :
    ∃ v' w', (Builtin.append_ #[23, 9] ty #[v, .string s]).run Tryz.prog w = .ok v' w' ∧ Owned 0 w' v' (l ++ sB s) ∧ Keeps (blk v) w w' ∧ (∀ k, k ∈ blk v' → k ∈ blk v ∨ w.heap.size ≤ k) := by
  obtain ⟨i, hi, hz, hs1, hby⟩ := info_parts info_u8
  have hmx : l.length + s.size ≤ maxLen := by unfold maxLen; omega
  obtain ⟨v', w', hr, h2, h3, -⟩ := Lib.run_append_own_string (P := Tryz.prog) w 0 23 9 ty 5 i Tryz.underlying23 Tryz.underlying9 hi hz hs1 hby v l.length (l.map byteV) hown s hmx hlen (Nat.zero_le _)
  refine ⟨v', w', hr, ?_, ⟨h3.os, h3.tape, h3.output, h3.size, fun k hk hn => h3.block k hk (fun e => hn (by unfold blk; rw [← e]; simp))⟩, ?_⟩
  · unfold Owned
    rw [List.length_append, List.map_append, sB_len, ← strCells_B]
    exact h2
  intro k hk
  have hk' : v'.ownBlock = some k := by simpa [blk] using hk
  unfold Owned at hown
  rcases hown.2 with ⟨rfl, hl0⟩ | ⟨g, cap, cur, rfl, hbg, hg, hnc, hcm, hcs, htake⟩
  · right
    have hx : l = [] := List.eq_nil_of_length_eq_zero hl0
    subst hx
    obtain ⟨v2, w2, hr2, h22, -⟩ := Lib.run_append_own_string (P := Tryz.prog) w w.heap.size 23 9 ty 5 i Tryz.underlying23 Tryz.underlying9 hi hz hs1 hby (.slice none 0 0) 0 [] (World.ownsRow_nil w w.heap.size 5 1) s (by simpa using hmx) (by simpa using hlen) (Nat.le_refl _)
    rw [hr] at hr2
    cases hr2
    exact (h22.lt k hk').1
  · by_cases hroom : l.length + s.size ≤ cap
    · left
      have hcs' : cur.size = cap := by simpa using hcs
      have hr2 := Lib.run_append_room_string (P := Tryz.prog) w 23 9 ty 5 i Tryz.underlying23 Tryz.underlying9 hi hs1 g l.length cap cur hg s hroom (by omega)
      rw [hr] at hr2
      cases hr2
      simpa [blk, Value.ownBlock] using hk'.symm
    · right
      have holds : ∀ j u, (l.map byteV)[j]? = some u → w.cell? ((⟨g, 0, none⟩ : Addr).add j) = some u := World.ownsRow.cells hown (g := g) rfl
      have hr2 := Lib.run_append_grow_string (P := Tryz.prog) w 23 9 ty 5 i (.int .u8 0) Tryz.underlying23 Tryz.underlying9 hi hz ⟨g, 0, none⟩ l.length cap (l.map byteV) (by rw [hs1]; simp) holds s (by omega) (by omega) (by rw [hby]; exact growslice_fits (by omega) (by omega))
      rw [hr] at hr2
      cases hr2
      simp only [Value.ownBlock, Option.some.injEq] at hk'
      omega
theorem wp_cnApp {w : World} {ops : Array Oper} {rest : List Oper} {o : Oper} {a : Act} {Q : Exit → Act → World → Prop} (hgd : o.guard = none) (s x : Operand)
    (ho : o.op = .call { callee := .builtin .append, args := #[s, x], argTypes := #[23, 9] })
    (v : Value) (l : List UInt8) (hv : a.eval s = v) (hown : Owned 0 w v l) (str : ByteArray) (hx : a.eval x = .string str)
    (hlen : l.length + str.size ≤ 140737488355328)
    (h : ∀ v' w', Owned 0 w' v' (l ++ sB str) → Keeps (blk v) w w' → (∀ k, k ∈ blk v' → k ∈ blk v ∨ w.heap.size ≤ k) → wpList Tryz.prog ops Q rest (a.put o.dst v') w') : wpList Tryz.prog ops Q (o :: rest) a w := by
  refine wpList_plain hgd fun K hK => ?_
  obtain ⟨v', w', hr, h2, h3, h4⟩ := cnApp_block w o.type v l hown str hlen
  unfold Oper.wp execOp
  simp only [ho, resolve, invoke, builtin, Sem.run_bind, Sem.run_pure, Result.andThen_ok, List.map_toArray, List.map_cons, List.map_nil, hv, hx, hr]
  exact hK _ _ (h v' w' h2 h3 h4)
theorem info_bld : (Tryz.prog.info? 64).map (·.size) = some 2 := by kernel_rfl
theorem bld_lies : liesAt Tryz.prog Tryz.prog.depth 69 (21 / Tryz.prog.cellsOf 69) 0 64 1 = true := by kernel_rfl
theorem byte_cells : Tryz.prog.cellsOf 5 = 1 := by kernel_rfl
def CnIn (w : World) (g c : Nat) (s : Cn) (va vb : Value) : Prop := At w c (s.cells va vb (.pointer (some ⟨g, 0, none⟩))) ∧ (Held (c + 1) w vb s.out ∧ (s.rw = true → Owned (c + 1) w vb s.out)) ∧ FrAt w g s.fr.1 s.fr.2.1 s.fr.2.2 (c :: blk vb) ∧ Free w c ∧ w.shape? c = some (69, 21)
set_option maxRecDepth 100000 in
set_option maxHeartbeats 1000000 in
theorem cnCopy_c (g c : Nat) (s : Cn) (w : World) (h : CnAt w g c s) : Calls Tryz.prog 60 #[.pointer (some ⟨c, 0, none⟩)] w fun e w' => e = .returned (.tuple #[]) ∧ (∃ vb, CnIn w' g c s (.pointer (some ⟨c, 0, none⟩)) vb) ∧ Keeps [c] w w' ∧ w'.cell? ⟨c, 1, none⟩ = w.cell? ⟨c, 1, none⟩ := by
  obtain ⟨j, hj, hjs⟩ := Option.map_eq_some_iff.1 info_bld
  obtain ⟨⟨va, vb, hA, hva, hown, hfr⟩, hf, gc, hsh⟩ := h
  rcases hva with rfl | rfl
  · have h0 := hA.at 0 rfl
    have f0 := hf 0
    have HA := hd hA; have HF := hd hf; have HFR := hd hfr; have HOW := hd hown
    clear hA hf hown hfr
    have r1 := Lib.run_to_unsafe (P := Tryz.prog) w ⟨c, 0, none⟩ Tryz.underlying62 Tryz.underlying135 hj (by rw [hjs]; decide) hsh (by show 0 < 21; decide)
    have r2 := Lib.run_from_unsafe (P := Tryz.prog) w ⟨c, 0, none⟩ Tryz.underlying135 Tryz.underlying62 hj hsh bld_lies
    have r3 := @run_callFunc_extern Tryz.prog 82 _ Extern.AbiNoEscape.same Tryz.func82 (by kernel_rfl) (by kernel_rfl) (by kernel_rfl) (by kernel_rfl)
    have r4 : ∀ x W, (Extern.AbiNoEscape.same #[x]).run Tryz.prog W = .ok x W := fun x W => Lib.run_noEscape W x
    go_enter Tryz.func60, Tryz.ntmps60
    go_wp2_with fail
    go_end0
    have hk : Keeps [c] w (w.setCell ⟨c, 0, none⟩ (.pointer (some ⟨c, 0, none⟩))) := (Keeps.refl _ _).setCell (.inl (by simp)) _
    have hs2 : CnAt (w.setCell ⟨c, 0, none⟩ (.pointer (some ⟨c, 0, none⟩))) g c s := CnAt.mk' (s := s) (HA.out.set 0 (.pointer (some ⟨c, 0, none⟩)) (by show 0 < 21; decide)) (HF.out.set _ _) hk (.inr rfl) HOW.out HFR.out gc (by rw [shape_setCell]; exact hsh) rfl rfl rfl
    refine ⟨rfl, ?_, hk, World.cell?_setCell_other _ _ _ _ (by simp)⟩
    obtain ⟨⟨va, vb2, hA2, hva2, hown2, hfr2⟩, hf2, -, hsh2⟩ := hs2
    have e : va = .pointer (some ⟨c, 0, none⟩) := by
      have h1 := hA2.at 0 rfl
      have h2 := (HA.out.set 0 (.pointer (some ⟨c, 0, none⟩)) (by show 0 < 21; decide)).at 0 rfl
      exact Option.some.inj (h1.symm.trans h2)
    subst e
    exact ⟨vb2, hA2, hown2, hfr2, hf2, hsh2⟩
  · have h0 := hA.at 0 rfl
    have HX : Hd (CnIn w g c s (.pointer (some ⟨c, 0, none⟩)) vb) := hd ⟨hA, hown, hfr, hf, hsh⟩
    clear hA hf hown hfr hsh
    have r1 := fun W => Lib.run_neq_ptr_same (P := Tryz.prog) W ⟨c, 0, none⟩ Tryz.underlying62 hj
    go_enter Tryz.func60, Tryz.ntmps60
    go_wp2_with fail
    go_end0
    exact ⟨rfl, ⟨vb, HX.out⟩, Keeps.refl _ _, rfl⟩
set_option maxRecDepth 100000 in
set_option maxHeartbeats 1000000 in
theorem cnWrite_c (g c : Nat) (s : Cn) (x : ByteArray) (w : World) (h : CnAt w g c s) (hrw : s.rw = true) (hx : x.size ≠ 0) (hlen : s.out.length + x.size ≤ 140737488355328) :
    Calls Tryz.prog 36 #[.pointer (some ⟨c, 0, none⟩), .string x] w fun e w' => e = .returned (.tuple #[.int .i64 x.size, .nilIface]) ∧ CnAt w' g c { s with out := s.out ++ sB x } ∧ Below g w w' ∧ (∀ u, w.cell? ⟨c, 1, none⟩ = some u → Keeps (c :: blk u) w w') := by
  have H := hd h
  have gc := h.gc
  have hgw : g ≤ w.heap.size := by have := h.lt; omega
  have HL := hd hlen
  clear h hlen
  go_enter Tryz.func36, Tryz.ntmps36
  go_wp2_with fail
  refine (cnCopy_c g c s _ H.out).mono ?_
  rintro e w2 ⟨rfl, ⟨vb, hA, hown, hfr, hf, hsh⟩, hk2, hq1⟩
  have HQ1 := hd hq1; clear hq1
  have hb2 : Below g w w2 := hk2.toBelow hgw (by intro k hk; simp at hk; omega)
  have c1 := hA.at 1 rfl
  have hlt := hA.lt
  have how := hown.2 hrw
  have hvb : c ∉ blk vb := fun hm => by have := how.blk_ge c hm; omega
  have HA := hd hA; have HF := hd hf; have HFR := hd hfr; have HOW := hd how
  clear hA hf hown hfr how
  go_wp2_with (first
    | ((with_reducible refine wpl_at (o := ⟨some 14, .call { callee := .builtin .append, args := #[.tmp 12, .tmp 13], argTypes := #[23, 9] }, _, _, _, _⟩) ?_); refine wp_cnApp rfl _ _ rfl vb s.out rfl (HOW.out.le (Nat.zero_le _)) x rfl HL.out ?_; intro v3 w3 ho3 hk3 hb3; have d1 := (hk3.cell (o := 1) hlt hvb).trans c1; have f1 := (hk3.free (o := 1) hlt hvb).trans (HF.out 1); clear c1; obtain ⟨a3, n3, e3⟩ := Owns.slice ho3; generalize hm : (s.out ++ sB x).length = m at e3; subst e3; have HM := hd hm; clear hm; have HO3 := hd ho3; clear ho3; have HK3 := hd hk3; clear hk3))
  go_ret2
  have hk3 := HK3.out
  have hA3 := HA.out.keeps hk3 hvb
  have hA4 := hA3.set 1 (.slice a3 m n3) (by show 1 < 21; decide)
  have hk4 : Keeps (c :: blk vb) w2 (w3.setCell ⟨c, 1, none⟩ (.slice a3 m n3)) := (hk3.mono (fun k hk => List.mem_cons_of_mem _ hk)).setCell (.inl (by simp)) _
  have hge : ∀ k, k ∈ blk (.slice a3 m n3) → c + 1 ≤ k := by
    intro k hk
    rcases hb3 k hk with h1 | h1
    · exact HOW.out.blk_ge k h1
    · omega
  have hne : s.out ++ sB x ≠ [] := by
    intro e
    have := congrArg List.length e
    rw [List.length_append, sB_len, List.length_nil] at this
    omega
  have ho4 : Owned (c + 1) (w3.setCell ⟨c, 1, none⟩ (.slice a3 m n3)) (.slice a3 m n3) (s.out ++ sB x) := (HO3.out.lift hge).aside (by show c < c + 1; omega) _
  refine ⟨rfl, ⟨⟨_, _, hA4, .inr rfl, ⟨Held.of ho4 (fun h => absurd h hne), fun _ => ho4⟩, ?_⟩, (HF.out.keeps hk3 hlt hvb).set _ _, gc, ?_⟩, ?_, ?_⟩
  · refine HFR.out.after (S := c :: blk vb) hk4 ?_ ?_ ?_
    · intro hm
      rcases List.mem_cons.1 hm with h1 | h1
      · omega
      · have := HOW.out.blk_ge g h1; omega
    · intro k hk
      rcases List.mem_cons.1 hk with rfl | h1
      · exact .inl (by simp)
      · rcases hb3 k h1 with h2 | h2
        · exact .inl (List.mem_cons_of_mem _ h2)
        · exact .inr h2
    · intro k hk
      rcases List.mem_cons.1 hk with rfl | h1
      · exact hA4.lt
      · exact ho4.blk_lt k h1
  · rw [shape_setCell]
    exact (shape_of_block (hk3.block c hlt hvb)).trans hsh
  · refine hb2.trans (hk4.toBelow (by have := hk2.size; omega) ?_)
    intro k hk
    rcases List.mem_cons.1 hk with rfl | h1
    · omega
    · have := HOW.out.blk_ge k h1; omega
  · intro u hu
    have e := HA.out.at 1 rfl
    rw [HQ1.out, hu] at e
    obtain rfl := Option.some.inj e
    exact (hk2.mono (by intro k hk; simp at hk; simp [hk])).trans hk4
theorem cell_freeze (w : World) (p a : Addr) (n : Nat) : (w.freeze p n).cell? a = w.cell? a := by
  unfold World.freeze
  split
  · rfl
  · unfold World.cell?
    simp only [Array.getElem?_modify]
    by_cases h : p.block = a.block
    · simp only [h, if_true]
      cases w.heap[a.block]? with
      | none => rfl
      | some o => cases o <;> rfl
    · simp [h]
theorem shape_freeze (w : World) (p : Addr) (n k : Nat) : (w.freeze p n).shape? k = w.shape? k := by
  unfold World.freeze
  split
  · rfl
  · unfold World.shape?
    simp only [Array.getElem?_modify]
    by_cases h : p.block = k
    · simp only [h, if_true]
      cases w.heap[k]? with
      | none => rfl
      | some o => cases o <;> rfl
    · simp [h]
theorem keeps_freeze (w : World) (p : Addr) (n : Nat) : Keeps [p.block] w (w.freeze p n) := by
  unfold World.freeze
  split
  · exact Keeps.refl _ _
  · exact ⟨rfl, rfl, rfl, by simp, fun k hk hn => by simp only [Array.getElem?_modify]; rw [if_neg (by intro e; exact hn (by simp [e]))]⟩
theorem CnIn.drew {w : World} {g c : Nat} {s : Cn} (h : CnAt w g c s) : CnAt w.drew g c s := h.grow ((Below.refl _ _).drew)
set_option maxRecDepth 100000 in
set_option maxHeartbeats 2000000 in
theorem cnString_c (g c : Nat) (s : Cn) (w : World) (h : CnAt w g c s) :
    Calls Tryz.prog 37 #[.pointer (some ⟨c, 0, none⟩)] w fun e w' => e = .returned (.string (sOf s.out)) ∧ CnAt w' g c { s with rw := false } ∧ Below g w w' := by
  have hd' := h.grow ((Below.refl w.heap.size w).drew)
  obtain ⟨⟨va, vb, hA, hva, hown, hfr⟩, hf, gc, hsh⟩ := hd'
  have hB0 : Below g w w.drew := (Below.refl _ _).drew
  have c1 := hA.at 1 rfl
  rcases hown.1 with ⟨rfl, ho⟩ | ⟨h0, b, cap, n, rfl, hb, hnc, hnn, hmx, hs, hc⟩
  · have HX : Hd (CnAt w.drew g c { s with rw := false }) := hd ⟨⟨va, Nl, hA, hva, ⟨hown.1, fun h => absurd h (by simp)⟩, hfr⟩, hf, gc, hsh⟩
    have e0 : sOf s.out = ⟨#[]⟩ := by rw [ho]; rfl
    rw [e0]
    clear hA hown hfr hf hsh hva h
    have hSD : ∀ ts ty W, (Builtin.unsafeSliceData_ ts ty #[Nl]).run Tryz.prog W = .ok (.pointer none) W := fun _ _ _ => rfl
    have hUS := fun ts W => Lib.run_unsafeString_none (P := Tryz.prog) W 111 3 ts none
    go_enter Tryz.func37, Tryz.ntmps37
    go_wp2_with fail
    refine wp_region_M (fun W => W.cell? ⟨c, 1, none⟩ = some (Nl)) 11 [(0, false), (1, false), (2, false), (3, false), (4, false), (5, false), (6, false), (7, false), (8, false), (9, false), (10, true), (11, true)] (by kernel_rfl) (by kernel_rfl) (fun _ _ _ _ h => h) c1 ?_
    iterate 10
      apply wpM_still (by rfl) (by rfl)
      · intro W hC
        go_simp
        rfl
      go_simp
    apply wpM_move (by rfl) (by rfl)
    intro K hK
    go_simp
    refine hK _ _ (fun _ => c1) ?_
    clear hK K
    apply wpM_move (by rfl) (by rfl)
    intro K hK
    go_simp
    refine hK _ _ (fun h => absurd h (by decide)) ?_
    clear hK K
    refine wpM_nil ?_
    go_wp2_with fail
    go_ret
    exact ⟨rfl, HX.out, hB0⟩
  · have hl0 : s.out.length ≠ 0 := by simpa using h0
    have hSD : ∀ ts ty W, (Builtin.unsafeSliceData_ ts ty #[.slice (some ⟨b, 0, none⟩) s.out.length cap]).run Tryz.prog W = .ok (.pointer (some ⟨b, 0, none⟩)) W := fun ts ty W => Lib.run_unsafeSliceData_row _ _ _ _ _ _ (by omega)
    have hUS : ∀ ty, (Builtin.unsafeString_ #[111, 3] ty #[.pointer (some ⟨b, 0, none⟩), .int .i64 s.out.length]).run Tryz.prog w.drew = .ok (.string ⟨s.out.toArray⟩) (w.drew.freeze ⟨b, 0, none⟩ s.out.length) := fun ty =>
      Lib.run_unsafeString_row (P := Tryz.prog) w.drew 111 3 ty 5 Tryz.underlying111 byte_cells b n hs s.out h0 hnn (by unfold maxLen at hmx; omega) (fun j x hx => by
        have e : ((⟨b, 0, none⟩ : Addr).add j) = ⟨b, j, none⟩ := by cases j <;> simp [Addr.add]
        rw [e]; exact hc j x hx)
    have hk := keeps_freeze w.drew ⟨b, 0, none⟩ s.out.length
    have hcb : c ∉ [b] := by simp; omega
    have hS : ∀ k, k ∈ [b] → k ∈ c :: blk (.slice (some ⟨b, 0, none⟩) s.out.length cap) := by intro k hk; simp at hk; subst hk; simp [blk, Value.ownBlock]
    have hX : CnAt (w.drew.freeze ⟨b, 0, none⟩ s.out.length) g c { s with rw := false } := by
      refine ⟨⟨va, _, hA.keeps hk hcb, hva, ⟨.inr ⟨h0, b, cap, n, rfl, hb, hnc, hnn, hmx, ?_, ?_⟩, fun h => absurd h (by simp)⟩, ?_⟩, hf.keeps hk hA.lt hcb, gc, ?_⟩
      · rw [shape_freeze]; exact hs
      · intro j x hx; rw [cell_freeze]; exact hc j x hx
      · refine hfr.after (S := c :: blk (.slice (some ⟨b, 0, none⟩) s.out.length cap)) (hk.mono hS) ?_ (fun k hk => .inl hk) (fun k hk' => Nat.lt_of_lt_of_le (hfr.ltS k hk') hk.size)
        intro hm
        rcases List.mem_cons.1 hm with h1 | h1
        · omega
        · have := hown.1.blk_ge g h1; omega
      · rw [shape_freeze]; exact hsh
    have HX := hd hX
    have hB1 := hB0.trans (hk.toBelow (by show g ≤ w.heap.size; have := hA.lt; have e : w.drew.heap.size = w.heap.size := rfl; omega) (by intro k hk; simp at hk; omega))
    clear hA hown hfr hf hsh hva h hX hk hS hs hc hB0 hcb
    go_enter Tryz.func37, Tryz.ntmps37
    go_wp2_with fail
    refine wp_region_M (fun W => W.cell? ⟨c, 1, none⟩ = some (.slice (some ⟨b, 0, none⟩) s.out.length cap)) 11 [(0, false), (1, false), (2, false), (3, false), (4, false), (5, false), (6, false), (7, false), (8, false), (9, false), (10, true), (11, true)] (by kernel_rfl) (by kernel_rfl) (fun _ _ _ _ h => h) c1 ?_
    iterate 10
      apply wpM_still (by rfl) (by rfl)
      · intro W hC
        go_simp
        rfl
      go_simp
    apply wpM_move (by rfl) (by rfl)
    intro K hK
    go_simp
    refine hK _ _ (fun _ => by rw [cell_freeze]; exact c1) ?_
    clear hK K
    apply wpM_move (by rfl) (by rfl)
    intro K hK
    go_simp
    refine hK _ _ (fun h => absurd h (by decide)) ?_
    clear hK K
    refine wpM_nil ?_
    go_wp2_with fail
    go_ret
    exact ⟨rfl, HX.out, hB1⟩
set_option maxRecDepth 100000 in
theorem cnOut_c (g c : Nat) (s : Cn) (w : World) (h : CnAt w g c s) :
    Calls Tryz.prog 22 #[.pointer (some ⟨c, 0, none⟩)] w fun e w' => e = .returned (.string (sOf s.out)) ∧ CnAt w' g c { s with rw := false } ∧ Below g w w' := by
  have H := hd h
  obtain ⟨⟨va, vb, hA, hva, hown, hfr⟩, hf, gc, hsh⟩ := h
  have c2 := hA.at 2 rfl
  clear hA hf hown hfr hva
  go_enter Tryz.func22, Tryz.ntmps22
  go_wp2_with fail
  refine (cnNone_c c g _ c2).mono ?_
  rintro e w' ⟨rfl, rfl⟩
  go_wp2_with fail
  refine (cnString_c g c s _ H.out).mono ?_
  rintro e w2 ⟨rfl, h2, hb2⟩
  have H2 := hd h2; clear h2
  go_wp2_with fail
  go_ret
  exact ⟨rfl, H2.out, hb2⟩
end Go.Proofs.YtjlnlgemngpelaaGreatDoor

/- A connection: Emit, Accept, Forget; and nobody's. -/
namespace Go.Proofs.YtjlnlgemngpelaaGreatDoor
open Go.RowKit
set_option linter.unusedVariables false
set_option linter.unusedSimpArgs false

section
variable {w : World} {o : Oper} {a : Act} {K : Act → World → Prop} {Q : Exit → Act → World → Prop}
theorem wpo_storeMidS (hdst : o.dst = none) (ty : TypeId) (x y : Operand) (ho : o.op = .store ty x y) (b k : Nat) (cells l0 l1 : List Value) (hx : a.eval x = .pointer (some ⟨b, k, none⟩)) (hy : a.eval y = .agg cells.toArray)
    (hi : (Tryz.prog.info? ty).map (·.size) = some cells.length) (h1 : ∀ v ∈ cells, v.oneCell' = true) (hA : At w b l0) (hl : l1 = l0.take k ++ cells ++ l0.drop (k + cells.length)) (hk : k + cells.length ≤ l0.length) (hF : Free w b)
    (h : ∀ w', At w' b l1 → Free w' b → Keeps [b] w w' → w'.heap.size = w.heap.size → (∀ k, w'.shape? k = w.shape? k) → K a w') : o.wp Tryz.prog a w K Q := by
  have hth := hA.there hF k cells.length (by omega)
  refine wp_store_mid ty x y ho b k cells.toArray hx hy (by simpa using hth) (by simpa using hi) (all_oneCell_toArray h1) ?_
  rw [hdst]
  refine h _ ⟨?_, fun j u hu => ?_⟩ (free_setCells _ _ _ hF) (keeps_setCells b _ _ _ _ (Keeps.refl _ _)) (setCells_size b _ _ _) (fun k => shape_setCells b _ _ _ k)
  · rw [setCells_size]; exact hA.1
  · subst hl
    have htl : (l0.take k).length = k := by simp; omega
    by_cases hj1 : j < k
    · rw [List.append_assoc, List.getElem?_append_left (by omega), List.getElem?_take_of_lt hj1] at hu
      rw [World.cell?_setCells_out b _ k w ⟨b, j, none⟩ (fun _ _ => .inl hj1)]
      exact hA.2 j u hu
    · by_cases hj2 : j < k + cells.length
      · rw [List.append_assoc, List.getElem?_append_right (by omega), List.getElem?_append_left (by omega), htl] at hu
        have := World.rangeAt_setCells_same w b k cells hth (j - k) u hu
        rwa [show k + (j - k) = j by omega] at this
      · rw [List.getElem?_append_right (by simp; omega), List.getElem?_drop] at hu
        rw [World.cell?_setCells_out b _ k w ⟨b, j, none⟩ (fun _ _ => .inr (by show k + cells.toArray.toList.length ≤ j; rw [List.toList_toArray]; omega))]
        refine hA.2 j u ?_
        rw [← hu]
        have e2 : k + cells.length + (j - (l0.take k ++ cells).length) = j := by rw [List.length_append, htl]; omega
        rw [e2]
end
theorem results_cell_tmp2 {P : Program} {fn : Func} {tmps : Array Value} {a b c : Nat} {t : TypeId} {g : Nat} {v u x : Value} {w : World} (hf : fn.results = #[.cell a t, .tmp b, .tmp c]) (ha : tmps.getD a undef = .pointer (some ⟨g, 0, none⟩))
    (hl : (loadVar t ⟨g, 0, none⟩).run P w = .ok v w) (hb : tmps.getD b undef = u) (hc : tmps.getD c undef = x) : (results fn tmps).run P w = .ok (.tuple #[v, u, x]) w := by
  have three : ∀ (f : ResultVar → Sem Value) (x y z : ResultVar), #[x, y, z].mapM f = (do let a ← f x; let b ← f y; let c ← f z; pure #[a, b, c]) := fun f x y z => by simp
  unfold results
  rw [hf, three]
  simp only [Sem.run_bind, Sem.run_pure, ha, asAddr, Result.andThen_ok, hl, hb, hc]
  rfl
theorem cnWill_one (s : Cn) : ∀ v ∈ cnWill s, v.oneCell' = true := by
  unfold cnWill
  split
  · exact s.who.msg_one
  · exact msg0_one
theorem cnWill_len (s : Cn) : (cnWill s).length = 4 := by
  unfold cnWill
  split <;> rfl

/-! ### Nobody's -/
set_option maxRecDepth 100000 in
theorem cnAcceptN_c (p : Option Addr) (L : List Value) (w : World) (h : CnNil w p) (hp : ∀ z, p = some z → z.block < w.heap.size) : Calls Tryz.prog 19 #[.pointer p, .agg L.toArray] w fun e w' => e = .returned (.int .i64 8) ∧ Below w.heap.size w w' := by
  have H := hd h; clear h
  have HP := hd hp; clear hp
  go_enter Tryz.func19, Tryz.ntmps19
  go_wp2_with (first
    | (with_reducible refine wpl_box (o := ⟨some 3, .box 32 (.tmp 1), _, _, _, _⟩) rfl _ _ rfl L rfl w.heap.size rfl ?_; intro w1 h1 f1 b1 z1))
  refine (cnNoneN_c p _ (H.out.low b1 HP.out)).mono ?_
  rintro e w' ⟨rfl, rfl⟩
  go_wp2_with fail
  go_ret
  exact ⟨rfl, b1⟩
set_option maxRecDepth 100000 in
theorem cnEmitN_c (p : Option Addr) (L : List Value) (w : World) (h : CnNil w p) (hp : ∀ z, p = some z → z.block < w.heap.size) : Calls Tryz.prog 21 #[.pointer p, .agg L.toArray] w fun e w' => e = .returned (.int .i64 8) ∧ Below w.heap.size w w' := by
  have H := hd h; clear h
  have HP := hd hp; clear hp
  go_enter Tryz.func21, Tryz.ntmps21
  go_wp2_with (first
    | (with_reducible refine wpl_box (o := ⟨some 3, .box 36 (.tmp 1), _, _, _, _⟩) rfl _ _ rfl L rfl w.heap.size rfl ?_; intro w1 h1 f1 b1 z1))
  refine (cnNoneN_c p _ (H.out.low b1 HP.out)).mono ?_
  rintro e w' ⟨rfl, rfl⟩
  go_wp2_with fail
  go_ret
  exact ⟨rfl, b1⟩
set_option maxRecDepth 100000 in
theorem cnForgetN_c (p : Option Addr) (w : World) (h : CnNil w p) (hp : ∀ z, p = some z → z.block < w.heap.size) : Calls Tryz.prog 18 #[.pointer p] w fun e w' => e = .returned (.bool false) ∧ Below w.heap.size w w' := by
  have H := hd h; clear h
  have HP := hd hp; clear hp
  go_enter Tryz.func18, Tryz.ntmps18
  go_wp2_with fail
  refine (cnWillN_c p _ H.out HP.out).mono ?_
  rintro e w1 ⟨rfl, b1⟩
  have hz := b1.size
  go_wp2_with (first
    | (with_reducible refine wpl_alloc (o := ⟨some 3, .alloc 30, _, _, _, _⟩) rfl _ rfl msg0 cnAlloc_msg w1.heap.size rfl ?_; intro w2 h2 f2 b2 z2)
    | ((with_reducible refine wpl_at (o := ⟨none, .store 30 (.tmp 3) (.tmp 8), _, _, _, _⟩) ?_); refine wpl_storeAll rfl rfl _ _ _ rfl w1.heap.size msg0 msg0 rfl rfl info_msg msg0_one h2 rfl f2 ?_; intro w9 h9 f9 k9 z9))
  go_ret
  exact ⟨rfl, (b1.trans (b2.mono hz)).trans (k9.toBelow (by omega) (by intro k hk; simp at hk; omega))⟩
set_option maxRecDepth 100000 in
theorem cnNextN_c (p : Option Addr) (w : World) (h : CnNil w p) (hp : ∀ z, p = some z → z.block < w.heap.size) : Calls Tryz.prog 11 #[.pointer p] w fun e w' => e = .returned (.tuple #[.agg (zK 0).toArray, .bool false, .int .i64 8]) ∧ Below w.heap.size w w' := by
  have H := hd h; clear h
  have HP := hd hp; clear hp
  go_enter Tryz.func11, Tryz.ntmps11
  go_wp2_with (first
    | (with_reducible refine wpl_alloc (o := ⟨some 2, .alloc 36, _, _, _, _⟩) rfl _ rfl (zK 0) alloc_pac w.heap.size rfl ?_; intro w1 h1 f1 b1 z1))
  refine (cnNoneN_c p _ (H.out.low b1 HP.out)).mono ?_
  rintro e w' ⟨rfl, rfl⟩
  go_wp2_with (first
    | ((with_reducible refine wpl_at (o := ⟨none, .store 36 (.tmp 2) (.tmp 11), _, _, _, _⟩) ?_); refine wpl_storeAll rfl rfl _ _ _ rfl w.heap.size (zK 0) (zK 0) rfl rfl info_pac (zK_one 0) h1 rfl f1 ?_; intro w9 h9 f9 k9 z9))
  refine bodyPost_ret (v := .tuple #[.agg (zK 0).toArray, .bool false, .int .i64 8]) (results_cell_tmp2 Tryz.results11 rfl (ret_pac h9 rfl) rfl rfl) rfl ?_
  exact ⟨rfl, b1.trans (k9.toBelow b1.size (by simp))⟩

/-! ### One that was made -/
set_option maxRecDepth 100000 in
theorem cnForget_c (g c : Nat) (s : Cn) (w : World) (h : CnAt w g c s) : Calls Tryz.prog 18 #[.pointer (some ⟨c, 0, none⟩)] w fun e w' => e = .returned (.bool s.will) ∧ CnAt w' g c { s with will := false } ∧ Below g w w' := by
  have H := hd h
  have hlt := h.lt
  have gc := h.gc
  have hone := cnWill_one s; have hln := cnWill_len s
  clear h
  cases hcm : s.will
  · go_enter Tryz.func18, Tryz.ntmps18
    go_wp2_with fail
    refine (cnWill_c g c s _ H.out).mono ?_
    rintro e w1 ⟨rfl, b1⟩
    rw [hcm]
    have hz := b1.size
    have e1 : ({ s with will := false } : Cn) = s := by rw [← hcm]
    generalize hL : cnWill s = L at *
    go_wp2_with (first
      | (with_reducible refine wpl_alloc (o := ⟨some 3, .alloc 30, _, _, _, _⟩) rfl _ rfl msg0 cnAlloc_msg w1.heap.size rfl ?_; intro w2 h2 f2 b2 z2)
      | ((with_reducible refine wpl_at (o := ⟨none, .store 30 (.tmp 3) (.tmp 8), _, _, _, _⟩) ?_); refine wpl_storeAll rfl rfl _ _ _ rfl w1.heap.size L msg0 rfl rfl (by rw [hln]; exact info_msg) hone h2 (by rw [hln]; rfl) f2 ?_; intro w9 h9 f9 k9 z9))
    have B9 : Below w.heap.size w w9 := (b1.trans (b2.mono hz)).trans (k9.toBelow (by omega) (by intro k hk; simp at hk; omega))
    go_ret
    refine ⟨rfl, ?_, B9.mono (by omega)⟩
    rw [e1]
    exact H.out.grow B9
  · go_enter Tryz.func18, Tryz.ntmps18
    go_wp2_with fail
    refine (cnWill_c g c s _ H.out).mono ?_
    rintro e w1 ⟨rfl, b1⟩
    rw [hcm]
    have hz := b1.size
    generalize hL : cnWill s = L at *
    go_wp2_with (first
      | (with_reducible refine wpl_alloc (o := ⟨some 3, .alloc 30, _, _, _, _⟩) rfl _ rfl msg0 cnAlloc_msg w1.heap.size rfl ?_; intro w2 h2 f2 b2 z2)
      | ((with_reducible refine wpl_at (o := ⟨none, .store 30 (.tmp 3) (.tmp 8), _, _, _, _⟩) ?_); refine wpl_storeAll rfl rfl _ _ _ rfl w1.heap.size L msg0 rfl rfl (by rw [hln]; exact info_msg) hone h2 (by rw [hln]; rfl) f2 ?_; intro w9 h9 f9 k9 z9; have B9 : Below w.heap.size w w9 := (b1.trans (b2.mono hz)).trans (k9.toBelow (by omega) (by intro k hk; simp at hk; omega)); have h9c := H.out.grow B9; obtain ⟨⟨va, vb, hA, hva, hown, hfr⟩, hf, -, hsh⟩ := h9c; have c20 := hA.at 20 rfl; have f20 := hf 20; have HA := hd hA; have HF := hd hf; have HFR := hd hfr; have HOW := hd hown; clear hA hf hown hfr h2 f2))
    go_ret
    exact ⟨rfl, CnAt.mk' (s := s) (HA.out.set 20 (.bool false) (by show 20 < 21; decide)) (HF.out.set _ _) ((Keeps.refl _ _).setCell (.inl (by simp)) _) hva HOW.out HFR.out gc (by rw [shape_setCell]; exact hsh) rfl rfl rfl, (B9.mono (by omega)).setCell (by show g ≤ c; omega) _⟩
set_option maxRecDepth 100000 in
theorem cnAccept_c (g c : Nat) (s : Cn) (x : Con) (w : World) (h : CnAt w g c s) : Calls Tryz.prog 19 #[.pointer (some ⟨c, 0, none⟩), .agg x.cells.toArray] w fun e w' => e = .returned (.int .i64 0) ∧ CnAt w' g c { s with who := x, came := true, will := x.hasWill } ∧ Below g w w' := by
  have H := hd h
  have hlt := h.lt
  have gc := h.gc
  clear h
  go_enter Tryz.func19, Tryz.ntmps19
  go_wp2_with (first
    | (with_reducible refine wpl_box (o := ⟨some 3, .box 32 (.tmp 1), _, _, _, _⟩) rfl _ _ rfl x.cells rfl w.heap.size rfl ?_; intro w1 h1 f1 b1 z1))
  have c2 : w1.cell? ⟨c, 2, none⟩ = some (.pointer (some ⟨g, 0, none⟩)) := by
    obtain ⟨⟨va, vb, hA, -⟩, -⟩ := H.out.grow b1
    exact hA.at 2 rfl
  refine (cnNone_c c g _ c2).mono ?_
  rintro e w' ⟨rfl, rfl⟩
  clear c2
  obtain ⟨⟨va, vb, hA, hva, hown, hfr⟩, hf, -, hsh⟩ := H.out.grow (b1.drew)
  have h1d := h1.drew
  have B1 : Below w.heap.size w w1.drew := b1.drew
  have hs1 : w1.drew.heap.size = w.heap.size + 1 := z1
  go_wp2_with fail
  refine wp_region_M (fun W => At W w.heap.size x.cells) 14 [(0, false), (1, false), (2, false), (3, false), (4, false), (5, false), (6, false), (7, false), (8, true), (9, false), (10, false), (11, true), (12, false), (13, false), (14, true)] (by kernel_rfl) (by kernel_rfl) (fun _ _ _ _ h => h) h1d ?_
  clear h1 f1 b1 z1
  generalize w1.drew = w2 at *
  iterate 3
    apply wpM_still (by rfl) (by rfl)
    · intro W hC
      go_simp
      rfl
    go_simp
  apply wpM_still (by rfl) (by rfl)
  · intro W hC
    exact still_loadAt _ _ rfl w.heap.size 0 rfl x.cells _ (At.range hC) Tryz.underlying32 rfl info_con
  iterate 4
    apply wpM_still (by rfl) (by rfl)
    · intro W hC
      have d4 := At.at hC 4 (u := .bool x.hasWill) rfl
      go_simp
      rfl
    go_simp
  apply wpM_move (by rfl) (by rfl)
  intro K hK
  refine wpo_storeMidS rfl _ _ _ rfl c 6 x.cells (s.cells va vb (.pointer (some ⟨g, 0, none⟩))) (({ s with who := x } : Cn).cells va vb (.pointer (some ⟨g, 0, none⟩))) rfl rfl info_con x.one hA rfl (by show 6 + 13 ≤ 21; decide) hf ?_
  intro w3 h3 f3 k3 z3 s3
  have h1e := h1d.keeps k3 (by simp; omega)
  refine hK _ _ (fun _ => h1e) ?_
  clear hK K
  iterate 2
    apply wpM_still (by rfl) (by rfl)
    · intro W hC
      go_simp
      rfl
    go_simp
  have d19 := h3.at 19 rfl; have e19 := f3 19
  have d20 := h3.at 20 rfl; have e20 := f3 20
  apply wpM_move (by rfl) (by rfl)
  intro K hK
  go_simp
  refine hK _ _ (fun _ => h1e.other c 19 _ (by omega)) ?_
  clear hK K
  iterate 2
    apply wpM_still (by rfl) (by rfl)
    · intro W hC
      go_simp
      rfl
    go_simp
  apply wpM_move (by rfl) (by rfl)
  intro K hK
  go_simp
  refine hK _ _ (fun h => absurd h (by decide)) ?_
  clear hK K
  refine wpM_nil ?_
  have hX : CnAt ((w3.setCell ⟨c, 19, none⟩ (.bool true)).setCell ⟨c, 20, none⟩ (.bool x.hasWill)) g c { s with who := x, came := true, will := x.hasWill } :=
    CnAt.mk' (s := s) ((h3.set 19 (.bool true) (by show 19 < 21; decide)).set 20 (.bool x.hasWill) (by show 20 < 21; decide)) ((f3.set _ _).set _ _) ((k3.setCell (.inl (by simp)) _).setCell (.inl (by simp)) _) hva hown hfr gc (by rw [shape_setCell, shape_setCell, s3]; exact hsh) rfl rfl rfl
  have HX := hd hX
  have B4 : Below g w ((w3.setCell ⟨c, 19, none⟩ (.bool true)).setCell ⟨c, 20, none⟩ (.bool x.hasWill)) :=
    ((((B1.mono (by omega)).trans (k3.toBelow (by omega) (by intro k hk; simp at hk; omega))).setCell (by show g ≤ c; omega) _).setCell (by show g ≤ c; omega) _)
  clear hX hA hf hown hfr h3 f3 k3 d19 e19 d20 e20
  go_wp2_with fail
  go_ret
  exact ⟨rfl, HX.out, B4⟩
end Go.Proofs.YtjlnlgemngpelaaGreatDoor

/- A connection: Emit. -/
namespace Go.Proofs.YtjlnlgemngpelaaGreatDoor
open Go.RowKit
set_option linter.unusedVariables false
set_option linter.unusedSimpArgs false

def cnEmit (s : Cn) (p : Pac) : Cn := if s.closed then s else { s with out := s.out ++ paPutB p }
theorem cnEmit_bad {s : Cn} {p : Pac} (h : paPutE p ≠ 0) : cnEmit s p = s := by
  unfold cnEmit
  split
  · rfl
  · rw [paPutB_bad h, List.append_nil]
theorem paPutB_ne {p : Pac} (h : paPutE p = 0) : paPutB p ≠ [] := by
  have h2 : hPutE p.k (paBody (paClean p)).1 (paBody (paClean p)).2.1.length = 0 := by
    unfold paPutE at h
    split at h
    · contradiction
    · exact h
  unfold paPutB
  rw [if_pos h, hPutB_ok h2]
  unfold hBytes
  simp
set_option maxRecDepth 100000 in
set_option maxHeartbeats 2000000 in
theorem cnEmit_c (g c : Nat) (s : Cn) (p : Pac) (vf vc : Value) (w : World) (h : CnAt w g c s) (hp : PacOk w p vf vc) (hH : EnvH w) (hE : EnvU w) (hrw : s.closed = false → s.rw = true) (hlen : s.out.length ≤ 1000000) :
    Calls Tryz.prog 21 #[.pointer (some ⟨c, 0, none⟩), .agg (p.cells vf vc).toArray] w fun e w' => e = .returned (.int .i64 (paPutE p)) ∧ CnAt w' g c (cnEmit s p) ∧ Below g w w' ∧ (∀ u, w.cell? ⟨c, 1, none⟩ = some u → Keeps (c :: blk u) w w') := by
  have H := hd h; have HP := hd hp; have HE := hd hE; have HH := hd hH
  have hlt := h.lt
  have gc := h.gc
  clear h hp hE hH
  go_enter Tryz.func21, Tryz.ntmps21
  go_wp2_with (first
    | (with_reducible refine wpl_box (o := ⟨some 3, .box 36 (.tmp 1), _, _, _, _⟩) rfl _ _ rfl (p.cells vf vc) rfl w.heap.size rfl ?_; intro w1 h1 f1 b1 z1))
  have c2 : w1.cell? ⟨c, 2, none⟩ = some (.pointer (some ⟨g, 0, none⟩)) := by
    obtain ⟨⟨va, vb, hA, -⟩, -⟩ := H.out.grow b1
    exact hA.at 2 rfl
  refine (cnNone_c c g _ c2).mono ?_
  rintro e w' ⟨rfl, rfl⟩
  clear c2
  go_wp2_with (first
    | ((with_reducible refine wpl_at (o := ⟨some 10, .load 36 (.tmp 3), _, _, _, _⟩) ?_); refine wpl_loadAt rfl _ _ rfl w.heap.size 0 rfl (p.cells vf vc) _ h1.range Tryz.underlying36 rfl info_pac ?_))
  refine (packPut_c p vf vc _ (HP.out.below b1 (Nat.le_refl _)) (HH.out.below b1 (Nat.le_refl _)) (HE.out.below b1)).mono ?_
  rintro e w2 ⟨v2, rfl, ho2, hb2⟩
  have B2 : Below w.heap.size w w2 := b1.trans (hb2.mono b1.size)
  have H2 := hd (H.out.grow B2)
  obtain ⟨a2, n2, rfl⟩ := ho2.bs.slice
  have hcv := run_str ho2.bs
  have HB2 := hd ho2
  clear ho2 hb2 h1 f1 b1 z1
  by_cases hE0 : paPutE p = 0
  rotate_left
  · have hEb : (paPutE p != 0) = true := by simpa using hE0
    have hst := hd (cnEmit_bad (s := s) hE0)
    obtain ⟨E, hLe⟩ : ∃ E, paPutE p = E := ⟨_, rfl⟩
    have HLE := hd hLe
    rw [hLe] at hEb hE0 ⊢
    clear hLe
    generalize (paPutB p).length = m at *
    go_wp2_with fail
    go_ret
    have H5 := H2.out
    rw [← hst.out] at H5
    exact ⟨by rw [HLE.out]; rfl, H5, B2.mono (by omega), fun _ _ => Keeps.below B2⟩
  have hne := paPutB_ne hE0
  have hle := paPutB_len p
  rw [hE0]
  have hsO : s.closed = false → cnEmit s p = { s with out := s.out ++ paPutB p } := fun h => by unfold cnEmit; rw [if_neg (by simp [h])]
  have hsC : s.closed = true → cnEmit s p = s := fun h => by unfold cnEmit; rw [if_pos h]
  have HE0 := hd hE0
  generalize hpb : paPutB p = L at *
  have hx : (sOf L).size ≠ 0 := by rw [sOf_sizeP]; simpa using hne
  have hl2 : s.out.length + (sOf L).size ≤ 140737488355328 := by rw [sOf_sizeP]; omega
  have HX := hd hx; have HL2 := hd hl2
  have hso : (⟨L.toArray⟩ : ByteArray) = sOf L := rfl
  rw [hso] at hcv
  clear hx hl2 hso hE0
  generalize L.length = m at *
  have c4 : w2.cell? ⟨c, 4, none⟩ = some (.bool s.closed) := by
    obtain ⟨⟨va, vb, hA, -⟩, -⟩ := H2.out
    exact hA.at 4 rfl
  cases hcl : s.closed
  · rw [hcl] at c4
    have hrw2 := hrw hcl
    have hs2 := hd (hsO hcl)
    clear hsO hsC
    have HB3 := hd HB2.out.bs
    go_wp2_with fail
    have H3 := hd (H2.out.grow ((Below.refl w2.heap.size w2).drew))
    have B3 : Below w.heap.size w w2.drew := B2.drew
    refine wp_region_M (fun W => Bs W (.slice a2 m n2) L) 6 [(0, false), (1, false), (2, false), (3, false), (4, false), (5, false), (6, true)] (by kernel_rfl) (by kernel_rfl) (fun _ _ _ _ h => h) (HB3.out.below' ((Below.refl w2.heap.size _).drew) (Nat.le_refl _)) ?_
    clear hcv HB2 HB3
    generalize w2.drew = w3 at *
    iterate 6
      apply wpM_still (by rfl) (by rfl)
      · intro W hC
        have d := run_str hC
        rw [show (⟨L.toArray⟩ : ByteArray) = sOf L from rfl] at d
        go_simp
        rfl
      go_simp
    apply wpM_move (by rfl) (by rfl)
    intro K hK
    go_simp
    refine (cnWrite_c g c s (sOf L) _ H3.out hrw2 HX.out HL2.out).mono ?_
    rintro e w4 ⟨rfl, h4, hb4, hk4⟩
    rw [sB_sOf] at h4
    have H4 := hd h4
    have B4 := (B3.mono (by omega : g ≤ w.heap.size)).trans hb4
    clear h4
    go_simp
    refine hK _ _ (fun h => absurd h (by decide)) ?_
    clear hK K
    refine wpM_nil ?_
    go_wp2_with fail
    go_ret
    have H5 := H4.out
    rw [← hs2.out] at H5
    exact ⟨by rw [HE0.out]; rfl, H5, B4, fun u hu => (Keeps.below B3).trans (hk4 u ((bcell B3 c 1 hlt).trans hu))⟩
  · rw [hcl] at c4
    have hs2 := hd (hsC hcl)
    clear hsO hsC
    go_wp2_with fail
    go_ret
    have H5 := H2.out
    rw [← hs2.out] at H5
    exact ⟨by rw [HE0.out]; rfl, H5, B2.mono (by omega), fun _ _ => Keeps.below B2⟩
end Go.Proofs.YtjlnlgemngpelaaGreatDoor

/- A connection: why a packet may not come. -/
namespace Go.Proofs.YtjlnlgemngpelaaGreatDoor
open Go.RowKit
set_option linter.unusedVariables false
set_option linter.unusedSimpArgs false

inductive Refusal where
  | never
  | turn
  | topic (s : ByteArray)
  | fine
def Refusal.val : Refusal → Value
  | .never => .iface 120 (.agg #[])
  | .turn => .iface 121 (.agg #[])
  | .topic s => .iface 123 (.agg #[.string s])
  | .fine => .nilIface
def Refusal.err : Refusal → Int
  | .never => 11
  | .turn => 15
  | .topic s => if lName (sB s) then 0 else 13
  | .fine => 0
def cnWhy (p : Pac) (first : Bool) : Refusal :=
  if p.k = 2 ∨ p.k = 9 ∨ p.k = 11 ∨ p.k = 13 then .never
  else if first ≠ (p.k == 1) then .turn
  else if p.k = 3 then .topic p.tp
  else if p.k = 1 ∧ p.c.hasWill = true then .topic p.c.topic
  else .fine
set_option maxRecDepth 100000 in
set_option maxHeartbeats 1000000 in
theorem refused_never_c (w : World) : Calls Tryz.prog 42 #[Refusal.never.val] w fun e w' => e = .returned (.int .i64 11) ∧ Below w.heap.size w w' := by
  have r1 : ∀ W, (Instr.typeAssert (.iface 120 (.agg #[])) 101 120 true).run Tryz.prog W = .ok (.tuple #[.agg #[], .bool true]) W := by intro W; kernel_rfl
  unfold Refusal.val
  go_enter Tryz.func42, Tryz.ntmps42
  go_wp2_with fail
  go_ret
  exact ⟨rfl, by go_grown⟩
set_option maxRecDepth 100000 in
set_option maxHeartbeats 1000000 in
theorem refused_turn_c (w : World) : Calls Tryz.prog 42 #[Refusal.turn.val] w fun e w' => e = .returned (.int .i64 15) ∧ Below w.heap.size w w' := by
  have r1 : ∀ W, (Instr.typeAssert (.iface 121 (.agg #[])) 101 120 true).run Tryz.prog W = .ok (.tuple #[.agg #[], .bool false]) W := by intro W; kernel_rfl
  have r2 : ∀ W, (Instr.typeAssert (.iface 121 (.agg #[])) 101 121 true).run Tryz.prog W = .ok (.tuple #[.agg #[], .bool true]) W := by intro W; kernel_rfl
  unfold Refusal.val
  go_enter Tryz.func42, Tryz.ntmps42
  go_wp2_with fail
  go_ret
  exact ⟨rfl, by go_grown⟩
set_option maxRecDepth 100000 in
set_option maxHeartbeats 1000000 in
theorem refused_fine_c (w : World) : Calls Tryz.prog 42 #[Refusal.fine.val] w fun e w' => e = .returned (.int .i64 0) ∧ Below w.heap.size w w' := by
  have r1 : ∀ W, (Instr.typeAssert .nilIface 101 120 true).run Tryz.prog W = .ok (.tuple #[.agg #[], .bool false]) W := by intro W; kernel_rfl
  have r2 : ∀ W, (Instr.typeAssert .nilIface 101 121 true).run Tryz.prog W = .ok (.tuple #[.agg #[], .bool false]) W := by intro W; kernel_rfl
  have r3 : ∀ W, (Instr.typeAssert .nilIface 101 123 true).run Tryz.prog W = .ok (.tuple #[.agg #[.string ⟨#[]⟩], .bool false]) W := by intro W; kernel_rfl
  unfold Refusal.val
  go_enter Tryz.func42, Tryz.ntmps42
  go_wp2_with fail
  go_ret
  exact ⟨rfl, Below.refl _ _⟩
set_option maxRecDepth 100000 in
set_option maxHeartbeats 1000000 in
theorem refused_topic_c (s : ByteArray) (w : World) (hE : EnvU w) (hs : s.size ≤ 9223372036854775000) : Calls Tryz.prog 42 #[(Refusal.topic s).val] w fun e w' => e = .returned (.int .i64 (Refusal.topic s).err) ∧ Below w.heap.size w w' := by
  have r1 : ∀ W, (Instr.typeAssert (.iface 123 (.agg #[.string s])) 101 120 true).run Tryz.prog W = .ok (.tuple #[.agg #[], .bool false]) W := by intro W; kernel_rfl
  have r2 : ∀ W, (Instr.typeAssert (.iface 123 (.agg #[.string s])) 101 121 true).run Tryz.prog W = .ok (.tuple #[.agg #[], .bool false]) W := by intro W; kernel_rfl
  have r3 : ∀ W, (Instr.typeAssert (.iface 123 (.agg #[.string s])) 101 123 true).run Tryz.prog W = .ok (.tuple #[.agg #[.string s], .bool true]) W := by intro W; kernel_rfl
  have hn := fun W h => Name_c (sB s) W h (by rw [sB_len]; exact hs)
  rw [show sOf (sB s) = s from by cases s; simp [sOf, sB]] at hn
  have HN := hd hn; have HE := hd hE
  clear hn hE
  obtain ⟨b, hb⟩ : ∃ b, lName (sB s) = b := ⟨_, rfl⟩
  rw [hb] at HN
  have he : (Refusal.topic s).err = if b then 0 else 13 := by show (if lName (sB s) = true then (0 : Int) else 13) = _; rw [hb]
  rw [he]
  unfold Refusal.val
  cases b
  all_goals
    go_enter Tryz.func42, Tryz.ntmps42
    go_wp2_with fail
    refine (HN.out _ (HE.out.below (by go_grown))).mono ?_
    rintro e w2 ⟨rfl, hb2⟩
    go_wp2_with fail
    go_ret
    refine ⟨rfl, Below.trans ?_ (hb2.mono ?_)⟩
    · go_grown
    · simp
set_option maxRecDepth 100000 in
set_option maxHeartbeats 2000000 in
theorem why_n2 (p : Pac) (vf vc : Value) (first : Bool) (w : World) (hk : p.k = 2) : Calls Tryz.prog 43 #[.agg (p.cells vf vc).toArray, .bool first] w fun e w' => e = .returned (.never : Refusal).val ∧ Below w.heap.size w w' := by
  have k2 : (p.k == 2) = true := by rw [hk]; rfl
  clear hk
  unfold Refusal.val
  go_enter Tryz.func43, Tryz.ntmps43
  go_wp2_with (first
    | (with_reducible refine wpl_box (o := ⟨some 2, .box 36 (.tmp 0), _, _, _, _⟩) rfl _ _ rfl (p.cells vf vc) rfl w.heap.size rfl ?_; intro w1 h1 f1 b1 z1; have c0 := h1.at 0 (u := .int .i64 p.k) rfl; have c3 := h1.at 3 (u := .string p.tp) rfl; have c11 := h1.at 11 (u := .bool p.c.hasWill) rfl; have c12 := h1.at 12 (u := .string p.c.topic) rfl; clear h1 f1))
  go_ret
  exact ⟨rfl, b1⟩
set_option maxRecDepth 100000 in
set_option maxHeartbeats 2000000 in
theorem why_n9 (p : Pac) (vf vc : Value) (first : Bool) (w : World) (hk : p.k = 9) : Calls Tryz.prog 43 #[.agg (p.cells vf vc).toArray, .bool first] w fun e w' => e = .returned (.never : Refusal).val ∧ Below w.heap.size w w' := by
  have k2 : (p.k == 2) = false := by rw [hk]; rfl
  have k9 : (p.k == 9) = true := by rw [hk]; rfl
  clear hk
  unfold Refusal.val
  go_enter Tryz.func43, Tryz.ntmps43
  go_wp2_with (first
    | (with_reducible refine wpl_box (o := ⟨some 2, .box 36 (.tmp 0), _, _, _, _⟩) rfl _ _ rfl (p.cells vf vc) rfl w.heap.size rfl ?_; intro w1 h1 f1 b1 z1; have c0 := h1.at 0 (u := .int .i64 p.k) rfl; have c3 := h1.at 3 (u := .string p.tp) rfl; have c11 := h1.at 11 (u := .bool p.c.hasWill) rfl; have c12 := h1.at 12 (u := .string p.c.topic) rfl; clear h1 f1))
  go_ret
  exact ⟨rfl, b1⟩
set_option maxRecDepth 100000 in
set_option maxHeartbeats 2000000 in
theorem why_n11 (p : Pac) (vf vc : Value) (first : Bool) (w : World) (hk : p.k = 11) : Calls Tryz.prog 43 #[.agg (p.cells vf vc).toArray, .bool first] w fun e w' => e = .returned (.never : Refusal).val ∧ Below w.heap.size w w' := by
  have k2 : (p.k == 2) = false := by rw [hk]; rfl
  have k9 : (p.k == 9) = false := by rw [hk]; rfl
  have k11 : (p.k == 11) = true := by rw [hk]; rfl
  clear hk
  unfold Refusal.val
  go_enter Tryz.func43, Tryz.ntmps43
  go_wp2_with (first
    | (with_reducible refine wpl_box (o := ⟨some 2, .box 36 (.tmp 0), _, _, _, _⟩) rfl _ _ rfl (p.cells vf vc) rfl w.heap.size rfl ?_; intro w1 h1 f1 b1 z1; have c0 := h1.at 0 (u := .int .i64 p.k) rfl; have c3 := h1.at 3 (u := .string p.tp) rfl; have c11 := h1.at 11 (u := .bool p.c.hasWill) rfl; have c12 := h1.at 12 (u := .string p.c.topic) rfl; clear h1 f1))
  go_ret
  exact ⟨rfl, b1⟩
set_option maxRecDepth 100000 in
set_option maxHeartbeats 2000000 in
theorem why_n13 (p : Pac) (vf vc : Value) (first : Bool) (w : World) (hk : p.k = 13) : Calls Tryz.prog 43 #[.agg (p.cells vf vc).toArray, .bool first] w fun e w' => e = .returned (.never : Refusal).val ∧ Below w.heap.size w w' := by
  have k2 : (p.k == 2) = false := by rw [hk]; rfl
  have k9 : (p.k == 9) = false := by rw [hk]; rfl
  have k11 : (p.k == 11) = false := by rw [hk]; rfl
  have k13 : (p.k == 13) = true := by rw [hk]; rfl
  clear hk
  unfold Refusal.val
  go_enter Tryz.func43, Tryz.ntmps43
  go_wp2_with (first
    | (with_reducible refine wpl_box (o := ⟨some 2, .box 36 (.tmp 0), _, _, _, _⟩) rfl _ _ rfl (p.cells vf vc) rfl w.heap.size rfl ?_; intro w1 h1 f1 b1 z1; have c0 := h1.at 0 (u := .int .i64 p.k) rfl; have c3 := h1.at 3 (u := .string p.tp) rfl; have c11 := h1.at 11 (u := .bool p.c.hasWill) rfl; have c12 := h1.at 12 (u := .string p.c.topic) rfl; clear h1 f1))
  go_ret
  exact ⟨rfl, b1⟩
set_option maxRecDepth 100000 in
set_option maxHeartbeats 2000000 in
theorem why_t1 (p : Pac) (vf vc : Value) (first : Bool) (w : World) (k2 : (p.k == 2) = false) (k9 : (p.k == 9) = false) (k11 : (p.k == 11) = false) (k13 : (p.k == 13) = false) (hf : first = false) (k1 : (p.k == 1) = true) : Calls Tryz.prog 43 #[.agg (p.cells vf vc).toArray, .bool first] w fun e w' => e = .returned (.turn : Refusal).val ∧ Below w.heap.size w w' := by
  subst hf
  unfold Refusal.val
  go_enter Tryz.func43, Tryz.ntmps43
  go_wp2_with (first
    | (with_reducible refine wpl_box (o := ⟨some 2, .box 36 (.tmp 0), _, _, _, _⟩) rfl _ _ rfl (p.cells vf vc) rfl w.heap.size rfl ?_; intro w1 h1 f1 b1 z1; have c0 := h1.at 0 (u := .int .i64 p.k) rfl; have c3 := h1.at 3 (u := .string p.tp) rfl; have c11 := h1.at 11 (u := .bool p.c.hasWill) rfl; have c12 := h1.at 12 (u := .string p.c.topic) rfl; clear h1 f1))
  go_ret
  exact ⟨rfl, b1⟩
set_option maxRecDepth 100000 in
set_option maxHeartbeats 2000000 in
theorem why_t2 (p : Pac) (vf vc : Value) (first : Bool) (w : World) (k2 : (p.k == 2) = false) (k9 : (p.k == 9) = false) (k11 : (p.k == 11) = false) (k13 : (p.k == 13) = false) (hf : first = true) (k1 : (p.k == 1) = false) : Calls Tryz.prog 43 #[.agg (p.cells vf vc).toArray, .bool first] w fun e w' => e = .returned (.turn : Refusal).val ∧ Below w.heap.size w w' := by
  subst hf
  unfold Refusal.val
  go_enter Tryz.func43, Tryz.ntmps43
  go_wp2_with (first
    | (with_reducible refine wpl_box (o := ⟨some 2, .box 36 (.tmp 0), _, _, _, _⟩) rfl _ _ rfl (p.cells vf vc) rfl w.heap.size rfl ?_; intro w1 h1 f1 b1 z1; have c0 := h1.at 0 (u := .int .i64 p.k) rfl; have c3 := h1.at 3 (u := .string p.tp) rfl; have c11 := h1.at 11 (u := .bool p.c.hasWill) rfl; have c12 := h1.at 12 (u := .string p.c.topic) rfl; clear h1 f1))
  go_ret
  exact ⟨rfl, b1⟩
set_option maxRecDepth 100000 in
set_option maxHeartbeats 2000000 in
theorem why_p3 (p : Pac) (vf vc : Value) (first : Bool) (w : World) (k2 : (p.k == 2) = false) (k9 : (p.k == 9) = false) (k11 : (p.k == 11) = false) (k13 : (p.k == 13) = false) (hf : first = false) (k1 : (p.k == 1) = false) (k3 : (p.k == 3) = true) : Calls Tryz.prog 43 #[.agg (p.cells vf vc).toArray, .bool first] w fun e w' => e = .returned (.topic p.tp : Refusal).val ∧ Below w.heap.size w w' := by
  subst hf
  unfold Refusal.val
  go_enter Tryz.func43, Tryz.ntmps43
  go_wp2_with (first
    | (with_reducible refine wpl_box (o := ⟨some 2, .box 36 (.tmp 0), _, _, _, _⟩) rfl _ _ rfl (p.cells vf vc) rfl w.heap.size rfl ?_; intro w1 h1 f1 b1 z1; have c0 := h1.at 0 (u := .int .i64 p.k) rfl; have c3 := h1.at 3 (u := .string p.tp) rfl; have c11 := h1.at 11 (u := .bool p.c.hasWill) rfl; have c12 := h1.at 12 (u := .string p.c.topic) rfl; clear h1 f1))
  go_ret
  exact ⟨rfl, b1⟩
set_option maxRecDepth 100000 in
set_option maxHeartbeats 2000000 in
theorem why_f3 (p : Pac) (vf vc : Value) (first : Bool) (w : World) (k2 : (p.k == 2) = false) (k9 : (p.k == 9) = false) (k11 : (p.k == 11) = false) (k13 : (p.k == 13) = false) (hf : first = false) (k1 : (p.k == 1) = false) (k3 : (p.k == 3) = false) : Calls Tryz.prog 43 #[.agg (p.cells vf vc).toArray, .bool first] w fun e w' => e = .returned (.fine : Refusal).val ∧ Below w.heap.size w w' := by
  subst hf
  unfold Refusal.val
  go_enter Tryz.func43, Tryz.ntmps43
  go_wp2_with (first
    | (with_reducible refine wpl_box (o := ⟨some 2, .box 36 (.tmp 0), _, _, _, _⟩) rfl _ _ rfl (p.cells vf vc) rfl w.heap.size rfl ?_; intro w1 h1 f1 b1 z1; have c0 := h1.at 0 (u := .int .i64 p.k) rfl; have c3 := h1.at 3 (u := .string p.tp) rfl; have c11 := h1.at 11 (u := .bool p.c.hasWill) rfl; have c12 := h1.at 12 (u := .string p.c.topic) rfl; clear h1 f1))
  go_ret
  exact ⟨rfl, b1⟩
set_option maxRecDepth 100000 in
set_option maxHeartbeats 2000000 in
theorem why_c1 (p : Pac) (vf vc : Value) (first : Bool) (w : World) (k2 : (p.k == 2) = false) (k9 : (p.k == 9) = false) (k11 : (p.k == 11) = false) (k13 : (p.k == 13) = false) (hf : first = true) (k1 : (p.k == 1) = true) (k3 : (p.k == 3) = false) (hw : p.c.hasWill = true) : Calls Tryz.prog 43 #[.agg (p.cells vf vc).toArray, .bool first] w fun e w' => e = .returned (.topic p.c.topic : Refusal).val ∧ Below w.heap.size w w' := by
  subst hf
  unfold Refusal.val
  go_enter Tryz.func43, Tryz.ntmps43
  go_wp2_with (first
    | (with_reducible refine wpl_box (o := ⟨some 2, .box 36 (.tmp 0), _, _, _, _⟩) rfl _ _ rfl (p.cells vf vc) rfl w.heap.size rfl ?_; intro w1 h1 f1 b1 z1; have c0 := h1.at 0 (u := .int .i64 p.k) rfl; have c3 := h1.at 3 (u := .string p.tp) rfl; have c11 := h1.at 11 (u := .bool p.c.hasWill) rfl; have c12 := h1.at 12 (u := .string p.c.topic) rfl; clear h1 f1))
  go_ret
  exact ⟨rfl, b1⟩
set_option maxRecDepth 100000 in
set_option maxHeartbeats 2000000 in
theorem why_c0 (p : Pac) (vf vc : Value) (first : Bool) (w : World) (k2 : (p.k == 2) = false) (k9 : (p.k == 9) = false) (k11 : (p.k == 11) = false) (k13 : (p.k == 13) = false) (hf : first = true) (k1 : (p.k == 1) = true) (k3 : (p.k == 3) = false) (hw : p.c.hasWill = false) : Calls Tryz.prog 43 #[.agg (p.cells vf vc).toArray, .bool first] w fun e w' => e = .returned (.fine : Refusal).val ∧ Below w.heap.size w w' := by
  subst hf
  unfold Refusal.val
  go_enter Tryz.func43, Tryz.ntmps43
  go_wp2_with (first
    | (with_reducible refine wpl_box (o := ⟨some 2, .box 36 (.tmp 0), _, _, _, _⟩) rfl _ _ rfl (p.cells vf vc) rfl w.heap.size rfl ?_; intro w1 h1 f1 b1 z1; have c0 := h1.at 0 (u := .int .i64 p.k) rfl; have c3 := h1.at 3 (u := .string p.tp) rfl; have c11 := h1.at 11 (u := .bool p.c.hasWill) rfl; have c12 := h1.at 12 (u := .string p.c.topic) rfl; clear h1 f1))
  go_ret
  exact ⟨rfl, b1⟩
theorem why_c (p : Pac) (vf vc : Value) (first : Bool) (w : World) : Calls Tryz.prog 43 #[.agg (p.cells vf vc).toArray, .bool first] w fun e w' => e = .returned (cnWhy p first).val ∧ Below w.heap.size w w' := by
  by_cases h : p.k = 2 ∨ p.k = 9 ∨ p.k = 11 ∨ p.k = 13
  · have e : cnWhy p first = .never := by unfold cnWhy; rw [if_pos h]
    rw [e]
    rcases h with h | h | h | h
    · exact why_n2 p vf vc first w h
    · exact why_n9 p vf vc first w h
    · exact why_n11 p vf vc first w h
    · exact why_n13 p vf vc first w h
  have k2 : (p.k == 2) = false := by simp; omega
  have k9 : (p.k == 9) = false := by simp; omega
  have k11 : (p.k == 11) = false := by simp; omega
  have k13 : (p.k == 13) = false := by simp; omega
  have e0 : cnWhy p first = if first ≠ (p.k == 1) then .turn else if p.k = 3 then .topic p.tp else if p.k = 1 ∧ p.c.hasWill = true then .topic p.c.topic else .fine := by unfold cnWhy; rw [if_neg h]
  rw [e0]
  clear e0
  by_cases h1 : p.k = 1
  · have k1 : (p.k == 1) = true := by simp [h1]
    have k3 : (p.k == 3) = false := by rw [h1]; rfl
    cases hf : first
    · rw [k1, if_pos (by simp)]
      exact why_t1 p vf vc false w k2 k9 k11 k13 rfl k1
    · rw [k1, if_neg (by simp), if_neg (by omega)]
      cases hw : p.c.hasWill
      · rw [if_neg (by simp)]
        exact why_c0 p vf vc true w k2 k9 k11 k13 rfl k1 k3 hw
      · rw [if_pos ⟨h1, rfl⟩]
        exact why_c1 p vf vc true w k2 k9 k11 k13 rfl k1 k3 hw
  · have k1 : (p.k == 1) = false := by simp [h1]
    cases hf : first
    · rw [k1, if_neg (by simp)]
      by_cases h3 : p.k = 3
      · rw [if_pos h3]
        exact why_p3 p vf vc false w k2 k9 k11 k13 rfl k1 (by simp [h3])
      · rw [if_neg h3, if_neg (by omega)]
        exact why_f3 p vf vc false w k2 k9 k11 k13 rfl k1 (by simp [h3])
    · rw [k1, if_pos (by simp)]
      exact why_t2 p vf vc true w k2 k9 k11 k13 rfl k1
theorem refused_c (r : Refusal) (w : World) (hE : EnvU w) (hs : ∀ s, r = .topic s → s.size ≤ 9223372036854775000) : Calls Tryz.prog 42 #[r.val] w fun e w' => e = .returned (.int .i64 r.err) ∧ Below w.heap.size w w' := by
  cases r with
  | never => exact refused_never_c w
  | turn => exact refused_turn_c w
  | topic s => exact refused_topic_c s w hE (hs s rfl)
  | fine => exact refused_fine_c w
def cnWrong (p : Pac) (first : Bool) : Int := (cnWhy p first).err
end Go.Proofs.YtjlnlgemngpelaaGreatDoor

/- A connection: take. -/
namespace Go.Proofs.YtjlnlgemngpelaaGreatDoor
open Go.RowKit
set_option linter.unusedVariables false
set_option linter.unusedSimpArgs false

def cnTake (s : Cn) : (Pac × Bool × Int) × Cn :=
  if (frNext s.fr).1.2.1 = false then ((Pac.zero, false, (frNext s.fr).1.2.2), { s with fr := (frNext s.fr).2 })
  else if (paOf (frNext s.fr).1.1.1.1 (frNext s.fr).1.1.1.2.1 (frNext s.fr).1.1.1.2.2 (frNext s.fr).1.1.2).2 ≠ 0 then ((Pac.zero, false, (paOf (frNext s.fr).1.1.1.1 (frNext s.fr).1.1.1.2.1 (frNext s.fr).1.1.1.2.2 (frNext s.fr).1.1.2).2), { s with fr := (frNext s.fr).2 })
  else if cnWrong (paOf (frNext s.fr).1.1.1.1 (frNext s.fr).1.1.1.2.1 (frNext s.fr).1.1.1.2.2 (frNext s.fr).1.1.2).1 s.first ≠ 0 then ((Pac.zero, false, cnWrong (paOf (frNext s.fr).1.1.1.1 (frNext s.fr).1.1.1.2.1 (frNext s.fr).1.1.1.2.2 (frNext s.fr).1.1.2).1 s.first), { s with fr := (frNext s.fr).2 })
  else (((paOf (frNext s.fr).1.1.1.1 (frNext s.fr).1.1.1.2.1 (frNext s.fr).1.1.1.2.2 (frNext s.fr).1.1.2).1, true, 0), { s with fr := (frNext s.fr).2, first := false })
def GivesCn (w : World) (g c : Nat) (r : (Pac × Bool × Int) × Cn) (e : Ending) (w' : World) : Prop :=
  ∃ vf vc, e = .returned (.tuple #[.agg (r.1.1.cells vf vc).toArray, .bool r.1.2.1, .int .i64 r.1.2.2]) ∧ PacOwn w.heap.size w' r.1.1 vf vc ∧ CnAt w' g c r.2 ∧ Keeps [g, c] w w'
def CnEnv (g : Nat) (w : World) : Prop := ∀ W, Below g w W → EnvF W ∧ EnvU W
theorem CnEnv.next {g : Nat} {w w' : World} (h : CnEnv g w) (hb : Below g w w') : CnEnv g w' := fun W hW => h W (hb.trans hW)
theorem CnEnv.of {g : Nat} {w0 w : World} (h1 : EnvF w0) (h2 : EnvU w0) (hb : Below w0.heap.size w0 w) (hg : w0.heap.size ≤ g) : CnEnv g w := fun W hW => ⟨h1.below (hb.trans (hW.mono hg)), h2.below (hb.trans (hW.mono hg))⟩
def pkL (x : Pk) : List Value := [.int .i64 x.1.1, .int .i64 x.1.2.1, .int .i64 x.1.2.2, .string (sOf x.2)]
theorem pkL_one (x : Pk) : ∀ v ∈ pkL x, v.oneCell' = true := by
  intro v hv
  have : (pkL x).all (·.oneCell') = true := rfl
  exact (List.all_eq_true.1 this) v hv
def zRaw : List Value := [.int .i64 0, .int .i64 0, .int .i64 0, .string ⟨#[]⟩]
theorem info_rawC : (Tryz.prog.info? 95).map (·.size) = some 4 := by kernel_rfl
theorem alloc_rawC (W : World) : (Instr.alloc 95 true (.tuple #[])).run Tryz.prog W = .ok (.pointer (some ⟨W.heap.size, 0, none⟩)) (W.alloc (.cells zRaw.toArray 95)) := by
  simp [Instr.alloc, newVar, go_sem, zRaw]
theorem frNext_body (s : FrS) : (frNext s).1.1.2.length ≤ s.1.length := by
  unfold frNext
  repeat' split
  all_goals first
    | simp [pk0]; done
    | (simp only [List.length_take, List.length_drop]; omega)
theorem kCon_topic (lv : Int) (l : List UInt8) (s : Int × Int) : (kCon lv l s).topic.size ≤ 65535 := by
  show (sOf (rTextV (uGet l (k4 l s).1) (fb (kf l s) 4) (k4 l s))).size ≤ 65535
  rw [sOf_sizeP]
  unfold rTextV
  split
  · simp
  · split
    · simp
    · exact uGet_len _ _
theorem cOf_topic (l : List UInt8) : (cOf l).1.topic.size ≤ 65535 := by
  unfold cOf cFin
  repeat' split
  all_goals first
    | exact kCon_topic _ _ _
    | exact Nat.zero_le _
theorem pOf_tp (l : List UInt8) (q : Int) : (pOf l q).1.length ≤ 65535 := by
  unfold pOf
  repeat' split
  all_goals first
    | exact uGet_len _ _
    | exact Nat.zero_le _
theorem paOf_texts (k f n : Int) (b : List UInt8) : (paOf k f n b).1.tp.size ≤ 65535 ∧ (paOf k f n b).1.c.topic.size ≤ 65535 := by
  have ht : (paTold k f b).1.tp.size ≤ 65535 ∧ (paTold k f b).1.c.topic.size ≤ 65535 := by
    unfold paTold
    repeat' split
    all_goals first
      | exact ⟨Nat.zero_le _, cOf_topic b⟩
      | exact ⟨by rw [sOf_sizeP]; exact pOf_tp _ _, Nat.zero_le _⟩
      | exact ⟨Nat.zero_le _, Nat.zero_le _⟩
  unfold paOf
  repeat' split
  all_goals first
    | exact ht
    | exact ⟨Nat.zero_le _, Nat.zero_le _⟩
theorem Held.keepsN {B : Nat} {S : List Nat} {w w' : World} {v : Value} {l : List UInt8} (h : Held B w v l) (hk : Keeps S w w') (hS : ∀ k, k ∈ blk v → k ∉ S) : Held B w' v l := by
  rcases h with h | ⟨h0, b, cap, n, rfl, hb, h1, h2, h3, hs, hc⟩
  · exact .inl h
  · have hlt := shape_lt hs
    have hn : b ∉ S := hS b (by simp [blk, Value.ownBlock])
    exact .inr ⟨h0, b, cap, n, rfl, hb, h1, h2, h3, (shape_of_block (hk.block b hlt hn)).trans hs, fun j x hx => (hk.cell hlt hn).trans (hc j x hx)⟩
theorem CnAt.fin {w w' : World} {g c r : Nat} {s s' : Cn} {va vb : Value} (hA : At w' c (s'.cells va vb (.pointer (some ⟨g, 0, none⟩)))) (hf : Free w' c) (hk : Keeps [r, c] w w') (hva : va = .pointer none ∨ va = .pointer (some ⟨c, 0, none⟩))
    (hown : Held (c + 1) w vb s.out ∧ (s.rw = true → Owned (c + 1) w vb s.out)) {l : List UInt8} {t d : Int} (hfr : FrAt w g l t d (r :: c :: blk vb)) (gc : g < c) (hcr : c < r) (hrb : r ∉ blk vb) (hsh : w'.shape? c = some (69, 21)) (ho : s'.out = s.out) (hr : s'.fr = (l, t, d)) (hw : s'.rw = s.rw) : CnAt w' g c s' := by
  have hcb : c ∉ blk vb := fun hm => by have := hown.1.blk_ge c hm; omega
  have hbl : ∀ k, k ∈ blk vb → k ∉ [r, c] := by
    intro k hkb hm
    simp at hm
    rcases hm with h1 | h1
    · exact hrb (h1 ▸ hkb)
    · exact hcb (h1 ▸ hkb)
  refine ⟨⟨va, vb, hA, hva, ⟨?_, fun hq => ?_⟩, ?_⟩, hf, gc, hsh⟩
  · rw [ho]; exact hown.1.keepsN hk hbl
  · rw [ho]
    have h1 := hown.2 (by rw [← hw]; exact hq)
    exact Owned.lift (Keeps.row hk (h1.le (Nat.zero_le _)) hbl) h1.blk_ge
  · rw [hr]
    refine hfr.after (S := r :: c :: blk vb) (hk.mono (by intro k hk; simp at hk; simp; omega)) ?_ (fun k hk => .inl (List.mem_cons_of_mem _ hk)) (fun k hk' => Nat.lt_of_lt_of_le (hfr.ltS k (List.mem_cons_of_mem _ hk')) hk.size)
    intro hm
    rcases List.mem_cons.1 hm with h1 | hm
    · omega
    · rcases List.mem_cons.1 hm with h1 | hm
      · omega
      · have := hown.1.blk_ge g hm; omega
end Go.Proofs.YtjlnlgemngpelaaGreatDoor

/- A connection: take: the walk. -/
namespace Go.Proofs.YtjlnlgemngpelaaGreatDoor
open Go.RowKit
set_option linter.unusedVariables false
set_option linter.unusedSimpArgs false

set_option maxRecDepth 100000 in
set_option maxHeartbeats 8000000 in
theorem cnTake_c (g c : Nat) (s : Cn) (w : World) (h : CnAt w g c s) (hN : CnEnv g w) (hlm : s.fr.1.length ≤ 1000000000) (ht : 0 ≤ s.fr.2.1 ∧ s.fr.2.1 ≤ 1000000000) :
    Calls Tryz.prog 29 #[.pointer (some ⟨c, 0, none⟩)] w (GivesCn w g c (cnTake s)) := by
  obtain ⟨⟨⟨X, ok, E⟩, F⟩, hR⟩ : ∃ R, frNext s.fr = R := ⟨_, rfl⟩
  have hbd : X.2.length ≤ s.fr.1.length := by have := frNext_body s.fr; rw [hR] at this; exact this
  obtain ⟨⟨P, E2⟩, hO⟩ : ∃ o, paOf X.1.1 X.1.2.1 X.1.2.2 X.2 = o := ⟨_, rfl⟩
  have htx : P.tp.size ≤ 65535 ∧ P.c.topic.size ≤ 65535 := by have := paOf_texts X.1.1 X.1.2.1 X.1.2.2 X.2; rw [hO] at this; exact this
  have hT : cnTake s = if ok = false then ((Pac.zero, false, E), { s with fr := F }) else if E2 ≠ 0 then ((Pac.zero, false, E2), { s with fr := F }) else if cnWrong P s.first ≠ 0 then ((Pac.zero, false, cnWrong P s.first), { s with fr := F }) else ((P, true, 0), { s with fr := F, first := false }) := by
    unfold cnTake
    rw [hR]
    simp only [hO]
  obtain ⟨T, hT2⟩ : ∃ T, cnTake s = T := ⟨_, rfl⟩
  rw [hT2] at hT ⊢
  have HT := hd hT; have HN := hd hN; have HLM := hd hlm; have HTK := hd ht; have HBD := hd hbd; have HTX := hd htx; have HO := hd hO; have HR := hd hR
  have H := hd h
  have hlt := h.lt; have gc := h.gc
  clear h hN hlm ht hbd htx hO hR hT hT2
  go_enter Tryz.func29, Tryz.ntmps29
  go_wp2_with (first
    | (with_reducible refine wpl_alloc (o := ⟨some 2, .alloc 36, _, _, _, _⟩) rfl _ rfl (zK 0) alloc_pac w.heap.size rfl ?_; intro w1 h1 f1 b1 z1; have c2 : w1.cell? ⟨c, 2, none⟩ = some (.pointer (some ⟨g, 0, none⟩)) := by { obtain ⟨⟨va, vb, hA, -⟩, -⟩ := H.out.grow b1; exact hA.at 2 rfl }))
  have hgw : g ≤ w.heap.size := by omega
  have B1 : Below g w w1 := b1.mono hgw
  obtain ⟨⟨va, vb, hA0, hva, hown0, hfr0⟩, hf0, -, hsh0⟩ := H.out
  have hrb : w.heap.size ∉ blk vb := fun hm => by have := hfr0.ltS _ (List.mem_cons_of_mem _ hm); omega
  have hA1 := hA0.keep b1 hlt
  have hf1 := hf0.keep b1 hlt
  have hsh1 := (shape_of_block (b1.block c hlt)).trans hsh0
  have hown1 : Held (c + 1) w1 vb s.out ∧ (s.rw = true → Owned (c + 1) w1 vb s.out) := ⟨hown0.1.kept b1, fun hr => Owned.kept (hown0.2 hr) b1 (Nat.le_refl _)⟩
  have hfr1 : FrAt w1 g s.fr.1 s.fr.2.1 s.fr.2.2 (w.heap.size :: c :: blk vb) := by
    refine hfr0.after (S := c :: blk vb) (Keeps.below b1) ?_ ?_ ?_
    · intro hm
      rcases List.mem_cons.1 hm with h2 | h2
      · omega
      · have := hown0.1.blk_ge g h2; omega
    · intro k hk
      rcases List.mem_cons.1 hk with rfl | h2
      · exact .inr (Nat.le_refl _)
      · exact .inl h2
    · intro k hk
      rcases List.mem_cons.1 hk with rfl | h2
      · omega
      · have := hfr0.ltS k h2; omega
  clear hA0 hown0 hfr0 hf0 hsh0
  refine (next_c g s.fr _ (HN.out _ B1).1 hfr1 (by have := HLM.out; omega) (by have := HTK.out; omega)).mono ?_
  rw [HR.out]
  rintro e w2 ⟨rfl, hf2, hk2⟩
  replace hf2 : FrAt w2 g F.1 F.2.1 F.2.2 (w.heap.size :: c :: blk vb) := hf2
  have hcg : c ∉ [g] := by simp; omega
  have hrg : w.heap.size ∉ [g] := by simp; omega
  have hA2 := hA1.keeps hk2 hcg
  have hfc2 := hf1.keeps hk2 hA1.lt hcg
  have hsh2 := (shape_of_block (hk2.block c hA1.lt hcg)).trans hsh1
  have hlg : ∀ k, k ∈ [g] → k < c + 1 := by intro k hk; simp at hk; omega
  have hown2 : Held (c + 1) w2 vb s.out ∧ (s.rw = true → Owned (c + 1) w2 vb s.out) := ⟨hown1.1.keeps hk2 hlg, fun hr => Owns.keeps (hown1.2 hr) hk2 hlg⟩
  have hr2 := h1.keeps hk2 hrg
  have fr2 := f1.keeps hk2 (by omega) hrg
  have B2 : Below g w w2 := B1.trans (hk2.toBelow (by omega) (by simp))
  have hs2 := hk2.size
  have K2 : Keeps [g, c] w w2 := (Keeps.below b1).trans (hk2.mono (by intro k hk; simp at hk; simp [hk]))
  have HA := hd hA2; have HF := hd hfc2; have HSH := hd hsh2; have HOW := hd hown2; have HFR := hd hf2
  clear hA1 hf1 hsh1 hown1 hfr1 hA2 hfc2 hsh2 hown2 hf2 h1 f1 b1 c2 hk2 B1 H HR
  have hpk : pkV X = .agg (pkL X).toArray := rfl
  rw [hpk]
  clear hpk
  generalize hr : w.heap.size = r at *
  cases ok
  · have hT : T = ((Pac.zero, false, E), { s with fr := F }) := by rw [HT.out, if_pos rfl]
    subst hT
    go_wp2_with (first
      | (with_reducible refine wpl_alloc (o := ⟨some 5, .alloc 95, _, _, _, _⟩) rfl _ rfl zRaw alloc_rawC w2.heap.size rfl ?_; intro w3 h3 f3 b3 z3)
      | ((with_reducible refine wpl_at (o := ⟨none, .store 95 (.tmp 5) (.tmp 16), _, _, _, _⟩) ?_); refine wpl_storeAll rfl rfl _ _ _ rfl w2.heap.size (pkL X) zRaw rfl rfl info_rawC (pkL_one X) h3 rfl f3 ?_; intro w4 h4 f4 k4 z4; have B4 : Below w2.heap.size w2 w4 := b3.trans (k4.toBelow b3.size (by simp)); have hr4 := hr2.keep B4 hr2.lt; have fr4 := fr2.keep B4 hr2.lt; clear h3 f3 b3 k4 z4 z3 hr2 fr2)
      | ((with_reducible refine wpl_at (o := ⟨none, .store 36 (.tmp 2) (.tmp 21), _, _, _, _⟩) ?_); refine wpl_storeAll rfl rfl _ _ _ rfl r (zK 0) (zK 0) rfl rfl info_pac (zK_one 0) hr4 rfl fr4 ?_; intro w9 h9 f9 k9 z9))
    refine bodyPost_ret (v := .tuple #[.agg (zK 0).toArray, .bool false, .int .i64 E]) (results_cell_tmp2 Tryz.results29 rfl (ret_pac h9 rfl) rfl rfl) rfl ?_
    have K9 : Keeps [r] w2 w9 := (Keeps.below B4).trans k9
    have hcr : c ∉ [r] := by simp; omega
    exact ⟨Nl, Nl, rfl, PacOwn.nil (p := Pac.zero) _ _ rfl rfl, CnAt.fin (s := s) (HA.out.keeps K9 hcr) (HF.out.keeps K9 HA.out.lt hcr) (K9.mono (by intro k hk; simp at hk; simp [hk])) hva HOW.out HFR.out gc (by omega) hrb ((shape_of_block (K9.block c HA.out.lt hcr)).trans HSH.out) rfl rfl rfl, K2.next K9 (by intro k hk; simp at hk; right; omega)⟩
  have hO := HO.out
  have hsz : (sOf X.2).size ≤ 140737488351232 := by rw [sOf_sizeP]; have := HBD.out; have := HLM.out; omega
  have hof := fun W h1 h2 => packOf_c X.1.1 X.1.2.1 X.1.2.2 (sOf X.2) W hsz h1 h2
  rw [sB_sOf, hO] at hof
  have HOF := hd hof
  clear hO hsz hof HO HBD
  go_wp2_with (first
    | (with_reducible refine wpl_alloc (o := ⟨some 5, .alloc 95, _, _, _, _⟩) rfl _ rfl zRaw alloc_rawC w2.heap.size rfl ?_; intro w3 h3 f3 b3 z3)
    | ((with_reducible refine wpl_at (o := ⟨none, .store 95 (.tmp 5) (.tmp 16), _, _, _, _⟩) ?_); refine wpl_storeAll rfl rfl _ _ _ rfl w2.heap.size (pkL X) zRaw rfl rfl info_rawC (pkL_one X) h3 rfl f3 ?_; intro w4 h4 f4 k4 z4; have B4 : Below w2.heap.size w2 w4 := b3.trans (k4.toBelow b3.size (by simp)); have hr4 := hr2.keep B4 hr2.lt; have fr4 := fr2.keep B4 hr2.lt; clear h3 f3 b3 k4 z4 z3 hr2 fr2)
    | ((with_reducible refine wpl_at (o := ⟨some 24, .load 95 (.tmp 5), _, _, _, _⟩) ?_); refine wpl_loadAt rfl _ _ rfl w2.heap.size 0 rfl (pkL X) _ h4.range Tryz.underlying95 rfl info_rawC ?_))
  have B4g : Below g w w4 := B2.trans (B4.mono (by omega))
  refine (HOF.out _ (HN.out _ B4g).1.1 (HN.out _ B4g).2).mono ?_
  rintro e w5 ⟨vf, vc, rfl, ho5, hb5⟩
  have hs4 := B4.size
  have B5 : Below w2.heap.size w2 w5 := B4.trans (hb5.mono (by omega))
  have hr5 := hr4.keep hb5 hr4.lt
  have fr5 := fr4.keep hb5 hr4.lt
  have hone := Pac.one P vf vc ho5.rd.f.oneCell ho5.rd.c.oneCell
  have HO5 := hd ho5
  have hs5 := hb5.size
  clear ho5 hb5 h4 f4 hr4 fr4 B4 B4g
  by_cases hE2 : E2 = 0
  rotate_left
  · have hE2b : (E2 != 0) = true := by simpa using hE2
    have hT : T = ((Pac.zero, false, E2), { s with fr := F }) := by rw [HT.out, if_neg (by simp), if_pos hE2]
    subst hT
    go_wp2_with (first
      | (with_reducible refine wpl_alloc (o := ⟨some 8, .alloc 36, _, _, _, _⟩) rfl _ rfl (zK 0) alloc_pac w5.heap.size rfl ?_; intro w6 h6 f6 b6 z6)
      | ((with_reducible refine wpl_at (o := ⟨none, .store 36 (.tmp 8) (.tmp 26), _, _, _, _⟩) ?_); refine wpl_storeAll rfl rfl _ _ _ rfl w5.heap.size (P.cells vf vc) (zK 0) rfl rfl info_pac hone h6 rfl f6 ?_; intro w7 h7 f7 k7 z7; have B7 : Below w5.heap.size w5 w7 := b6.trans (k7.toBelow b6.size (by simp)); have hr7 := hr5.keep B7 hr5.lt; have fr7 := fr5.keep B7 hr5.lt; clear h6 f6 b6 k7 z7 z6 hr5 fr5)
      | ((with_reducible refine wpl_at (o := ⟨none, .store 36 (.tmp 2) (.tmp 30), _, _, _, _⟩) ?_); refine wpl_storeAll rfl rfl _ _ _ rfl r (zK 0) (zK 0) rfl rfl info_pac (zK_one 0) hr7 rfl fr7 ?_; intro w9 h9 f9 k9 z9))
    refine bodyPost_ret (v := .tuple #[.agg (zK 0).toArray, .bool false, .int .i64 E2]) (results_cell_tmp2 Tryz.results29 rfl (ret_pac h9 rfl) rfl rfl) rfl ?_
    have K9 : Keeps [r] w2 w9 := (Keeps.below (B5.trans (B7.mono (by omega)))).trans k9
    have hcr : c ∉ [r] := by simp; omega
    exact ⟨Nl, Nl, rfl, PacOwn.nil (p := Pac.zero) _ _ rfl rfl, CnAt.fin (s := s) (HA.out.keeps K9 hcr) (HF.out.keeps K9 HA.out.lt hcr) (K9.mono (by intro k hk; simp at hk; simp [hk])) hva HOW.out HFR.out gc (by omega) hrb ((shape_of_block (K9.block c HA.out.lt hcr)).trans HSH.out) rfl rfl rfl, K2.next K9 (by intro k hk; simp at hk; right; omega)⟩
  subst hE2
  have hwc := fun W => why_c P vf vc s.first W
  have hrc := fun W h => refused_c (cnWhy P s.first) W h (by
    intro x hx
    have h1 := HTX.out
    have h2 : x = P.tp ∨ x = P.c.topic := by
      unfold cnWhy at hx
      split at hx
      · cases hx
      · split at hx
        · cases hx
        · split at hx
          · cases hx; exact .inl rfl
          · split at hx
            · cases hx; exact .inr rfl
            · cases hx
    rcases h2 with rfl | rfl <;> omega)
  obtain ⟨rv, hrv⟩ : ∃ rv, (cnWhy P s.first).val = rv := ⟨_, rfl⟩
  obtain ⟨z, hz⟩ : ∃ z, cnWrong P s.first = z := ⟨_, rfl⟩
  have hz2 : (cnWhy P s.first).err = z := hz
  rw [hrv, hz2] at hrc
  have hwc2 : ∀ W : World, Calls Tryz.prog 43 #[.agg (P.cells vf vc).toArray, .bool s.first] W fun e w' => e = .returned rv ∧ Below W.heap.size W w' := by intro W; have := hwc W; rw [hrv] at this; exact this
  have HWC := hd hwc2; have HRC := hd hrc; have HZ := hd hz
  clear hwc hwc2 hrc hrv hz hz2
  have c3 : w5.cell? ⟨c, 3, none⟩ = some (.bool s.first) := (bcell B5 c 3 HA.out.lt).trans (HA.out.at 3 rfl)
  have hc5 : c < w5.heap.size := by have := HA.out.lt; omega
  by_cases hz0 : z = 0
  all_goals
    go_wp2_with (first
      | (with_reducible refine wpl_alloc (o := ⟨some 8, .alloc 36, _, _, _, _⟩) rfl _ rfl (zK 0) alloc_pac w5.heap.size rfl ?_; intro w6 h6 f6 b6 z6)
      | ((with_reducible refine wpl_at (o := ⟨none, .store 36 (.tmp 8) (.tmp 26), _, _, _, _⟩) ?_); refine wpl_storeAll rfl rfl _ _ _ rfl w5.heap.size (P.cells vf vc) (zK 0) rfl rfl info_pac hone h6 rfl f6 ?_; intro w7 h7 f7 k7 z7; have B7 : Below w5.heap.size w5 w7 := b6.trans (k7.toBelow b6.size (by simp)); have hr7 := hr5.keep B7 hr5.lt; have fr7 := fr5.keep B7 hr5.lt; have d3 := (bcell B7 c 3 hc5).trans c3; clear h6 f6 b6 k7 z7 z6 hr5 fr5 c3))
    have h7d := h7.drew
    have hr7d := hr7.drew
    have fr7d := fr7.drew
    have B7d : Below w5.heap.size w5 w7.drew := B7.drew
    have hs7 : w7.drew.heap.size = w7.heap.size := rfl
    have d3d : w7.drew.cell? ⟨c, 3, none⟩ = some (.bool s.first) := d3
    refine wp_region_M (fun W => At W w5.heap.size (P.cells vf vc) ∧ W.cell? ⟨c, 3, none⟩ = some (.bool s.first)) 7 [(0, false), (1, false), (2, false), (3, false), (4, false), (5, true), (6, true), (7, true)] (by kernel_rfl) (by kernel_rfl) (fun _ _ _ _ h => h) ⟨h7d, d3d⟩ ?_
    clear h7 hr7 fr7 B7 d3 f7
    generalize w7.drew = w8 at *
    apply wpM_still (by rfl) (by rfl)
    · intro W hC
      exact still_loadAt _ _ rfl w5.heap.size 0 rfl (P.cells vf vc) _ (At.range hC.1) Tryz.underlying36 rfl info_pac
    iterate 4
      apply wpM_still (by rfl) (by rfl)
      · intro W hC
        obtain ⟨-, q⟩ := hC
        go_simp
        rfl
      go_simp
    apply wpM_move (by rfl) (by rfl)
    intro K hK
    go_simp
    refine (HWC.out _).mono ?_
    rintro e wa ⟨rfl, hba⟩
    go_simp
    have ha7 := h7d.keep hba h7d.lt
    have hc8 : c < w8.heap.size := by have := B7d.size; omega
    have da3 := (bcell hba c 3 hc8).trans d3d
    refine hK _ _ (fun _ => ⟨ha7, da3⟩) ?_
    clear hK K
    have Ba : Below w5.heap.size w5 wa := B7d.trans (hba.mono B7d.size)
    have BaG : Below g w wa := B2.trans ((B5.trans (Ba.mono (by omega))).mono (by omega))
    apply wpM_move (by rfl) (by rfl)
    intro K hK
    go_simp
    refine (HRC.out _ (HN.out _ BaG).2).mono ?_
    rintro e wb ⟨rfl, hbb⟩
    go_simp
    have hb7 := ha7.keep hbb ha7.lt
    have hca : c < wa.heap.size := by have := Ba.size; omega
    have db3 := (bcell hbb c 3 hca).trans da3
    refine hK _ _ (fun _ => ⟨hb7, db3⟩) ?_
    clear hK K
    have Bb : Below w5.heap.size w5 wb := Ba.trans (hbb.mono Ba.size)
    have hrb' := (hr7d.keep hba hr7d.lt)
    have hrb2 := hrb'.keep hbb hrb'.lt
    have frb' := (fr7d.keep hba hr7d.lt)
    have frb2 := frb'.keep hbb hrb'.lt
    have Bz : Below w2.heap.size w2 wb := B5.trans (Bb.mono (by omega))
    clear hba hbb ha7 da3 h7d d3d hr7d fr7d B7d Ba BaG hrb' frb'
    apply wpM_move (by rfl) (by rfl)
    intro K hK
    go_simp
    refine hK _ _ (fun h => absurd h (by decide)) ?_
    clear hK K
    refine wpM_nil ?_
  · subst hz0
    have hT : T = ((P, true, 0), { s with fr := F, first := false }) := by rw [HT.out, if_neg (by simp), if_neg (by simp), HZ.out, if_neg (by simp)]
    subst hT
    have hAb := HA.out.keep Bz HA.out.lt
    have hfb := HF.out.keep Bz HA.out.lt
    have ff3 := hfb 3
    have hne : c ≠ r := by omega
    have hne2 : c ≠ w5.heap.size := by omega
    have HAB := hd hAb; have HFB := hd hfb
    clear hAb hfb
    have hX3 := hrb2.other c 3 (.bool false) (by omega)
    have hX7 := hb7.other c 3 (.bool false) (by omega)
    have fX3 := frb2.set ⟨c, 3, none⟩ (.bool false)
    go_wp2_with (first
      | ((with_reducible refine wpl_at (o := ⟨some 46, .load 36 (.tmp 8), _, _, _, _⟩) ?_); refine wpl_loadAt rfl _ _ rfl w5.heap.size 0 rfl (P.cells vf vc) _ hX7.range Tryz.underlying36 rfl info_pac ?_)
      | ((with_reducible refine wpl_at (o := ⟨none, .store 36 (.tmp 2) (.tmp 46), _, _, _, _⟩) ?_); refine wpl_storeAll rfl rfl _ _ _ rfl r (P.cells vf vc) (zK 0) rfl rfl info_pac hone hX3 rfl fX3 ?_; intro w9 h9 f9 k9 z9))
    refine bodyPost_ret (v := .tuple #[.agg (P.cells vf vc).toArray, .bool true, .int .i64 0]) (results_cell_tmp2 Tryz.results29 rfl (ret_pac h9 rfl) rfl rfl) rfl ?_
    have kc : Keeps [r, c] wb (wb.setCell ⟨c, 3, none⟩ (.bool false)) := (Keeps.refl _ _).setCell (.inl (by simp)) _
    have K9 : Keeps [r, c] w2 w9 := ((Keeps.below Bz).trans kc).trans (k9.mono (by intro k hk; simp at hk; simp [hk]))
    have hcr : c ∉ [r] := by simp; omega
    have hcl : c < (wb.setCell ⟨c, 3, none⟩ (.bool false)).heap.size := by have h1 := Bz.size; have h2 := HA.out.lt; simp; omega
    have hA9 := (HAB.out.set 3 (.bool false) (by show 3 < 21; decide)).keeps k9 hcr
    have hf9 := (HFB.out.set ⟨c, 3, none⟩ (.bool false)).keeps k9 hcl hcr
    have hsh9 : w9.shape? c = some (69, 21) := (shape_of_block (k9.block c hcl hcr)).trans (by rw [shape_setCell]; exact (shape_of_block (Bz.block c HA.out.lt)).trans HSH.out)
    have hpo : PacOwn r w9 P vf vc := by
      have h1 : PacOwn r w5 P vf vc := HO5.out.le (by omega)
      have h2 := h1.kept Bb (Nat.le_refl _)
      have h3 := h2.keeps (S := [c]) ((Keeps.refl _ _).setCell (p := ⟨c, 3, none⟩) (.inl (by simp)) (.bool false)) (by intro k hk; simp at hk; omega)
      have h4 : PacOwn w4.heap.size w5 P vf vc := HO5.out
      have h5 := (h4.kept Bb (Nat.le_refl _)).keeps (S := [c]) ((Keeps.refl _ _).setCell (p := ⟨c, 3, none⟩) (.inl (by simp)) (.bool false)) (by intro k hk; simp at hk; omega)
      exact (h5.keeps k9 (by intro k hk; simp at hk; omega)).le (by omega)
    exact ⟨vf, vc, rfl, (by rw [hr]; exact hpo), CnAt.fin (s := s) hA9 hf9 K9 hva HOW.out HFR.out gc (by omega) hrb hsh9 rfl rfl rfl, K2.next K9 (by intro k hk; simp at hk; rcases hk with h1 | h1; exact .inr (by omega); exact .inl (by simp [h1]))⟩
  · have hzb : (z != 0) = true := by simpa using hz0
    have hT : T = ((Pac.zero, false, z), { s with fr := F }) := by rw [HT.out, if_neg (by simp), if_neg (by simp), HZ.out, if_pos hz0]
    subst hT
    go_wp2_with (first
      | ((with_reducible refine wpl_at (o := ⟨none, .store 36 (.tmp 2) (.tmp 41), _, _, _, _⟩) ?_); refine wpl_storeAll rfl rfl _ _ _ rfl r (zK 0) (zK 0) rfl rfl info_pac (zK_one 0) hrb2 rfl frb2 ?_; intro w9 h9 f9 k9 z9))
    refine bodyPost_ret (v := .tuple #[.agg (zK 0).toArray, .bool false, .int .i64 z]) (results_cell_tmp2 Tryz.results29 rfl (ret_pac h9 rfl) rfl rfl) rfl ?_
    have K9 : Keeps [r] w2 w9 := (Keeps.below Bz).trans k9
    have hcr : c ∉ [r] := by simp; omega
    exact ⟨Nl, Nl, rfl, PacOwn.nil (p := Pac.zero) _ _ rfl rfl, CnAt.fin (s := s) (HA.out.keeps K9 hcr) (HF.out.keeps K9 HA.out.lt hcr) (K9.mono (by intro k hk; simp at hk; simp [hk])) hva HOW.out HFR.out gc (by omega) hrb ((shape_of_block (K9.block c HA.out.lt hcr)).trans HSH.out) rfl rfl rfl, K2.next K9 (by intro k hk; simp at hk; right; omega)⟩
end Go.Proofs.YtjlnlgemngpelaaGreatDoor

/- A connection: Next. -/
namespace Go.Proofs.YtjlnlgemngpelaaGreatDoor
open Go.RowKit
set_option linter.unusedVariables false
set_option linter.unusedSimpArgs false

theorem out_of_row {w : World} {v : Value} {l : List UInt8} {r : Nat} {L : List Value} {t : TypeId} (h : Bs w v l) (hl : l ≠ []) (hr : At w r L) (hs : w.shape? r = some (t, L.length)) (hu : ∀ u ∈ L, ∀ b : Int, u ≠ .int .u8 b) : OutOf v [r] := by
  intro a n c e hm
  obtain ⟨a', c', e', h1, h2, h3, h4⟩ := h
  rw [e] at e'
  cases e'
  simp only [List.mem_singleton] at hm
  cases l with
  | nil => exact absurd rfl hl
  | cons x rest =>
    have h5 := h4 a rfl 0 (byteV x) rfl
    have e0 : a.add 0 = a := by cases a; simp [Addr.add]
    rw [e0] at h5
    obtain ⟨e1, n1, hs1, ho1, hsp⟩ := World.shape?_of_cell? h5
    rw [hm, hs] at hs1
    simp only [Option.some.injEq, Prod.mk.injEq] at hs1
    obtain ⟨-, rfl⟩ := hs1
    have ea : a = ⟨r, a.off, none⟩ := by cases a; simp at hm hsp; simp [hm, hsp]
    have h6 := hr.2 a.off _ (List.getElem?_eq_getElem ho1)
    rw [ea] at h5
    rw [h5] at h6
    exact hu _ (List.getElem_mem ho1) x.toNat (Option.some.inj h6).symm
theorem CnAt.aside {w w' : World} {g c r : Nat} {s : Cn} {L : List Value} {t : TypeId} (h : CnAt w g c s) (hk : Keeps [r] w w') (hcr : c < r) (hr : At w r L) (hs : w.shape? r = some (t, L.length)) (hu : ∀ u ∈ L, ∀ b : Int, u ≠ .int .u8 b) (ht : t ≠ 5) : CnAt w' g c s := by
  obtain ⟨⟨va, vb, hA, hva, hown, hfr⟩, hf, gc, hsh⟩ := h
  have hcn : c ∉ [r] := by simp; omega
  have hrb : r ∉ blk vb := by
    intro hm
    rcases hown.1 with ⟨rfl, -⟩ | ⟨-, b, cap, n, rfl, hb, h1, h2, h3, hs2, hc⟩
    · simp [blk, Value.ownBlock] at hm
    · simp [blk, Value.ownBlock] at hm
      subst hm
      rw [hs] at hs2
      simp only [Option.some.injEq, Prod.mk.injEq] at hs2
      exact ht hs2.1
  have hfr2 : FrAt w g s.fr.1 s.fr.2.1 s.fr.2.2 (r :: c :: blk vb) := by
    obtain ⟨⟨v, c0, hv, ho⟩, c1, c2, c3, fr, lt, ltS, shg, tyg⟩ := hfr
    refine ⟨⟨v, c0, hv, fun hl a n cc e hm => ?_⟩, c1, c2, c3, fr, lt, ?_, shg, tyg⟩
    · rcases List.mem_cons.1 hm with h1 | hm
      · exact ho hl a n cc e (by rw [h1]; simp)
      · rcases List.mem_cons.1 hm with h1 | hm
        · exact out_of_row hv hl hr hs hu a n cc e (by rw [h1]; simp)
        · exact ho hl a n cc e (List.mem_cons_of_mem _ hm)
    · intro k hk
      rcases List.mem_cons.1 hk with rfl | hk
      · exact hr.lt
      · exact ltS k hk
  exact CnAt.fin (s := s) (hA.keeps hk hcn) (hf.keeps hk hA.lt hcn) (hk.mono (by intro k hk; simp at hk; simp [hk])) hva hown hfr2 gc hcr hrb ((shape_of_block (hk.block c hA.lt hcn)).trans hsh) rfl rfl rfl
theorem CnAt.poke {w : World} {g c : Nat} {s s' : Cn} (h : CnAt w g c s) (i : Nat) (v : Value) (hi : i < 21) (he : ∀ va vb vg, (s.cells va vb vg).set i v = s'.cells va vb vg) (ho : s'.out = s.out) (hr : s'.fr = s.fr) (hw : s'.rw = s.rw) : CnAt (w.setCell ⟨c, i, none⟩ v) g c s' := by
  obtain ⟨⟨va, vb, hA, hva, hown, hfr⟩, hf, gc, hsh⟩ := h
  have hA2 := hA.set i v hi
  rw [he] at hA2
  exact CnAt.mk' (s := s) hA2 (hf.set _ _) ((Keeps.refl _ _).setCell (.inl (by simp)) _) hva hown hfr gc (by rw [shape_setCell]; exact hsh) ho hr hw
theorem CnAt.cell {w : World} {g c : Nat} {s : Cn} (h : CnAt w g c s) (i : Nat) (v : Value) (he : ∀ va vb, (s.cells va vb (.pointer (some ⟨g, 0, none⟩)))[i]? = some v) : w.cell? ⟨c, i, none⟩ = some v := by
  obtain ⟨⟨va, vb, hA, -⟩, -⟩ := h
  exact hA.at i (he va vb)
theorem wpl_allocS {w : World} {ops : Array Oper} {rest : List Oper} {o : Oper} {a : Act} {Q : Exit → Act → World → Prop} (hgd : o.guard = none) (ty : TypeId) (ho : o.op = .alloc ty) (L : List Value) (hz : ∀ W : World, (Instr.alloc ty true (.tuple #[])).run Tryz.prog W = .ok (.pointer (some ⟨W.heap.size, 0, none⟩)) (W.alloc (.cells L.toArray ty))) (g : Nat) (hg : w.heap.size = g)
    (h : ∀ w', At w' g L → Free w' g → Below g w w' → w'.heap.size = g + 1 → w'.shape? g = some (ty, L.length) → wpList Tryz.prog ops Q rest (a.put o.dst (.pointer (some ⟨g, 0, none⟩))) w') : wpList Tryz.prog ops Q (o :: rest) a w := by
  subst hg
  refine wpList_plain hgd fun K hK => ?_
  unfold Oper.wp execOp
  simp only [ho, Sem.run_bind, Sem.run_pure, hz, Result.andThen_ok]
  exact hK _ _ (h _ (At.new _ _ _) (Free.new _ _ _) ((Below.refl _ _).alloc (Nat.le_refl _) _) (by simp [go_sem]) (by have e : (w.alloc (.cells L.toArray ty)).heap = w.heap.push (.cells L.toArray ty) := rfl; unfold World.shape?; rw [e]; simp))
theorem zK_u8 : ∀ u ∈ zK 0, ∀ b : Int, u ≠ .int .u8 b := by
  intro u hu b
  simp only [zK, List.mem_cons, List.not_mem_nil, or_false] at hu
  rcases hu with rfl | rfl | rfl | rfl | rfl | rfl | rfl | rfl | rfl | rfl | rfl | rfl | rfl | rfl | rfl | rfl | rfl | rfl | rfl | rfl | rfl | rfl | rfl | rfl <;> simp
def cnNext (s : Cn) : (Pac × Bool × Int) × Cn :=
  if s.closed then ((Pac.zero, false, 0), s)
  else if s.bad ≠ 0 then ((Pac.zero, false, s.bad), s)
  else ((cnTake s).1, { (cnTake s).2 with bad := (cnTake s).1.2.2 })
set_option maxRecDepth 100000 in
theorem still_buildPac {o : Oper} {a : Act} (W : World) (ho : o.op = .build 36 #[]) : (execOp a.eval o).run Tryz.prog W = .ok (.value (.agg (zK 0).toArray)) W := by
  unfold execOp
  simp [ho, Instr.build, go_sem, zK]
set_option maxRecDepth 100000 in
set_option maxHeartbeats 8000000 in
theorem cnNext_c (g c : Nat) (s : Cn) (w : World) (h : CnAt w g c s) (hN : CnEnv g w) (hlm : s.fr.1.length ≤ 1000000000) (ht : 0 ≤ s.fr.2.1 ∧ s.fr.2.1 ≤ 1000000000) :
    Calls Tryz.prog 11 #[.pointer (some ⟨c, 0, none⟩)] w (GivesCn w g c (cnNext s)) := by
  obtain ⟨T, hT⟩ : ∃ T, cnNext s = T := ⟨_, rfl⟩
  rw [hT]
  have HT := hd hT; have H := hd h; have HN := hd hN
  have hlt := h.lt; have gc := h.gc
  have hgw : g ≤ w.heap.size := by omega
  have htk := fun W h1 h2 => cnTake_c g c s W h1 h2 hlm ht
  have HTK := hd htk
  clear hT h hN htk hlm ht
  generalize hr : w.heap.size = r at *
  cases hcl : s.closed
  rotate_left
  · have hT : T = ((Pac.zero, false, 0), s) := by rw [← HT.out]; unfold cnNext; rw [if_pos hcl]
    subst hT
    go_enter Tryz.func11, Tryz.ntmps11
    go_wp2_with (first
      | (with_reducible refine wpl_allocS (o := ⟨some 2, .alloc 36, _, _, _, _⟩) rfl _ rfl (zK 0) alloc_pac r hr ?_; intro w1 h1 f1 b1 z1 s1; have h1c := H.out.grow (by rw [hr]; exact b1); have c2 := h1c.cell 2 _ (fun _ _ => rfl); have c4 := h1c.cell 4 _ (fun _ _ => rfl); rw [hcl] at c4; have H1 := hd h1c; clear h1c))
    refine (cnNone_c c g _ c2).mono ?_
    rintro e w' ⟨rfl, rfl⟩
    go_wp2_with (first
      | ((with_reducible refine wpl_at (o := ⟨none, .store 36 (.tmp 2) (.tmp 17), _, _, _, _⟩) ?_); refine wpl_storeAll rfl rfl _ _ _ rfl r (zK 0) (zK 0) rfl rfl info_pac (zK_one 0) h1 rfl f1 ?_; intro w9 h9 f9 k9 z9))
    refine bodyPost_ret (v := .tuple #[.agg (zK 0).toArray, .bool false, .int .i64 0]) (results_cell_tmp2 Tryz.results11 rfl (ret_pac h9 rfl) rfl rfl) rfl ?_
    have B9 : Below w.heap.size w w9 := by rw [hr]; exact b1.trans (k9.toBelow (by omega) (by simp))
    exact ⟨Nl, Nl, rfl, PacOwn.nil (p := Pac.zero) _ _ rfl rfl, H.out.grow B9, Keeps.below B9⟩
  by_cases hb : s.bad = 0
  rotate_left
  · have hbb : (s.bad != 0) = true := by simpa using hb
    have hT : T = ((Pac.zero, false, s.bad), s) := by rw [← HT.out]; unfold cnNext; rw [if_neg (by simp [hcl]), if_pos hb]
    subst hT
    go_enter Tryz.func11, Tryz.ntmps11
    go_wp2_with (first
      | (with_reducible refine wpl_allocS (o := ⟨some 2, .alloc 36, _, _, _, _⟩) rfl _ rfl (zK 0) alloc_pac r hr ?_; intro w1 h1 f1 b1 z1 s1; have h1c := H.out.grow (by rw [hr]; exact b1); have c2 := h1c.cell 2 _ (fun _ _ => rfl); have c4 := h1c.cell 4 _ (fun _ _ => rfl); rw [hcl] at c4; have c5 := h1c.cell 5 _ (fun _ _ => rfl); have H1 := hd h1c; clear h1c))
    refine (cnNone_c c g _ c2).mono ?_
    rintro e w' ⟨rfl, rfl⟩
    go_wp2_with fail
    have h1d := h1.drew
    have f1d := f1.drew
    have b1d : Below r w w1.drew := b1.drew
    have hs1 : w1.drew.heap.size = w1.heap.size := rfl
    refine wp_region_M (fun W => W.cell? ⟨c, 5, none⟩ = some (.int .i64 s.bad)) 7 [(0, false), (1, false), (2, false), (3, false), (4, false), (5, true), (6, false), (7, true)] (by kernel_rfl) (by kernel_rfl) (fun _ _ _ _ h => h) c5 ?_
    have c5d : w1.drew.cell? ⟨c, 5, none⟩ = some (.int .i64 s.bad) := c5
    clear h1 f1 b1 c2 c4 c5
    generalize w1.drew = w2 at *
    apply wpM_still (by rfl) (by rfl)
    · intro W hC
      exact still_buildPac W rfl
    iterate 4
      apply wpM_still (by rfl) (by rfl)
      · intro W hC
        go_simp
        rfl
      go_simp
    apply wpM_move (by rfl) (by rfl)
    intro K hK
    refine wpo_storeMid rfl _ _ _ rfl r 0 (zK 0) (zK 0) (zK 0) rfl rfl info_pac (zK_one 0) h1d rfl (by show 0 + 24 ≤ 24; decide) f1d ?_
    intro w9 h9 f9 k9 z9
    have hc9 : c ∉ [r] := by simp; omega
    refine hK _ _ (fun _ => (k9.cell (by omega) hc9).trans c5d) ?_
    clear hK K
    apply wpM_still (by rfl) (by rfl)
    · intro W hC
      go_simp
      rfl
    go_simp
    apply wpM_move (by rfl) (by rfl)
    intro K hK
    go_simp
    refine hK _ _ (fun h => absurd h (by decide)) ?_
    clear hK K
    refine wpM_nil ?_
    go_wp2_with fail
    refine bodyPost_ret (v := .tuple #[.agg (zK 0).toArray, .bool false, .int .i64 s.bad]) (results_cell_tmp2 Tryz.results11 rfl (ret_pac h9 rfl) rfl rfl) rfl ?_
    have B9 : Below w.heap.size w w9 := by rw [hr]; exact b1d.trans (k9.toBelow (by omega) (by simp))
    exact ⟨Nl, Nl, rfl, PacOwn.nil (p := Pac.zero) _ _ rfl rfl, H.out.grow B9, Keeps.below B9⟩
  have hbb : (s.bad != 0) = false := by simpa using hb
  have hT : T = ((cnTake s).1, { (cnTake s).2 with bad := (cnTake s).1.2.2 }) := by rw [← HT.out]; unfold cnNext; rw [if_neg (by simp [hcl]), if_neg (by simpa using hb)]
  generalize hcT : cnTake s = CT at *
  obtain ⟨⟨P, ok, E⟩, s2⟩ := CT
  simp only at hT
  subst hT
  go_enter Tryz.func11, Tryz.ntmps11
  go_wp2_with (first
    | (with_reducible refine wpl_allocS (o := ⟨some 2, .alloc 36, _, _, _, _⟩) rfl _ rfl (zK 0) alloc_pac r hr ?_; intro w1 h1 f1 b1 z1 s1; have h1c := H.out.grow (by rw [hr]; exact b1); have c2 := h1c.cell 2 _ (fun _ _ => rfl); have c4 := h1c.cell 4 _ (fun _ _ => rfl); rw [hcl] at c4; have c5 := h1c.cell 5 _ (fun _ _ => rfl); have H1 := hd h1c; clear h1c))
  refine (cnNone_c c g _ c2).mono ?_
  rintro e w' ⟨rfl, rfl⟩
  go_wp2_with fail
  refine (HTK.out _ H1.out (HN.out.next (b1.mono (by omega)))).mono ?_
  rintro e w2 ⟨vf, vc, rfl, hp2, hc2, hk2⟩
  simp only
  have hrn : r ∉ [g, c] := by simp; omega
  have hr2 := h1.keeps hk2 hrn
  have fr2 := f1.keeps hk2 (by omega) hrn
  have sr2 : w2.shape? r = some (36, (zK 0).length) := (shape_of_block (hk2.block r (by omega) hrn)).trans s1
  have hz2 := hk2.size
  have hone := Pac.one P vf vc hp2.rd.f.oneCell hp2.rd.c.oneCell
  have HP2 := hd hp2; have HC2 := hd hc2
  have K2 : Keeps [g, c] w w2 := (Keeps.below (by rw [hr]; exact b1)).trans hk2
  clear hp2 hc2 h1 f1 c2 c4 c5 hk2 H1
  go_wp2_with (first
    | (with_reducible refine wpl_alloc (o := ⟨some 5, .alloc 36, _, _, _, _⟩) rfl _ rfl (zK 0) alloc_pac w2.heap.size rfl ?_; intro w3 h3 f3 b3 z3)
    | ((with_reducible refine wpl_at (o := ⟨none, .store 36 (.tmp 5) (.tmp 32), _, _, _, _⟩) ?_); refine wpl_storeAll rfl rfl _ _ _ rfl w2.heap.size (P.cells vf vc) (zK 0) rfl rfl info_pac hone h3 rfl f3 ?_; intro w4 h4 f4 k4 z4; have B4 : Below w2.heap.size w2 w4 := b3.trans (k4.toBelow b3.size (by simp)); have hr4 := hr2.keep B4 hr2.lt; have fr4 := fr2.keep B4 hr2.lt; have sr4 := (shape_of_block (B4.block r hr2.lt)).trans sr2; have hc4 := HC2.out.grow B4; have c5 := hc4.cell 5 _ (fun _ _ => rfl); have f5 := hc4.free 5; have HC4 := hd hc4; have hp4 := HP2.out.kept B4 (Nat.le_refl _); have HP4 := hd hp4; have hl2 := hr2.lt; clear h3 f3 b3 k4 z3 hr2 fr2 hc4 hp4 f4; have X4 := h4.other c 5 (.int .i64 E) (by have := HC2.out.lt; omega); have Y4 := hr4.other c 5 (.int .i64 E) (by omega); have Z4 := fr4.set ⟨c, 5, none⟩ (.int .i64 E))
    | ((with_reducible refine wpl_at (o := ⟨some 39, .load 36 (.tmp 5), _, _, _, _⟩) ?_); refine wpl_loadAt rfl _ _ rfl w2.heap.size 0 rfl (P.cells vf vc) _ X4.range Tryz.underlying36 rfl info_pac ?_)
    | ((with_reducible refine wpl_at (o := ⟨none, .store 36 (.tmp 2) (.tmp 39), _, _, _, _⟩) ?_); refine wpl_storeAll rfl rfl _ _ _ rfl r (P.cells vf vc) (zK 0) rfl rfl info_pac hone Y4 rfl Z4 ?_; intro w9 h9 f9 k9 z9))
  refine bodyPost_ret (v := .tuple #[.agg (P.cells vf vc).toArray, .bool ok, .int .i64 E]) (results_cell_tmp2 Tryz.results11 rfl (ret_pac h9 rfl) rfl rfl) rfl ?_
  have hX : CnAt (w4.setCell ⟨c, 5, none⟩ (.int .i64 E)) g c { s2 with bad := E } := HC4.out.poke 5 (.int .i64 E) (by decide) (fun _ _ _ => rfl) rfl rfl rfl
  have hX9 := hX.aside k9 (by omega) Y4 (by rw [shape_setCell]; exact sr4) zK_u8 (by decide)
  have kc : Keeps [c] w4 (w4.setCell ⟨c, 5, none⟩ (.int .i64 E)) := (Keeps.refl _ _).setCell (.inl (by simp)) _
  have hp9 : PacOwn w1.heap.size w9 P vf vc := (HP4.out.keeps kc (by intro k hk; simp at hk; omega)).keeps k9 (by intro k hk; simp at hk; omega)
  have K9 : Keeps [g, c] w w9 := ((K2.trans (Keeps.below B4)).trans (kc.mono (by intro k hk; simp at hk; simp [hk]))).next k9 (by intro k hk; simp at hk; right; omega)
  exact ⟨vf, vc, rfl, hp9.le (by omega), hX9, K9⟩
end Go.Proofs.YtjlnlgemngpelaaGreatDoor

/- A connection: awake. -/
namespace Go.Proofs.YtjlnlgemngpelaaGreatDoor
open Go.RowKit
set_option linter.unusedVariables false
set_option linter.unusedSimpArgs false

def aw1 : Cn := ⟨true, [], ([192, 0], 0, 0), true, false, 0, Con.zero, false, false⟩
def aw2 : Cn := ⟨true, [], ([], 1, 0), true, false, 15, Con.zero, false, false⟩
def aw3 : Cn := ⟨true, [208, 0], ([], 1, 0), true, false, 15, Con.zero, false, false⟩
theorem aw_feed : cnFeed Cn.new ⟨#[192, 0]⟩ = aw1 := by rfl
theorem aw_next : cnNext aw1 = ((Pac.zero, false, 15), aw2) := by kernel_rfl
theorem aw_put : paPutB (zP 13) = [208, 0] ∧ paPutE (zP 13) = 0 := by decide +kernel
theorem aw_emit : cnEmit aw2 (zP 13) = aw3 := by
  unfold cnEmit
  rw [aw_put.1]
  rfl
theorem aw_ok (w : World) : PacOk w (zP 13) Nl Nl := ⟨⟨Ws.nil _, Is.nil _, by simp [zP, Pac.zero], by simp [zP, Pac.zero]⟩, ⟨Nat.zero_le _, Nat.zero_le _, ⟨Nat.zero_le _, Nat.zero_le _, Nat.zero_le _, Nat.zero_le _, Nat.zero_le _⟩, by simp [zP, Pac.zero]⟩⟩
set_option maxRecDepth 100000 in
set_option maxHeartbeats 8000000 in
theorem awake38_c (w : World) (hF : EnvF w) (hE : EnvU w) : Calls Tryz.prog 9 #[] w fun e w' => e = .returned (.bool true) ∧ Below w.heap.size w w' := by
  have HF := hd hF; have HE := hd hE
  clear hF hE
  go_enter Tryz.func9, Tryz.ntmps9
  go_wp2_with fail
  refine (cnNew_c _).mono ?_
  rintro e w1 ⟨g, c, rfl, h1, hg, b1⟩
  go_wp2_with fail
  refine (cnFeed_c g c _ ⟨#[192, 0]⟩ _ h1 (by decide)).mono ?_
  rintro e w2 ⟨rfl, h2, b2⟩
  rw [aw_feed] at h2
  have B2 := b1.trans (b2.mono hg)
  go_wp2_with fail
  refine (cnNext_c g c aw1 _ h2 (CnEnv.of HF.out HE.out B2 hg) (by decide) (by decide)).mono ?_
  rintro e w3 ⟨vf, vc, rfl, hp3, h3, k3⟩
  rw [aw_next] at h3 hp3
  rw [aw_next]
  simp only at h3 hp3 ⊢
  have gc := h3.gc
  have hl2 := h2.lt
  have B3 := B2.trans (k3.toBelow B2.size (by intro k hk; simp at hk; omega))
  have hone := Pac.one Pac.zero vf vc hp3.rd.f.oneCell hp3.rd.c.oneCell
  have H3 := hd h3
  have hs3 := B3.size
  clear h1 b1 h2 b2 hp3 h3 k3 B2
  go_wp2_with (first
    | (with_reducible refine wpl_alloc (o := ⟨some 2, .alloc 36, _, _, _, _⟩) rfl _ rfl (zK 0) alloc_pac w3.heap.size rfl ?_; intro w4 h4 f4 b4 z4)
    | ((with_reducible refine wpl_at (o := ⟨none, .store 36 (.tmp 2) (.tmp 11), _, _, _, _⟩) ?_); refine wpl_storeAll rfl rfl _ _ _ rfl w3.heap.size (Pac.zero.cells vf vc) (zK 0) rfl rfl info_pac hone h4 rfl f4 ?_; intro w5 h5 f5 k5 z5; have b5 : Below w3.heap.size w3 w5 := b4.trans (k5.toBelow b4.size (by simp)); have H5 := hd (H3.out.grow b5); have B5 := B3.trans (b5.mono hs3); clear h4 f4 b4 z4 h5 f5 k5 b5))
  refine (cnClosed_c g c aw2 _ H5.out).mono ?_
  rintro e w' ⟨rfl, rfl⟩
  have e1 : aw2.closed = false := rfl
  rw [e1]
  go_wp2_with fail
  have hs5 := B5.size
  refine (cnEmit_c g c aw2 (zP 13) Nl Nl _ H5.out (aw_ok _) (HF.out.1.below B5 (Nat.le_refl _)) (HE.out.below B5) (fun _ => rfl) (by decide)).mono ?_
  rintro e w6 ⟨rfl, h6, b6, -⟩
  rw [aw_emit] at h6
  rw [aw_put.2]
  have B6 := B5.trans (b6.mono hg)
  have H6 := hd h6
  clear h6 b6
  go_wp2_with fail
  refine (cnOut_c g c aw3 _ H6.out).mono ?_
  rintro e w7 ⟨rfl, h7, b7⟩
  have B7 := B6.trans (b7.mono hg)
  have e2 : sOf aw3.out = ⟨#[208, 0]⟩ := rfl
  rw [e2]
  go_wp2_with fail
  go_ret
  exact ⟨rfl, B7⟩
end Go.Proofs.YtjlnlgemngpelaaGreatDoor

/- A connection that nobody made: the law. -/
namespace Go.Proofs.YtjlnlgemngpelaaGreatDoor
open Go.RowKit
set_option linter.unusedVariables false
set_option linter.unusedSimpArgs false

def zC : List Value := (⟨true, [], ([], 0, 0), false, false, 0, Con.zero, false, false⟩ : Cn).cells (.pointer none) Nl (.pointer none)
set_option maxRecDepth 100000 in
theorem alloc_conn (W : World) : (Instr.alloc 69 true (.tuple #[])).run Tryz.prog W = .ok (.pointer (some ⟨W.heap.size, 0, none⟩)) (W.alloc (.cells zC.toArray 69)) := by
  simp [Instr.alloc, newVar, go_sem, zC, Cn.cells, Con.zero]
theorem zC_nil {w : World} {b : Nat} (h : At w b zC) : CnNil w (some ⟨b, 0, none⟩) := .inr ⟨b, rfl, h.at 2 rfl⟩
theorem lt_some {w : World} {b : Nat} (h : At w b zC) : ∀ z, some (⟨b, 0, none⟩ : Addr) = some z → z.block < w.heap.size := fun z e => by cases e; exact h.lt
theorem lt_none {w : World} : ∀ z : Addr, (none : Option Addr) = some z → z.block < w.heap.size := fun z e => by cases e
theorem wpl_stillG {P : Program} {w : World} {ops : Array Oper} {rest : List Oper} {o : Oper} {a : Act} {Q : Exit → Act → World → Prop} (hw : Region.wanted o (yielded ops a.tmps) = true) (v : Value) (hv : (execOp a.eval o).run P w = .ok (.value v) w) (h : wpList P ops Q rest (a.put o.dst v) w) : wpList P ops Q (o :: rest) a w :=
  wpList_step fun _ hK => by
    simp only [hw, if_true]
    unfold Oper.wp
    rw [hv]
    exact hK _ _ h
set_option maxRecDepth 100000 in
set_option maxHeartbeats 8000000 in
theorem ConnZero_s (x : ByteArray) (p : Pac) (vf vc : Value) (w : World) (hF : EnvF w) (hE : EnvU w) :
    Calls Tryz.prog 7 #[.string x, .agg (p.cells vf vc).toArray] w fun e w' => e = .returned (.bool true) ∧ Below w.heap.size w w' := by
  have HF := hd hF; have HE := hd hE
  clear hF hE
  have e0 : ((⟨#[]⟩ : ByteArray) ++ ⟨#[]⟩).toList = [] := by rw [ByteArray.toList_eq]; rfl
  go_enter Tryz.func7, Tryz.ntmps7
  go_wp2_with (first
    | (with_reducible refine wpl_box (o := ⟨some 3, .box 36 (.tmp 1), _, _, _, _⟩) rfl _ _ rfl (p.cells vf vc) rfl w.heap.size rfl ?_; intro w1 hp1 f1 b1 z1)
    | (with_reducible refine wpl_alloc (o := ⟨some 6, .alloc 69, _, _, _, _⟩) rfl _ rfl zC alloc_conn (w.heap.size + 1) z1 ?_; intro w2 hz2 f2 b2 z2; have hp2 := hp1.keep b2 (by omega); have B2 : Below w.heap.size w w2 := b1.trans (b2.mono (by omega)); clear hp1 f1 b1 z1 f2 b2))
  refine (cnNextN_c none _ (.inl rfl) lt_none).mono ?_
  rintro e w3 ⟨rfl, b3⟩
  have B3 := Below.up B2 b3; have hp3 := hp2.keep b3 hp2.lt; have hz3 := hz2.keep b3 hz2.lt
  clear B2 hp2 hz2 b3
  go_wp2_with (first
    | (with_reducible refine wpl_alloc (o := ⟨some 7, .alloc 36, _, _, _, _⟩) rfl _ rfl (zK 0) alloc_pac w3.heap.size rfl ?_; intro w4 h4 f4 b4 z4)
    | ((with_reducible refine wpl_at (o := ⟨none, .store 36 (.tmp 7) (.tmp 20), _, _, _, _⟩) ?_); refine wpl_storeAll rfl rfl _ _ _ rfl w3.heap.size (zK 0) (zK 0) rfl rfl info_pac (zK_one 0) h4 rfl f4 ?_; intro w5 h5 f5 k5 z5; have b5 : Below w3.heap.size w3 w5 := b4.trans (k5.toBelow b4.size (by simp)); have B5 := Below.up B3 b5; have hp5 := hp3.keep b5 hp3.lt; have hz5 := hz3.keep b5 hz3.lt; clear h4 f4 b4 z4 h5 f5 k5 z5 b5 B3 hp3 hz3))
  refine (cnNextN_c (some ⟨w.heap.size + 1, 0, none⟩) _ (zC_nil hz5) (lt_some hz5)).mono ?_
  rintro e w6 ⟨rfl, b6⟩
  have B6 := Below.up B5 b6; have hp6 := hp5.keep b6 hp5.lt; have hz6 := hz5.keep b6 hz5.lt
  clear B5 hp5 hz5 b6
  go_wp2_with (first
    | (with_reducible refine wpl_alloc (o := ⟨some 10, .alloc 36, _, _, _, _⟩) rfl _ rfl (zK 0) alloc_pac w6.heap.size rfl ?_; intro w7 h7 f7 b7 z7)
    | ((with_reducible refine wpl_at (o := ⟨none, .store 36 (.tmp 10) (.tmp 25), _, _, _, _⟩) ?_); refine wpl_storeAll rfl rfl _ _ _ rfl w6.heap.size (zK 0) (zK 0) rfl rfl info_pac (zK_one 0) h7 rfl f7 ?_; intro w8 h8 f8 k8 z8; have b8 : Below w6.heap.size w6 w8 := b7.trans (k8.toBelow b7.size (by simp)); have B8 := Below.up B6 b8; have hp8 := hp6.keep b8 hp6.lt; have hz8 := hz6.keep b8 hz6.lt; clear h7 f7 b7 z7 h8 f8 k8 z8 b8 B6 hp6 hz6))
  refine (cnWhoN_c none _ (.inl rfl) lt_none).mono ?_
  rintro e w9 ⟨rfl, b9⟩
  have B9 := Below.up B8 b9; have hp9 := hp8.keep b9 hp8.lt; have hz9 := hz8.keep b9 hz8.lt
  clear B8 hp8 hz8 b9
  go_wp2_with (first
    | (with_reducible refine wpl_alloc (o := ⟨some 13, .alloc 32, _, _, _, _⟩) rfl _ rfl Con.zero.cells cnAlloc_con w9.heap.size rfl ?_; intro w10 h10 f10 b10 z10)
    | ((with_reducible refine wpl_at (o := ⟨none, .store 32 (.tmp 13) (.tmp 31), _, _, _, _⟩) ?_); refine wpl_storeAll rfl rfl _ _ _ rfl w9.heap.size Con.zero.cells Con.zero.cells rfl rfl info_con (Con.one _) h10 rfl f10 ?_; intro w11 h11 f11 k11 z11; have b11 : Below w9.heap.size w9 w11 := b10.trans (k11.toBelow b10.size (by simp)); have B11 := Below.up B9 b11; have hp11 := hp9.keep b11 hp9.lt; have hz11 := hz9.keep b11 hz9.lt; clear h10 f10 b10 z10 h11 f11 k11 z11 b11 B9 hp9 hz9))
  refine (cnWillN_c (some ⟨w.heap.size + 1, 0, none⟩) _ (zC_nil hz11) (lt_some hz11)).mono ?_
  rintro e w12 ⟨rfl, b12⟩
  have B12 := Below.up B11 b12; have hp12 := hp11.keep b12 hp11.lt; have hz12 := hz11.keep b12 hz11.lt
  clear B11 hp11 hz11 b12
  go_wp2_with (first
    | (with_reducible refine wpl_alloc (o := ⟨some 15, .alloc 30, _, _, _, _⟩) rfl _ rfl msg0 cnAlloc_msg w12.heap.size rfl ?_; intro w13 h13 f13 b13 z13)
    | ((with_reducible refine wpl_at (o := ⟨none, .store 30 (.tmp 15) (.tmp 35), _, _, _, _⟩) ?_); refine wpl_storeAll rfl rfl _ _ _ rfl w12.heap.size msg0 msg0 rfl rfl info_msg msg0_one h13 rfl f13 ?_; intro w14 h14 f14 k14 z14; have b14 : Below w12.heap.size w12 w14 := b13.trans (k14.toBelow b13.size (by simp)); have B14 := Below.up B12 b14; have hp14 := hp12.keep b14 hp12.lt; have hz14 := hz12.keep b14 hz12.lt; clear h13 f13 b13 z13 h14 f14 k14 z14 b14 B12 hp12 hz12))
  refine (cnFeedN_c none x _ (.inl rfl)).mono ?_
  rintro e w' ⟨rfl, rfl⟩
  go_wp2_with fail
  refine (cnFeedN_c (some ⟨w.heap.size + 1, 0, none⟩) x _ (zC_nil hz14)).mono ?_
  rintro e w' ⟨rfl, rfl⟩
  simp only [List.append] at *
  go_wp2_with (first
    | ((with_reducible refine wpl_at (o := ⟨some 75, .load 36 (.tmp 3), _, _, _, _⟩) ?_); (refine wpl_loadAtG (by rfl) _ _ rfl w.heap.size 0 rfl (p.cells vf vc) _ hp14.range Tryz.underlying36 rfl info_pac ?_)))
  refine (cnEmitN_c none (p.cells vf vc) _ (.inl rfl) lt_none).mono ?_
  rintro e w15 ⟨rfl, b15⟩
  have B15 := Below.up B14 b15; have hp15 := hp14.keep b15 hp14.lt; have hz15 := hz14.keep b15 hz14.lt
  clear B14 hp14 hz14 b15
  go_wp2_with (first
    | ((with_reducible refine wpl_at (o := ⟨some 82, .load 32 (.tmp 81), _, _, _, _⟩) ?_); (refine wpl_loadAtG (by rfl) _ _ rfl w.heap.size 7 rfl p.c.cells _ (hp15.part 7 (p.con_in vf vc)) Tryz.underlying32 rfl info_con ?_)))
  refine (cnAcceptN_c (some ⟨w.heap.size + 1, 0, none⟩) p.c.cells _ (zC_nil hz15) (lt_some hz15)).mono ?_
  rintro e w16 ⟨rfl, b16⟩
  have B16 := Below.up B15 b16; have hp16 := hp15.keep b16 hp15.lt; have hz16 := hz15.keep b16 hz15.lt
  clear B15 hp15 hz15 b16
  go_wp2_with fail
  refine (cnForgetN_c none _ (.inl rfl) lt_none).mono ?_
  rintro e w17 ⟨rfl, b17⟩
  have B17 := Below.up B16 b17; have hp17 := hp16.keep b17 hp16.lt; have hz17 := hz16.keep b17 hz16.lt
  clear B16 hp16 hz16 b17
  go_wp2_with fail
  refine (cnCloseN_c (some ⟨w.heap.size + 1, 0, none⟩) _ (zC_nil hz17)).mono ?_
  rintro e w' ⟨rfl, rfl⟩
  go_wp2_with fail
  refine (cnClosedN_c none _ (.inl rfl)).mono ?_
  rintro e w' ⟨rfl, rfl⟩
  go_wp2_with fail
  refine (cnClosedN_c (some ⟨w.heap.size + 1, 0, none⟩) _ (zC_nil hz17)).mono ?_
  rintro e w' ⟨rfl, rfl⟩
  go_wp2_with fail
  refine (cnOutN_c none _ (.inl rfl)).mono ?_
  rintro e w' ⟨rfl, rfl⟩
  go_wp2_with fail
  refine (cnOutN_c (some ⟨w.heap.size + 1, 0, none⟩) _ (zC_nil hz17)).mono ?_
  rintro e w' ⟨rfl, rfl⟩
  go_wp2_with fail
  refine (cnWaitsN_c none _ (.inl rfl)).mono ?_
  rintro e w' ⟨rfl, rfl⟩
  go_wp2_with fail
  refine (cnWaitsN_c (some ⟨w.heap.size + 1, 0, none⟩) _ (zC_nil hz17)).mono ?_
  rintro e w' ⟨rfl, rfl⟩
  go_wp2_with fail
  refine (awake38_c _ (HF.out.below B17) (HE.out.below B17)).mono ?_
  rintro e w99 ⟨rfl, b99⟩
  go_wp2_with fail
  go_ret
  exact ⟨rfl, Below.up B17 b99⟩
end Go.Proofs.YtjlnlgemngpelaaGreatDoor

/- The variables of the connection's laws, laid. -/
namespace Go.Proofs.YtjlnlgemngpelaaGreatDoor
open Go.RowKit
def layCn (h : Array Obj) : Array Obj := (layPk h).modify 1 layErr
end Go.Proofs.YtjlnlgemngpelaaGreatDoor
