/- A bundle of texts (merged for the limit on files): Keeps, Blk, RowGen, BirMem, Bir, Bir2, Bir3, Bir4, Bir5, Bir6, Bir7. -/
import Derived.Test.YtclicjokgfiegaaDoorZb10
import Derived.Deep.MidRow
import Derived.Lib.AppendZerosOnto
import Derived.Lib.Overlaps
import Derived.Test.YtclicjokgfiegaaDoorZb3
import Derived.Sort.Walk0
import Derived.Test.YtclicjokgfiegaaDoorZb6
import Derived.Test.YtclicjokgfiegaaDoorZb4
/- A frame: of what was there only the blocks of a list, and new ones, have turned. Of no function of the program. -/
namespace Go.Proofs.YtclicjokgfiegaaDoor
open Go.RowKit
set_option linter.unusedVariables false

structure Keeps (S : List Nat) (w w' : World) : Prop where
  os : w'.os = w.os
  tape : w'.tape = w.tape
  output : w'.output = w.output
  size : w.heap.size ≤ w'.heap.size
  block : ∀ k, k < w.heap.size → k ∉ S → w'.heap[k]? = w.heap[k]?

theorem Keeps.refl (S : List Nat) (w : World) : Keeps S w w := ⟨rfl, rfl, rfl, Nat.le_refl _, fun _ _ _ => rfl⟩
theorem Keeps.trans {S : List Nat} {a b c : World} (h : Keeps S a b) (k : Keeps S b c) : Keeps S a c :=
  ⟨k.os.trans h.os, k.tape.trans h.tape, k.output.trans h.output, Nat.le_trans h.size k.size, fun i hi hn => (k.block i (Nat.lt_of_lt_of_le hi h.size) hn).trans (h.block i hi hn)⟩
theorem Keeps.mono {S S' : List Nat} {w w' : World} (h : Keeps S w w') (hs : ∀ k, k ∈ S → k ∈ S') : Keeps S' w w' :=
  ⟨h.os, h.tape, h.output, h.size, fun k hk hn => h.block k hk (fun hm => hn (hs k hm))⟩
theorem Keeps.below {S : List Nat} {w w' : World} (h : Below w.heap.size w w') : Keeps S w w' := ⟨h.os, h.tape, h.output, h.size, fun k hk _ => h.block k hk⟩
theorem Keeps.alloc {S : List Nat} {a w : World} (h : Keeps S a w) (o : Obj) : Keeps S a (w.alloc o) :=
  h.trans ⟨rfl, rfl, rfl, by simp, fun k hk _ => Below.heap_alloc _ _ _ hk⟩
theorem Keeps.setCell {S : List Nat} {a w : World} (h : Keeps S a w) {p : Addr} (hp : p.block ∈ S ∨ a.heap.size ≤ p.block) (u : Value) : Keeps S a (w.setCell p u) :=
  ⟨h.os, h.tape, h.output, by simpa [World.setCell] using h.size, fun k hk hn => (Below.heap_setCell _ _ _ _ (fun e => by
    rcases hp with hp | hp
    · exact hn (e ▸ hp)
    · omega)).trans (h.block k hk hn)⟩
theorem Keeps.drewN {S : List Nat} {a w : World} (h : Keeps S a w) (n : Nat) : Keeps S a (w.drewN n) := ⟨h.os, h.tape, h.output, h.size, h.block⟩
theorem Keeps.drew {S : List Nat} {a w : World} (h : Keeps S a w) : Keeps S a w.drew := ⟨h.os, h.tape, h.output, h.size, h.block⟩
theorem Keeps.cell {S : List Nat} {w w' : World} (h : Keeps S w w') {b o : Nat} (hb : b < w.heap.size) (hn : b ∉ S) : w'.cell? ⟨b, o, none⟩ = w.cell? ⟨b, o, none⟩ := World.cell?_of_block (w := w) (h.block b hb hn)
theorem Keeps.free {S : List Nat} {w w' : World} (h : Keeps S w w') {b o : Nat} (hb : b < w.heap.size) (hn : b ∉ S) : w'.frozen? ⟨b, o, none⟩ = w.frozen? ⟨b, o, none⟩ := World.frozen?_of_block (w := w) (h.block b hb hn)
/-- What a call that makes nothing turn below its own start leaves of it all. -/
theorem Keeps.toBelow {S : List Nat} {B : Nat} {w w' : World} (h : Keeps S w w') (hB : B ≤ w.heap.size) (hS : ∀ k, k ∈ S → B ≤ k) : Below B w w' :=
  ⟨h.os, h.tape, h.output, h.size, fun k hk => h.block k (by omega) (fun hm => by have := hS k hm; omega)⟩

/-- A slice that points into none of these blocks. -/
def OutOf (v : Value) (S : List Nat) : Prop := ∀ a n c, v = .slice (some a) n c → a.block ∉ S
theorem Rd.keeps {S : List Nat} {w w' : World} {v : Value} {n : Nat} {xs : List Value} (h : Rd w v n xs) (hk : Keeps S w w') (ho : OutOf v S) : Rd w' v n xs := by
  by_cases hx : xs = []
  · subst hx
    obtain ⟨a, c, rfl, h1, h2, h3, h4⟩ := h
    exact ⟨a, c, rfl, h1, h2, h3, fun ad _ j u hu => by simp at hu⟩
  · have hblk := h.block hx
    obtain ⟨a, c, rfl, h1, h2, h3, h4⟩ := h
    refine ⟨a, c, rfl, h1, h2, h3, fun ad had j u hu => ?_⟩
    subst had
    have hlt := hblk ad _ _ rfl
    have hno := ho ad _ _ rfl
    have e : w'.cell? (ad.add j) = w.cell? (ad.add j) := World.cell?_of_block (w := w) (by
      have : (ad.add j).block = ad.block := by unfold Addr.add; split <;> rfl
      rw [this]
      exact hk.block _ hlt hno)
    rw [e]
    exact h4 ad rfl j u hu
theorem Bs.keeps {S : List Nat} {w w' : World} {v : Value} {l : List UInt8} (h : Bs w v l) (hk : Keeps S w w') (ho : OutOf v S) : Bs w' v l := Rd.keeps h hk ho
end Go.Proofs.YtclicjokgfiegaaDoor

/- Rows that may grow: which block they lie in. Of no function of the program. -/
namespace Go.Proofs.YtclicjokgfiegaaDoor
open Go.RowKit
set_option linter.unusedVariables false
set_option linter.unusedSimpArgs false

/-! ### Rows that may grow: which block they lie in -/
def blk (v : Value) : List Nat := v.ownBlock.toList
theorem Keeps.next {S T : List Nat} {a b c : World} (h : Keeps S a b) (k : Keeps T b c) (hT : ∀ i, i ∈ T → i ∈ S ∨ a.heap.size ≤ i) : Keeps S a c :=
  ⟨k.os.trans h.os, k.tape.trans h.tape, k.output.trans h.output, Nat.le_trans h.size k.size, fun i hi hn => (k.block i (Nat.lt_of_lt_of_le hi h.size) (fun hm => by
    rcases hT i hm with h1 | h1
    · exact hn h1
    · omega)).trans (h.block i hi hn)⟩
theorem Keeps.row {S : List Nat} {w w' : World} {e size n : Nat} {v : Value} {xs : List Value} (hk : Keeps S w w') (h : w.ownsRow 0 e size v n xs) (ho : ∀ k, k ∈ blk v → k ∉ S) : w'.ownsRow 0 e size v n xs := by
  refine ⟨h.1, ?_⟩
  rcases h.2 with h0 | ⟨g, cap, cur, rfl, h1, h2, h3⟩
  · exact .inl h0
  · exact .inr ⟨g, cap, cur, rfl, h1, by rw [hk.block g (Array.getElem?_eq_some_iff.1 h2).1 (ho g (by simp [blk, Value.ownBlock]))]; exact h2, h3⟩
theorem blk_lt {w : World} {B e size n : Nat} {v : Value} {xs : List Value} (h : w.ownsRow B e size v n xs) {k : Nat} (hk : k ∈ blk v) : k < w.heap.size := (h.lt k (by simpa [blk] using hk)).2

theorem app_block {P : Program} (w : World) (t ty e : TypeId) (i : TypeInfo) (z : Value) (size bytes : Nat) (ht : P.underlying t = some (.slice e)) (hi : P.info? e = some i) (hz : i.zero = some z)
    (hsize : i.size = size) (hby : i.bytes = bytes) (hzs : z.cells.size = size) (hsz : 0 < size)
    (v : Value) (n : Nat) (xs : List Value) (hown : w.ownsRow 0 e size v n xs)
    (a : Addr) (m c : Nat) (news : List Value) (hl : news.length = m * size) (hnews : ∀ j u, news[j]? = some u → w.cell? (a.add j) = some u) (h1 : ∀ u ∈ news, u.oneCell' = true)
    (h63 : n + m ≤ maxLen) (hbytes : (n + m) * bytes ≤ 140737488355328) :
    ∃ v' w', (Builtin.append_ #[t, t] ty #[v, .slice (some a) m c]).run P w = .ok v' w' ∧ w'.ownsRow 0 e size v' (n + m) (xs ++ news) ∧ Keeps (blk v) w w' ∧ (∀ k, k ∈ blk v' → k ∈ blk v ∨ w.heap.size ≤ k) := by
  obtain ⟨v', w', hr, h2, h3, -⟩ := run_append_own (P := P) w 0 t ty e i z size bytes ht hi hz hsize hby hzs hsz v n xs hown a m c news hl hnews h1 h63 hbytes (Nat.zero_le _)
  refine ⟨v', w', hr, h2, ⟨h3.os, h3.tape, h3.output, h3.size, fun k hk hn => h3.block k hk (fun e => hn (by unfold blk; rw [← e]; simp))⟩, ?_⟩
  intro k hk
  have hk' : v'.ownBlock = some k := by simpa [blk] using hk
  rcases hown.2 with ⟨rfl, rfl⟩ | ⟨g, cap, cur, rfl, hbg, hg, hnc, hcm, hcs, htake⟩
  · right
    have hx : xs = [] := List.eq_nil_of_length_eq_zero (by simpa using hown.1)
    subst hx
    obtain ⟨v2, w2, hr2, h22, -⟩ := run_append_own (P := P) w w.heap.size t ty e i z size bytes ht hi hz hsize hby hzs hsz (.slice none 0 0) 0 [] (World.ownsRow_nil _ _ _ _) a m c news hl hnews h1 h63 hbytes (Nat.le_refl _)
    rw [hr] at hr2
    cases hr2
    exact (h22.lt k hk').1
  · subst hsize
    have hsmall : n + m ≤ 9223372036854775807 := by simp only [maxLen] at h63; omega
    by_cases hroom : n + m ≤ cap
    · left
      have hfit : n * i.size + news.length ≤ cur.size := by rw [hl, hcs, ← Nat.add_mul]; exact Nat.mul_le_mul_right _ hroom
      have hr2 := run_append_room (P := P) w t ty e i ht hi g n cap cur hg a m c news hl hnews h1 hroom hfit
      rw [hr] at hr2
      cases hr2
      simpa [blk, Value.ownBlock] using hk'.symm
    · right
      have holds : ∀ j u, xs[j]? = some u → w.cell? ((⟨g, 0, none⟩ : Addr).add j) = some u := hown.cells (g := g) rfl
      subst hby
      have hr2 := run_append_grow (P := P) w t ty e i z ht hi hz ⟨g, 0, none⟩ n cap xs hown.1 holds a m c news hl hnews (by omega) (by omega) (growslice_fits (by omega) hbytes)
      rw [hr] at hr2
      cases hr2
      simp only [Value.ownBlock, Option.some.injEq] at hk'
      omega
end Go.Proofs.YtclicjokgfiegaaDoor

/- Rows of structs that lie whole in a block: what stores, copies, clears make of them. Of no function of the program. -/
namespace Go.Proofs.YtclicjokgfiegaaDoor
open Go.RowKit
set_option linter.unusedVariables false
set_option linter.unusedSimpArgs false

/-- A block of so many cells of a type, none of them frozen. -/
def RowIn (w : World) (g : Nat) (e : TypeId) (tot : Nat) : Prop := ∃ cur, w.heap[g]? = some (.cells cur e (0, 0)) ∧ cur.size = tot
theorem RowIn.lt {w : World} {g : Nat} {e : TypeId} {tot : Nat} (h : RowIn w g e tot) : g < w.heap.size := by
  obtain ⟨cur, h1, _⟩ := h; exact (Array.getElem?_eq_some_iff.1 h1).1
theorem RowIn.shape {w : World} {g : Nat} {e : TypeId} {tot : Nat} (h : RowIn w g e tot) : w.shape? g = some (e, tot) := by
  obtain ⟨cur, h1, rfl⟩ := h; simp [World.shape?, h1]
theorem RowIn.frozen {w : World} {g : Nat} {e : TypeId} {tot : Nat} (h : RowIn w g e tot) (o : Nat) : w.frozen? ⟨g, o, none⟩ = false := by
  obtain ⟨cur, h1, rfl⟩ := h; simp [World.frozen?, h1]
theorem RowIn.there {w : World} {g : Nat} {e : TypeId} {tot : Nat} (h : RowIn w g e tot) {o n : Nat} (hn : o + n ≤ tot) : w.there g o n := fun j hj => by
  refine ⟨?_, h.frozen _⟩
  obtain ⟨cur, h1, rfl⟩ := h
  have : o + j < cur.size := by omega
  simp [World.cell?, h1, this]
theorem RowIn.setCell {w : World} {g : Nat} {e : TypeId} {tot : Nat} (h : RowIn w g e tot) (p : Addr) (v : Value) : RowIn (w.setCell p v) g e tot := by
  obtain ⟨cur, h1, rfl⟩ := h
  by_cases hp : p.block = g
  · subst hp
    refine ⟨if p.spot.isSome then cur else cur.setIfInBounds p.off v, ?_, by split <;> simp⟩
    simp [World.setCell, Array.getElem?_modify, h1]
  · exact ⟨cur, by rw [Below.heap_setCell _ _ _ _ (fun e => hp e.symm)]; exact h1, rfl⟩
theorem RowIn.setCells {g : Nat} {e : TypeId} {tot : Nat} (b : Nat) : ∀ (vs : List Value) (o : Nat) {w : World}, RowIn w g e tot → RowIn (w.setCells b o vs) g e tot
  | [], _, _, h => h
  | v :: r, o, w, h => by rw [World.setCells]; exact RowIn.setCells b r _ (h.setCell _ v)
theorem RowIn.keeps {S : List Nat} {w w' : World} {g : Nat} {e : TypeId} {tot : Nat} (h : RowIn w g e tot) (hk : Keeps S w w') (hn : g ∉ S) : RowIn w' g e tot := by
  have hl := h.lt
  obtain ⟨cur, h1, h2⟩ := h
  exact ⟨cur, by rw [hk.block g hl hn]; exact h1, h2⟩
theorem RowIn.below {B : Nat} {w w' : World} {g : Nat} {e : TypeId} {tot : Nat} (h : RowIn w g e tot) (hb : Below B w w') (hB : g < B) : RowIn w' g e tot := by
  obtain ⟨cur, h1, h2⟩ := h
  exact ⟨cur, by rw [hb.block g hB]; exact h1, h2⟩
theorem RowIn.drewN {w : World} {g : Nat} {e : TypeId} {tot : Nat} (h : RowIn w g e tot) (n : Nat) : RowIn (w.drewN n) g e tot := h
theorem RowIn.drew {w : World} {g : Nat} {e : TypeId} {tot : Nat} (h : RowIn w g e tot) : RowIn w.drew g e tot := h
theorem RowIn.new (w : World) (cs : Array Value) (e : TypeId) : RowIn (w.alloc (.cells cs e)) w.heap.size e cs.size := ⟨cs, heap_alloc_new w _, rfl⟩
theorem owns_in {w : World} {B e size n g cap : Nat} {o : Nat} {xs : List Value} (h : w.ownsRow B e size (.slice (some ⟨g, o, none⟩) n cap) n xs) :
    o = 0 ∧ RowIn w g e (cap * size) ∧ w.rangeAt g 0 xs ∧ n ≤ cap ∧ cap ≤ maxLen ∧ B ≤ g ∧ xs.length = n * size := by
  have hl := h.1
  rcases h.2 with ⟨h0, _⟩ | ⟨g', cap', cur, hv, hb, hg, hn, hm, hs, ht⟩
  · cases h0
  · cases hv
    refine ⟨rfl, ⟨cur, hg, hs⟩, fun j v hv => ?_, hn, hm, hb, hl⟩
    have := World.ownsRow.cells h rfl j v hv
    rw [Addr.add_mid] at this
    exact this
theorem in_owns {w : World} {B e size n g cap : Nat} {xs : List Value} (h : RowIn w g e (cap * size)) (hr : w.rangeAt g 0 xs) (hl : xs.length = n * size) (hn : n ≤ cap) (hm : cap ≤ maxLen) (hB : B ≤ g) :
    w.ownsRow B e size (.slice (some ⟨g, 0, none⟩) n cap) n xs := by
  obtain ⟨cur, h1, h2⟩ := h
  refine ⟨hl, .inr ⟨g, cap, cur, rfl, hB, h1, hn, hm, h2, ?_⟩⟩
  apply List.ext_getElem?
  intro j
  by_cases hj : j < n * size
  · have hx : xs[j]? = some (xs[j]'(by omega)) := List.getElem?_eq_getElem _
    have := hr j _ hx
    rw [Nat.zero_add] at this
    simp only [World.cell?, h1] at this
    rw [List.getElem?_take_of_lt hj, hx]
    simpa using this
  · rw [List.getElem?_eq_none (by simp; omega), List.getElem?_eq_none (by omega)]

theorem scells_size (b : Nat) : ∀ (vs : List Value) (o : Nat) (w : World), (w.setCells b o vs).heap.size = w.heap.size
  | [], _, _ => rfl
  | v :: r, o, w => by rw [World.setCells, scells_size b r]; simp [go_sem]
theorem keeps_scells (b : Nat) : ∀ (vs : List Value) (o : Nat) (w a : World), Keeps [b] a w → Keeps [b] a (w.setCells b o vs)
  | [], _, _, _, h => h
  | v :: r, o, w, a, h => by rw [World.setCells]; exact keeps_scells b r _ _ a (h.setCell (.inl (by simp)) v)
theorem keeps_scells1 (b o : Nat) (vs : List Value) (w : World) : Keeps [b] w (w.setCells b o vs) := keeps_scells b vs o w w (Keeps.refl _ _)

/-- copy(d, s), elements of whatever size, both in memory: all is read before anything is written. -/
theorem run_copyK {P : Program} (w : World) (dT sT ty elem : TypeId) (K b o dLen dCap : Nat) (a : Addr) (sLen sCap : Nat) (cs : List Value)
    (hu : P.underlying dT = some (.slice elem)) (hs : (P.info? elem).map (·.size) = some K) (hn : cs.length = Nat.min sLen dLen * K)
    (hsrc : ∀ j v, cs[j]? = some v → w.cell? (a.add j) = some v) (ht : w.there b o cs.length) (h1 : ∀ v ∈ cs, v.oneCell' = true) :
    (Builtin.copy_ #[dT, sT] ty #[.slice (some ⟨b, o, none⟩) dLen dCap, .slice (some a) sLen sCap]).run P w = .ok (goInt (Nat.min sLen dLen)) (w.setCells b o cs) := by
  have hl := run_loadCells_list (P := P) w a cs hsrc
  have hst := run_storeCells_cells (P := P) b o cs 0 w (by intro j hj; simpa using (ht j hj).1) (by intro j hj; simpa using (ht j hj).2) h1
  rw [hn] at hl
  cases hq : P.info? elem with
  | none => simp [hq] at hs
  | some i =>
    have hi : i.size = K := by simpa [hq] using hs
    simp [Builtin.copy_, run_underlying hu, Builtin.lenOf, Builtin.firstCells, sizeOf, typeInfo, hq, hi, hl, hst]

def zeros (z : List Value) : Nat → List Value
  | 0 => []
  | n + 1 => z ++ zeros z n
theorem zeros_len (z : List Value) : ∀ n, (zeros z n).length = n * z.length
  | 0 => by simp [zeros]
  | n + 1 => by simp [zeros, zeros_len z n, Nat.add_mul]; omega
/-- clear(s): nothing of a slice's memory is known behind it but that it is there. -/
theorem run_clearK {P : Program} (w : World) (t e ty : TypeId) (z : Value) (ht : P.underlying t = some (.slice e)) (hv : ∀ w, (zeroValue e).run P w = .ok z w) (K : Nat) (hz : z.cells.size = K) (h1 : ∀ v ∈ z.cells.toList, v.oneCell' = true) (b o n c : Nat)
    (hth : w.there b o (n * K)) : ∃ zs : List Value, zs.length = n * K ∧ (Builtin.clear_ #[t] ty #[.slice (some ⟨b, o, none⟩) n c]).run P w = .ok (.tuple #[]) (w.setCells b o zs) := by
  cases n with
  | zero => exact ⟨[], by simp, by simp [Builtin.clear_, run_underlying ht, World.setCells]⟩
  | succ n =>
    refine ⟨(Builtin.zeroCells z.cells (n + 1)).toList, by simp [Builtin.zeroCells, hz], ?_⟩
    have hone : ∀ v ∈ (Builtin.zeroCells z.cells (n + 1)).toList, v.oneCell' = true := by
      intro v hv
      simp only [Builtin.zeroCells, Array.toList_map, List.mem_map, Array.toList_range, List.mem_range] at hv
      obtain ⟨i, hi, rfl⟩ := hv
      have hK : 0 < z.cells.size := by
        rcases Nat.eq_zero_or_pos z.cells.size with h0 | h0
        · rw [h0] at hi; omega
        · exact h0
      have hlt : i % z.cells.size < z.cells.size := Nat.mod_lt _ hK
      refine h1 _ ?_
      simp [hlt]
    have hst := run_storeCells_cells (P := P) b o (Builtin.zeroCells z.cells (n + 1)).toList 0 w (by intro j hj; simpa using (hth j (by simpa [Builtin.zeroCells, hz] using hj)).1) (by intro j hj; simpa using (hth j (by simpa [Builtin.zeroCells, hz] using hj)).2) hone
    simp only [Nat.add_zero] at hst
    simp [Builtin.clear_, run_underlying ht, hv, hst]
/-- copy and clear whose runs are known. -/
theorem wpl_copy {P : Program} {w : World} {ops : Array Oper} {rest : List Oper} {o : Oper} {a : Act} {Q : Exit → Act → World → Prop} (hgd : o.guard = none) (d s : Operand) (t t' : TypeId)
    (ho : o.op = .call { callee := .builtin .copy, args := #[d, s], argTypes := #[t, t'] }) (v u : Value) (hd : a.eval d = v) (hs : a.eval s = u) {v' : Value} {w' : World}
    (hr : (Builtin.copy_ #[t, t'] o.type #[v, u]).run P w = .ok v' w') (h : wpList P ops Q rest (a.put o.dst v') w') : wpList P ops Q (o :: rest) a w := by
  refine wpList_plain hgd fun K hK => ?_
  unfold Oper.wp execOp
  simp only [ho, resolve, invoke, builtin, Sem.run_bind, Sem.run_pure, Result.andThen_ok, List.map_toArray, List.map_cons, List.map_nil, hd, hs, hr]
  exact hK _ _ h
theorem wpl_clear {P : Program} {w : World} {ops : Array Oper} {rest : List Oper} {o : Oper} {a : Act} {Q : Exit → Act → World → Prop} (hgd : o.guard = none) (s : Operand) (t : TypeId)
    (ho : o.op = .call { callee := .builtin .clear, args := #[s], argTypes := #[t] }) (u : Value) (hs : a.eval s = u) {v' : Value} {w' : World}
    (hr : (Builtin.clear_ #[t] o.type #[u]).run P w = .ok v' w') (h : wpList P ops Q rest (a.put o.dst v') w') : wpList P ops Q (o :: rest) a w := by
  refine wpList_plain hgd fun K hK => ?_
  unfold Oper.wp execOp
  simp only [ho, resolve, invoke, builtin, Sem.run_bind, Sem.run_pure, Result.andThen_ok, List.map_toArray, List.map_cons, List.map_nil, hs, hr]
  exact hK _ _ h
end Go.Proofs.YtclicjokgfiegaaDoor

/- Births: how they lie in memory. -/
namespace Go.Proofs.YtclicjokgfiegaaDoor
open Go.RowKit
set_option linter.unusedVariables false
set_option linter.unusedSimpArgs false

def birV (x : Bir) : List Value := [.string (sOf x.1.1), .string (sOf x.1.2), .string x.2]
def rkC (k : Rk) : List Value := [.string (sOf k.1), .string (sOf k.2)]
def rkV (k : Rk) : Value := .agg #[.string (sOf k.1), .string (sOf k.2)]
def birs (l : List Bir) : List Value := l.flatMap birV
theorem birV_len (x : Bir) : (birV x).length = 3 := rfl
theorem birs_cons (x : Bir) (l : List Bir) : birs (x :: l) = birV x ++ birs l := by simp [birs]
theorem birs_append (a b : List Bir) : birs (a ++ b) = birs a ++ birs b := by simp [birs]
theorem birs_len : ∀ l : List Bir, (birs l).length = l.length * 3
  | [] => rfl
  | x :: t => by rw [birs_cons, List.length_append, birV_len, birs_len t, List.length_cons]; omega
theorem birV_one (x : Bir) : ∀ v ∈ birV x, v.oneCell' = true := by
  intro v hv
  have : (birV x).all (·.oneCell') = true := rfl
  exact (List.all_eq_true.1 this) v hv
theorem birs_one : ∀ l : List Bir, ∀ v ∈ birs l, v.oneCell' = true
  | [], v, h => by simp [birs] at h
  | x :: t, v, h => by
    rw [birs_cons, List.mem_append] at h
    rcases h with h | h
    · exact birV_one x v h
    · exact birs_one t v h
theorem birs_at : ∀ (l : List Bir) (k : Nat) (x : Bir), l[k]? = some x → ∀ j v, (birV x)[j]? = some v → (birs l)[k * 3 + j]? = some v
  | [], k, x, h => by simp at h
  | y :: t, 0, x, h => by
    intro j v hv
    simp only [List.getElem?_cons_zero, Option.some.injEq] at h
    subst h
    rw [birs_cons, Nat.zero_mul, Nat.zero_add, List.getElem?_append_left (List.getElem?_eq_some_iff.1 hv).1]
    exact hv
  | y :: t, k + 1, x, h => by
    intro j v hv
    rw [List.getElem?_cons_succ] at h
    have := birs_at t k x h j v hv
    rw [birs_cons, List.getElem?_append_right (by rw [birV_len]; omega), birV_len, show (k + 1) * 3 + j - 3 = k * 3 + j by omega]
    exact this
theorem birs_drop (l : List Bir) (k : Nat) : birs (l.drop k) = (birs l).drop (k * 3) := by
  induction l generalizing k with
  | nil => simp [birs]
  | cons x t ih =>
    cases k with
    | zero => simp
    | succ k =>
      rw [List.drop_succ_cons, ih, birs_cons, show (k + 1) * 3 = 3 + k * 3 by omega, ← List.drop_drop]
      rfl
theorem birs_take (l : List Bir) (k : Nat) : birs (l.take k) = (birs l).take (k * 3) := by
  induction l generalizing k with
  | nil => simp [birs]
  | cons x t ih =>
    cases k with
    | zero => simp [birs]
    | succ k =>
      rw [List.take_succ_cons, birs_cons, ih, birs_cons, show (k + 1) * 3 = 3 + k * 3 by omega, List.take_add]
      rfl
/-- The cells of the birth at a place. -/
theorem bir_cells {w : World} {g o : Nat} {l : List Bir} (h : w.rangeAt g o (birs l)) {k : Nat} {x : Bir} (hk : l[k]? = some x) :
    w.cell? ⟨g, o + k * 3, none⟩ = some (.string (sOf x.1.1)) ∧ w.cell? ⟨g, o + k * 3 + 1, none⟩ = some (.string (sOf x.1.2)) ∧ w.cell? ⟨g, o + k * 3 + 2, none⟩ = some (.string x.2) := by
  have hb := birs_at l k x hk
  refine ⟨?_, ?_, ?_⟩
  · have := h _ _ (hb 0 _ rfl); rwa [Nat.add_zero] at this
  · have := h _ _ (hb 1 _ rfl); rwa [← Nat.add_assoc] at this
  · have := h _ _ (hb 2 _ rfl); rwa [← Nat.add_assoc] at this
theorem bir_range {w : World} {g o : Nat} {l : List Bir} (h : w.rangeAt g o (birs l)) {k : Nat} {x : Bir} (hk : l[k]? = some x) : w.rangeAt g (o + k * 3) (birV x) := fun j v hv => by
  have := h _ _ (birs_at l k x hk j v hv); rwa [← Nat.add_assoc] at this
theorem range_drop {w : World} {g o : Nat} {l : List Bir} (h : w.rangeAt g o (birs l)) (k : Nat) : w.rangeAt g (o + k * 3) (birs (l.drop k)) := fun j v hv => by
  rw [birs_drop, List.getElem?_drop] at hv
  have := h _ _ hv
  rwa [← Nat.add_assoc] at this
theorem range_take {w : World} {g o : Nat} {l : List Bir} (h : w.rangeAt g o (birs l)) (k : Nat) : w.rangeAt g o (birs (l.take k)) := fun j v hv => by
  rw [birs_take, List.getElem?_take] at hv
  split at hv
  · exact h _ _ hv
  · cases hv
theorem range_snoc {w : World} {g o : Nat} {l : List Bir} {x : Bir} (h : w.rangeAt g o (birs l)) (hx : w.rangeAt g (o + l.length * 3) (birV x)) : w.rangeAt g o (birs (l ++ [x])) := fun j v hv => by
  rw [birs_append] at hv
  by_cases hj : j < (birs l).length
  · rw [List.getElem?_append_left hj] at hv
    exact h _ _ hv
  · rw [List.getElem?_append_right (by omega)] at hv
    have hv2 : (birV x)[j - (birs l).length]? = some v := by simpa [birs] using hv
    have := hx _ _ hv2
    rw [birs_len] at this hj
    rwa [show o + l.length * 3 + (j - l.length * 3) = o + j by omega] at this
theorem range_cat {w : World} {g o : Nat} {a b : List Bir} (h : w.rangeAt g o (birs a)) (hx : w.rangeAt g (o + a.length * 3) (birs b)) : w.rangeAt g o (birs (a ++ b)) := fun j v hv => by
  rw [birs_append] at hv
  by_cases hj : j < (birs a).length
  · rw [List.getElem?_append_left hj] at hv
    exact h _ _ hv
  · rw [List.getElem?_append_right (by omega)] at hv
    have := hx _ _ hv
    rw [birs_len] at this hj
    rwa [show o + a.length * 3 + (j - a.length * 3) = o + j by omega] at this
theorem rangeK {S : List Nat} {w w' : World} {b o : Nat} {l : List Value} (h : w.rangeAt b o l) (hk : Keeps S w w') (hlt : b < w.heap.size) (hn : b ∉ S) : w'.rangeAt b o l := fun j v hv => (hk.cell hlt hn).trans (h j v hv)
theorem rangeB {B : Nat} {w w' : World} {b o : Nat} {l : List Value} (h : w.rangeAt b o l) (hb : Below B w w') (hB : b < B) : w'.rangeAt b o l := fun j v hv => (bcell hb _ _ hB).trans (h j v hv)

def OwnB (w : World) (v : Value) (l : List Bir) : Prop := w.ownsRow 0 111 3 v l.length (birs l)
theorem OwnB.nil (w : World) : OwnB w (.slice none 0 0) [] := ⟨rfl, .inl ⟨rfl, rfl⟩⟩
theorem OwnB.keeps {S : List Nat} {w w' : World} {v : Value} {l : List Bir} (h : OwnB w v l) (hk : Keeps S w w') (ho : ∀ k, k ∈ blk v → k ∉ S) : OwnB w' v l := hk.row h ho
theorem OwnB.below {w w' : World} {v : Value} {l : List Bir} (h : OwnB w v l) (hb : Below w.heap.size w w') : OwnB w' v l := h.keeps (S := []) (Keeps.below hb) (fun _ _ => by simp)
theorem OwnB.lt {w : World} {v : Value} {l : List Bir} (h : OwnB w v l) {k : Nat} (hk : k ∈ blk v) : k < w.heap.size := blk_lt h hk
/-- The row is nil, or it lies in a block of its own. -/
theorem OwnB.split {w : World} {v : Value} {l : List Bir} (h : OwnB w v l) : (v = .slice none 0 0 ∧ l = []) ∨
    ∃ g cap, v = .slice (some ⟨g, 0, none⟩) l.length cap ∧ RowIn w g 111 (cap * 3) ∧ w.rangeAt g 0 (birs l) ∧ l.length ≤ cap ∧ cap ≤ maxLen ∧ blk v = [g] := by
  rcases h.2 with ⟨rfl, h0⟩ | ⟨g, cap, cur, rfl, _⟩
  · exact .inl ⟨rfl, List.eq_nil_of_length_eq_zero h0⟩
  · obtain ⟨_, h1, h2, h3, h4, _, _⟩ := owns_in h
    exact .inr ⟨g, cap, rfl, h1, h2, h3, h4, rfl⟩
theorem OwnB.mk {w : World} {g cap : Nat} {l : List Bir} (h : RowIn w g 111 (cap * 3)) (hr : w.rangeAt g 0 (birs l)) (hn : l.length ≤ cap) (hm : cap ≤ maxLen) : OwnB w (.slice (some ⟨g, 0, none⟩) l.length cap) l :=
  in_owns h hr (birs_len l) hn hm (Nat.zero_le _)
theorem OwnB.slice {w : World} {v : Value} {l : List Bir} (h : OwnB w v l) : ∃ a c, v = .slice a l.length c := Owns.slice h
theorem info_bir : (Tryd.prog.info? 111).map (fun i => (i.zero, i.size, i.bytes)) = some (some (.agg #[.string ⟨#[]⟩, .string ⟨#[]⟩, .string ⟨#[]⟩]), 3, 48) := by kernel_rfl
theorem info_bir3 : (Tryd.prog.info? 111).map (·.size) = some 3 := by kernel_rfl

/-- An object of births. -/
structure BsAt (w : World) (g : Nat) (v : Value) (l : List Bir) : Prop where
  c0 : w.cell? ⟨g, 0, none⟩ = some v
  c1 : w.cell? ⟨g, 1, none⟩ = some (.bool true)
  f0 : w.frozen? ⟨g, 0, none⟩ = false
  own : OwnB w v l
  ne : g ∉ blk v
  lt : g < w.heap.size
theorem BsAt.keeps {S : List Nat} {w w' : World} {g : Nat} {v : Value} {l : List Bir} (h : BsAt w g v l) (hk : Keeps S w w') (hg : g ∉ S) (hv : ∀ k, k ∈ blk v → k ∉ S) : BsAt w' g v l :=
  ⟨(hk.cell h.lt hg).trans h.c0, (hk.cell h.lt hg).trans h.c1, (hk.free h.lt hg).trans h.f0, h.own.keeps hk hv, h.ne, Nat.lt_of_lt_of_le h.lt hk.size⟩
theorem BsAt.below {w w' : World} {g : Nat} {v : Value} {l : List Bir} (h : BsAt w g v l) (hb : Below w.heap.size w w') : BsAt w' g v l := h.keeps (S := []) (Keeps.below hb) (by simp) (fun _ _ => by simp)
/-- What a call leaves that may have turned births. -/
structure Bd (w : World) (g : Nat) (v : Value) (v' : Value) (l' : List Bir) (w' : World) : Prop where
  at' : BsAt w' g v' l'
  keeps : Keeps (g :: blk v) w w'
  new : ∀ k, k ∈ blk v' → k ∈ blk v ∨ w.heap.size ≤ k
end Go.Proofs.YtclicjokgfiegaaDoor

/- Births: the small functions: the walks. -/
namespace Go.Proofs.YtclicjokgfiegaaDoor
open Go.RowKit
set_option linter.unusedVariables false
set_option linter.unusedSimpArgs false

set_option maxRecDepth 100000 in
theorem isNaN_c (s : ByteArray) (w : World) : Calls Tryd.prog 142 #[.string s] w fun e w' => e = .returned (.bool false) ∧ w = w' := by
  go_enter Tryd.func142, Tryd.ntmps142
  go_wp2_with fail
  go_ret
  exact ⟨ret_bool (by simp), rfl⟩
def cmpB (a b : List UInt8) : Int := if a < b then -1 else if b < a then 1 else 0
set_option maxRecDepth 100000 in
theorem Compare_c (a b : List UInt8) (w : World) : Calls Tryd.prog 94 #[.string (sOf a), .string (sOf b)] w fun e w' => e = .returned (.int .i64 (cmpB a b)) ∧ w = w' := by
  have ha := toList_sOf a; have hb := toList_sOf b
  have hn := fun s W => isNaN_c s W
  obtain ⟨r, hr⟩ : ∃ r, cmpB a b = r := ⟨_, rfl⟩
  rw [hr]
  unfold cmpB at hr
  have HR := hd hr
  clear hr
  by_cases h1 : a < b
  · have h2 : Op.bytesLess a b = true := by rw [Go.Proofs.bytesLess_eq]; simpa using h1
    go_enter Tryd.func94, Tryd.ntmps94
    go_wp2_with (first | (go_at_call 142; refine (hn _ _).mono ?_; rintro e w' ⟨rfl, rfl⟩))
    go_ret
    have := HR.out
    rw [if_pos h1] at this
    exact ⟨ret_int this, rfl⟩
  have h2 : Op.bytesLess a b = false := by rw [Go.Proofs.bytesLess_eq]; simpa using h1
  by_cases h3 : b < a
  · have h4 : (a == b) = false := by rw [beq_eq_false_iff_ne]; intro e; subst e; exact l_irr _ h3
    go_enter Tryd.func94, Tryd.ntmps94
    go_wp2_with (first | (go_at_call 142; refine (hn _ _).mono ?_; rintro e w' ⟨rfl, rfl⟩))
    go_ret
    have := HR.out
    rw [if_neg h1, if_pos h3] at this
    exact ⟨ret_int this, rfl⟩
  · have h5 : a = b := by
      rcases l_tri a b with h | h | h
      · exact absurd h h1
      · exact h
      · exact absurd h h3
    subst h5
    have h4 : (a == a) = true := by simp
    go_enter Tryd.func94, Tryd.ntmps94
    go_wp2_with (first | (go_at_call 142; refine (hn _ _).mono ?_; rintro e w' ⟨rfl, rfl⟩))
    go_ret
    have := HR.out
    rw [if_neg h1, if_neg h3] at this
    exact ⟨ret_int this, rfl⟩
def orB (x y : Int) : Int := if x ≠ 0 then x else y
set_option maxRecDepth 100000 in
theorem Or_c (x y : Int) (g : Nat) (w : World) (h0 : w.cell? ⟨g, 0, none⟩ = some (.int .i64 x)) (h1 : w.cell? ⟨g, 1, none⟩ = some (.int .i64 y)) :
    Calls Tryd.prog 93 #[.slice (some ⟨g, 0, none⟩) 2 2] w fun e w' => e = .returned (.int .i64 (orB x y)) ∧ w = w' := by
  obtain ⟨r, hr⟩ : ∃ r, orB x y = r := ⟨_, rfl⟩
  rw [hr]
  unfold orB at hr
  have HR := hd hr
  clear hr
  go_enter Tryd.func93, Tryd.ntmps93
  go_wp2_with fail
  go_loopw [8] (fun i w' => w = w' ∧ (i = .int .i64 0 ∨ (i = .int .i64 1 ∧ x = 0) ∨ (i = .int .i64 2 ∧ x = 0 ∧ y = 0))) (fun i _ => match i with | .int _ m => 2 - m.toNat | _ => 0)
  case atStart => exact ⟨rfl, .inl rfl⟩
  case round =>
    obtain ⟨rfl, hrel⟩ := hrel
    rcases hrel with rfl | ⟨rfl, hx⟩ | ⟨rfl, hx, hy⟩
    · by_cases hx : x = 0
      · have hxb : (x != 0) = false := by simpa using hx
        go_wp2_with fail
        go_roundw
        case rel => exact ⟨trivial, .inr (.inl ⟨rfl, hx⟩)⟩
        case measure => simp
      · have hxb : (x != 0) = true := by simpa using hx
        have := HR.out
        rw [if_pos hx] at this
        subst this
        go_wp2_with fail
        go_ret
        exact ⟨rfl, rfl⟩
    · have := HR.out
      rw [if_neg (by simp [hx])] at this
      subst this
      by_cases hy : y = 0
      · have hyb : (y != 0) = false := by simpa using hy
        go_wp2_with fail
        go_roundw
        case rel => exact ⟨trivial, .inr (.inr ⟨rfl, hx, hy⟩)⟩
        case measure => simp
      · have hyb : (y != 0) = true := by simpa using hy
        go_wp2_with fail
        go_ret
        exact ⟨rfl, rfl⟩
    · have := HR.out
      rw [if_neg (by simp [hx]), hy] at this
      subst this
      go_wp2_with fail
      go_ret
      exact ⟨rfl, rfl⟩
def rkCmp (x k : Rk) : Int := orB (cmpB x.1 k.1) (cmpB x.2 k.2)
theorem cmpB_eq {a b : List UInt8} : cmpB a b = 0 ↔ a = b := by
  unfold cmpB
  constructor
  · intro h
    split at h
    · cases h
    · split at h
      · cases h
      · rcases l_tri a b with h1 | h1 | h1
        · rename_i h2 _; exact absurd h1 h2
        · exact h1
        · rename_i h2; exact absurd h1 h2
  · rintro rfl
    rw [if_neg (l_irr a), if_neg (l_irr a)]
theorem cmpB_lt {a b : List UInt8} : cmpB a b < 0 ↔ a < b := by
  unfold cmpB
  constructor
  · intro h
    split at h
    · assumption
    · split at h <;> cases h
  · intro h; rw [if_pos h]; decide
theorem rkCmp_lt {x k : Rk} : rkCmp x k < 0 ↔ rkLt x k := by
  unfold rkCmp orB rkLt
  by_cases h : x.1 = k.1
  · rw [if_neg (by simp [cmpB_eq.2 h]), cmpB_lt, h]
    simp [l_irr]
  · rw [if_pos (by rw [ne_eq, cmpB_eq]; exact h), cmpB_lt]
    simp [h]
theorem rkCmp_eq {x k : Rk} : rkCmp x k = 0 ↔ x = k := by
  unfold rkCmp orB
  obtain ⟨x1, x2⟩ := x
  obtain ⟨k1, k2⟩ := k
  simp only [Prod.mk.injEq]
  by_cases h : x1 = k1
  · rw [if_neg (by simp [cmpB_eq.2 h]), cmpB_eq]
    simp [h]
  · rw [if_pos (by rw [ne_eq, cmpB_eq]; exact h), cmpB_eq]
    simp [h]

/-! ### Ranks -/
theorem sOf_inj {a b : List UInt8} : sOf a = sOf b ↔ a = b := by
  constructor
  · intro h; have := congrArg ByteArray.toList h; rwa [toList_sOf, toList_sOf] at this
  · rintro rfl; rfl
theorem rkPart0 (a b : ByteArray) (w : World) : (part 9 #[.string a, .string b] 0).run Tryd.prog w = .ok (.string a) w := by kernel_rfl
theorem rkPart1 (a b : ByteArray) (w : World) : (part 9 #[.string a, .string b] 1).run Tryd.prog w = .ok (.string b) w := by kernel_rfl
theorem info_str : (Tryd.prog.info? 9).map (·.size) = some 1 := by kernel_rfl
theorem cells_str : Tryd.prog.cellsOf 9 = 1 := by kernel_rfl
theorem eql_str (d : Nat) (a b : ByteArray) (w : World) : (Op.equalIn (d + 1) 9 (.string a) (.string b)).run Tryd.prog w = .ok (a.toList == b.toList) w := run_equalIn_string w d 9 a b Tryd.underlying9
set_option maxRecDepth 100000 in
theorem eql_rk (a b : Rk) (W : World) : (binOp .eql 103 (rkV a) (rkV b)).run Tryd.prog W = .ok (.bool (a == b)) W := by
  obtain ⟨a1, a2⟩ := a
  obtain ⟨b1, b2⟩ := b
  have e : ((a1, a2) == (b1, b2)) = ((a1 == b1) && (a2 == b2)) := rfl
  rw [e]
  obtain ⟨i, hi, hs⟩ := Option.map_eq_some_iff.1 info_str
  have h : ∀ d, (Op.equalIn (d + 2) 103 (rkV (a1, a2)) (rkV (b1, b2))).run Tryd.prog W = .ok (a1 == b1 && a2 == b2) W := by
    intro d
    unfold rkV
    rw [run_equalIn_array (P := Tryd.prog) W (d + 1) #[.string (sOf a1), .string (sOf a2)] #[.string (sOf b1), .string (sOf b2)] Tryd.underlying103 hi]
    rw [cells_str, show List.range 2 = [0, 1] from rfl]
    by_cases h1 : a1 = b1 <;> by_cases h2 : a2 = b2 <;> simp [Op.eqItems, rkPart0, rkPart1, eql_str, toList_sOf, Result.andThen, h1, h2]
  unfold rkV at h ⊢
  simp only [binOp]
  simp [Op.equal, Op.maxDepth, h 9998]
set_option maxRecDepth 100000 in
theorem whole_c (k : Rk) (w : World) : Calls Tryd.prog 141 #[rkV k] w fun e w' => e = .returned (.bool (k.2 == [])) ∧ Below w.heap.size w w' := by
  obtain ⟨n, d⟩ := k
  have hcm : ∀ W, (binOp .eql 103 (.agg #[.string (sOf n), .string (sOf d)]) (.agg #[.string (sOf n), .string ⟨#[]⟩])).run Tryd.prog W = .ok (.bool (d == [])) W := fun W => by
    have := eql_rk (n, d) (n, []) W
    rw [show ((n, d) == (n, [])) = (d == []) by rw [Bool.eq_iff_iff]; simp] at this
    exact this
  unfold rkV
  go_enter Tryd.func141, Tryd.ntmps141
  go_wp2_with fail
  go_ret
  exact ⟨ret_bool (by cases d <;> rfl), by go_grown⟩
set_option maxRecDepth 100000 in
theorem bcovers_c (k x : Rk) (w : World) : Calls Tryd.prog 90 #[rkV k, rkV x] w fun e w' => e = .returned (.bool (covers k x)) ∧ Below w.heap.size w w' := by
  have hw := fun W => whole_c k W
  have hcm : ∀ W, (binOp .eql 103 (.agg #[.string (sOf k.1), .string (sOf k.2)]) (.agg #[.string (sOf x.1), .string (sOf x.2)])).run Tryd.prog W = .ok (.bool (k == x)) W := fun W => eql_rk k x W
  have h1 := toList_sOf k.1; have h2 := toList_sOf x.1
  obtain ⟨r, hr⟩ : ∃ r, covers k x = r := ⟨_, rfl⟩
  rw [hr]
  unfold covers at hr
  have HR := hd hr; have HW := hd hw
  clear hr hw
  cases hkx : (k == x)
  rotate_left
  · have e := HR.out
    rw [hkx, Bool.true_or] at e
    subst e
    simp only [hkx] at hcm
    unfold rkV
    go_enter Tryd.func90, Tryd.ntmps90
    go_wp2_with fail
    go_ret
    exact ⟨rfl, by go_grown⟩
  simp only [hkx] at hcm
  cases hk2 : (k.2 == [])
  · have e := HR.out
    rw [hkx, hk2] at e
    subst e
    have HW2 := HW.out
    rw [hk2] at HW2
    unfold rkV at HW2 ⊢
    go_enter Tryd.func90, Tryd.ntmps90
    go_wp2_with (first | (go_at_call 141; refine (HW2 _).mono ?_; rintro e w1 ⟨rfl, hb⟩))
    go_ret
    exact ⟨rfl, Below.up (by go_grown) hb⟩
  · have e := HR.out
    rw [hkx, hk2, Bool.false_or, Bool.true_and] at e
    have HW2 := HW.out
    rw [hk2] at HW2
    have HE := hd e
    clear e
    have a0 : (k == x) = false := hkx
    unfold rkV at HW2 ⊢
    go_enter Tryd.func90, Tryd.ntmps90
    go_wp2_with (first | (go_at_call 141; refine (HW2 _).mono ?_; rintro e w1 ⟨rfl, hb⟩; have c1 := (bcell hb w.heap.size 0 (by simp [go_sem])); have c2 := (bcell hb (w.heap.size + 1) 0 (by simp [go_sem])); simp [go_sem] at c1 c2))
    go_ret
    exact ⟨ret_bool HE.out, Below.up (by go_grown) hb⟩
/-- A closure that holds a rank. -/
def RkIn (w : World) (c : Nat) (k : Rk) : Prop := c < w.heap.size ∧ w.cell? ⟨c, 0, none⟩ = some (.string (sOf k.1)) ∧ w.cell? ⟨c, 1, none⟩ = some (.string (sOf k.2))
theorem RkIn.below {B : Nat} {w w' : World} {c : Nat} {k : Rk} (h : RkIn w c k) (hb : Below B w w') (hB : c < B) : RkIn w' c k := ⟨Nat.lt_of_lt_of_le h.1 hb.size, (bcell hb _ _ hB).trans h.2.1, (bcell hb _ _ hB).trans h.2.2⟩
theorem RkIn.keeps {S : List Nat} {w w' : World} {c : Nat} {k : Rk} (h : RkIn w c k) (hk : Keeps S w w') (hn : c ∉ S) : RkIn w' c k := ⟨Nat.lt_of_lt_of_le h.1 hk.size, (hk.cell h.1 hn).trans h.2.1, (hk.cell h.1 hn).trans h.2.2⟩
set_option maxRecDepth 100000 in
theorem lose1_c (k : Rk) (x : Bir) (c : Nat) (w : World) (hc : RkIn w c k) : Calls Tryd.prog 89 #[.agg #[.string (sOf x.1.1), .string (sOf x.1.2), .string x.2], .pointer (some ⟨c, 0, none⟩)] w fun e w' => e = .returned (.bool (covers k x.1)) ∧ Below w.heap.size w w' := by
  obtain ⟨hlt, c0, c1⟩ := hc
  have hcv := fun W => bcovers_c k x.1 W
  unfold rkV at hcv
  generalize covers k x.1 = r at *
  have HC := hd hcv
  clear hcv
  go_enter Tryd.func89, Tryd.ntmps89
  go_wp2_with (first | (go_at_call 90; refine (HC.out _).mono ?_; rintro e w1 ⟨rfl, hb⟩))
  go_ret
  exact ⟨rfl, Below.up (by go_grown) hb⟩
end Go.Proofs.YtclicjokgfiegaaDoor

/- Births: ranks of topics; what goes with one is lost: the walks. -/
namespace Go.Proofs.YtclicjokgfiegaaDoor
open Go.RowKit
set_option linter.unusedVariables false
set_option linter.unusedSimpArgs false

def leftB (n : Nat) : Value → Nat
  | .int _ k => ((n : Int) - k).toNat
  | _ => 0
theorem sOf_nilB : sOf [] = ⟨#[]⟩ := rfl
theorem rkRead {w' : World} {gr : Nat} {tmps : Array Value} {k : Rk} {b : Bool} (h2 : tmps[2]?.getD undef = .pointer (some ⟨gr, 0, none⟩)) (h3 : tmps[3]?.getD undef = .bool b) (c0 : w'.cell? ⟨gr, 0, none⟩ = some (.string (sOf k.1))) (c1 : w'.cell? ⟨gr, 1, none⟩ = some (.string (sOf k.2))) :
    (results Tryd.f47 tmps).run Tryd.prog w' = .ok (.tuple #[rkV k, .bool b]) w' := by
  simp [results, Tryd.results47, go_sem, h2, h3, c0, c1, rkV]
set_option maxRecDepth 100000 in
set_option maxHeartbeats 4000000 in
theorem rankOf_c (l : List UInt8) (w : World) (hE : EnvU w) (hW : EnvW w) (hs : l.length ≤ 100000000) :
    Calls Tryd.prog 47 #[.string (sOf l)] w fun e w' => ∃ k, e = .returned (.tuple #[rkV k, .bool (bRank l).isSome]) ∧ (∀ k', bRank l = some k' → k = k') ∧ Below w.heap.size w w' := by
  have HE := hd hE; have HW := hd hW
  clear hE hW
  have hof := fun W h1 h2 => Of_c l W h1 h2 hs
  have hR1 : (sTell l).k = 1 → bRank l = some (l, []) := bRank_one
  have hR5 : (sTell l).k = 5 → bRank l = if (sBirths (sTell l)).1 = [] then none else some ((sBirths (sTell l)).1, l) := bRank_five
  have hR0 : (sTell l).k ≠ 1 → (sTell l).k ≠ 5 → bRank l = none := bRank_other
  have hsz : (sTell l).g.length ≤ 9223372036854775000 ∧ (sTell l).n.length ≤ 9223372036854775000 ∧ (sTell l).d.length ≤ 9223372036854775000 := by
    have := guess_len (M := l.length) (p := lSplit l) (fun x hx => (lSplit_parts l x hx).2)
    unfold sTell
    split
    · simp [SpS.zero]
    · omega
  generalize sTell l = X at *
  obtain ⟨K, g, n, d⟩ := X
  obtain ⟨r, hr⟩ : ∃ r, bRank l = r := ⟨_, rfl⟩
  rw [hr] at hR1 hR5 hR0 ⊢
  clear hr
  have HOF := hd hof; have H1 := hd hR1; have H5 := hd hR5; have H0 := hd hR0; have HZ := hd hsz
  clear hof hR1 hR5 hR0 hsz
  have hnil : (sOf []).toList = [] := toList_sOf _
  go_enter Tryd.func47, Tryd.ntmps47
  go_wp2_with fail
  have hb : Below w.heap.size w (w.alloc (.cells #[.string ⟨#[]⟩, .string ⟨#[]⟩] 103)) := by go_grown
  refine (HOF.out _ (HE.out.below hb) (HW.out.below hb (Nat.le_refl _))).mono ?_
  simp only [spV]
  rintro e w1 ⟨rfl, hB⟩
  have q0 := bcell hB w.heap.size 0 (by simp [go_sem])
  have q1 := bcell hB w.heap.size 1 (by simp [go_sem])
  have f0 := bfree hB w.heap.size 0 (by simp [go_sem])
  have f1 := bfree hB w.heap.size 1 (by simp [go_sem])
  have hlt : w.heap.size < w1.heap.size := Nat.lt_of_lt_of_le (by simp [go_sem]) hB.size
  simp [go_sem] at q0 q1 f0 f1
  replace hb := Below.up hb hB
  clear hB
  by_cases h1 : K = 1
  · subst h1
    have hr := H1.out rfl
    subst hr
    clear H1 H5 H0 HOF
    go_wp2_with fail
    refine bodyPost_ret (v := .tuple #[rkV (l, []), .bool true]) (rkRead (by rfl) (by rfl) (by simp [go_sem, sOf_nilB, *]) (by simp [go_sem, sOf_nilB, *])) rfl ?_
    exact ⟨(l, []), rfl, fun k' h => Option.some.inj h, by go_grown⟩
  have h1b : (K == 1) = false := by simpa using h1
  by_cases h5 : K = 5
  · subst h5
    have hr := H5.out rfl
    obtain ⟨z1, z2, z3⟩ := HZ.out
    have hA := SpAt.new w1 5 g n d
    have hal : Below w1.heap.size w1 (w1.alloc (.cells #[.int .i64 5, .string (sOf g), .string (sOf n), .string (sOf d)] 44)) := by go_grown
    have hbr := fun W h1 h2 => Births_c ⟨5, g, n, d⟩ W h1 h2 z1 z2 z3
    generalize sBirths ⟨5, g, n, d⟩ = B at *
    obtain ⟨u, v⟩ := B
    simp only at hr hbr
    have HR := hd hr; have HBR := hd hbr
    clear hr hbr H1 H5 H0 HOF HZ z1 z2 z3 h1
    have hte : u.isEmpty = decide (u = []) := by cases u <;> simp
    have htu := toList_sOf u
    go_wp2_with fail
    refine (HBR.out _ (HE.out.below (Below.up hb hal)) (HW.out.below (Below.up hb hal) (Nat.le_refl _))).mono ?_
    rintro e w2 ⟨rfl, hB⟩
    have hal2 := Below.up hal hB
    have g0 := (bcell hal2 _ _ hlt).trans q0
    have g1 := (bcell hal2 _ _ hlt).trans q1
    have k0 := (bfree hal2 _ _ hlt).trans f0
    have k1 := (bfree hal2 _ _ hlt).trans f1
    have hlt2 : w.heap.size < w2.heap.size := Nat.lt_of_lt_of_le hlt hal2.size
    have hb2 := Below.up (Below.up hb hal) hB
    clear q0 q1 f0 f1 hA hal hal2 hB
    go_wp2_with fail
    refine bodyPost_ret (v := .tuple #[rkV (u, l), .bool (!decide (u = []))]) (rkRead (by rfl) (by simp [htu]) (by simp [go_sem, sOf_nilB, *]) (by simp [go_sem, sOf_nilB, *])) rfl ?_
    refine ⟨(u, l), ?_, ?_, by go_grown⟩
    · rw [HR.out]; by_cases hu : u = [] <;> simp [hu]
    · intro k' hk'
      rw [HR.out] at hk'
      split at hk'
      · cases hk'
      · exact Option.some.inj hk'
  · have h5b : (K == 5) = false := by simpa using h5
    have hr := H0.out h1 h5
    subst hr
    clear H1 H5 H0 HOF
    go_wp2_with fail
    refine bodyPost_ret (v := .tuple #[rkV ([], []), .bool false]) (rkRead (by rfl) (by rfl) (by simp [go_sem, sOf_nilB, *]) (by simp [go_sem, sOf_nilB, *])) rfl ?_
    exact ⟨([], []), rfl, (fun k' h => nomatch h), by go_grown⟩

/-! ### The first that goes -/
def RdB (w : World) (v : Value) (l : List Bir) : Prop := Rd w v l.length (birs l)
theorem OwnB.rd {w : World} {v : Value} {l : List Bir} (h : OwnB w v l) : RdB w v l := Owns.rd h
theorem RdB.below' {B : Nat} {w w' : World} {v : Value} {l : List Bir} (h : RdB w v l) (hb : Below B w w') (hB : w.heap.size ≤ B) : RdB w' v l := Rd.below' h hb hB
theorem RdB.slice {w : World} {v : Value} {l : List Bir} (h : RdB w v l) : ∃ a c, v = .slice a l.length c := by
  obtain ⟨a, c, hv, _⟩ := h; exact ⟨a, c, hv⟩
theorem RdB.len {w : World} {v : Value} {l : List Bir} (h : RdB w v l) : l.length ≤ maxLen := Rd.len h
theorem RdB.at {w : World} {a : Option Addr} {n c : Nat} {l : List Bir} (h : RdB w (.slice a n c) l) {k : Nat} {x : Bir} (hk : l[k]? = some x) :
    ∃ b o, a = some ⟨b, o, none⟩ ∧ b < w.heap.size ∧ w.cell? ⟨b, o + k * 3, none⟩ = some (.string (sOf x.1.1)) ∧ w.cell? ⟨b, o + k * 3 + 1, none⟩ = some (.string (sOf x.1.2)) ∧ w.cell? ⟨b, o + k * 3 + 2, none⟩ = some (.string x.2) := by
  have hx := birs_at l k x hk
  rcases Rd.split h with ⟨hn, _⟩ | ⟨_, b, o, c', hv, _, _, hlt, hcell⟩
  · have := hx 0 _ rfl
    rw [hn] at this
    simp at this
  · simp only [Value.slice.injEq] at hv
    refine ⟨b, o, hv.1, hlt, ?_, ?_, ?_⟩
    · have := hcell _ _ (hx 0 _ rfl); rwa [Nat.add_zero] at this
    · have := hcell _ _ (hx 1 _ rfl); rwa [← Nat.add_assoc] at this
    · have := hcell _ _ (hx 2 _ rfl); rwa [← Nat.add_assoc] at this
def bIdx (k : Rk) : List Bir → Nat → Int
  | [], _ => -1
  | x :: t, j => if covers k x.1 then j else bIdx k t (j + 1)
theorem drop_at {α : Type} {l : List α} {j : Nat} {x : α} (h : l[j]? = some x) : l.drop j = x :: l.drop (j + 1) := by
  obtain ⟨hj, rfl⟩ := List.getElem?_eq_some_iff.1 h
  exact List.drop_eq_getElem_cons hj
set_option maxRecDepth 100000 in
set_option maxHeartbeats 4000000 in
theorem indexF_c (k : Rk) (l : List Bir) (v : Value) (c : Nat) (w : World) (hv : RdB w v l) (hc : RkIn w c k) :
    Calls Tryd.prog 140 #[v, .func (.func 89) #[] #[.pointer (some ⟨c, 0, none⟩)]] w fun e w' => e = .returned (.int .i64 (bIdx k l 0)) ∧ Below w.heap.size w w' := by
  obtain ⟨a, cp, rfl⟩ := hv.slice
  have hm := hv.len
  unfold maxLen at hm
  have HV := hd hv; have HC := hd hc; clear hv hc
  obtain ⟨r, hr⟩ : ∃ r, bIdx k l 0 = r := ⟨_, rfl⟩
  rw [hr]
  go_enter Tryd.func140, Tryd.ntmps140
  go_wp2_with fail
  go_loopw [8] (fun i w' => ∃ j : Nat, i = .int .i64 j ∧ j ≤ l.length ∧ bIdx k (l.drop j) j = r ∧ Below w.heap.size w w') (fun i _ => leftB l.length i)
  case atStart => exact ⟨0, rfl, by omega, by simpa using hr, Below.refl _ _⟩
  case round =>
    obtain ⟨j, rfl, hj, hf, hB⟩ := hrel
    by_cases hjl : j < l.length
    · obtain ⟨x, hx⟩ : ∃ x, l[j]? = some x := ⟨_, List.getElem?_eq_getElem hjl⟩
      obtain ⟨b, o, rfl, hl1, p1, q1, r1⟩ := HV.out.at hx
      replace p1 := (bcell hB _ _ hl1).trans p1
      replace q1 := (bcell hB _ _ hl1).trans q1
      replace r1 := (bcell hB _ _ hl1).trans r1
      rw [drop_at hx, bIdx] at hf
      have hcl := lose1_c k x c wr (HC.out.below hB HC.out.1)
      cases hcv : covers k x.1
      · rw [hcv, if_neg (by simp)] at hf
        rw [hcv] at hcl
        have HF := hd hf; have HCL := hd hcl
        clear hf hcl hr
        go_wp2_with (first | (go_at_call 89; refine HCL.out.mono ?_; rintro e w1 ⟨rfl, hb⟩))
        go_roundw
        case rel => exact ⟨j + 1, by congr 1, by omega, HF.out, hB.trans (hb.mono hB.size)⟩
        case measure => simp [leftB]; omega
      · rw [hcv, if_pos rfl] at hf
        rw [hcv] at hcl
        have HF := hd hf; have HCL := hd hcl
        clear hf hcl hr
        go_wp2_with (first | (go_at_call 89; refine HCL.out.mono ?_; rintro e w1 ⟨rfl, hb⟩))
        go_ret
        exact ⟨ret_int HF.out, hB.trans (hb.mono hB.size)⟩
    · have hke : j = l.length := by omega
      subst hke
      rw [List.drop_of_length_le (Nat.le_refl _), bIdx] at hf
      have HF := hd hf
      clear hf hr
      go_wp2_with fail
      go_ret
      exact ⟨ret_int HF.out, hB⟩
end Go.Proofs.YtclicjokgfiegaaDoor

/- Births: those that go with one are lost: the walks. -/
namespace Go.Proofs.YtclicjokgfiegaaDoor
open Go.RowKit
set_option linter.unusedVariables false
set_option linter.unusedSimpArgs false

theorem bIdx_spec (k : Rk) : ∀ (l : List Bir) (s : Nat), (bIdx k l s = -1 ∧ ∀ x ∈ l, covers k x.1 = false) ∨
    ∃ i x, bIdx k l s = ((s + i : Nat) : Int) ∧ l[i]? = some x ∧ covers k x.1 = true ∧ ∀ y ∈ l.take i, covers k y.1 = false
  | [], s => .inl ⟨rfl, by simp⟩
  | x :: t, s => by
    cases hc : covers k x.1
    · rcases bIdx_spec k t (s + 1) with ⟨h1, h2⟩ | ⟨i, y, h1, h2, h3, h4⟩
      · refine .inl ⟨by rw [bIdx, hc, if_neg (by simp)]; exact h1, fun z hz => ?_⟩
        rcases List.mem_cons.1 hz with rfl | hz
        · exact hc
        · exact h2 z hz
      · refine .inr ⟨i + 1, y, by rw [bIdx, hc, if_neg (by simp), h1]; congr 1; omega, by simpa using h2, h3, fun z hz => ?_⟩
        rw [List.take_succ_cons] at hz
        rcases List.mem_cons.1 hz with rfl | hz
        · exact hc
        · exact h4 z hz
    · exact .inr ⟨0, x, by rw [bIdx, hc, if_pos rfl]; simp, rfl, hc, by simp⟩
theorem lose_append (a b : List Bir) (k : Rk) : bLose (a ++ b) k = bLose a k ++ bLose b k := by unfold bLose; rw [List.filter_append]
theorem take_snocB {l : List Bir} {j : Nat} {x : Bir} (h : l[j]? = some x) : l.take (j + 1) = l.take j ++ [x] := by rw [List.take_add_one, h]; rfl
theorem lose_one (x : Bir) (k : Rk) : bLose [x] k = if covers k x.1 = true then [] else [x] := by
  unfold bLose
  cases h : covers k x.1 <;> simp [h]

structure DelI (w : World) (k : Rk) (l : List Bir) (g o tot i j : Nat) (w' : World) : Prop where
  row : RowIn w' g 111 tot
  one : w'.rangeAt g o (birs (bLose (l.take j) k))
  two : w'.rangeAt g (o + j * 3) (birs (l.drop j))
  len : (bLose (l.take j) k).length = i
  lt : i < j
  le : j ≤ l.length
  keeps : Keeps [g] w w'
theorem DelI.on {w w1 w2 : World} {k : Rk} {l : List Bir} {g o tot i j : Nat} (h : DelI w k l g o tot i j w1) (hb : Below w1.heap.size w1 w2) : DelI w k l g o tot i j w2 :=
  ⟨h.row.below hb h.row.lt, rangeB h.one hb h.row.lt, rangeB h.two hb h.row.lt, h.len, h.lt, h.le, h.keeps.trans (Keeps.below hb)⟩
theorem DelI.skip {w w1 : World} {k : Rk} {l : List Bir} {g o tot i j : Nat} (h : DelI w k l g o tot i j w1) {x : Bir} (hx : l[j]? = some x) (hc : covers k x.1 = true) : DelI w k l g o tot i (j + 1) w1 := by
  have hj := (List.getElem?_eq_some_iff.1 hx).1
  have e : bLose (l.take (j + 1)) k = bLose (l.take j) k := by rw [take_snocB hx, lose_append, lose_one, if_pos hc, List.append_nil]
  refine ⟨h.row, by rw [e]; exact h.one, ?_, by rw [e]; exact h.len, by have := h.lt; omega, hj, h.keeps⟩
  have := range_drop h.two 1
  rwa [List.drop_drop, show o + j * 3 + 1 * 3 = o + (j + 1) * 3 by omega] at this
theorem DelI.keep {w w1 : World} {k : Rk} {l : List Bir} {g o tot i j : Nat} (h : DelI w k l g o tot i j w1) {x : Bir} (hx : l[j]? = some x) (hc : covers k x.1 = false) (htot : o + l.length * 3 ≤ tot) :
    w1.there g (o + i * 3) 3 ∧ DelI w k l g o tot (i + 1) (j + 1) (w1.setCells g (o + i * 3) (birV x)) := by
  have hj := (List.getElem?_eq_some_iff.1 hx).1
  have hlt := h.lt
  have hth : w1.there g (o + i * 3) 3 := h.row.there (by omega)
  have e : bLose (l.take (j + 1)) k = bLose (l.take j) k ++ [x] := by rw [take_snocB hx, lose_append, lose_one, if_neg (by simp [hc])]
  refine ⟨hth, h.row.setCells _ _ _, ?_, ?_, by rw [e, List.length_append, h.len]; rfl, by omega, hj, h.keeps.trans (keeps_scells1 _ _ _ _)⟩
  · rw [e]
    refine range_snoc (World.rangeAt_setCells_apart h.one _ _ _ (.inr (.inl (by rw [birs_len, h.len]; omega)))) ?_
    rw [h.len]
    exact World.rangeAt_setCells_same _ _ _ _ hth
  · have := range_drop h.two 1
    rw [List.drop_drop, show o + j * 3 + 1 * 3 = o + (j + 1) * 3 by omega] at this
    exact World.rangeAt_setCells_apart this _ _ _ (.inr (.inr (by rw [birV_len]; omega)))
theorem DelI.start {w w1 : World} {k : Rk} {l : List Bir} {g o tot i : Nat} {x : Bir} (hx : l[i]? = some x) (hc : covers k x.1 = true) (hn : ∀ y ∈ l.take i, covers k y.1 = false) (hr : RowIn w1 g 111 tot) (hl : w1.rangeAt g o (birs l)) (hk : Keeps [g] w w1) :
    DelI w k l g o tot i (i + 1) w1 := by
  have hi := (List.getElem?_eq_some_iff.1 hx).1
  have e : bLose (l.take (i + 1)) k = l.take i := by rw [take_snocB hx, lose_append, lose_one, if_pos hc, List.append_nil, lose_same hn]
  exact ⟨hr, by rw [e]; exact range_take hl i, range_drop hl (i + 1), by rw [e, List.length_take]; omega, by omega, hi, hk⟩

theorem elem_birs : Tryd.prog.elem 66 = 111 := by kernel_rfl
theorem run_fromB (g o n c : Nat) (I : Int) (i : Nat) (hI : I = i) (hi : i ≤ n) (hc : i < c) (W : World) :
    (Instr.slice 66 (.slice (some ⟨g, o, none⟩) n c) (some (.int .i64 I)) none none).run Tryd.prog W = .ok (.slice (some ⟨g, o + i * 3, none⟩) (n - i) (c - i)) W := by
  subst hI
  rw [run_slice_l W 66 _ n c (by kernel_rfl) .i64 (i : Int) (by omega) (by omega)]
  obtain ⟨i0, hi0, hz0, hz1, hz2⟩ := info_parts info_bir
  have hne : ¬ c = i := by omega
  simp [sizeOf, typeInfo, elem_birs, hi0, hz1, sliced, Result.andThen, hne, Addr.add_mid]
theorem run_toB (g o n c : Nat) (J : Int) (j : Nat) (hJ : J = j) (hj : j ≤ c) (hc : 0 < c) (W : World) :
    (Instr.slice 66 (.slice (some ⟨g, o, none⟩) n c) none (some (.int .i64 J)) none).run Tryd.prog W = .ok (.slice (some ⟨g, o, none⟩) j c) W := by
  subst hJ
  rw [run_slice_h W 66 _ n c (by kernel_rfl) .i64 (j : Int) (by omega) (by omega)]
  obtain ⟨i0, hi0, hz0, hz1, hz2⟩ := info_parts info_bir
  have hne : ¬ c = 0 := by omega
  simp [sizeOf, typeInfo, elem_birs, hi0, hz1, sliced, Result.andThen, hne, Addr.add_mid]
theorem zB_one : ∀ v ∈ (Value.agg #[.string ⟨#[]⟩, .string ⟨#[]⟩, .string ⟨#[]⟩]).cells.toList, v.oneCell' = true := by
  intro v hv
  have : ((Value.agg #[.string ⟨#[]⟩, .string ⟨#[]⟩, .string ⟨#[]⟩]).cells.toList).all (·.oneCell') = true := rfl
  exact (List.all_eq_true.1 this) v hv
theorem wpl_atB {P : Program} {w : World} {ops : Array Oper} {rest : List Oper} {o : Oper} {a : Act} {Q : Exit → Act → World → Prop} (h : wpList P ops Q (o :: rest) a w) : wpList P ops Q (o :: rest) a w := h
set_option maxRecDepth 100000 in
set_option maxHeartbeats 8000000 in
theorem deleteF_g (k : Rk) (l : List Bir) (g o cap tot c : Nat) (w : World) (hr : RowIn w g 111 tot) (hl : w.rangeAt g o (birs l)) (hle : l.length ≤ cap) (hcm : cap ≤ maxLen) (htot : o + l.length * 3 ≤ tot) (hc : RkIn w c k) (hcg : c ≠ g) :
    Calls Tryd.prog 88 #[.slice (some ⟨g, o, none⟩) l.length cap, .func (.func 89) #[] #[.pointer (some ⟨c, 0, none⟩)]] w
      fun e w' => e = .returned (.slice (some ⟨g, o, none⟩) (bLose l k).length cap) ∧ RowIn w' g 111 tot ∧ w'.rangeAt g o (birs (bLose l k)) ∧ Keeps [g] w w' := by
  have hv : RdB w (.slice (some ⟨g, o, none⟩) l.length cap) l := ⟨_, _, rfl, hle, hcm, (fun h => by cases h), fun ad had j u hu => by cases had; rw [Addr.add_mid]; exact hl j u hu⟩
  have hix := indexF_c k l _ c w hv hc
  have hll := lose_len l k
  unfold maxLen at hcm
  have hspec := bIdx_spec k l 0
  generalize bIdx k l 0 = ix at *
  have HIX := hd hix; have HS := hd hspec; have HR := hd hr; have HL := hd hl; have HC := hd hc
  clear hix hspec hr hl hc hv
  go_enter Tryd.func88, Tryd.ntmps88
  go_wp2_with fail
  refine HIX.out.mono ?_
  rintro e w1 ⟨rfl, hb⟩
  rcases HS.out with ⟨rfl, hn⟩ | ⟨i, x, rfl, hx, hcx, hn⟩
  · have e1 := lose_same hn
    go_wp2_with fail
    go_ret
    exact ⟨by rw [e1]; rfl, HR.out.below hb HR.out.lt, by rw [e1]; exact rangeB HL.out hb HR.out.lt, Keeps.below hb⟩
  · rw [Nat.zero_add]
    have hi := (List.getElem?_eq_some_iff.1 hx).1
    have hne1 : ((i : Int) == -1) = false := by simp
    have hi63 : IntKind.i64.wrap ((i : Int) + 1) = (i : Int) + 1 := IntWalk.i64_in _ (by omega)
    have I0 := DelI.start (w := w) hx hcx hn (HR.out.below hb HR.out.lt) (rangeB HL.out hb HR.out.lt) (Keeps.below hb)
    clear HIX HS
    go_wp2_with fail
    go_loopw [5, 6] (fun a b w' => ∃ i j : Nat, a = .int .i64 i ∧ b = .int .i64 j ∧ DelI w k l g o tot i j w') (fun _ b _ => leftB l.length b)
    case atStart => exact ⟨i, i + 1, rfl, rfl, I0⟩
    case round =>
      obtain ⟨i, j, rfl, rfl, I⟩ := hrel
      clear I0 hi63 hne1 hx hcx hn hi
      have hle := I.le; have hlt := I.lt
      by_cases hj : j < l.length
      · obtain ⟨x, hx⟩ : ∃ x, l[j]? = some x := ⟨_, List.getElem?_eq_getElem hj⟩
        have hx0 : (l.drop j)[0]? = some x := by rw [List.getElem?_drop]; exact hx
        obtain ⟨p1, q1, r1⟩ := bir_cells I.two hx0
        rw [Nat.zero_mul, Nat.add_zero] at p1 q1 r1
        have hgw := I.row.lt
        have hcw : c < wr.heap.size := Nat.lt_of_lt_of_le HC.out.1 I.keeps.size
        have hcl := fun W => lose1_c k x c W
        have HI := hd I
        have hrk := HC.out.keeps I.keeps (by simp; omega)
        have HRK := hd hrk
        have hj63 : IntKind.i64.wrap ((j : Int) + 1) = (j : Int) + 1 := IntWalk.i64_in _ (by omega)
        clear I hrk
        cases hcx : covers k x.1
        · rw [hcx] at hcl
          have HCL := hd hcl
          clear hcl
          go_wp2_with fail
          refine (HCL.out _ (HRK.out.below (B := wr.heap.size) (by go_grown) hcw)).mono ?_
          rintro e w2 ⟨rfl, hb2⟩
          have c0 := bcell hb2 wr.heap.size 0 (by simp [go_sem])
          have c1 := bcell hb2 wr.heap.size 1 (by simp [go_sem])
          have c2 := bcell hb2 wr.heap.size 2 (by simp [go_sem])
          simp [go_sem] at c0 c1 c2
          have B2 : Below wr.heap.size wr w2 := Below.up (by go_grown) hb2
          obtain ⟨hth, I3⟩ := (HI.out.on B2).keep hx hcx htot
          have HI3 := hd I3
          have hi63 : IntKind.i64.wrap ((i : Int) + 1) = (i : Int) + 1 := IntWalk.i64_in _ (by omega)
          clear I3 HCL HRK HI hb2 p1 q1 r1
          go_wp2_with (first | ((with_reducible refine wpl_atB (o := ⟨none, .store 111 (.tmp 33) (.tmp 32), _, _, _, _⟩) ?_); refine wpList_store_mid rfl _ _ _ rfl g (o + i * 3) (birV x).toArray rfl rfl hth info_bir3 (all_oneCell_toArray (birV_one x)) ?_))
          go_roundw
          case rel => exact ⟨i + 1, j + 1, rfl, rfl, HI3.out⟩
          case measure => simp [leftB]; omega
        · rw [hcx] at hcl
          have HCL := hd hcl
          clear hcl
          go_wp2_with fail
          refine (HCL.out _ (HRK.out.below (B := wr.heap.size) (by go_grown) hcw)).mono ?_
          rintro e w2 ⟨rfl, hb2⟩
          have B2 : Below wr.heap.size wr w2 := Below.up (by go_grown) hb2
          have HI3 := hd ((HI.out.on B2).skip hx hcx)
          clear HCL HRK HI hb2 p1 q1 r1
          go_wp2_with fail
          go_roundw
          case rel => exact ⟨i, j + 1, rfl, rfl, HI3.out⟩
          case measure => simp [leftB]; omega
      · have hje : j = l.length := by omega
        subst hje
        have h1 := I.one; have h2 := I.len
        rw [List.take_length] at h1 h2
        have hth : wr.there g (o + i * 3) ((l.length - i) * 3) := I.row.there (by omega)
        obtain ⟨zs, hzl, hclr⟩ := run_clearK (P := Tryd.prog) wr 66 111 0 (.agg #[.string ⟨#[]⟩, .string ⟨#[]⟩, .string ⟨#[]⟩]) Tryd.underlying66 Tryd.zeroValue111 3 rfl zB_one g (o + i * 3) (l.length - i) (cap - i) hth
        have hs1 := run_fromB g o l.length cap i i rfl (by omega) (by omega)
        have hs2 := run_toB g o l.length cap i i rfl (by omega) (by omega)
        have HI := hd I; have H1 := hd h1
        clear I h1
        go_wp2_with fail
        go_ret
        refine ⟨by rw [h2]; rfl, HI.out.row.setCells _ _ _, World.rangeAt_setCells_apart H1.out _ _ _ (.inr (.inl (by rw [birs_len, h2]; omega))), HI.out.keeps.trans (keeps_scells1 _ _ _ _)⟩
end Go.Proofs.YtclicjokgfiegaaDoor

/- Births: losing; the object: the walks. -/
namespace Go.Proofs.YtclicjokgfiegaaDoor
open Go.RowKit
set_option linter.unusedVariables false
set_option linter.unusedSimpArgs false

set_option maxRecDepth 100000 in
set_option maxHeartbeats 4000000 in
theorem deleteF_c (k : Rk) (l : List Bir) (v : Value) (c : Nat) (w : World) (ho : OwnB w v l) (hc : RkIn w c k) (hcv : c ∉ blk v) :
    Calls Tryd.prog 88 #[v, .func (.func 89) #[] #[.pointer (some ⟨c, 0, none⟩)]] w
      fun e w' => ∃ v', e = .returned v' ∧ OwnB w' v' (bLose l k) ∧ Keeps (blk v) w w' ∧ ∀ i, i ∈ blk v' → i ∈ blk v := by
  rcases ho.split with ⟨rfl, rfl⟩ | ⟨g, cap, rfl, hr, hl, hle, hcm, hblk⟩
  · have hix := indexF_c k [] _ c w ho.rd hc
    have HIX := hd hix
    clear hix ho hcv
    go_enter Tryd.func88, Tryd.ntmps88
    go_wp2_with fail
    refine HIX.out.mono ?_
    rintro e w1 ⟨rfl, hb⟩
    rw [show bIdx k [] 0 = -1 from rfl]
    go_wp2_with fail
    go_ret
    exact ⟨.slice none 0 0, rfl, OwnB.nil _, Keeps.below hb, fun i hi => hi⟩
  · rw [hblk] at hcv
    refine (deleteF_g k l g 0 cap (cap * 3) c w hr hl hle hcm (by omega) hc (by simpa using hcv)).mono ?_
    rintro e w' ⟨rfl, hr', hl', hk⟩
    refine ⟨_, rfl, OwnB.mk hr' hl' (Nat.le_trans (lose_len l k) hle) hcm, by rw [hblk]; exact hk, fun i hi => by rw [hblk]; simpa [blk, Value.ownBlock] using hi⟩
theorem BsAt.put {w w2 : World} {g : Nat} {v v' : Value} {l l' : List Bir} (h : BsAt w g v l) (hk : Keeps (blk v) w w2) (ho : OwnB w2 v' l') (hn : ∀ i, i ∈ blk v' → i ∈ blk v ∨ w.heap.size ≤ i) :
    Bd w g v v' l' (w2.setCell ⟨g, 0, none⟩ v') ∧ w2.cell? ⟨g, 0, none⟩ = some v ∧ w2.frozen? ⟨g, 0, none⟩ = false ∧ g < w2.heap.size := by
  have hg : g < w2.heap.size := Nat.lt_of_lt_of_le h.lt hk.size
  have c0 := (hk.cell (o := 0) h.lt h.ne).trans h.c0
  have c1 := (hk.cell (o := 1) h.lt h.ne).trans h.c1
  have f0 := (hk.free (o := 0) h.lt h.ne).trans h.f0
  have hne : g ∉ blk v' := fun hm => by
    rcases hn g hm with h1 | h1
    · exact h.ne h1
    · have := h.lt; omega
  have hkg : Keeps [g] w2 (w2.setCell ⟨g, 0, none⟩ v') := (Keeps.refl [g] w2).setCell (.inl (by simp)) v'
  refine ⟨⟨⟨by simp [go_sem, c0], by simp [go_sem, c1], by simp [go_sem, f0], ho.keeps hkg (fun i hi => by simp; intro e; exact hne (e ▸ hi)), hne, by simpa [go_sem] using hg⟩, ?_, hn⟩, c0, f0, hg⟩
  exact (hk.mono (fun i hi => by simp [hi])).setCell (.inl (by simp)) v'
set_option maxRecDepth 100000 in
set_option maxHeartbeats 4000000 in
theorem lose_c (g : Nat) (v : Value) (l : List Bir) (k : Rk) (w : World) (h : BsAt w g v l) (hm : l.length ≤ 1000000) :
    Calls Tryd.prog 48 #[.pointer (some ⟨g, 0, none⟩), rkV k] w fun e w' => e = .returned (.int .i64 ((l.length : Int) - (bLose l k).length)) ∧ ∃ v', Bd w g v v' (bLose l k) w' := by
  have hll := lose_len l k
  obtain ⟨a, cp, hv⟩ := h.own.slice
  have c0 := h.c0
  have hg := h.lt
  have HB := hd h
  have hdel := fun (w : World) c h1 h2 h3 => deleteF_c k l v c w h1 h2 h3
  generalize hL : bLose l k = L at *
  clear hL
  have HD := hd hdel
  clear h hdel
  subst hv
  have hwr : IntKind.i64.wrap ((l.length : Int) - (L.length : Int)) = (l.length : Int) - L.length := IntWalk.i64_in _ (by omega)
  unfold rkV
  go_enter Tryd.func48, Tryd.ntmps48
  go_wp2_with fail
  have hb : Below w.heap.size w (w.alloc (.cells #[.string (sOf k.1), .string (sOf k.2)] 103)) := by go_grown
  refine (HD.out _ w.heap.size (HB.out.below hb).own ⟨by simp [go_sem], by simp [go_sem], by simp [go_sem]⟩ (fun hm => by have := HB.out.own.lt hm; omega)).mono ?_
  rintro e w2 ⟨v', rfl, ho, hk, hn⟩
  obtain ⟨a', cp', rfl⟩ := ho.slice
  have hk2 := (Keeps.below (S := blk (.slice a l.length cp)) hb).trans hk
  obtain ⟨hbd, d0, df, dg⟩ := HB.out.put hk2 ho (fun i hi => .inl (hn i hi))
  have HBD := hd hbd
  clear hbd hk2 hk ho hb HD
  go_wp2_with fail
  go_ret
  exact ⟨rfl, _, HBD.out⟩
end Go.Proofs.YtclicjokgfiegaaDoor

/- Births: where one stands: the walks. -/
namespace Go.Proofs.YtclicjokgfiegaaDoor
open Go.RowKit
set_option linter.unusedVariables false
set_option linter.unusedSimpArgs false

theorem wpM_skipM {P : Program} {ops : Array Oper} {Q : Exit → Act → World → Prop} {C : World → Prop} {n k : Nat} {r : List (Nat × Bool)} {o : Oper} {a : Act} {w : World} (ho : ops[k]? = some o) (hw : Region.wanted o (yielded ops a.tmps) = false)
    (hC : C w) (hr : wpM P ops n C Q r (a.put o.dst undef) w) : wpM P ops n C Q ((k, true) :: r) a w := by
  show wpOp P ops Q k _ a w
  unfold Go.wpOp
  simp only [ho, hw]
  exact ⟨fun _ => hC, hr⟩
def BxIn (w : World) (b : Nat) (x : Bir) : Prop := b < w.heap.size ∧ w.cell? ⟨b, 0, none⟩ = some (.string (sOf x.1.1)) ∧ w.cell? ⟨b, 1, none⟩ = some (.string (sOf x.1.2)) ∧ w.cell? ⟨b, 2, none⟩ = some (.string x.2)
theorem BxIn.below {B : Nat} {w w' : World} {b : Nat} {x : Bir} (h : BxIn w b x) (hb : Below B w w') (hB : b < B) : BxIn w' b x := ⟨Nat.lt_of_lt_of_le h.1 hb.size, (bcell hb _ _ hB).trans h.2.1, (bcell hb _ _ hB).trans h.2.2.1, (bcell hb _ _ hB).trans h.2.2.2⟩
set_option maxRecDepth 100000 in
set_option maxHeartbeats 4000000 in
theorem find1_c (x : Bir) (k : Rk) (w : World) :
    Calls Tryd.prog 92 #[.agg #[.string (sOf x.1.1), .string (sOf x.1.2), .string x.2], rkV k] w fun e w' => e = .returned (.int .i64 (rkCmp x.1 k)) ∧ Below w.heap.size w w' := by
  have hcm := fun a b W => Compare_c a b W
  obtain ⟨r, hr⟩ : ∃ r, rkCmp x.1 k = r := ⟨_, rfl⟩
  rw [hr]
  unfold rkCmp at hr
  obtain ⟨p, hp⟩ : ∃ p, cmpB x.1.1 k.1 = p := ⟨_, rfl⟩
  obtain ⟨q, hq⟩ : ∃ q, cmpB x.1.2 k.2 = q := ⟨_, rfl⟩
  have hc1 := fun W => hcm x.1.1 k.1 W
  have hc2 := fun W => hcm x.1.2 k.2 W
  rw [hp] at hc1 hr
  rw [hq] at hc2 hr
  have HC1 := hd hc1; have HC2 := hd hc2; have HR := hd hr
  clear hcm hp hq hc1 hc2 hr
  unfold rkV
  go_enter Tryd.func92, Tryd.ntmps92
  go_wp2_with fail
  have hx0 : BxIn ((w.alloc (.cells #[.string (sOf x.1.1), .string (sOf x.1.2), .string x.2] 111)).alloc (.cells #[.string (sOf k.1), .string (sOf k.2)] 103)) w.heap.size x := by
    refine ⟨?_, ?_, ?_, ?_⟩ <;> simp [go_sem]
  have hk0 : RkIn ((w.alloc (.cells #[.string (sOf x.1.1), .string (sOf x.1.2), .string x.2] 111)).alloc (.cells #[.string (sOf k.1), .string (sOf k.2)] 103)) (w.heap.size + 1) k := by
    refine ⟨?_, ?_, ?_⟩ <;> simp [go_sem]
  have hb0 : Below w.heap.size w ((w.alloc (.cells #[.string (sOf x.1.1), .string (sOf x.1.2), .string x.2] 111)).alloc (.cells #[.string (sOf k.1), .string (sOf k.2)] 103)) := by go_grown
  generalize ((w.alloc (.cells #[.string (sOf x.1.1), .string (sOf x.1.2), .string x.2] 111)).alloc (.cells #[.string (sOf k.1), .string (sOf k.2)] 103)) = w1 at *
  replace hb0 := hb0.drew
  refine wp_region_M (fun W => BxIn W w.heap.size x ∧ RkIn W (w.heap.size + 1) k) 14 [(0, false), (1, false), (2, false), (3, false), (4, false), (6, false), (7, false), (8, false), (9, false), (10, false), (5, true), (11, true), (12, true), (13, true), (14, true)] (by kernel_rfl) (by kernel_rfl) (fun _ _ _ _ h => h) ⟨hx0.below (Below.refl w1.heap.size w1).drew hx0.1, hk0.below (Below.refl w1.heap.size w1).drew hk0.1⟩ ?_
  have hx2 := hx0.below (Below.refl w1.heap.size w1).drew hx0.1
  have hk2 := hk0.below (Below.refl w1.heap.size w1).drew hk0.1
  generalize w1.drew = w2 at *
  apply wpM_still (by rfl) (by rfl)
  · intro W hC
    obtain ⟨⟨x0, x1, x2, x3⟩, k0, k1, k2⟩ := hC
    go_simp
    rfl
  go_simp
  apply wpM_still (by rfl) (by rfl)
  · intro W hC
    obtain ⟨⟨x0, x1, x2, x3⟩, k0, k1, k2⟩ := hC
    go_simp
    rfl
  go_simp
  apply wpM_still (by rfl) (by rfl)
  · intro W hC
    obtain ⟨⟨x0, x1, x2, x3⟩, k0, k1, k2⟩ := hC
    go_simp
    rfl
  go_simp
  apply wpM_still (by rfl) (by rfl)
  · intro W hC
    obtain ⟨⟨x0, x1, x2, x3⟩, k0, k1, k2⟩ := hC
    go_simp
    rfl
  go_simp
  apply wpM_still (by rfl) (by rfl)
  · intro W hC
    obtain ⟨⟨x0, x1, x2, x3⟩, k0, k1, k2⟩ := hC
    go_simp
    rfl
  go_simp
  apply wpM_still (by rfl) (by rfl)
  · intro W hC
    obtain ⟨⟨x0, x1, x2, x3⟩, k0, k1, k2⟩ := hC
    go_simp
    rfl
  go_simp
  apply wpM_still (by rfl) (by rfl)
  · intro W hC
    obtain ⟨⟨x0, x1, x2, x3⟩, k0, k1, k2⟩ := hC
    go_simp
    rfl
  go_simp
  apply wpM_still (by rfl) (by rfl)
  · intro W hC
    obtain ⟨⟨x0, x1, x2, x3⟩, k0, k1, k2⟩ := hC
    go_simp
    rfl
  go_simp
  apply wpM_still (by rfl) (by rfl)
  · intro W hC
    obtain ⟨⟨x0, x1, x2, x3⟩, k0, k1, k2⟩ := hC
    go_simp
    rfl
  go_simp
  apply wpM_still (by rfl) (by rfl)
  · intro W hC
    obtain ⟨⟨x0, x1, x2, x3⟩, k0, k1, k2⟩ := hC
    go_simp
    rfl
  go_simp
  apply wpM_move (by rfl) (by rfl)
  intro K hK
  go_simp
  refine (HC1.out _).mono ?_
  rintro e w3 ⟨rfl, rfl⟩
  go_simp
  refine hK _ _ (fun _ => ⟨hx2, hk2⟩) ?_
  clear hK K
  apply wpM_move (by rfl) (by rfl)
  intro K hK
  go_simp
  refine (HC2.out _).mono ?_
  rintro e w3 ⟨rfl, rfl⟩
  go_simp
  refine hK _ _ (fun _ => ⟨hx2, hk2⟩) ?_
  clear hK K
  apply wpM_move (by rfl) (by rfl)
  intro K hK
  go_simp
  have b3 : Below w2.heap.size w2 (w2.alloc (.cells #[.int .i64 p, .int .i64 q] 3)) := by go_grown
  have d0 : (w2.alloc (.cells #[.int .i64 p, .int .i64 q] 3)).cell? ⟨w2.heap.size, 0, none⟩ = some (.int .i64 p) := by simp [go_sem]
  have d1 : (w2.alloc (.cells #[.int .i64 p, .int .i64 q] 3)).cell? ⟨w2.heap.size, 1, none⟩ = some (.int .i64 q) := by simp [go_sem]
  have hx3 := hx2.below b3 hx2.1
  have hk3 := hk2.below b3 hk2.1
  have hb3 := Below.up hb0 b3
  have hor := Or_c p q w2.heap.size _ d0 d1
  refine hK _ (w2.alloc (.cells #[.int .i64 p, .int .i64 q] 3)) (fun _ => ⟨hx3, hk3⟩) ?_
  clear hK K
  generalize w2.alloc (.cells #[.int .i64 p, .int .i64 q] 3) = w3 at *
  apply wpM_move (by rfl) (by rfl)
  intro K hK
  go_simp
  refine hor.mono ?_
  rintro e w4 ⟨rfl, rfl⟩
  go_simp
  refine hK _ _ (fun _ => ⟨hx3, hk3⟩) ?_
  clear hK K
  apply wpM_move (by rfl) (by rfl)
  intro K hK
  go_simp
  refine hK _ _ (fun h => absurd h (by decide)) ?_
  clear hK K
  refine wpM_nil ?_
  go_wp2_with fail
  go_ret
  exact ⟨ret_int HR.out, hb3⟩

/-- A birth's cells at a place. -/
def GxAt (w : World) (b o : Nat) (x : Bir) : Prop := b < w.heap.size ∧ w.cell? ⟨b, o, none⟩ = some (.string (sOf x.1.1)) ∧ w.cell? ⟨b, o + 1, none⟩ = some (.string (sOf x.1.2)) ∧ w.cell? ⟨b, o + 2, none⟩ = some (.string x.2)
theorem GxAt.below {B : Nat} {w w' : World} {b o : Nat} {x : Bir} (h : GxAt w b o x) (hb : Below B w w') (hB : b < B) : GxAt w' b o x := ⟨Nat.lt_of_lt_of_le h.1 hb.size, (bcell hb _ _ hB).trans h.2.1, (bcell hb _ _ hB).trans h.2.2.1, (bcell hb _ _ hB).trans h.2.2.2⟩
theorem RdB.gx {w : World} {a : Option Addr} {n c : Nat} {l : List Bir} (h : RdB w (.slice a n c) l) {k : Nat} {x : Bir} (hk : l[k]? = some x) : ∃ b o, a = some ⟨b, o, none⟩ ∧ GxAt w b (o + k * 3) x := by
  obtain ⟨b, o, h1, h2, h3, h4, h5⟩ := h.at hk
  exact ⟨b, o, h1, h2, h3, h4, h5⟩
theorem bwrap {h : Nat} (hh : h ≤ 4611686018427387904) : IntKind.u64.wrap (h : Int) = h := by
  rw [IntKind.wrap_u64]; omega
set_option maxRecDepth 100000 in
set_option maxHeartbeats 8000000 in
theorem binS_c (k : Rk) (l : List Bir) (v : Value) (w : World) (hs : Sorted l) (hv : RdB w v l) (hm : l.length ≤ 1000000) :
    Calls Tryd.prog 91 #[v, rkV k, .func (.func 92) #[] #[]] w
      fun e w' => e = .returned (.tuple #[.int .i64 (bAt l k), .bool (bHas l k)]) ∧ Below w.heap.size w w' := by
  obtain ⟨a, cp, rfl⟩ := hv.slice
  have hcl := fun x W => find1_c x k W
  have HV := hd hv; have HCL := hd hcl
  have HBA := hd (fun i => @bAt_unique l hs k i)
  obtain ⟨P, hP⟩ : ∃ P, bAt l k = P := ⟨_, rfl⟩
  obtain ⟨F, hF⟩ : ∃ F, bHas l k = F := ⟨_, rfl⟩
  have hle := bAt_le l k
  have hfx := bAt_has hs k
  rw [hF] at hfx ⊢
  rw [hP] at hfx hle ⊢
  rw [hP] at HBA
  have HF := hd hfx
  clear hv hcl hP hF hfx
  unfold rkV
  go_enter Tryd.func91, Tryd.ntmps91
  go_wp2_with fail
  have hk0 : RkIn (w.alloc (.cells #[.string (sOf k.1), .string (sOf k.2)] 103)) w.heap.size k := by
    refine ⟨?_, ?_, ?_⟩ <;> simp [go_sem]
  have hb0 : Below w.heap.size w (w.alloc (.cells #[.string (sOf k.1), .string (sOf k.2)] 103)) := by go_grown
  generalize w.alloc (.cells #[.string (sOf k.1), .string (sOf k.2)] 103) = w1 at *
  have HK := hd hk0
  go_loopw [9, 10] (fun x y w' => ∃ i j : Nat, x = .int .i64 i ∧ y = .int .i64 j ∧ i ≤ j ∧ j ≤ l.length ∧ (∀ m z, m < i → l[m]? = some z → rkLt z.1 k) ∧ (∀ m z, j ≤ m → l[m]? = some z → ¬ rkLt z.1 k) ∧ Below w1.heap.size w1 w') (fun x y _ => match x, y with | .int _ m, .int _ n => (n - m).toNat | _, _ => 0)
  case atStart => exact ⟨0, l.length, rfl, rfl, Nat.zero_le _, Nat.le_refl _, fun m z h => by omega, fun m z h hz => by have := (List.getElem?_eq_some_iff.1 hz).1; omega, Below.refl _ _⟩
  case round =>
    obtain ⟨i, j, rfl, rfl, hij, hjl, h1, h2, hB⟩ := hrel
    have H1 := hd h1; have H2 := hd h2
    clear h1 h2
    by_cases hlt : i < j
    · have hw1 : IntKind.i64.wrap ((i : Int) + (j : Int)) = ((i + j : Nat) : Int) := by rw [IntWalk.i64_in _ (by omega)]; push_cast; rfl
      have hw2 : IntKind.u64.wrap ((i + j : Nat) : Int) = ((i + j : Nat) : Int) := bwrap (by omega)
      go_wp2_with fail
      obtain ⟨h, hh⟩ : ∃ h, (i + j) / 2 = h := ⟨_, rfl⟩
      have hh2 : ((i : Int) + (j : Int)) / 2 = (h : Int) := by omega
      rw [hh2]
      have hih : i ≤ h := by omega
      have hhj : h < j := by omega
      have hhl : h < l.length := by omega
      clear hh hh2 hw1 hw2
      obtain ⟨x, hx⟩ : ∃ x, l[h]? = some x := ⟨_, List.getElem?_eq_getElem hhl⟩
      obtain ⟨b, o, rfl, hgx⟩ := HV.out.gx hx
      have hBw : Below w.heap.size w wr := hb0.trans (hB.mono hb0.size)
      have hg1 := (hgx.below hBw hgx.1).below (Below.refl wr.heap.size wr).drew (Nat.lt_of_lt_of_le hgx.1 hBw.size)
      have hk1 := (HK.out.below hB HK.out.1).below (Below.refl wr.heap.size wr).drew (Nat.lt_of_lt_of_le HK.out.1 hB.size)
      have hB1 := hB.drew
      refine wp_region_M (fun W => RkIn W w.heap.size k ∧ GxAt W b (o + h * 3) x) 7 [(0, false), (1, false), (2, false), (3, false), (4, false), (5, false), (6, true), (7, true)] (by kernel_rfl) (by kernel_rfl) (fun _ _ _ _ h => h) ⟨hk1, hg1⟩ ?_
      generalize wr.drew = w2 at *
      apply wpM_still (by rfl) (by rfl)
      · intro W hC
        obtain ⟨⟨k0, k1, k2⟩, g0, g1, g2, g3⟩ := hC
        go_simp
        rfl
      go_simp
      apply wpM_still (by rfl) (by rfl)
      · intro W hC
        obtain ⟨⟨k0, k1, k2⟩, g0, g1, g2, g3⟩ := hC
        go_simp
        rfl
      go_simp
      apply wpM_still (by rfl) (by rfl)
      · intro W hC
        obtain ⟨⟨k0, k1, k2⟩, g0, g1, g2, g3⟩ := hC
        go_simp
        rfl
      go_simp
      apply wpM_still (by rfl) (by rfl)
      · intro W hC
        obtain ⟨⟨k0, k1, k2⟩, g0, g1, g2, g3⟩ := hC
        go_simp
        rfl
      go_simp
      apply wpM_still (by rfl) (by rfl)
      · intro W hC
        obtain ⟨⟨k0, k1, k2⟩, g0, g1, g2, g3⟩ := hC
        go_simp
        rfl
      go_simp
      apply wpM_still (by rfl) (by rfl)
      · intro W hC
        obtain ⟨⟨k0, k1, k2⟩, g0, g1, g2, g3⟩ := hC
        go_simp
        rfl
      go_simp
      apply wpM_move (by rfl) (by rfl)
      intro K hK
      go_simp
      refine (HCL.out x _).mono ?_
      rintro e w3 ⟨rfl, hb3⟩
      go_simp
      refine hK _ _ (fun _ => ⟨hk1.below hb3 hk1.1, hg1.below hb3 hg1.1⟩) ?_
      clear hK K
      have hB3 := hB1.trans (hb3.mono hB1.size)
      apply wpM_move (by rfl) (by rfl)
      intro K hK
      go_simp
      refine hK _ _ (fun h => absurd h (by decide)) ?_
      clear hK K
      refine wpM_nil ?_
      by_cases hc : rkCmp x.1 k < 0
      · have hlt1 := rkCmp_lt.1 hc
        have hw3 : IntKind.i64.wrap ((h : Int) + 1) = (h : Int) + 1 := IntWalk.i64_in _ (by omega)
        rw [decide_eq_true hc]
        clear HCL HV
        go_wp2_with fail
        go_roundw
        case rel => exact ⟨h + 1, j, rfl, rfl, by omega, hjl, fun m z hm hz => by
            rcases Nat.lt_or_ge m h with hmh | hmh
            · exact rk_tr (sorted_at hs hmh hz hx) hlt1
            · have : m = h := by omega
              subst this
              rw [hx] at hz; cases hz; exact hlt1, H2.out, hB3⟩
        case measure => simp; omega
      · have hlt1 : ¬ rkLt x.1 k := fun h => hc (rkCmp_lt.2 h)
        rw [decide_eq_false hc]
        clear HCL HV
        go_wp2_with fail
        go_roundw
        case rel => exact ⟨i, h, rfl, rfl, hih, by omega, H1.out, fun m z hm hz => by
            rcases Nat.lt_or_ge h m with hmh | hmh
            · exact fun h2 => hlt1 (rk_tr (sorted_at hs hmh hx hz) h2)
            · have : m = h := by omega
              subst this
              rw [hx] at hz; cases hz; exact hlt1, hB3⟩
        case measure => simp; omega
    · have hije : i = j := by omega
      subst hije
      have hiP := HBA.out i hjl H1.out H2.out
      subst hiP
      have hBw : Below w.heap.size w wr := hb0.trans (hB.mono hb0.size)
      have hk1 := (HK.out.below hB HK.out.1).below (Below.refl wr.heap.size wr).drew (Nat.lt_of_lt_of_le HK.out.1 hB.size)
      clear HBA H1 H2
      by_cases hil : i < l.length
      · obtain ⟨x, hx⟩ : ∃ x, l[i]? = some x := ⟨_, List.getElem?_eq_getElem hil⟩
        obtain ⟨b, o, rfl, hgx⟩ := HV.out.gx hx
        have hg1 := (hgx.below hBw hgx.1).below (Below.refl wr.heap.size wr).drew (Nat.lt_of_lt_of_le hgx.1 hBw.size)
        have hB1 := hBw.drew
        have hf : F = decide (rkCmp x.1 k = 0) := by
          have := HF.out
          rw [hx] at this
          rw [Bool.eq_iff_iff, this, decide_eq_true_iff, rkCmp_eq]
          constructor
          · rintro ⟨t, ht⟩; rw [Option.some.inj ht]
          · intro h; exact ⟨x.2, by rw [← h]⟩
        have HFF := hd hf
        clear hf HF hx hgx
        have hii : (i : Int) < (l.length : Int) := by omega
        go_wp2_with fail
        refine wp_region_M (fun W => RkIn W w.heap.size k ∧ GxAt W b (o + i * 3) x) 15 [(0, false), (1, false), (2, false), (3, false), (4, false), (5, false), (6, false), (7, false), (8, false), (9, false), (10, false), (11, true), (12, false), (13, false), (14, false), (15, true)] (by kernel_rfl) (by kernel_rfl) (fun _ _ _ _ h => h) ⟨hk1, hg1⟩ ?_
        generalize wr.drew = w2 at *
        apply wpM_still (by rfl) (by rfl)
        · intro W hC
          obtain ⟨⟨k0, k1, k2⟩, g0, g1, g2, g3⟩ := hC
          go_simp
          rfl
        go_simp
        apply wpM_still (by rfl) (by rfl)
        · intro W hC
          obtain ⟨⟨k0, k1, k2⟩, g0, g1, g2, g3⟩ := hC
          go_simp
          rfl
        go_simp
        apply wpM_still (by rfl) (by rfl)
        · intro W hC
          obtain ⟨⟨k0, k1, k2⟩, g0, g1, g2, g3⟩ := hC
          go_simp
          rfl
        go_simp
        apply wpM_still (by rfl) (by rfl)
        · intro W hC
          obtain ⟨⟨k0, k1, k2⟩, g0, g1, g2, g3⟩ := hC
          go_simp
          rfl
        go_simp
        apply wpM_still (by rfl) (by rfl)
        · intro W hC
          obtain ⟨⟨k0, k1, k2⟩, g0, g1, g2, g3⟩ := hC
          go_simp
          rfl
        go_simp
        apply wpM_still (by rfl) (by rfl)
        · intro W hC
          obtain ⟨⟨k0, k1, k2⟩, g0, g1, g2, g3⟩ := hC
          go_simp
          rfl
        go_simp
        apply wpM_still (by rfl) (by rfl)
        · intro W hC
          obtain ⟨⟨k0, k1, k2⟩, g0, g1, g2, g3⟩ := hC
          go_simp
          rfl
        go_simp
        apply wpM_still (by rfl) (by rfl)
        · intro W hC
          obtain ⟨⟨k0, k1, k2⟩, g0, g1, g2, g3⟩ := hC
          go_simp
          rfl
        go_simp
        apply wpM_still (by rfl) (by rfl)
        · intro W hC
          obtain ⟨⟨k0, k1, k2⟩, g0, g1, g2, g3⟩ := hC
          go_simp
          rfl
        go_simp
        apply wpM_still (by rfl) (by rfl)
        · intro W hC
          obtain ⟨⟨k0, k1, k2⟩, g0, g1, g2, g3⟩ := hC
          go_simp
          rfl
        go_simp
        apply wpM_still (by rfl) (by rfl)
        · intro W hC
          obtain ⟨⟨k0, k1, k2⟩, g0, g1, g2, g3⟩ := hC
          go_simp
          rfl
        go_simp
        apply wpM_move (by rfl) (by rfl)
        intro K hK
        go_simp
        refine (HCL.out x _).mono ?_
        rintro e w3 ⟨rfl, hb3⟩
        go_simp
        refine hK _ _ (fun _ => ⟨hk1.below hb3 hk1.1, hg1.below hb3 hg1.1⟩) ?_
        clear hK K
        have hB3 := hB1.trans (hb3.mono hB1.size)
        apply wpM_still (by rfl) (by rfl)
        · intro W hC
          go_simp
          rfl
        go_simp
        apply wpM_still (by rfl) (by rfl)
        · intro W hC
          go_simp
          rfl
        go_simp
        apply wpM_still (by rfl) (by rfl)
        · intro W hC
          go_simp
          rfl
        go_simp
        apply wpM_move (by rfl) (by rfl)
        intro K hK
        go_simp
        refine hK _ _ (fun h => absurd h (by decide)) ?_
        clear hK K
        refine wpM_nil ?_
        go_wp2_with fail
        go_ret2
        exact ⟨ret2 rfl (vb (by rw [HFF.out, Bool.eq_iff_iff]; simp)), hB3⟩
      · have hile : i = l.length := by omega
        subst hile
        have hf : F = false := by
          have := HF.out
          rw [List.getElem?_eq_none (Nat.le_refl _)] at this
          cases F
          · rfl
          · obtain ⟨t, ht⟩ := this.1 rfl; cases ht
        have HFF := hd hf
        clear hf HF
        have hB1 := hBw.drew
        go_wp2_with fail
        refine wp_region_M (fun W => RkIn W w.heap.size k) 15 [(0, false), (1, false), (2, false), (3, false), (4, false), (5, false), (6, false), (7, false), (8, false), (9, false), (10, false), (11, true), (12, false), (13, false), (14, false), (15, true)] (by kernel_rfl) (by kernel_rfl) (fun _ _ _ _ h => h) hk1 ?_
        generalize wr.drew = w2 at *
        apply wpM_still (by rfl) (by rfl)
        · intro W hC
          go_simp
          rfl
        go_simp
        apply wpM_still (by rfl) (by rfl)
        · intro W hC
          go_simp
          rfl
        go_simp
        apply wpM_still (by rfl) (by rfl)
        · intro W hC
          go_simp
          rfl
        go_simp
        apply wpM_still (by rfl) (by rfl)
        · intro W hC
          go_simp
          rfl
        go_simp
        apply wpM_still (by rfl) (by rfl)
        · intro W hC
          go_simp
          rfl
        go_simp
        apply wpM_skip (by rfl) (by rfl)
        go_simp
        apply wpM_skip (by rfl) (by rfl)
        go_simp
        apply wpM_skip (by rfl) (by rfl)
        go_simp
        apply wpM_skip (by rfl) (by rfl)
        go_simp
        apply wpM_skip (by rfl) (by rfl)
        go_simp
        apply wpM_skip (by rfl) (by rfl)
        go_simp
        refine wpM_skipM (by rfl) (by rfl) hk1 ?_
        go_simp
        apply wpM_skip (by rfl) (by rfl)
        go_simp
        apply wpM_still (by rfl) (by rfl)
        · intro W hC
          go_simp
          rfl
        go_simp
        apply wpM_still (by rfl) (by rfl)
        · intro W hC
          go_simp
          rfl
        go_simp
        apply wpM_move (by rfl) (by rfl)
        intro K hK
        go_simp
        refine hK _ _ (fun h => absurd h (by decide)) ?_
        clear hK K
        refine wpM_nil ?_
        go_wp2_with fail
        go_ret2
        exact ⟨ret2 rfl (vb HFF.out.symm), hB1⟩

/-! ### The object -/
set_option maxRecDepth 100000 in
theorem bnone_c (g : Nat) (w : World) (h : w.cell? ⟨g, 1, none⟩ = some (.bool true)) : Calls Tryd.prog 46 #[.pointer (some ⟨g, 0, none⟩)] w fun e w' => e = .returned (.bool false) ∧ w = w' := by
  go_enter Tryd.func46, Tryd.ntmps46
  go_wp2_with fail
  go_ret
  exact ⟨rfl, rfl⟩
set_option maxRecDepth 100000 in
theorem bnoneZ_c (g : Nat) (w : World) (h : w.cell? ⟨g, 1, none⟩ = some (.bool false)) : Calls Tryd.prog 46 #[.pointer (some ⟨g, 0, none⟩)] w fun e w' => e = .returned (.bool true) ∧ w = w' := by
  go_enter Tryd.func46, Tryd.ntmps46
  go_wp2_with fail
  go_ret
  exact ⟨rfl, rfl⟩
set_option maxRecDepth 100000 in
theorem bnoneN_c (w : World) : Calls Tryd.prog 46 #[.pointer none] w fun e w' => e = .returned (.bool true) ∧ w = w' := by
  go_enter Tryd.func46, Tryd.ntmps46
  go_wp2_with fail
  go_ret
  exact ⟨rfl, rfl⟩
set_option maxRecDepth 100000 in
set_option maxHeartbeats 4000000 in
theorem bfind_c (g : Nat) (v : Value) (l : List Bir) (k : Rk) (w : World) (h : BsAt w g v l) (hs : Sorted l) (hm : l.length ≤ 1000000) :
    Calls Tryd.prog 49 #[.pointer (some ⟨g, 0, none⟩), rkV k] w fun e w' => e = .returned (.tuple #[.int .i64 (bAt l k), .bool (bHas l k)]) ∧ Below w.heap.size w w' := by
  have hbs := fun W h => binS_c k l v W hs h hm
  obtain ⟨P, hP⟩ : ∃ P, bAt l k = P := ⟨_, rfl⟩
  obtain ⟨F, hF⟩ : ∃ F, bHas l k = F := ⟨_, rfl⟩
  rw [hP, hF] at hbs
  rw [hP, hF]
  have HBS := hd hbs
  have c0 := h.c0; have hg := h.lt
  have HB := hd h
  clear hP hF hbs h
  unfold rkV at HBS ⊢
  go_enter Tryd.func49, Tryd.ntmps49
  go_wp2_with fail
  have hk0 : RkIn (w.alloc (.cells #[.string (sOf k.1), .string (sOf k.2)] 103)) w.heap.size k := by
    refine ⟨?_, ?_, ?_⟩ <;> simp [go_sem]
  have hb0 : Below w.heap.size w (w.alloc (.cells #[.string (sOf k.1), .string (sOf k.2)] 103)) := by go_grown
  have hc0 := (bcell hb0 g 0 hg).trans c0
  have hgl : g < (w.alloc (.cells #[.string (sOf k.1), .string (sOf k.2)] 103)).heap.size := Nat.lt_of_lt_of_le hg hb0.size
  generalize w.alloc (.cells #[.string (sOf k.1), .string (sOf k.2)] 103) = w1 at *
  have hk1 := hk0.below (Below.refl w1.heap.size w1).drew hk0.1
  have hb1 := hb0.drew
  have hc1 := (bcell (Below.refl w1.heap.size w1).drew g 0 hgl).trans hc0
  refine wp_region_M (fun W => RkIn W w.heap.size k ∧ W.cell? ⟨g, 0, none⟩ = some v) 9 [(0, false), (1, false), (2, false), (3, false), (4, false), (5, true), (6, false), (7, false), (8, false), (9, true)] (by kernel_rfl) (by kernel_rfl) (fun _ _ _ _ h => h) ⟨hk1, hc1⟩ ?_
  have hgl2 : g < w1.drew.heap.size := hgl
  generalize w1.drew = w2 at *
  apply wpM_still (by rfl) (by rfl)
  · intro W hC
    obtain ⟨⟨k0, k1, k2⟩, g0⟩ := hC
    go_simp
    rfl
  go_simp
  apply wpM_still (by rfl) (by rfl)
  · intro W hC
    obtain ⟨⟨k0, k1, k2⟩, g0⟩ := hC
    go_simp
    rfl
  go_simp
  apply wpM_still (by rfl) (by rfl)
  · intro W hC
    obtain ⟨⟨k0, k1, k2⟩, g0⟩ := hC
    go_simp
    rfl
  go_simp
  apply wpM_still (by rfl) (by rfl)
  · intro W hC
    obtain ⟨⟨k0, k1, k2⟩, g0⟩ := hC
    go_simp
    rfl
  go_simp
  apply wpM_still (by rfl) (by rfl)
  · intro W hC
    obtain ⟨⟨k0, k1, k2⟩, g0⟩ := hC
    go_simp
    rfl
  go_simp
  apply wpM_move (by rfl) (by rfl)
  intro K hK
  go_simp
  refine (HBS.out _ (OwnB.rd (HB.out.below hb1).own)).mono ?_
  rintro e w3 ⟨rfl, hb3⟩
  go_simp
  refine hK _ _ (fun _ => ⟨hk1.below hb3 hk1.1, (bcell hb3 g 0 hgl2).trans hc1⟩) ?_
  clear hK K
  have hB3 := Below.up hb1 hb3
  apply wpM_still (by rfl) (by rfl)
  · intro W hC
    go_simp
    rfl
  go_simp
  apply wpM_still (by rfl) (by rfl)
  · intro W hC
    go_simp
    rfl
  go_simp
  apply wpM_still (by rfl) (by rfl)
  · intro W hC
    go_simp
    rfl
  go_simp
  apply wpM_move (by rfl) (by rfl)
  intro K hK
  go_simp
  refine hK _ _ (fun h => absurd h (by decide)) ?_
  clear hK K
  refine wpM_nil ?_
  go_wp2_with fail
  go_ret2
  exact ⟨rfl, hB3⟩
set_option maxRecDepth 100000 in
theorem bLen_c (g : Nat) (v : Value) (l : List Bir) (w : World) (h : BsAt w g v l) : Calls Tryd.prog 27 #[.pointer (some ⟨g, 0, none⟩)] w fun e w' => e = .returned (.int .i64 l.length) ∧ w = w' := by
  obtain ⟨a, c, rfl⟩ := h.own.slice
  have c0 := h.c0; have c1 := h.c1
  clear h
  go_enter Tryd.func27, Tryd.ntmps27
  go_wp2_with (first | (go_at_call 46; refine (bnone_c _ _ c1).mono ?_; rintro e w' ⟨rfl, rfl⟩))
  go_ret
  exact ⟨rfl, rfl⟩
set_option maxRecDepth 100000 in
theorem bNew_c (w : World) : Calls Tryd.prog 19 #[] w fun e w' => e = .returned (.pointer (some ⟨w.heap.size, 0, none⟩)) ∧ BsAt w' w.heap.size (.slice none 0 0) [] ∧ Below w.heap.size w w' := by
  go_enter Tryd.func19, Tryd.ntmps19
  go_wp2_with fail
  go_ret
  refine ⟨rfl, ⟨by simp [go_sem], by simp [go_sem], by simp [go_sem], OwnB.nil _, by simp [blk, Value.ownBlock], by simp [go_sem]⟩, by go_grown⟩
set_option maxRecDepth 100000 in
set_option maxHeartbeats 4000000 in
theorem bGet_c (g : Nat) (v : Value) (l : List Bir) (t : List UInt8) (w : World) (hE : EnvU w) (hW : EnvW w) (ht : t.length ≤ 100000000) (h : BsAt w g v l) (hs : Sorted l) (hm : l.length ≤ 1000000) :
    Calls Tryd.prog 21 #[.pointer (some ⟨g, 0, none⟩), .string (sOf t)] w fun e w' => e = .returned (.tuple #[.string (((bRank t).bind (bGet l)).getD ⟨#[]⟩), .bool ((bRank t).bind (bGet l)).isSome]) ∧ Below w.heap.size w w' := by
  obtain ⟨a, cp, rfl⟩ := h.own.slice
  have hrk := rankOf_c t w hE hW ht
  have c1 := h.c1
  have HB := hd h
  obtain ⟨r, hr⟩ : ∃ r, bRank t = r := ⟨_, rfl⟩
  rw [hr] at hrk ⊢
  have HRK := hd hrk
  clear hrk hE hW hr h
  go_enter Tryd.func21, Tryd.ntmps21
  go_wp2_with (first | (go_at_call 46; refine (bnone_c _ _ c1).mono ?_; rintro e w' ⟨rfl, rfl⟩))
  refine HRK.out.mono ?_
  rintro e w1 ⟨k, rfl, hk, hb⟩
  unfold rkV
  cases r with
  | none =>
    go_wp2_with fail
    go_ret2
    exact ⟨rfl, Below.up hb (by go_grown)⟩
  | some k' =>
    obtain rfl := hk k' rfl
    clear hk HRK
    have hb1 : Below w1.heap.size w1 (w1.alloc (.cells #[.string (sOf k.1), .string (sOf k.2)] 103)) := by go_grown
    have hbb := Below.up hb hb1
    go_wp2_with fail
    refine (bfind_c g _ l k _ (HB.out.below hbb) hs hm).mono ?_
    rintro e w2 ⟨rfl, hb2⟩
    have hB2 := Below.up hbb hb2
    have hat := HB.out.below hB2
    have c0 := hat.c0
    have hfx := bAt_has hs k
    have hge : ∀ u, l[bAt l k]? = some (k, u) → bGet l k = some u := fun u hu => by unfold bGet; rw [hu]; simp
    have hgn : bHas l k = false → bGet l k = none := fun hh => by
      cases e : bGet l k with
      | none => rfl
      | some u =>
        have : bHas l k = true := List.any_eq_true.2 ⟨_, (get_iff hs).1 e, by simp⟩
        rw [hh] at this; cases this
    have hrd := hat.own.rd
    clear hat HB hb hb1 hbb hb2
    simp only [Option.bind_some]
    generalize bAt l k = P at *
    generalize bHas l k = F at *
    cases F
    · have HG := hd (hgn rfl)
      clear hgn hge hfx
      go_wp2_with fail
      go_ret2
      exact ⟨by simp only [Option.bind_some, HG.out]; rfl, hB2⟩
    · obtain ⟨u, hu⟩ := hfx.1 rfl
      have HG := hd (hge u hu)
      have hPl := (List.getElem?_eq_some_iff.1 hu).1
      obtain ⟨b, o, rfl, h0, h1, h2, h3⟩ := hrd.gx hu
      simp only at h1 h2 h3
      clear hgn hge hfx hu hrd
      go_wp2_with fail
      go_ret2
      exact ⟨by simp only [Option.bind_some, HG.out]; rfl, hB2⟩
end Go.Proofs.YtclicjokgfiegaaDoor

/- Births: one is laid between others: slices.Insert: the walk. -/
namespace Go.Proofs.YtclicjokgfiegaaDoor
open Go.RowKit
set_option linter.unusedVariables false
set_option linter.unusedSimpArgs false

theorem info_bir1 : (Tryd.prog.info? 111).map (·.size) = some 3 := by kernel_rfl
theorem size_bir (w : World) : (sizeOf 111).run Tryd.prog w = .ok 3 w := by
  obtain ⟨i0, hi0, hz0, hz1, hz2⟩ := info_parts info_bir
  simp [sizeOf, typeInfo, hi0, hz1]
theorem ins_range {w : World} {g o i : Nat} {l : List Bir} {x : Bir} (h1 : w.rangeAt g o (birs (l.take i))) (hi : i ≤ l.length) (h2 : w.rangeAt g (o + i * 3) (birV x)) (h3 : w.rangeAt g (o + (i + 1) * 3) (birs (l.drop i))) :
    w.rangeAt g o (birs (l.take i ++ x :: l.drop i)) := by
  have e : l.take i ++ x :: l.drop i = (l.take i ++ [x]) ++ l.drop i := by simp
  rw [e]
  refine range_cat (range_snoc h1 ?_) ?_
  · rw [List.length_take, Nat.min_eq_left hi]; exact h2
  · rw [List.length_append, List.length_take, Nat.min_eq_left hi]; exact h3
theorem rangeDrew {w : World} {b o : Nat} {l : List Value} (h : w.rangeAt b o l) : w.drew.rangeAt b o l := (World.rangeAt_drew w b o l).2 h
theorem keepsDrew (S : List Nat) (w : World) : Keeps S w w.drew := (Keeps.refl S w).drew
set_option maxRecDepth 100000 in
set_option maxHeartbeats 8000000 in
theorem insertRoom_c (l : List Bir) (g o cap tot i : Nat) (x : Bir) (gx : Nat) (w : World) (hr : RowIn w g 111 tot) (hl : w.rangeAt g o (birs l)) (hi : i < l.length) (hc : l.length + 1 ≤ cap) (hcm : cap ≤ maxLen) (htot : o + cap * 3 ≤ tot)
    (hx : RowIn w gx 111 3) (hxr : w.rangeAt gx 0 (birV x)) (hne : gx ≠ g) (hm : l.length ≤ 1000000) :
    Calls Tryd.prog 50 #[.slice (some ⟨g, o, none⟩) l.length cap, .int .i64 i, .slice (some ⟨gx, 0, none⟩) 1 1] w
      fun e w' => e = .returned (.slice (some ⟨g, o, none⟩) (l.length + 1) cap) ∧ RowIn w' g 111 tot ∧ w'.rangeAt g o (birs (l.take i ++ x :: l.drop i)) ∧ Keeps [g] w w' := by
  obtain ⟨n, hn⟩ : ∃ n, l.length = n := ⟨_, rfl⟩
  have hdl : (birs (l.drop i)).length = (n - i) * 3 := by rw [birs_len, List.length_drop, hn]
  have hs0 := fun W => run_fromB g o n cap i i rfl (by omega) (by omega) W
  have hsn := fun W => run_toB g o n cap ((n : Int) + 1) (n + 1) (by push_cast; rfl) (by omega) (by omega) W
  have hs1 := fun W => run_fromB g o (n + 1) cap ((i : Int) + 1) (i + 1) (by push_cast; rfl) (by omega) (by omega) W
  have hni : n + 1 - (i + 1) = n - i := by omega
  rw [hni] at hs1
  have hs2 := fun W => run_fromB g o (n + 1) cap i i rfl (by omega) (by omega) W
  have hov : ∀ W : World, W = w → (callFunc 95 #[.slice (some ⟨gx, 0, none⟩) 1 1, .slice (some ⟨g, o + (i + 1) * 3, none⟩) (n - i) (cap - (i + 1))]).run Tryd.prog W = .ok (.value (.bool false)) W := fun W hW => by
    subst hW
    rw [run_callFunc_extern Tryd.func95 (by kernel_rfl) (by kernel_rfl) (by kernel_rfl) (e := Extern.SlicesOverlaps.overlaps #[66, 66] #[4]) (by kernel_rfl),
      Lib.run_overlaps_apart W 66 4 111 Tryd.underlying66 3 size_bir ⟨gx, 0, none⟩ ⟨g, o + (i + 1) * 3, none⟩ 1 1 (n - i) (cap - (i + 1)) hne 111 111 3 tot hx.shape hr.shape (by omega) (hx.frozen _) (hx.frozen _)]
    rfl
  replace hov := hov w rfl
  have hth1 : w.drew.there g (o + (i + 1) * 3) (birs (l.drop i)).length := (hr.drew).there (by rw [hdl]; omega)
  have hcp1 : ∀ ty, (Builtin.copy_ #[66, 66] ty #[.slice (some ⟨g, o + (i + 1) * 3, none⟩) (n - i) (cap - (i + 1)), .slice (some ⟨g, o + i * 3, none⟩) (n + 1 - i) (cap - i)]).run Tryd.prog w.drew = .ok (goInt (Nat.min (n + 1 - i) (n - i))) (w.drew.setCells g (o + (i + 1) * 3) (birs (l.drop i))) := fun ty =>
    run_copyK w.drew _ _ ty 111 3 g (o + (i + 1) * 3) (n - i) (cap - (i + 1)) ⟨g, o + i * 3, none⟩ (n + 1 - i) (cap - i) (birs (l.drop i)) Tryd.underlying66 info_bir1 (by rw [hdl]; show _ = (min (n + 1 - i) (n - i)) * 3; rw [Nat.min_eq_right (by omega)])
      (fun j v hj => by rw [Addr.add_mid]; exact range_drop (rangeDrew hl) i j v hj) hth1 (birs_one _)
  obtain ⟨W1, hW1⟩ : ∃ W1, W1 = w.drew.setCells g (o + (i + 1) * 3) (birs (l.drop i)) := ⟨_, rfl⟩
  have hr1 : RowIn W1 g 111 tot := by rw [hW1]; exact hr.drew.setCells _ _ _
  have hx1 : W1.rangeAt gx 0 (birV x) := by rw [hW1]; exact World.rangeAt_setCells_apart (rangeDrew hxr) _ _ _ (.inl hne)
  have ha1 : W1.rangeAt g o (birs (l.take i)) := by
    rw [hW1]
    exact World.rangeAt_setCells_apart (rangeDrew (range_take hl i)) _ _ _ (.inr (.inl (by rw [birs_len, List.length_take]; omega)))
  have hd1 : W1.rangeAt g (o + (i + 1) * 3) (birs (l.drop i)) := by rw [hW1]; exact World.rangeAt_setCells_same _ _ _ _ hth1
  have hk1 : Keeps [g] w W1 := by rw [hW1]; exact keeps_scells g _ _ _ _ (keepsDrew [g] w)
  rw [← hW1] at hcp1
  have hth2 : W1.there g (o + i * 3) (birV x).length := hr1.there (by rw [birV_len]; omega)
  have hcp2 : ∀ ty, (Builtin.copy_ #[66, 66] ty #[.slice (some ⟨g, o + i * 3, none⟩) (n + 1 - i) (cap - i), .slice (some ⟨gx, 0, none⟩) 1 1]).run Tryd.prog W1 = .ok (goInt (Nat.min 1 (n + 1 - i))) (W1.setCells g (o + i * 3) (birV x)) := fun ty =>
    run_copyK W1 _ _ ty 111 3 g (o + i * 3) (n + 1 - i) (cap - i) ⟨gx, 0, none⟩ 1 1 (birV x) Tryd.underlying66 info_bir1 (by rw [birV_len]; show _ = (min 1 (n + 1 - i)) * 3; rw [Nat.min_eq_left (by omega)])
      (fun j v hj => by rw [Addr.add_mid]; exact hx1 j v hj) hth2 (birV_one x)
  have hres : RowIn (W1.setCells g (o + i * 3) (birV x)) g 111 tot ∧ (W1.setCells g (o + i * 3) (birV x)).rangeAt g o (birs (l.take i ++ x :: l.drop i)) ∧ Keeps [g] w (W1.setCells g (o + i * 3) (birV x)) := by
    refine ⟨hr1.setCells _ _ _, ins_range ?_ (by omega) ?_ ?_, hk1.trans (keeps_scells1 _ _ _ _)⟩
    · exact World.rangeAt_setCells_apart ha1 _ _ _ (.inr (.inl (by rw [birs_len, List.length_take]; omega)))
    · exact World.rangeAt_setCells_same _ _ _ _ hth2
    · exact World.rangeAt_setCells_apart hd1 _ _ _ (.inr (.inr (by rw [birV_len]; omega)))
  have hw1 : IntKind.i64.wrap ((n : Int) + 1) = (n : Int) + 1 := IntWalk.i64_in _ (by omega)
  have hw2 : IntKind.i64.wrap ((i : Int) + 1) = (i : Int) + 1 := IntWalk.i64_in _ (by omega)
  have hin : ((i : Int) == (n : Int)) = false := by simp; omega
  have hcn : ¬ (cap : Int) < (n : Int) + 1 := by omega
  rw [hn]
  have HRES := hd hres
  clear hni hres hk1 hd1 ha1 hx1 hr1 hth2 hth1 hdl hr hl hx hxr hW1
  go_enter Tryd.func50, Tryd.ntmps50
  go_wp2_with (simp only [hov])
  refine wp_region_M (fun _ => True) 8 [(0, false), (1, false), (2, false), (3, false), (4, false), (5, false), (6, false), (7, false), (8, true)] (by kernel_rfl) (by kernel_rfl) (fun _ _ _ _ h => h) trivial ?_
  apply wpM_still (by rfl) (by rfl)
  · intro W hC
    go_simp
    rfl
  go_simp
  apply wpM_still (by rfl) (by rfl)
  · intro W hC
    go_simp
    rfl
  go_simp
  apply wpM_still (by rfl) (by rfl)
  · intro W hC
    go_simp
    rfl
  go_simp
  apply wpM_still (by rfl) (by rfl)
  · intro W hC
    go_simp
    rfl
  go_simp
  apply wpM_still (by rfl) (by rfl)
  · intro W hC
    go_simp
    rfl
  go_simp
  apply wpM_still (by rfl) (by rfl)
  · intro W hC
    go_simp
    rfl
  go_simp
  apply wpM_still (by rfl) (by rfl)
  · intro W hC
    go_simp
    rfl
  go_simp
  apply wpM_still (by rfl) (by rfl)
  · intro W hC
    go_simp
    rfl
  go_simp
  apply wpM_move (by rfl) (by rfl)
  intro K hK
  go_simp
  refine hK _ _ (fun h => absurd h (by decide)) ?_
  clear hK K
  refine wpM_nil ?_
  go_wp2_with fail
  go_ret
  exact ⟨rfl, HRES.out⟩
/-- append whose run is known. -/
theorem wpl_appendR {P : Program} {w : World} {ops : Array Oper} {rest : List Oper} {o : Oper} {a : Act} {Q : Exit → Act → World → Prop} (hgd : o.guard = none) (d s : Operand) (t t' : TypeId)
    (ho : o.op = .call { callee := .builtin .append, args := #[d, s], argTypes := #[t, t'] }) (v u : Value) (hd : a.eval d = v) (hs : a.eval s = u) {v' : Value} {w' : World}
    (hr : (Builtin.append_ #[t, t'] o.type #[v, u]).run P w = .ok v' w') (h : wpList P ops Q rest (a.put o.dst v') w') : wpList P ops Q (o :: rest) a w := by
  refine wpList_plain hgd fun K hK => ?_
  unfold Oper.wp execOp
  simp only [ho, resolve, invoke, builtin, Sem.run_bind, Sem.run_pure, Result.andThen_ok, List.map_toArray, List.map_cons, List.map_nil, hd, hs, hr]
  exact hK _ _ h
def zB : Value := .agg #[.string ⟨#[]⟩, .string ⟨#[]⟩, .string ⟨#[]⟩]
theorem zeroCells_sizeB (k : Nat) : (Builtin.zeroCells zB.cells k).size = k * 3 := by simp [Builtin.zeroCells, zB, Value.cells]
set_option maxRecDepth 100000 in
set_option maxHeartbeats 8000000 in
theorem insertGrow_c (l : List Bir) (g o cap i : Nat) (x : Bir) (gx : Nat) (w : World) (hl : w.rangeAt g o (birs l)) (hi : i < l.length) (hle : l.length ≤ cap) (hc : cap < l.length + 1)
    (hxr : w.rangeAt gx 0 (birV x)) (hm : l.length ≤ 1000000) :
    Calls Tryd.prog 50 #[.slice (some ⟨g, o, none⟩) l.length cap, .int .i64 i, .slice (some ⟨gx, 0, none⟩) 1 1] w
      fun e w' => ∃ G, e = .returned (.slice (some ⟨w.heap.size, 0, none⟩) (l.length + 1) G) ∧ RowIn w' w.heap.size 111 (G * 3) ∧ w'.rangeAt w.heap.size 0 (birs (l.take i ++ x :: l.drop i)) ∧ l.length + 1 ≤ G ∧ G ≤ maxLen ∧ Below w.heap.size w w' := by
  obtain ⟨n, hn⟩ : ∃ n, l.length = n := ⟨_, rfl⟩
  obtain ⟨h, hh⟩ : ∃ h, w.heap.size = h := ⟨_, rfl⟩
  have hdl : (birs (l.drop i)).length = (n - i) * 3 := by rw [birs_len, List.length_drop, hn]
  have htl : (birs (l.take i)).length = i * 3 := by rw [birs_len, List.length_take, Nat.min_eq_left (by omega)]
  have hgw : g < w.heap.size := by
    have := hl 0 _ (birs_at l 0 l[0] (List.getElem?_eq_getElem (by omega)) 0 _ rfl)
    exact World.block_lt_of_cell? w _ (by simpa using this)
  have hxw : gx < w.heap.size := by
    have := hxr 0 _ (show (birV x)[0]? = some (.string (sOf x.1.1)) from rfl)
    exact World.block_lt_of_cell? w _ (by simpa using this)
  obtain ⟨i0, hi0, hz0, hzs, hzb⟩ := info_parts info_bir
  have hold : (Builtin.firstCells i0.size i (.slice (some ⟨g, o, none⟩) i cap)).run Tryd.prog w.drew = .ok (birs (l.take i)).toArray w.drew := by
    rw [hzs]
    exact run_firstCells_some w.drew 3 i ⟨g, o, none⟩ i cap (birs (l.take i)) htl (fun j v hj => by rw [Addr.add_mid]; exact rangeDrew (range_take hl i) j v hj)
  have hik : i + (n + 1 - i) = n + 1 := by omega
  have hkk : (n : Int) + 1 - (i : Int) = ((n + 1 - i : Nat) : Int) := by omega
  have hrz : ∀ ty, (Builtin.append_ #[66, 3] ty #[.slice (some ⟨g, o, none⟩) i cap, .int .i64 ((n : Int) + 1 - (i : Int))]).run Tryd.prog w =
      .ok (.slice (some ⟨w.heap.size, 0, none⟩) (n + 1) (grownCap w (n + 1) cap 111)) (w.drew.alloc (.cells ((birs (l.take i)).toArray ++ Builtin.zeroCells zB.cells (n + 1 - i) ++ Builtin.zeroCells zB.cells (grownCap w (n + 1) cap 111 - (n + 1))) 111)) := fun ty => by
    have h := Lib.run_append_grow_zeros w 66 3 ty 111 i0 _ .i64 .i64 Tryd.underlying66 Tryd.underlying3 hi0 hz0 (some ⟨g, o, none⟩) i cap (birs (l.take i)) hold (n + 1 - i) (by omega) (by omega) (by omega) (by omega) (by rw [hzb]; omega) (by rw [hzb, hik]; exact growslice_fits (by omega) (by omega))
    rw [hik] at h
    rw [hkk]
    exact h
  have hGn : n + 1 ≤ grownCap w (n + 1) cap 111 := grownCap_ge w _ _ _
  have hGm := grownCap_le_maxLen w (n + 1) cap 111 (by unfold maxLen; omega)
  generalize grownCap w (n + 1) cap 111 = G at *
  obtain ⟨ROW, hROW⟩ : ∃ ROW : Array Value, ROW = (birs (l.take i)).toArray ++ Builtin.zeroCells zB.cells (n + 1 - i) ++ Builtin.zeroCells zB.cells (G - (n + 1)) := ⟨_, rfl⟩
  rw [← hROW] at hrz
  have hRs : ROW.size = G * 3 := by
    rw [hROW]
    simp only [Array.size_append, zeroCells_sizeB, List.size_toArray, htl]
    omega
  have hRt : ∀ j v, (birs (l.take i))[j]? = some v → ROW[j]? = some v := fun j v hj => by
    have hjl := (List.getElem?_eq_some_iff.1 hj).1
    rw [hROW, Array.append_assoc, Array.getElem?_append_left (by simpa using hjl)]
    simpa using hj
  have hB1 : Below w.heap.size w (w.drew.alloc (.cells ROW 111)) := (Below.refl w.heap.size w).drew.alloc (Nat.le_refl _) _
  have hr1 : RowIn (w.drew.alloc (.cells ROW 111)) w.heap.size 111 (G * 3) := ⟨ROW, heap_alloc_new w.drew _, hRs⟩
  have ht1 : (w.drew.alloc (.cells ROW 111)).rangeAt w.heap.size 0 (birs (l.take i)) := fun j v hj => by
    rw [Nat.zero_add, World.cell?_alloc_at (w := w.drew) ROW _ w.heap.size j rfl]; exact hRt j v hj
  generalize w.drew.alloc (.cells ROW 111) = W1 at *
  have hx1 := rangeB hxr hB1 hxw
  have hl1 := rangeB hl hB1 hgw
  rw [hh] at hrz hr1 ht1 hB1 ⊢
  have hsT := fun W => run_toB g o n cap i i rfl (by omega) (by omega) W
  have hs0 := fun W => run_fromB g o n cap i i rfl (by omega) (by omega) W
  have hsA := fun W => run_fromB h 0 (n + 1) G i i rfl (by omega) (by omega) W
  have hsB := fun W => run_fromB h 0 (n + 1) G ((i : Int) + 1) (i + 1) (by push_cast; rfl) (by omega) (by omega) W
  have hni : n + 1 - (i + 1) = n - i := by omega
  rw [hni] at hsB
  rw [Nat.zero_add] at hsA hsB
  have hthA : W1.there h (i * 3) (birV x).length := hr1.there (by rw [birV_len]; omega)
  have hcpA : ∀ ty, (Builtin.copy_ #[66, 66] ty #[.slice (some ⟨h, i * 3, none⟩) (n + 1 - i) (G - i), .slice (some ⟨gx, 0, none⟩) 1 1]).run Tryd.prog W1 = .ok (goInt (Nat.min 1 (n + 1 - i))) (W1.setCells h (i * 3) (birV x)) := fun ty =>
    run_copyK W1 _ _ ty 111 3 h (i * 3) (n + 1 - i) (G - i) ⟨gx, 0, none⟩ 1 1 (birV x) Tryd.underlying66 info_bir1 (by rw [birV_len]; show _ = (min 1 (n + 1 - i)) * 3; rw [Nat.min_eq_left (by omega)])
      (fun j v hj => by rw [Addr.add_mid]; exact hx1 j v hj) hthA (birV_one x)
  have hr2 : RowIn (W1.setCells h (i * 3) (birV x)) h 111 (G * 3) := hr1.setCells _ _ _
  have hk2 : Below h w (W1.setCells h (i * 3) (birV x)) := hB1.trans ((keeps_scells1 h (i * 3) (birV x) W1).toBelow (by have := hB1.size; omega) (by intro k hk; simp at hk; omega))
  have ht2 := World.rangeAt_setCells_apart ht1 h (i * 3) (birV x) (.inr (.inl (by rw [htl]; omega)))
  have hx2 := World.rangeAt_setCells_same W1 h (i * 3) (birV x) hthA
  have hl2 := World.rangeAt_setCells_apart hl1 h (i * 3) (birV x) (.inl (by omega))
  generalize W1.setCells h (i * 3) (birV x) = W2 at *
  have hthB : W2.drew.there h ((i + 1) * 3) (birs (l.drop i)).length := hr2.drew.there (by rw [hdl]; omega)
  have hcpB : ∀ ty, (Builtin.copy_ #[66, 66] ty #[.slice (some ⟨h, (i + 1) * 3, none⟩) (n - i) (G - (i + 1)), .slice (some ⟨g, o + i * 3, none⟩) (n - i) (cap - i)]).run Tryd.prog W2.drew = .ok (goInt (Nat.min (n - i) (n - i))) (W2.drew.setCells h ((i + 1) * 3) (birs (l.drop i))) := fun ty =>
    run_copyK W2.drew _ _ ty 111 3 h ((i + 1) * 3) (n - i) (G - (i + 1)) ⟨g, o + i * 3, none⟩ (n - i) (cap - i) (birs (l.drop i)) Tryd.underlying66 info_bir1 (by rw [hdl]; show _ = (min (n - i) (n - i)) * 3; rw [Nat.min_self])
      (fun j v hj => by rw [Addr.add_mid]; exact range_drop (rangeDrew hl2) i j v hj) hthB (birs_one _)
  have hr3 : RowIn (W2.drew.setCells h ((i + 1) * 3) (birs (l.drop i))) h 111 (G * 3) := hr2.drew.setCells _ _ _
  have hk3 : Below h w (W2.drew.setCells h ((i + 1) * 3) (birs (l.drop i))) := hk2.drew.trans ((keeps_scells1 h _ _ W2.drew).toBelow (by have := hk2.size; show h ≤ W2.heap.size; omega) (by intro k hk; simp at hk; omega))
  have ht3 := World.rangeAt_setCells_apart (rangeDrew ht2) h ((i + 1) * 3) (birs (l.drop i)) (.inr (.inl (by rw [htl]; omega)))
  have hx3 := World.rangeAt_setCells_apart (rangeDrew hx2) h ((i + 1) * 3) (birs (l.drop i)) (.inr (.inl (by rw [birV_len]; omega)))
  have hd3 := World.rangeAt_setCells_same W2.drew h ((i + 1) * 3) (birs (l.drop i)) hthB
  have hres := ins_range (g := h) (o := 0) (i := i) (l := l) (x := x) ht3 (by omega) (by rw [Nat.zero_add]; exact hx3) (by rw [Nat.zero_add]; exact hd3)
  rw [hn]
  have HRES := hd (And.intro hr3 (And.intro hres (And.intro hGn (And.intro hGm hk3))))
  generalize W2.drew.setCells h ((i + 1) * 3) (birs (l.drop i)) = W3 at *
  have hw1 : IntKind.i64.wrap ((n : Int) + 1) = (n : Int) + 1 := IntWalk.i64_in _ (by omega)
  have hw2 : IntKind.i64.wrap ((i : Int) + 1) = (i : Int) + 1 := IntWalk.i64_in _ (by omega)
  have hw3 : IntKind.i64.wrap ((n : Int) + 1 - (i : Int)) = (n : Int) + 1 - (i : Int) := IntWalk.i64_in _ (by omega)
  have hin : ((i : Int) == (n : Int)) = false := by simp; omega
  have hcn : (cap : Int) < (n : Int) + 1 := by omega
  clear hres hd3 hx3 ht3 hk3 hr3 hthB hl2 hx2 ht2 hk2 hr2 hthA hl1 hx1 ht1 hr1 hB1 hRt hRs hROW hik hkk hold hdl htl hgw hxw hl hxr hni
  go_enter Tryd.func50, Tryd.ntmps50
  go_wp2_with (first | (at_builtin; refine wpl_appendR rfl _ _ _ _ rfl (.slice (some ⟨g, o, none⟩) i cap) (.int .i64 ((n : Int) + 1 - (i : Int))) rfl rfl (hrz _) ?_))
  refine wp_region_M (fun _ => True) 8 [(0, false), (1, false), (2, false), (3, false), (4, false), (5, false), (6, false), (7, false), (8, true)] (by kernel_rfl) (by kernel_rfl) (fun _ _ _ _ h => h) trivial ?_
  apply wpM_still (by rfl) (by rfl)
  · intro W hC
    go_simp
    rfl
  go_simp
  apply wpM_still (by rfl) (by rfl)
  · intro W hC
    go_simp
    rfl
  go_simp
  apply wpM_still (by rfl) (by rfl)
  · intro W hC
    go_simp
    rfl
  go_simp
  apply wpM_still (by rfl) (by rfl)
  · intro W hC
    go_simp
    rfl
  go_simp
  apply wpM_still (by rfl) (by rfl)
  · intro W hC
    go_simp
    rfl
  go_simp
  apply wpM_still (by rfl) (by rfl)
  · intro W hC
    go_simp
    rfl
  go_simp
  apply wpM_still (by rfl) (by rfl)
  · intro W hC
    go_simp
    rfl
  go_simp
  apply wpM_still (by rfl) (by rfl)
  · intro W hC
    go_simp
    rfl
  go_simp
  apply wpM_move (by rfl) (by rfl)
  intro K hK
  go_simp
  refine hK _ _ (fun h => absurd h (by decide)) ?_
  clear hK K
  refine wpM_nil ?_
  go_wp2_with fail
  go_ret
  exact ⟨G, rfl, HRES.out⟩
theorem run_fromAny (a : Option Addr) (n c i : Nat) (hi : i ≤ n) : ∃ v, ∀ W : World, (Instr.slice 66 (.slice a n c) (some (.int .i64 (i : Int))) none none).run Tryd.prog W = .ok v W := by
  obtain ⟨i0, hi0, hz0, hz1, hz2⟩ := info_parts info_bir
  refine ⟨sliced a i n c 3, fun W => ?_⟩
  rw [run_slice_l W 66 a n c (by kernel_rfl) .i64 (i : Int) (by omega) (by omega)]
  simp [sizeOf, typeInfo, elem_birs, hi0, hz1, Result.andThen]
set_option maxRecDepth 100000 in
set_option maxHeartbeats 8000000 in
theorem insertEnd_c (l : List Bir) (v : Value) (x : Bir) (gx : Nat) (w : World) (ho : OwnB w v l) (hxr : w.rangeAt gx 0 (birV x)) (hm : l.length ≤ 1000000) :
    Calls Tryd.prog 50 #[v, .int .i64 l.length, .slice (some ⟨gx, 0, none⟩) 1 1] w
      fun e w' => ∃ v', e = .returned v' ∧ OwnB w' v' (l ++ [x]) ∧ Keeps (blk v) w w' ∧ ∀ k, k ∈ blk v' → k ∈ blk v ∨ w.heap.size ≤ k := by
  obtain ⟨i0, hi0, hz0, hz1, hz2⟩ := info_parts info_bir
  obtain ⟨v', w', hr, h1, h2, h3⟩ := app_block (P := Tryd.prog) w 66 66 111 i0 _ 3 48 Tryd.underlying66 hi0 hz0 hz1 hz2 rfl (by decide) v l.length (birs l) ho ⟨gx, 0, none⟩ 1 1 (birV x) rfl (fun j u hu => by rw [Addr.add_mid]; exact hxr j u hu) (birV_one x) (by unfold maxLen; omega) (by omega)
  obtain ⟨a, cp, rfl⟩ := ho.slice
  obtain ⟨vv, hs0⟩ := run_fromAny a l.length cp l.length (Nat.le_refl _)
  have hO : OwnB w' v' (l ++ [x]) := by
    unfold OwnB
    rw [List.length_append, birs_append]
    simpa [birs] using h1
  have HO := hd hO
  clear h1 hO ho
  go_enter Tryd.func50, Tryd.ntmps50
  go_wp2_with (first | (at_builtin; refine wpl_appendR rfl _ _ _ _ rfl (.slice a l.length cp) (.slice (some ⟨gx, 0, none⟩) 1 1) rfl rfl hr ?_))
  go_ret
  exact ⟨v', rfl, HO.out, h2, h3⟩
theorem insert_c (l : List Bir) (v : Value) (i : Nat) (x : Bir) (gx : Nat) (w : World) (ho : OwnB w v l) (hi : i ≤ l.length) (hx : RowIn w gx 111 3) (hxr : w.rangeAt gx 0 (birV x)) (hne : gx ∉ blk v) (hm : l.length ≤ 1000000) :
    Calls Tryd.prog 50 #[v, .int .i64 i, .slice (some ⟨gx, 0, none⟩) 1 1] w
      fun e w' => ∃ v', e = .returned v' ∧ OwnB w' v' (l.take i ++ x :: l.drop i) ∧ Keeps (blk v) w w' ∧ ∀ k, k ∈ blk v' → k ∈ blk v ∨ w.heap.size ≤ k := by
  by_cases hil : i = l.length
  · subst hil
    rw [List.take_length, List.drop_of_length_le (Nat.le_refl _)]
    exact insertEnd_c l v x gx w ho hxr hm
  · have hil2 : i < l.length := by omega
    have hlen : (l.take i ++ x :: l.drop i).length = l.length + 1 := by simp; omega
    rcases ho.split with ⟨rfl, rfl⟩ | ⟨g, cap, rfl, hr, hl, hle, hcm, hblk⟩
    · simp at hil2
    · rw [hblk] at hne ⊢
      by_cases hc : l.length + 1 ≤ cap
      · refine (insertRoom_c l g 0 cap (cap * 3) i x gx w hr hl hil2 hc hcm (by omega) hx hxr (by simpa using hne) hm).mono ?_
        rintro e w' ⟨rfl, h1, h2, h3⟩
        refine ⟨_, rfl, ?_, h3, fun k hk => .inl (by simpa [blk, Value.ownBlock] using hk)⟩
        have := OwnB.mk h1 h2 (by rw [hlen]; exact hc) hcm
        rwa [hlen] at this
      · refine (insertGrow_c l g 0 cap i x gx w hl hil2 hle (by omega) hxr hm).mono ?_
        rintro e w' ⟨G, rfl, h1, h2, h3, h4, h5⟩
        refine ⟨_, rfl, ?_, Keeps.below h5, fun k hk => .inr (by simp [blk, Value.ownBlock] at hk; omega)⟩
        have := OwnB.mk h1 h2 (by rw [hlen]; exact h3) h4
        rwa [hlen] at this
end Go.Proofs.YtclicjokgfiegaaDoor

/- Births: put and dropped: the walks. -/
namespace Go.Proofs.YtclicjokgfiegaaDoor
open Go.RowKit
set_option linter.unusedVariables false
set_option linter.unusedSimpArgs false

theorem Bd.trans {w w1 w2 : World} {g : Nat} {v v1 v2 : Value} {l1 l2 : List Bir} (h : Bd w g v v1 l1 w1) (k : Bd w1 g v1 v2 l2 w2) : Bd w g v v2 l2 w2 := by
  refine ⟨k.at', h.keeps.next k.keeps ?_, ?_⟩
  · intro i hi
    rcases List.mem_cons.1 hi with rfl | hi
    · exact .inl (by simp)
    · rcases h.new i hi with h1 | h1
      · exact .inl (by simp [h1])
      · exact .inr h1
  · intro i hi
    rcases k.new i hi with h1 | h1
    · exact h.new i h1
    · have := h.keeps.size; exact .inr (by omega)
theorem Bd.pre {w w1 w2 : World} {g : Nat} {v v' : Value} {l' : List Bir} (hb : Below w.heap.size w w1) (k : Bd w1 g v v' l' w2) : Bd w g v v' l' w2 := by
  refine ⟨k.at', (Keeps.below hb).trans k.keeps, fun i hi => ?_⟩
  rcases k.new i hi with h1 | h1
  · exact .inl h1
  · have := hb.size; exact .inr (by omega)
theorem Bd.post {w w1 w2 : World} {g : Nat} {v v' : Value} {l' : List Bir} (h : Bd w g v v' l' w1) (hb : Below w1.heap.size w1 w2) : Bd w g v v' l' w2 :=
  ⟨h.at'.below hb, h.keeps.next (Keeps.below (S := []) hb) (by simp), h.new⟩
theorem Bd.refl {w w1 : World} {g : Nat} {v : Value} {l : List Bir} (h : BsAt w g v l) (hb : Below w.heap.size w w1) : Bd w g v v l w1 := ⟨h.below hb, Keeps.below hb, fun i hi => .inl hi⟩
def bFull (l : List Bir) (k : Rk) : Prop := (bLose l k).length = l.length ∧ 40 ≤ l.length
instance (l : List Bir) (k : Rk) : Decidable (bFull l k) := by unfold bFull; infer_instance
def bPutE (l : List Bir) (t : List UInt8) : Int := match bRank t with
  | none => 13
  | some k => if bFull l k then 6 else 0
def bPutL (l : List Bir) (t : List UInt8) (u : ByteArray) : List Bir := match bRank t with
  | none => l
  | some k => if bFull l k then l else bPut l k u
def bDropN (l : List Bir) (t : List UInt8) : Int := match bRank t with
  | none => 0
  | some k => (l.length : Int) - (bLose l k).length
def bDropL (l : List Bir) (t : List UInt8) : List Bir := match bRank t with
  | none => l
  | some k => bLose l k
theorem lose_all {l : List Bir} {k : Rk} (h : (bLose l k).length = l.length) : bLose l k = l := by
  unfold bLose at h ⊢
  exact List.filter_eq_self.2 (List.length_filter_eq_length_iff.1 h)
set_option maxRecDepth 100000 in
set_option maxHeartbeats 4000000 in
theorem bDrop_c (g : Nat) (v : Value) (l : List Bir) (t : List UInt8) (w : World) (hE : EnvU w) (hW : EnvW w) (ht : t.length ≤ 100000000) (h : BsAt w g v l) (hm : l.length ≤ 1000000) :
    Calls Tryd.prog 22 #[.pointer (some ⟨g, 0, none⟩), .string (sOf t)] w fun e w' => e = .returned (.int .i64 (bDropN l t)) ∧ ∃ v', Bd w g v v' (bDropL l t) w' := by
  have hrk := rankOf_c t w hE hW ht
  have c1 := h.c1
  have HB := hd h
  unfold bDropN bDropL
  generalize bRank t = r at *
  have HRK := hd hrk
  clear hrk hE hW h
  go_enter Tryd.func22, Tryd.ntmps22
  go_wp2_with (first | (go_at_call 46; refine (bnone_c _ _ c1).mono ?_; rintro e w' ⟨rfl, rfl⟩))
  refine HRK.out.mono ?_
  rintro e w1 ⟨k, rfl, hk, hb⟩
  unfold rkV
  cases r with
  | none =>
    go_wp2_with fail
    go_ret
    exact ⟨rfl, v, Bd.refl HB.out (Below.up hb (by go_grown))⟩
  | some k' =>
    obtain rfl := hk k' rfl
    clear hk HRK
    have hb1 : Below w1.heap.size w1 (w1.alloc (.cells #[.string (sOf k.1), .string (sOf k.2)] 103)) := by go_grown
    have hbb := Below.up hb hb1
    go_wp2_with fail
    refine (lose_c g v l k _ (HB.out.below hbb) hm).mono ?_
    rintro e w2 ⟨rfl, v', hbd⟩
    have HBD := hd (hbd.pre hbb)
    clear hbd
    go_wp2_with fail
    go_ret
    exact ⟨rfl, v', HBD.out⟩
set_option maxRecDepth 100000 in
set_option maxHeartbeats 2000000 in
theorem bPut_c (g : Nat) (v : Value) (l : List Bir) (t : List UInt8) (u : ByteArray) (w : World) (hE : EnvU w) (hW : EnvW w) (ht : t.length ≤ 100000000) (h : BsAt w g v l) (hs : Sorted l) (hm : l.length ≤ 100000) :
    Calls Tryd.prog 20 #[.pointer (some ⟨g, 0, none⟩), .string (sOf t), .string u] w fun e w' => e = .returned (.int .i64 (bPutE l t)) ∧ ∃ v', Bd w g v v' (bPutL l t u) w' := by
  have hrk := rankOf_c t w hE hW ht
  have c1 := h.c1
  have HB := hd h
  unfold bPutE bPutL
  generalize bRank t = r at *
  have HRK := hd hrk
  clear hrk hE hW h
  go_enter Tryd.func20, Tryd.ntmps20
  go_wp2_with (first | (go_at_call 46; refine (bnone_c _ _ c1).mono ?_; rintro e w' ⟨rfl, rfl⟩))
  refine HRK.out.mono ?_
  rintro e w1 ⟨k, rfl, hk, hb⟩
  unfold rkV
  cases r with
  | none =>
    go_wp2_with fail
    go_ret
    exact ⟨rfl, v, Bd.refl HB.out (Below.up hb (by go_grown))⟩
  | some k' =>
    obtain rfl := hk k' rfl
    clear hk HRK
    have hb1 : Below w1.heap.size w1 (w1.alloc (.cells #[.string (sOf k.1), .string (sOf k.2)] 103)) := by go_grown
    have hbb := Below.up hb hb1
    have hk0 : RkIn (w1.alloc (.cells #[.string (sOf k.1), .string (sOf k.2)] 103)) w1.heap.size k := by
      refine ⟨?_, ?_, ?_⟩ <;> simp [go_sem]
    have hgw1 : g < w1.heap.size := Nat.lt_of_lt_of_le HB.out.lt hb.size
    have hvw1 : ∀ i, i ∈ blk v → i < w1.heap.size := fun i hi => Nat.lt_of_lt_of_le (HB.out.own.lt hi) hb.size
    go_wp2_with fail
    refine (lose_c g v l k _ (HB.out.below hbb) (by omega)).mono ?_
    rintro e w2 ⟨rfl, vL, hbd⟩
    have hk2 := hk0.keeps hbd.keeps (by simp only [List.mem_cons, not_or]; exact ⟨by omega, fun hm => by have := hvw1 _ hm; omega⟩)
    have hbd2 := hbd.pre hbb
    have hll := lose_len l k
    have hls := lose_sorted hs k
    obtain ⟨a, cp, rfl⟩ := hbd2.at'.own.slice
    have c0 := hbd2.at'.c0
    have hgl := hbd2.at'.lt
    have HBD := hd hbd2
    have hbdn := hbd.new
    clear hbd hbd2 hk0 hgw1 c1
    have hnb : w1.heap.size ∉ blk (.slice a (bLose l k).length cp) := fun hm => by
      rcases hbdn _ hm with h1 | h1
      · have := hvw1 _ h1; omega
      · simp [go_sem] at h1; omega
    have HNB := hd hnb
    obtain ⟨hkl, kc0, kc1⟩ := id hk2
    clear hnb hbdn hvw1
    by_cases hfull : bFull l k
    · have hfu := hfull
      obtain ⟨hf1, hf2⟩ := hfull
      have hall := lose_all hf1
      have hz : (((l.length : Int) - ((bLose l k).length : Int)) == 0) = true := by rw [hf1]; simp
      have h40 : (40 : Int) ≤ ((bLose l k).length : Int) := by omega
      have HF := hd hf1; have HA := hd hall
      clear hf1 hall
      generalize hL : bLose l k = L at *
      go_wp2_with fail
      go_ret
      have := HBD.out
      rw [HA.out] at this
      exact ⟨by first | rfl | simp, _, this⟩
    have HLS := hd hls
    clear hls
    by_cases hzz : (bLose l k).length = l.length
    · have h40 : ¬ 40 ≤ l.length := fun h => hfull ⟨hzz, h⟩
      generalize hL : bLose l k = L at *
      have hz : (((l.length : Int) - (L.length : Int)) == 0) = true := by rw [hzz]; simp
      have h40b : ¬ (40 : Int) ≤ (L.length : Int) := by omega
      clear hzz
      go_wp2_with fail
      refine (bfind_c g _ L k _ HBD.out.at' HLS.out (by omega)).mono ?_
      rintro e w3 ⟨rfl, hb3⟩
      have hk3 := hk2.below hb3 hk2.1
      have hbd3 := HBD.out.post hb3
      have d0 := hbd3.at'.c0
      have dl := hbd3.at'.lt
      have hkd := hk3.below (Below.refl w3.heap.size w3).drew hk3.1
      have d0d := (bcell (Below.refl w3.heap.size w3).drew g 0 dl).trans d0
      have hal := bAt_le L k
      have HBD3 := hd (hbd3.post (Below.refl w3.heap.size w3).drew)
      clear hbd3 hb3 hk3 d0
      generalize hP : bAt L k = P at *
      go_wp2_with fail
      refine wp_region_M (fun W => RkIn W w1.heap.size k ∧ W.cell? ⟨g, 0, none⟩ = some (.slice a L.length cp)) 13 [(0, false), (1, false), (2, false), (3, false), (4, false), (5, false), (6, false), (7, false), (8, false), (9, true), (10, true), (11, false), (12, false), (13, true)] (by kernel_rfl) (by kernel_rfl) (fun _ _ _ _ h => h) ⟨hkd, d0d⟩ ?_
      have dl4 : g < w3.drew.heap.size := dl
      generalize w3.drew = w4 at *
      apply wpM_still (by rfl) (by rfl)
      · intro W hC
        obtain ⟨⟨k0, k1, k2⟩, g0⟩ := hC
        go_simp
        rfl
      go_simp
      apply wpM_still (by rfl) (by rfl)
      · intro W hC
        obtain ⟨⟨k0, k1, k2⟩, g0⟩ := hC
        go_simp
        rfl
      go_simp
      apply wpM_still (by rfl) (by rfl)
      · intro W hC
        obtain ⟨⟨k0, k1, k2⟩, g0⟩ := hC
        go_simp
        rfl
      go_simp
      apply wpM_still (by rfl) (by rfl)
      · intro W hC
        obtain ⟨⟨k0, k1, k2⟩, g0⟩ := hC
        go_simp
        rfl
      go_simp
      apply wpM_still (by rfl) (by rfl)
      · intro W hC
        obtain ⟨⟨k0, k1, k2⟩, g0⟩ := hC
        go_simp
        rfl
      go_simp
      apply wpM_still (by rfl) (by rfl)
      · intro W hC
        obtain ⟨⟨k0, k1, k2⟩, g0⟩ := hC
        go_simp
        rfl
      go_simp
      apply wpM_still (by rfl) (by rfl)
      · intro W hC
        obtain ⟨⟨k0, k1, k2⟩, g0⟩ := hC
        go_simp
        rfl
      go_simp
      apply wpM_still (by rfl) (by rfl)
      · intro W hC
        obtain ⟨⟨k0, k1, k2⟩, g0⟩ := hC
        go_simp
        rfl
      go_simp
      apply wpM_still (by rfl) (by rfl)
      · intro W hC
        obtain ⟨⟨k0, k1, k2⟩, g0⟩ := hC
        go_simp
        rfl
      go_simp
      apply wpM_move (by rfl) (by rfl)
      intro K hK
      go_simp
      have b5 : Below w4.heap.size w4 (w4.alloc (.cells #[.string (sOf k.1), .string (sOf k.2), .string u] 111)) := by go_grown
      have hr5 : RowIn (w4.alloc (.cells #[.string (sOf k.1), .string (sOf k.2), .string u] 111)) w4.heap.size 111 3 := RowIn.new w4 #[.string (sOf k.1), .string (sOf k.2), .string u] 111
      have hx5 : (w4.alloc (.cells #[.string (sOf k.1), .string (sOf k.2), .string u] 111)).rangeAt w4.heap.size 0 (birV (k, u)) := fun j v hj => by
        rw [Nat.zero_add, World.cell?_alloc_at (w := w4) _ _ w4.heap.size j rfl]
        simpa [birV] using hj
      refine hK _ (w4.alloc (.cells #[.string (sOf k.1), .string (sOf k.2), .string u] 111)) (fun _ => ⟨hkd.below b5 hkd.1, (bcell b5 g 0 dl4).trans d0d⟩) ?_
      clear hK K
      have d05 := (bcell b5 g 0 dl4).trans d0d
      have hk5 := hkd.below b5 hkd.1
      have dl5 := Nat.lt_of_lt_of_le dl4 b5.size
      have hvx : w4.heap.size ∉ blk (.slice a L.length cp) := fun hm => by have := HBD3.out.at'.own.lt hm; omega
      have HBD5 := hd (HBD3.out.post b5)
      clear HBD3 HBD b5
      generalize w4.alloc (.cells #[.string (sOf k.1), .string (sOf k.2), .string u] 111) = w5 at *
      apply wpM_move (by rfl) (by rfl)
      intro K hK
      go_simp
      refine (insert_c L _ P (k, u) w4.heap.size w5 HBD5.out.at'.own hal hr5 hx5 hvx (by omega)).mono ?_
      rintro e w6 ⟨v', rfl, ho6, hk6, hn6⟩
      generalize hM : L.take P ++ (k, u) :: L.drop P = M at *
      obtain ⟨a', cp', rfl⟩ := ho6.slice
      go_simp
      have d06 := (hk6.cell (o := 0) dl5 HBD5.out.at'.ne).trans d05
      have hbw1 : w1.heap.size ∉ blk (.slice a L.length cp) := HNB.out
      have hk6' := hk5.keeps hk6 hbw1
      refine hK _ _ (fun _ => ⟨hk6', d06⟩) ?_
      clear hK K
      obtain ⟨hbd6, e0, e1, e2⟩ := HBD5.out.at'.put hk6 ho6 hn6
      have HBD6 := hd (HBD5.out.trans hbd6)
      clear hbd6 HBD5
      apply wpM_still (by rfl) (by rfl)
      · intro W hC
        go_simp
        rfl
      go_simp
      apply wpM_still (by rfl) (by rfl)
      · intro W hC
        go_simp
        rfl
      go_simp
      apply wpM_move (by rfl) (by rfl)
      intro K hK
      go_simp
      refine hK _ _ (fun h => absurd h (by decide)) ?_
      clear hK K
      refine wpM_nil ?_
      go_wp2_with fail
      go_ret
      refine ⟨by first | rfl | simp, .slice a' M.length cp', ?_⟩
      unfold bPut bIns
      rw [hL, hP, hM]
      exact HBD6.out
    · generalize hL : bLose l k = L at *
      have hz : (((l.length : Int) - (L.length : Int)) == 0) = false := by simp; omega
      go_wp2_with fail
      refine (bfind_c g _ L k _ HBD.out.at' HLS.out (by omega)).mono ?_
      rintro e w3 ⟨rfl, hb3⟩
      have hk3 := hk2.below hb3 hk2.1
      have hbd3 := HBD.out.post hb3
      have d0 := hbd3.at'.c0
      have dl := hbd3.at'.lt
      have hkd := hk3.below (Below.refl w3.heap.size w3).drew hk3.1
      have d0d := (bcell (Below.refl w3.heap.size w3).drew g 0 dl).trans d0
      have hal := bAt_le L k
      have HBD3 := hd (hbd3.post (Below.refl w3.heap.size w3).drew)
      clear hbd3 hb3 hk3 d0
      generalize hP : bAt L k = P at *
      go_wp2_with fail
      refine wp_region_M (fun W => RkIn W w1.heap.size k ∧ W.cell? ⟨g, 0, none⟩ = some (.slice a L.length cp)) 13 [(0, false), (1, false), (2, false), (3, false), (4, false), (5, false), (6, false), (7, false), (8, false), (9, true), (10, true), (11, false), (12, false), (13, true)] (by kernel_rfl) (by kernel_rfl) (fun _ _ _ _ h => h) ⟨hkd, d0d⟩ ?_
      have dl4 : g < w3.drew.heap.size := dl
      generalize w3.drew = w4 at *
      apply wpM_still (by rfl) (by rfl)
      · intro W hC
        obtain ⟨⟨k0, k1, k2⟩, g0⟩ := hC
        go_simp
        rfl
      go_simp
      apply wpM_still (by rfl) (by rfl)
      · intro W hC
        obtain ⟨⟨k0, k1, k2⟩, g0⟩ := hC
        go_simp
        rfl
      go_simp
      apply wpM_still (by rfl) (by rfl)
      · intro W hC
        obtain ⟨⟨k0, k1, k2⟩, g0⟩ := hC
        go_simp
        rfl
      go_simp
      apply wpM_still (by rfl) (by rfl)
      · intro W hC
        obtain ⟨⟨k0, k1, k2⟩, g0⟩ := hC
        go_simp
        rfl
      go_simp
      apply wpM_still (by rfl) (by rfl)
      · intro W hC
        obtain ⟨⟨k0, k1, k2⟩, g0⟩ := hC
        go_simp
        rfl
      go_simp
      apply wpM_still (by rfl) (by rfl)
      · intro W hC
        obtain ⟨⟨k0, k1, k2⟩, g0⟩ := hC
        go_simp
        rfl
      go_simp
      apply wpM_still (by rfl) (by rfl)
      · intro W hC
        obtain ⟨⟨k0, k1, k2⟩, g0⟩ := hC
        go_simp
        rfl
      go_simp
      apply wpM_still (by rfl) (by rfl)
      · intro W hC
        obtain ⟨⟨k0, k1, k2⟩, g0⟩ := hC
        go_simp
        rfl
      go_simp
      apply wpM_still (by rfl) (by rfl)
      · intro W hC
        obtain ⟨⟨k0, k1, k2⟩, g0⟩ := hC
        go_simp
        rfl
      go_simp
      apply wpM_move (by rfl) (by rfl)
      intro K hK
      go_simp
      have b5 : Below w4.heap.size w4 (w4.alloc (.cells #[.string (sOf k.1), .string (sOf k.2), .string u] 111)) := by go_grown
      have hr5 : RowIn (w4.alloc (.cells #[.string (sOf k.1), .string (sOf k.2), .string u] 111)) w4.heap.size 111 3 := RowIn.new w4 #[.string (sOf k.1), .string (sOf k.2), .string u] 111
      have hx5 : (w4.alloc (.cells #[.string (sOf k.1), .string (sOf k.2), .string u] 111)).rangeAt w4.heap.size 0 (birV (k, u)) := fun j v hj => by
        rw [Nat.zero_add, World.cell?_alloc_at (w := w4) _ _ w4.heap.size j rfl]
        simpa [birV] using hj
      refine hK _ (w4.alloc (.cells #[.string (sOf k.1), .string (sOf k.2), .string u] 111)) (fun _ => ⟨hkd.below b5 hkd.1, (bcell b5 g 0 dl4).trans d0d⟩) ?_
      clear hK K
      have d05 := (bcell b5 g 0 dl4).trans d0d
      have hk5 := hkd.below b5 hkd.1
      have dl5 := Nat.lt_of_lt_of_le dl4 b5.size
      have hvx : w4.heap.size ∉ blk (.slice a L.length cp) := fun hm => by have := HBD3.out.at'.own.lt hm; omega
      have HBD5 := hd (HBD3.out.post b5)
      clear HBD3 HBD b5
      generalize w4.alloc (.cells #[.string (sOf k.1), .string (sOf k.2), .string u] 111) = w5 at *
      apply wpM_move (by rfl) (by rfl)
      intro K hK
      go_simp
      refine (insert_c L _ P (k, u) w4.heap.size w5 HBD5.out.at'.own hal hr5 hx5 hvx (by omega)).mono ?_
      rintro e w6 ⟨v', rfl, ho6, hk6, hn6⟩
      generalize hM : L.take P ++ (k, u) :: L.drop P = M at *
      obtain ⟨a', cp', rfl⟩ := ho6.slice
      go_simp
      have d06 := (hk6.cell (o := 0) dl5 HBD5.out.at'.ne).trans d05
      have hbw1 : w1.heap.size ∉ blk (.slice a L.length cp) := HNB.out
      have hk6' := hk5.keeps hk6 hbw1
      refine hK _ _ (fun _ => ⟨hk6', d06⟩) ?_
      clear hK K
      obtain ⟨hbd6, e0, e1, e2⟩ := HBD5.out.at'.put hk6 ho6 hn6
      have HBD6 := hd (HBD5.out.trans hbd6)
      clear hbd6 HBD5
      apply wpM_still (by rfl) (by rfl)
      · intro W hC
        go_simp
        rfl
      go_simp
      apply wpM_still (by rfl) (by rfl)
      · intro W hC
        go_simp
        rfl
      go_simp
      apply wpM_move (by rfl) (by rfl)
      intro K hK
      go_simp
      refine hK _ _ (fun h => absurd h (by decide)) ?_
      clear hK K
      refine wpM_nil ?_
      go_wp2_with fail
      go_ret
      refine ⟨by first | rfl | simp, .slice a' M.length cp', ?_⟩
      unfold bPut bIns
      rw [hL, hP, hM]
      exact HBD6.out
end Go.Proofs.YtclicjokgfiegaaDoor
