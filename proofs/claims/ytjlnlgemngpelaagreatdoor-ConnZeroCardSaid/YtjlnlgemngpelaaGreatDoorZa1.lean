/- A bundle of texts (merged for the limit on files): Base, Head, UtfPlain, Shelf. -/
import Derived.Test.YtjlnlgemngpelaaGreatDoorRows
import Derived.WalkKit
import Derived.WalkSpells
import Derived.WalkLawsBesides
import Derived.Handy
import Derived.Deep.QuietTactic
import Derived.Deep.DeepCutAuto
import Derived.BigQuiet
import Derived.Deep.LoopGhost
import Derived.Laws.AppendOwnNone
import Derived.WideShapes
import Derived.OpenShut
import Derived.Deep.Slices
import Derived.Lib.ValidLaws
import Derived.Lib.TrimUEq
import Derived.Test.YtjlnlgemngpelaaGreatDoorProg
import Derived.Ground.NamesProg
import Derived.Shelf.Unicode.ValidAny
import Derived.Shelf.Strings.Count
/- Base: small laws on what a slice reads as, on rows that a call owns, on endings; a law for append onto an owned row from any slice. Of no function of the program. -/
namespace Go.Proofs.YtjlnlgemngpelaaGreatDoor
open Go.RowKit

def Hd (p : Prop) : Prop := p
theorem hd {p : Prop} (h : p) : Hd p := h
theorem Hd.out {p : Prop} (h : Hd p) : p := h

theorem ret_int {k : IntKind} {a b : Int} (h : a = b) : Ending.returned (.int k a) = .returned (.int k b) := by rw [h]
theorem ret_bool {a b : Bool} (h : a = b) : Ending.returned (.bool a) = .returned (.bool b) := by rw [h]

theorem vb {a b : Bool} (h : a = b) : Value.bool a = .bool b := by rw [h]
theorem vi {k : IntKind} {a b : Int} (h : a = b) : Value.int k a = .int k b := by rw [h]
theorem ret2 {a b a' b' : Value} (h1 : a = a') (h2 : b = b') : Ending.returned (.tuple #[a, b]) = .returned (.tuple #[a', b']) := by rw [h1, h2]
theorem ret3 {a b c a' b' c' : Value} (h1 : a = a') (h2 : b = b') (h3 : c = c') : Ending.returned (.tuple #[a, b, c]) = .returned (.tuple #[a', b', c']) := by rw [h1, h2, h3]

/-! ### Bytes -/
def B8 (n : Nat) : UInt8 := UInt8.ofNat n
theorem B8_toNat {n : Nat} (h : n < 256) : (B8 n).toNat = n := by unfold B8; rw [UInt8.toNat_ofNat']; omega
theorem B8_of (b : UInt8) : B8 b.toNat = b := by unfold B8; exact UInt8.ofNat_toNat
def byteV (b : UInt8) : Value := .int .u8 (b.toNat : Int)
theorem byteV_B8 {n : Nat} (h : n < 256) {x : Int} (hx : x = n) : byteV (B8 n) = .int .u8 x := by unfold byteV; rw [B8_toNat h, hx]
theorem byteV_one (l : List UInt8) : ∀ u ∈ l.map byteV, u.oneCell' = true := by
  intro u hu
  obtain ⟨b, _, rfl⟩ := List.mem_map.1 hu
  rfl

/-! ### What a slice value reads as: n elements, the cells xs one behind the other -/
def Rd (w : World) (v : Value) (n : Nat) (xs : List Value) : Prop :=
  ∃ (a : Option Addr) (c : Nat), v = .slice a n c ∧ n ≤ c ∧ c ≤ maxLen ∧ (a = none → n = 0 ∧ c = 0 ∧ xs = []) ∧ ∀ ad, a = some ad → ∀ j u, xs[j]? = some u → w.cell? (ad.add j) = some u

theorem Rd.nil (w : World) : Rd w (.slice none 0 0) 0 [] := ⟨none, 0, rfl, Nat.le_refl _, Nat.zero_le _, fun _ => ⟨rfl, rfl, rfl⟩, fun _ h => by cases h⟩

/-- The block that a slice value points into. -/
def Value.inBlock (v : Value) (B : Nat) : Prop := ∀ a n c, v = .slice (some a) n c → a.block < B

theorem Rd.below {B : Nat} {w w' : World} {v : Value} {n : Nat} {xs : List Value} (h : Rd w v n xs) (hb : Below B w w') (hv : Value.inBlock v B) : Rd w' v n xs := by
  obtain ⟨a, c, rfl, h1, h2, h3, h4⟩ := h
  refine ⟨a, c, rfl, h1, h2, h3, fun ad had j u hu => ?_⟩
  subst had
  have hlt := hv ad _ _ rfl
  rw [hb.cell (p := ad.add j) (by unfold Addr.add; split <;> exact hlt)]
  exact h4 ad rfl j u hu

theorem Rd.block {w : World} {v : Value} {n : Nat} {xs : List Value} (h : Rd w v n xs) (hx : xs ≠ []) : Value.inBlock v w.heap.size := by
  obtain ⟨a, c, rfl, h1, h2, h3, h4⟩ := h
  intro ad n' c' e
  cases e
  cases xs with
  | nil => exact absurd rfl hx
  | cons x r =>
    have := h4 ad rfl 0 x rfl
    exact World.block_lt_of_cell? w ad (by simpa [Addr.add] using this)

/-- Nothing is read of an empty slice: it reads so in any world. -/
theorem Rd.below' {B : Nat} {w w' : World} {v : Value} {n : Nat} {xs : List Value} (h : Rd w v n xs) (hb : Below B w w') (hB : w.heap.size ≤ B) : Rd w' v n xs := by
  by_cases hx : xs = []
  · subst hx
    obtain ⟨a, c, rfl, h1, h2, h3, h4⟩ := h
    exact ⟨a, c, rfl, h1, h2, h3, fun ad _ j u hu => by simp at hu⟩
  · exact h.below hb (fun a n c e => Nat.lt_of_lt_of_le (h.block hx a n c e) hB)

theorem Rd.len {w : World} {v : Value} {n : Nat} {xs : List Value} (h : Rd w v n xs) : n ≤ maxLen := by
  obtain ⟨_, c, _, h1, h2, _⟩ := h; omega

/-- A slice value is empty, or its cells lie at a plain place. -/
theorem Rd.split {w : World} {v : Value} {n : Nat} {xs : List Value} (h : Rd w v n xs) :
    (xs = [] ∧ ∃ a c, v = .slice a n c ∧ n ≤ c ∧ c ≤ maxLen ∧ (a = none → n = 0 ∧ c = 0)) ∨
    (xs ≠ [] ∧ ∃ b o c, v = .slice (some ⟨b, o, none⟩) n c ∧ n ≤ c ∧ c ≤ maxLen ∧ b < w.heap.size ∧ ∀ j u, xs[j]? = some u → w.cell? ⟨b, o + j, none⟩ = some u) := by
  have h' := h
  obtain ⟨a, c, rfl, h1, h2, h3, h4⟩ := h
  cases xs with
  | nil => exact .inl ⟨rfl, a, c, rfl, h1, h2, fun e => ⟨(h3 e).1, (h3 e).2.1⟩⟩
  | cons x r =>
    refine .inr ⟨by simp, ?_⟩
    cases a with
    | none => exact absurd (h3 rfl).2.2 (by simp)
    | some ad =>
      obtain ⟨b, o, sp⟩ := ad
      have hx := h4 _ rfl 0 x rfl
      have hsp : sp = none := by simpa [Addr.add] using World.cell?_spot hx
      subst hsp
      refine ⟨b, o, c, rfl, h1, h2, h'.block (by simp) _ _ _ rfl, fun j u hu => ?_⟩
      have := h4 _ rfl j u hu
      rwa [Go.WideShapes.add_plain] at this

/-! ### Rows that the call owns -/
theorem Owns.rd {w : World} {B e size n : Nat} {v : Value} {xs : List Value} (h : w.ownsRow B e size v n xs) : Rd w v n xs := by
  rcases h.2 with ⟨rfl, hn⟩ | ⟨g, cap, cur, rfl, hb, hg, hn, hm, hs, ht⟩
  · have : xs = [] := List.eq_nil_of_length_eq_zero (by rw [h.1, hn]; omega)
    subst this hn
    exact Rd.nil w
  · refine ⟨some ⟨g, 0, none⟩, cap, rfl, hn, hm, (fun e => by cases e), fun ad had j u hu => ?_⟩
    cases had
    exact World.ownsRow.cells h rfl j u hu

theorem Owns.kept {B B' e size n : Nat} {w w' : World} {v : Value} {xs : List Value} (h : w.ownsRow B e size v n xs) (hb : Below B' w w') (hB : w.heap.size ≤ B') : w'.ownsRow B e size v n xs := by
  refine ⟨h.1, ?_⟩
  rcases h.2 with h0 | ⟨g, cap, cur, rfl, h1, h2, h3⟩
  · exact .inl h0
  · exact .inr ⟨g, cap, cur, rfl, h1, by rw [hb.block g (Nat.lt_of_lt_of_le (Array.getElem?_eq_some_iff.1 h2).1 hB)]; exact h2, h3⟩

theorem Owns.le {B B' e size n : Nat} {w : World} {v : Value} {xs : List Value} (h : w.ownsRow B e size v n xs) (hB : B' ≤ B) : w.ownsRow B' e size v n xs :=
  ⟨h.1, h.2.elim .inl fun ⟨g, cap, cur, h0, h1, r⟩ => .inr ⟨g, cap, cur, h0, Nat.le_trans hB h1, r⟩⟩

theorem Owns.slice {B e size n : Nat} {w : World} {v : Value} {xs : List Value} (h : w.ownsRow B e size v n xs) : ∃ a c, v = .slice a n c := by
  rcases h.2 with ⟨rfl, rfl⟩ | ⟨g, cap, cur, rfl, _⟩
  · exact ⟨none, 0, rfl⟩
  · exact ⟨_, _, rfl⟩

theorem owns_lit (B e : Nat) (w : World) (size n : Nat) (cs : List Value) (g : Nat) (hg : g = w.heap.size) (hB : B ≤ g) (hm : n ≤ maxLen) (hc : cs.length = n * size) :
    (w.alloc (.cells cs.toArray e)).ownsRow B e size (.slice (some ⟨g, 0, none⟩) n n) n cs := by
  subst hg
  exact ⟨hc, .inr ⟨w.heap.size, n, cs.toArray, rfl, hB, heap_alloc_new w _, Nat.le_refl _, hm, by simpa using hc, by rw [← hc]; exact List.take_of_length_le (by simp)⟩⟩

/-- append onto an owned row from whatever slice: the run. -/
theorem run_app {P : Program} (w : World) (base : Nat) (t ty e : TypeId) (i : TypeInfo) (z : Value) (size bytes : Nat) (ht : P.underlying t = some (.slice e)) (hi : P.info? e = some i) (hz : i.zero = some z)
    (hsize : i.size = size) (hby : i.bytes = bytes) (hzs : z.cells.size = size) (hsz : 0 < size)
    (v : Value) (n : Nat) (xs : List Value) (hown : w.ownsRow base e size v n xs)
    (sv : Value) (m : Nat) (news : List Value) (hs : Rd w sv m news) (hl : news.length = m * size) (h1 : ∀ u ∈ news, u.oneCell' = true)
    (hbytes : (n + m) * bytes ≤ 140737488355328) (h63 : n + m ≤ maxLen) (hbase : base ≤ w.heap.size) :
    ∃ v' w', (Builtin.append_ #[t, t] ty #[v, sv]).run P w = .ok v' w' ∧ w'.ownsRow base e size v' (n + m) (xs ++ news) ∧ Below base w w' ∧ (v' = .slice none 0 0 ↔ v = .slice none 0 0 ∧ m = 0) := by
  obtain ⟨a, c, rfl, hc1, hc2, hn0, hcell⟩ := hs
  cases a with
  | none =>
    obtain ⟨rfl, rfl, rfl⟩ := hn0 rfl
    have hr := run_append_owned_none (P := P) w base t ty e i size ht hi v n xs hown
    exact ⟨v, w, hr, by simpa using hown, Below.refl _ _, by simp⟩
  | some ad =>
    obtain ⟨v', w', hr, h2, h3, h4⟩ := run_append_own (P := P) w base t ty e i z size bytes ht hi hz hsize hby hzs hsz v n xs hown ad m c news hl (hcell ad rfl) h1 h63 hbytes hbase
    exact ⟨v', w', hr, h2, (Below.refl base w).grown h3 hbase (fun k hk => (hown.lt k hk).1), h4⟩

/-- The same as a law of the walk. -/
theorem wp_app {P : Program} {w : World} {ops : Array Oper} {rest : List Oper} {o : Oper} {a : Act} {Q : Exit → Act → World → Prop} (hgd : o.guard = none) (s x : Operand) (t : TypeId)
    (ho : o.op = .call { callee := .builtin .append, args := #[s, x], argTypes := #[t, t] })
    (base : Nat) (e : TypeId) (i : TypeInfo) (z : Value) (size bytes : Nat) (ht : P.underlying t = some (.slice e)) (hi : P.info? e = some i) (hz : i.zero = some z)
    (hsize : i.size = size) (hby : i.bytes = bytes) (hzs : z.cells.size = size) (hsz : 0 < size)
    (v : Value) (n : Nat) (xs : List Value) (hv : a.eval s = v) (hown : w.ownsRow base e size v n xs)
    (sv : Value) (m : Nat) (news : List Value) (hx : a.eval x = sv) (hs : Rd w sv m news) (hl : news.length = m * size) (h1 : ∀ u ∈ news, u.oneCell' = true)
    (hbytes : (n + m) * bytes ≤ 140737488355328) (h63 : n + m ≤ maxLen) (hbase : base ≤ w.heap.size)
    (h : ∀ v' w', w'.ownsRow base e size v' (n + m) (xs ++ news) → Below base w w' → (v' = .slice none 0 0 ↔ v = .slice none 0 0 ∧ m = 0) → wpList P ops Q rest (a.put o.dst v') w') :
    wpList P ops Q (o :: rest) a w := by
  refine wpList_plain hgd fun K hK => ?_
  obtain ⟨v', w', hr, h2, h3, h4⟩ := run_app (P := P) w base t o.type e i z size bytes ht hi hz hsize hby hzs hsz v n xs hown sv m news hs hl h1 hbytes h63 hbase
  unfold Oper.wp execOp
  simp only [ho, resolve, invoke, builtin, Sem.run_bind, Sem.run_pure, Result.andThen_ok, List.map_toArray, List.map_cons, List.map_nil, hv, hx, hr]
  exact hK _ _ (h v' w' h2 h3 h4)

/-! ### Bytes of this program: type 23 over type 5 -/
theorem info_u8 : (Tryz.prog.info? 5).map (fun i => (i.zero, i.size, i.bytes)) = some (some (.int .u8 0), 1, 1) := by kernel_rfl

def Bs (w : World) (v : Value) (l : List UInt8) : Prop := Rd w v l.length (l.map byteV)
def Owned (B : Nat) (w : World) (v : Value) (l : List UInt8) : Prop := w.ownsRow B 5 1 v l.length (l.map byteV)
theorem Owned.bs {B : Nat} {w : World} {v : Value} {l : List UInt8} (h : Owned B w v l) : Bs w v l := Owns.rd h
theorem Owned.kept {B B' : Nat} {w w' : World} {v : Value} {l : List UInt8} (h : Owned B w v l) (hb : Below B' w w') (hB : w.heap.size ≤ B') : Owned B w' v l := Owns.kept h hb hB
theorem Owned.le {B B' : Nat} {w : World} {v : Value} {l : List UInt8} (h : Owned B w v l) (hB : B' ≤ B) : Owned B' w v l := Owns.le h hB
theorem Bs.below' {B : Nat} {w w' : World} {v : Value} {l : List UInt8} (h : Bs w v l) (hb : Below B w w') (hB : w.heap.size ≤ B) : Bs w' v l := Rd.below' h hb hB
theorem Owned.nil (B : Nat) (w : World) : Owned B w (.slice none 0 0) [] := ⟨rfl, .inl ⟨rfl, rfl⟩⟩
theorem owned_lit (B : Nat) (w : World) (l : List UInt8) (g : Nat) (hg : g = w.heap.size) (hB : B ≤ g) (hm : l.length ≤ maxLen) (cs : List Value) (hc : cs = l.map byteV) (n : Nat) (hn : n = l.length) :
    Owned B (w.alloc (.cells cs.toArray 5)) (.slice (some ⟨g, 0, none⟩) n n) l := by
  subst hc hn
  exact owns_lit B 5 w 1 l.length (l.map byteV) g hg hB hm (by simp)

theorem Bs.slice {w : World} {v : Value} {l : List UInt8} (h : Bs w v l) : ∃ a c, v = .slice a l.length c := by
  obtain ⟨a, c, hv, _⟩ := h
  exact ⟨a, c, hv⟩
/-- The number of a byte at a place. -/
def bN (l : List UInt8) (j : Nat) : Nat := (l.getD j 0).toNat
theorem bN_lt (l : List UInt8) (j : Nat) : bN l j < 256 := UInt8.toNat_lt _
theorem bN_drop (l : List UInt8) (i j : Nat) : bN (l.drop i) j = bN l (i + j) := by
  unfold bN; simp [List.getD, List.getElem?_drop]
theorem Bs.split {w : World} {v : Value} {l : List UInt8} (h : Bs w v l) :
    (l = [] ∧ ∃ a c, v = .slice a 0 c ∧ c ≤ maxLen) ∨
    (0 < l.length ∧ ∃ b o c, v = .slice (some ⟨b, o, none⟩) l.length c ∧ l.length ≤ c ∧ c ≤ maxLen ∧ b < w.heap.size ∧ ∀ j, j < l.length → w.cell? ⟨b, o + j, none⟩ = some (.int .u8 (bN l j))) := by
  rcases Rd.split h with ⟨hx, a, c, rfl, h1, h2, h3⟩ | ⟨hx, b, o, c, rfl, h1, h2, h3, h4⟩
  · have : l = [] := by simpa using hx
    subst this
    exact .inl ⟨rfl, a, c, rfl, h2⟩
  · refine .inr ⟨List.length_pos_iff.2 (by simpa using hx), b, o, c, rfl, h1, h2, h3, fun j hj => h4 j _ (by simp [byteV, bN, hj])⟩

/-- A part of a slice of bytes. -/
theorem Bs.part {w : World} {a : Option Addr} {n c : Nat} {l : List UInt8} (h : Bs w (.slice a n c) l) (i j : Nat) (hij : i ≤ j) (hj : j ≤ l.length) :
    Bs w (.slice (if c = i then a else a.map (·.add (i * 1))) (j - i) (c - i)) ((l.drop i).take (j - i)) := by
  obtain ⟨a', c', hv, h1, h2, h3, h4⟩ := h
  cases hv
  have hlen : ((l.drop i).take (j - i)).length = j - i := by simp; omega
  unfold Bs
  rw [hlen]
  refine ⟨_, _, rfl, by omega, by omega, fun e => ?_, fun ad had k u hu => ?_⟩
  · cases a with
    | none =>
      obtain ⟨e1, e2, e3⟩ := h3 rfl
      have : l = [] := by simpa using e3
      subst this
      simp at hj
      exact ⟨by omega, by omega, by simp⟩
    | some ad => split at e <;> simp at e
  · have hk : k < j - i := by
      have := (List.getElem?_eq_some_iff.1 hu).1
      rw [List.length_map, hlen] at this
      exact this
    cases a with
    | none => split at had <;> simp at had
    | some a0 =>
      have hci : ¬ c = i := by omega
      rw [if_neg hci] at had
      simp only [Option.map_some, Option.some.injEq] at had
      subst had
      rw [Nat.mul_one, Go.Deep.add_add]
      refine h4 a0 rfl (i + k) u ?_
      rw [← hu]
      simp [hk]

/-- b[i:j], b[i:], b[:j] -/
theorem run_part {w : World} {a : Option Addr} {n c : Nat} {l : List UInt8} (h : Bs w (.slice a n c) l) (I J : Int) (i j : Nat) (hI : I = i) (hJ : J = j) (hij : i ≤ j) (hj : j ≤ l.length) :
    ∃ a' c', (∀ W : World, (Instr.slice 23 (.slice a n c) (some (.int .i64 I)) (some (.int .i64 J)) none).run Tryz.prog W = .ok (.slice a' (j - i) c') W) ∧ Bs w (.slice a' (j - i) c') ((l.drop i).take (j - i)) := by
  have hp := h.part i j hij hj
  obtain ⟨a0, c0, hv, h1, h2, h3, h4⟩ := h
  cases hv
  subst hI hJ
  refine ⟨_, _, fun W => ?_, hp⟩
  rw [run_slice_lh W 23 a l.length c (by kernel_rfl) .i64 .i64 (i : Int) (j : Int) (by omega) (by omega) (by omega)]
  obtain ⟨i0, hi, hz0, hz1, hz2⟩ := info_parts info_u8
  have he : Tryz.prog.elem 23 = 5 := by kernel_rfl
  simp [sizeOf, typeInfo, he, hi, hz1, sliced, Result.andThen]
theorem run_from {w : World} {a : Option Addr} {n c : Nat} {l : List UInt8} (h : Bs w (.slice a n c) l) (I : Int) (i : Nat) (hI : I = i) (hi : i ≤ l.length) :
    ∃ a' c', (∀ W : World, (Instr.slice 23 (.slice a n c) (some (.int .i64 I)) none none).run Tryz.prog W = .ok (.slice a' (l.length - i) c') W) ∧ Bs w (.slice a' (l.length - i) c') (l.drop i) := by
  have hp := h.part i l.length hi (Nat.le_refl _)
  rw [List.take_of_length_le (by simp)] at hp
  obtain ⟨a0, c0, hv, h1, h2, h3, h4⟩ := h
  cases hv
  subst hI
  refine ⟨_, _, fun W => ?_, hp⟩
  rw [run_slice_l W 23 a l.length c (by kernel_rfl) .i64 (i : Int) (by omega) (by omega)]
  obtain ⟨i0, hi, hz0, hz1, hz2⟩ := info_parts info_u8
  have he : Tryz.prog.elem 23 = 5 := by kernel_rfl
  simp [sizeOf, typeInfo, he, hi, hz1, sliced, Result.andThen]
theorem run_to {w : World} {a : Option Addr} {n c : Nat} {l : List UInt8} (h : Bs w (.slice a n c) l) (J : Int) (j : Nat) (hJ : J = j) (hj : j ≤ l.length) :
    ∃ a' c', (∀ W : World, (Instr.slice 23 (.slice a n c) none (some (.int .i64 J)) none).run Tryz.prog W = .ok (.slice a' j c') W) ∧ Bs w (.slice a' j c') (l.take j) := by
  have hp := h.part 0 j (Nat.zero_le _) hj
  rw [List.drop_zero, Nat.sub_zero] at hp
  obtain ⟨a0, c0, hv, h1, h2, h3, h4⟩ := h
  cases hv
  subst hJ
  refine ⟨_, _, fun W => ?_, hp⟩
  rw [run_slice_h W 23 a l.length c (by kernel_rfl) .i64 (j : Int) (by omega) (by omega)]
  obtain ⟨i0, hi, hz0, hz1, hz2⟩ := info_parts info_u8
  have he : Tryz.prog.elem 23 = 5 := by kernel_rfl
  simp [sizeOf, typeInfo, he, hi, hz1, sliced, Result.andThen]

/-- string(b) -/
theorem run_str {w : World} {v : Value} {l : List UInt8} (h : Bs w v l) : (convert 23 9 v).run Tryz.prog w = .ok (.string ⟨l.toArray⟩) w := by
  obtain ⟨a, c, rfl, h1, h2, h3, h4⟩ := h
  cases a with
  | none =>
    obtain ⟨hl, _, _⟩ := h3 rfl
    obtain rfl := List.eq_nil_of_length_eq_zero hl
    exact run_convert_bytes_nil w 23 5 Tryz.underlying23 Tryz.underlying5 _ _ 9 Tryz.underlying9
  | some ad =>
    exact run_convert_bytes_back w 23 9 5 ad c l Tryz.underlying23 Tryz.underlying5 Tryz.underlying9 (fun j hj => h4 ad rfl j _ (by simp [byteV, hj]))

/-- append(out, b...) of bytes -/
theorem wp_appB {w : World} {ops : Array Oper} {rest : List Oper} {o : Oper} {a : Act} {Q : Exit → Act → World → Prop} (hgd : o.guard = none) (s x : Operand)
    (ho : o.op = .call { callee := .builtin .append, args := #[s, x], argTypes := #[23, 23] })
    (B : Nat) (v : Value) (l : List UInt8) (hv : a.eval s = v) (hown : Owned B w v l) (sv : Value) (m : List UInt8) (hx : a.eval x = sv) (hs : Bs w sv m)
    (hlen : l.length + m.length ≤ 140737488355328) (hbase : B ≤ w.heap.size)
    (h : ∀ v' w', Owned B w' v' (l ++ m) → Below B w w' → wpList Tryz.prog ops Q rest (a.put o.dst v') w') : wpList Tryz.prog ops Q (o :: rest) a w := by
  obtain ⟨i0, hi, hz0, hz1, hz2⟩ := info_parts info_u8
  refine wp_app hgd s x 23 ho B 5 i0 (.int .u8 0) 1 1 Tryz.underlying23 hi hz0 hz1 hz2 rfl (by decide) v l.length (l.map byteV) hv hown sv m.length (m.map byteV) hx hs (by simp) (byteV_one m) (by omega) (by unfold maxLen; omega) hbase ?_
  intro v' w' h1 h2 _
  refine h v' w' ?_ h2
  unfold Owned
  rw [List.length_append, List.map_append]
  exact h1

/-- append(out, x) of one byte: the walk has laid a block of one cell for it. -/
theorem wp_appB1 {w : World} {ops : Array Oper} {rest : List Oper} {o : Oper} {a : Act} {Q : Exit → Act → World → Prop} (hgd : o.guard = none) (s x : Operand)
    (ho : o.op = .call { callee := .builtin .append, args := #[s, x], argTypes := #[23, 23] })
    (B : Nat) (v : Value) (l : List UInt8) (hv : a.eval s = v) (hown : Owned B w v l) (X : Int) (b : UInt8) (hX : Value.int .u8 X = byteV b) (hx : a.eval x = .slice (some ⟨w.heap.size, 0, none⟩) 1 1)
    (hlen : l.length < 140737488355328) (hbase : B ≤ w.heap.size)
    (h : ∀ v' w', Owned B w' v' (l ++ [b]) → Below B w w' → wpList Tryz.prog ops Q rest (a.put o.dst v') w') : wpList Tryz.prog ops Q (o :: rest) a (w.alloc (.cells #[.int .u8 X] 5)) := by
  have hb : Below B w (w.alloc (.cells #[.int .u8 X] 5)) := (Below.refl B w).alloc hbase _
  have hb' : Below w.heap.size w (w.alloc (.cells #[.int .u8 X] 5)) := (Below.refl _ w).alloc (Nat.le_refl _) _
  refine wp_appB hgd s x ho B v l hv (hown.kept hb' (Nat.le_refl _)) _ [b] hx (Owned.bs (owned_lit w.heap.size w [b] w.heap.size rfl (Nat.le_refl _) (by unfold maxLen; simp) [.int .u8 X] (by rw [hX]; rfl) 1 rfl)) (by simp; omega) (by simp; omega) ?_
  intro v' w' h1 h2
  exact h v' w' h1 (hb.trans h2)

/-- What a function leaves that hands back bytes of its own and a number. -/
def GivesB (w : World) (l : List UInt8) (err : Int) (e : Ending) (w' : World) : Prop :=
  ∃ v, e = .returned (.tuple #[v, .int .i64 err]) ∧ Owned w.heap.size w' v l ∧ Below w.heap.size w w'
theorem GivesB.nil {w w' : World} {err : Int} (hb : Below w.heap.size w w') : GivesB w [] err (.returned (.tuple #[.slice none 0 0, .int .i64 err])) w' :=
  ⟨_, rfl, Owned.nil _ _, hb⟩

/-! ### A region that draws its order, over a class of worlds: what an operation yields is one value in every world of the class; calls may move within it -/
structure In (C : World → Prop) where
  w : World
  h : C w

theorem wp_region_in {P : Program} {id : Nat} {Q : Exit → Act → World → Prop} {a : Act} {w : World} {l : List Oper} (C : World → Prop) (hm : P.follows .mixedOrders = true) (hB : Region.lexB .any l.toArray = true) (hC : C w.drew)
    (h : wpQuiet P l.toArray (fun w' => ∃ x : In C, w' = x.w) (fun a' => ∀ w', (∃ x : In C, w' = x.w) → Q .normal a' w') l a) : (Code.region id l.toArray true).wp P Q a w :=
  wp_region_quiet (C := fun w' => ∃ x : In C, w' = x.w) hm hB ⟨⟨w.drew, hC⟩, rfl⟩ (by simpa using h)

theorem In.call {P : Program} {f : FuncId} {args : Array Value} {C : World → Prop} {w : World} {v : Value} {R : Ending → World → Prop} (h : Calls P f args w R) (hR : ∀ e w', R e w' → e = .returned v ∧ C w') :
    Calls P f args w fun e w'' => e = .returned v ∧ ∃ y : In C, w'' = y.w :=
  h.mono fun e w' hr => ⟨(hR e w' hr).1, ⟨w', (hR e w' hr).2⟩, rfl⟩

end Go.Proofs.YtjlnlgemngpelaaGreatDoor

/- Heads: what the functions of package head, and of its reference, compute. -/
namespace Go.Proofs.YtjlnlgemngpelaaGreatDoor
open Go.RowKit
set_option linter.unusedVariables false

def mayB (n : Nat) : Bool := n < 6 || (10 ≤ n && n < 14)
def hMsg (f : Int) : Bool := decide (0 ≤ f) && decide (f < 16) && mayB f.toNat
/-- The table of flags reads as the program's text lays it. -/
def EnvH (w : World) : Prop := 0 < w.heap.size ∧ ∀ i, i < 16 → w.cell? ⟨0, i, none⟩ = some (.bool (mayB i))
theorem EnvH.below {B : Nat} {w w' : World} (h : EnvH w) (hb : Below B w w') (hB : w.heap.size ≤ B) : EnvH w' :=
  ⟨Nat.lt_of_lt_of_le h.1 hb.size, fun i hi => (hb.cell (p := ⟨0, i, none⟩) (by have := h.1; show 0 < B; omega)).trans (h.2 i hi)⟩

set_option maxHeartbeats 400000 in
theorem message_c (f : Int) (w : World) (hE : EnvH w) :
    Calls Tryz.prog 80 #[.int .i64 f] w fun e w' => e = .returned (.bool (hMsg f)) ∧ w = w' := by
  unfold hMsg
  by_cases h0 : 0 ≤ f
  · obtain ⟨n, rfl⟩ := Int.eq_ofNat_of_zero_le h0
    by_cases h1 : n < 16
    · have hc := hE.2 n h1
      clear hE
      rw [Int.toNat_natCast]
      go_enter Tryz.func80, Tryz.ntmps80
      go_wp2
      go_ret
      exact ⟨by simp; omega, rfl⟩
    · clear hE
      go_enter Tryz.func80, Tryz.ntmps80
      go_wp2
      go_ret
      exact ⟨by simp; omega, rfl⟩
  · clear hE
    go_enter Tryz.func80, Tryz.ntmps80
    go_wp2
    go_ret
    exact ⟨by simp; omega, rfl⟩

def hPlain (k f : Int) : Bool := f == (if k = 6 ∨ k = 8 ∨ k = 10 then 2 else 0)
set_option maxHeartbeats 400000 in
theorem plain_c (k f : Int) (w : World) :
    Calls Tryz.prog 81 #[.int .i64 k, .int .i64 f] w fun e w' => e = .returned (.bool (hPlain k f)) ∧ w = w' := by
  go_enter Tryz.func81, Tryz.ntmps81
  go_wp2
  all_goals (go_ret; refine ⟨ret_bool ?_, rfl⟩; unfold hPlain; simp_all)

def hRight (k f : Int) : Int := if k < 1 ∨ 14 < k then 11 else if k = 3 then (if hMsg f then 0 else 10) else if hPlain k f then 0 else 10
theorem hRight_alt (k f : Int) : hRight k f = if k < 1 ∨ 14 < k then 11 else if k = 3 then (if 0 ≤ f ∧ f ≤ 15 ∧ (f < 6 ∨ (10 ≤ f ∧ f < 14)) then 0 else 10) else if f = (if k = 6 ∨ k = 8 ∨ k = 10 then 2 else 0) then 0 else 10 := by
  unfold hRight hMsg hPlain mayB
  by_cases h1 : k < 1 ∨ 14 < k
  · rw [if_pos h1, if_pos h1]
  · rw [if_neg h1, if_neg h1]
    by_cases h2 : k = 3
    · rw [if_pos h2, if_pos h2]
      congr 1
      simp
      omega
    · rw [if_neg h2, if_neg h2]
      simp
theorem hRight_vals (k f : Int) : hRight k f = 0 ∨ hRight k f = 10 ∨ hRight k f = 11 := by
  unfold hRight; repeat' split
  all_goals simp
theorem hRight_ok {k f : Int} (h : hRight k f = 0) : 1 ≤ k ∧ k ≤ 14 ∧ 0 ≤ f ∧ f < 16 := by
  rw [hRight_alt] at h
  by_cases h1 : k < 1 ∨ 14 < k
  · rw [if_pos h1] at h; omega
  · rw [if_neg h1] at h
    by_cases h2 : k = 3
    · rw [if_pos h2] at h
      by_cases h3 : 0 ≤ f ∧ f ≤ 15 ∧ (f < 6 ∨ (10 ≤ f ∧ f < 14))
      · omega
      · rw [if_neg h3] at h; omega
    · rw [if_neg h2] at h
      by_cases h4 : k = 6 ∨ k = 8 ∨ k = 10
      · rw [if_pos h4] at h
        by_cases h5 : f = 2
        · omega
        · rw [if_neg h5] at h; omega
      · rw [if_neg h4] at h
        by_cases h5 : f = 0
        · omega
        · rw [if_neg h5] at h; omega

set_option maxHeartbeats 400000 in
theorem hRight_c (k f : Int) (w : World) (hE : EnvH w) :
    Calls Tryz.prog 59 #[.int .i64 k, .int .i64 f] w fun e w' => e = .returned (.int .i64 (hRight k f)) ∧ w = w' := by
  have HE := hd hE; clear hE
  go_enter Tryz.func59, Tryz.ntmps59
  go_wp2_with (first
    | (go_at_call 80; refine (message_c _ _ HE.out).mono ?_; rintro e w' ⟨rfl, rfl⟩)
    | (go_at_call 81; refine (plain_c _ _ _).mono ?_; rintro e w' ⟨rfl, rfl⟩))
  all_goals (go_ret; refine ⟨ret_int ?_, rfl⟩; unfold hRight)
  all_goals (clear HE; simp_all)
  all_goals omega

set_option maxHeartbeats 400000 in
theorem refHRight_c (k f : Int) (w : World) :
    Calls Tryz.prog 68 #[.int .i64 k, .int .i64 f] w fun e w' => e = .returned (.int .i64 (hRight k f)) ∧ w = w' := by
  go_enter Tryz.func68, Tryz.ntmps68
  go_wp2
  all_goals (go_ret; refine ⟨ret_int ?_, rfl⟩)
  all_goals rw [hRight_alt]
  all_goals (try simp only [beq_iff_eq, bne_iff_ne, beq_eq_false_iff_ne, bne_eq_false_iff_eq, ne_eq] at *)
  all_goals (repeat' split)
  all_goals omega

theorem orBits : ∀ k : Fin 15, ∀ f : Fin 16, bits .or .i64 (((k.val : Nat) : Int) * 16) ((f.val : Nat) : Int) = 16 * (k.val : Int) + (f.val : Int) := by decide +kernel
theorem orMore : ∀ n : Fin 128, bits .or .i64 ((n.val : Nat) : Int) 128 = (n.val : Int) + 128 := by decide +kernel

def hBytes (k f n : Nat) : List UInt8 := B8 (16 * k + f) :: (if n < 128 then [B8 n] else [B8 (n % 128 + 128), B8 (n / 128)])
def hPutE (k f n : Int) : Int := if hRight k f = 0 then (if n < 0 ∨ 4096 < n then 3 else 0) else hRight k f
def hPutB (k f n : Int) : List UInt8 := if hPutE k f n = 0 then hBytes k.toNat f.toNat n.toNat else []


set_option maxRecDepth 100000 in
set_option maxHeartbeats 1000000 in
theorem hPut_c (k f n : Int) (w : World) (hE : EnvH w) :
    Calls Tryz.prog 35 #[.agg #[.int .i64 k, .int .i64 f, .int .i64 n]] w (GivesB w (hPutB k f n) (hPutE k f n)) := by
  obtain ⟨r, hr⟩ : ∃ r, hRight k f = r := ⟨_, rfl⟩
  obtain ⟨rE, hrE⟩ : ∃ r, hPutE k f n = r := ⟨_, rfl⟩
  obtain ⟨rB, hrB⟩ : ∃ r, hPutB k f n = r := ⟨_, rfl⟩
  rw [hrE, hrB]
  unfold hPutB at hrB
  rw [hrE] at hrB
  unfold hPutE at hrE
  rw [hr] at hrE
  have HE := hd hE; clear hE
  by_cases h0 : r = 0
  · rw [if_pos h0] at hrE
    have hok := hRight_ok (hr.trans h0)
    subst h0
    obtain ⟨hk1, hk2, hf1, hf2⟩ := hok
    obtain ⟨k, rfl⟩ := Int.eq_ofNat_of_zero_le (show 0 ≤ k by omega)
    obtain ⟨f, rfl⟩ := Int.eq_ofNat_of_zero_le hf1
    by_cases hn : n < 0 ∨ 4096 < n
    · rw [if_pos hn] at hrE
      subst hrE
      rw [if_neg (by decide)] at hrB
      subst hrB
      have Hr := hd hr; clear hr
      rcases hn with hn | hn
      all_goals
        go_enter Tryz.func35, Tryz.ntmps35
        go_wp2_with fail
        refine (hRight_c _ _ _ (HE.out.below ((Below.refl _ _).alloc (Nat.le_refl _) _) (Nat.le_refl _))).mono ?_
        rintro e w' ⟨rfl, rfl⟩
        rw [Hr.out]
        go_wp2
        go_ret2
        exact GivesB.nil ((Below.refl _ _).alloc (Nat.le_refl _) _)
    · rw [if_neg hn] at hrE
      subst hrE
      rw [if_pos rfl] at hrB
      obtain ⟨n, rfl⟩ := Int.eq_ofNat_of_zero_le (show 0 ≤ n by omega)
      simp only [Int.toNat_natCast] at hrB
      have hn2 : n ≤ 4096 := by omega
      clear hn
      have ho : bits .or .i64 ((k : Int) * 16) f = 16 * (k : Int) + f := orBits ⟨k, by omega⟩ ⟨f, by omega⟩
      have hx1 : Value.int .u8 (16 * (k : Int) + f) = byteV (B8 (16 * k + f)) := (byteV_B8 (by omega) (by omega)).symm
      have Hx1 := hd hx1; clear hx1
      have Hr := hd hr; clear hr
      by_cases hn : n < 128
      · have HB : Hd (B8 (16 * k + f) :: [B8 n] = rB) := hd (by rw [← hrB]; unfold hBytes; rw [if_pos hn])
        clear hrB
        go_enter Tryz.func35, Tryz.ntmps35
        go_wp2_with fail
        refine (hRight_c _ _ _ (HE.out.below ((Below.refl _ _).alloc (Nat.le_refl _) _) (Nat.le_refl _))).mono ?_
        rintro e w' ⟨rfl, rfl⟩
        rw [Hr.out]
        go_wp2_with fail
        have hown0 := owned_lit w.heap.size (w.alloc (Obj.cells #[Value.int IntKind.i64 ↑k, Value.int IntKind.i64 ↑f, Value.int IntKind.i64 ↑n] 85)) [B8 (16 * k + f)] (w.heap.size + 1) (by simp) (by omega) (by unfold maxLen; simp) [Value.int IntKind.u8 (16 * ↑k + ↑f)] (by rw [Hx1.out]; rfl) 1 rfl
        have hb0 : Below w.heap.size w ((w.alloc (Obj.cells #[Value.int IntKind.i64 ↑k, Value.int IntKind.i64 ↑f, Value.int IntKind.i64 ↑n] 85)).alloc (Obj.cells #[Value.int IntKind.u8 (16 * ↑k + ↑f)] 5)) := ((Below.refl _ _).alloc (Nat.le_refl _) _).alloc (by simp) _
        generalize ((w.alloc (Obj.cells #[Value.int IntKind.i64 ↑k, Value.int IntKind.i64 ↑f, Value.int IntKind.i64 ↑n] 85)).alloc (Obj.cells #[Value.int IntKind.u8 (16 * ↑k + ↑f)] 5)) = w1 at hown0 hb0 ⊢
        refine wp_loop_rounds 1 ?_
        rw [rounds_succ]
        go_wp2_with (at_builtin; refine wp_appB1 rfl _ _ rfl w.heap.size _ _ rfl hown0 _ (B8 n) (byteV_B8 (by omega) rfl).symm rfl (by simp) hb0.size ?_; intro v' w2 hown1 hb1)
        go_ret2
        exact ⟨v', rfl, HB.out ▸ hown1, hb0.trans hb1⟩
      · have hm1 : bits .or .i64 ((n : Int) % 128) 128 = (n : Int) % 128 + 128 := orMore ⟨n % 128, by omega⟩
        have HB : Hd (B8 (16 * k + f) :: [B8 (n % 128 + 128), B8 (n / 128)] = rB) := hd (by rw [← hrB]; unfold hBytes; rw [if_neg hn])
        clear hrB
        go_enter Tryz.func35, Tryz.ntmps35
        go_wp2_with fail
        refine (hRight_c _ _ _ (HE.out.below ((Below.refl _ _).alloc (Nat.le_refl _) _) (Nat.le_refl _))).mono ?_
        rintro e w' ⟨rfl, rfl⟩
        rw [Hr.out]
        go_wp2_with fail
        have hown0 := owned_lit w.heap.size (w.alloc (Obj.cells #[Value.int IntKind.i64 ↑k, Value.int IntKind.i64 ↑f, Value.int IntKind.i64 ↑n] 85)) [B8 (16 * k + f)] (w.heap.size + 1) (by simp) (by omega) (by unfold maxLen; simp) [Value.int IntKind.u8 (16 * ↑k + ↑f)] (by rw [Hx1.out]; rfl) 1 rfl
        have hb0 : Below w.heap.size w ((w.alloc (Obj.cells #[Value.int IntKind.i64 ↑k, Value.int IntKind.i64 ↑f, Value.int IntKind.i64 ↑n] 85)).alloc (Obj.cells #[Value.int IntKind.u8 (16 * ↑k + ↑f)] 5)) := ((Below.refl _ _).alloc (Nat.le_refl _) _).alloc (by simp) _
        generalize ((w.alloc (Obj.cells #[Value.int IntKind.i64 ↑k, Value.int IntKind.i64 ↑f, Value.int IntKind.i64 ↑n] 85)).alloc (Obj.cells #[Value.int IntKind.u8 (16 * ↑k + ↑f)] 5)) = w1 at hown0 hb0 ⊢
        refine wp_loop_rounds 2 ?_
        rw [rounds_succ]
        go_wp2_with (at_builtin; refine wp_appB1 rfl _ _ rfl w.heap.size _ _ rfl hown0 _ (B8 (n % 128 + 128)) (byteV_B8 (by omega) (by omega)).symm rfl (by simp) hb0.size ?_; intro v' w2 hown1 hb1)
        clear hm1
        rw [rounds_succ]
        go_wp2_with (at_builtin; refine wp_appB1 rfl _ _ rfl w.heap.size _ _ rfl hown1 _ (B8 (n / 128)) (byteV_B8 (by omega) (by omega)).symm rfl (by simp) (hb0.trans hb1).size ?_; intro v3 w3 hown3 hb3)
        go_ret2
        exact ⟨v3, rfl, HB.out ▸ hown3, (hb0.trans hb1).trans hb3⟩
  · rw [if_neg h0] at hrE
    subst hrE
    rw [if_neg h0] at hrB
    subst hrB
    have hr0 : (r != 0) = true := by simpa using h0
    have Hr := hd hr; clear hr h0
    go_enter Tryz.func35, Tryz.ntmps35
    go_wp2_with fail
    refine (hRight_c _ _ _ (HE.out.below ((Below.refl _ _).alloc (Nat.le_refl _) _) (Nat.le_refl _))).mono ?_
    rintro e w' ⟨rfl, rfl⟩
    rw [Hr.out]
    go_wp2
    go_ret2
    exact GivesB.nil ((Below.refl _ _).alloc (Nat.le_refl _) _)

end Go.Proofs.YtjlnlgemngpelaaGreatDoor

/- Texts: plain laws: which bytes are a text, by the library's words and by the reference's steps. No program. -/
namespace Go.Proofs.YtjlnlgemngpelaaGreatDoor
open Go.RowKit
set_option linter.unusedVariables false

def tailL (l : List UInt8) (i : Nat) : Bool := decide (i < l.length) && decide ((128 : Int) ≤ bN l i) && decide ((bN l i : Int) ≤ 191)
/-- How many bytes the rune at a place has, and its number. -/
def stepL (l : List UInt8) (i : Nat) : Int × Int :=
  if (bN l i : Int) < 128 then (1, bN l i)
  else if ((194 : Int) ≤ bN l i ∧ (bN l i : Int) ≤ 223) ∧ tailL l (i + 1) = true then (2, ((bN l i : Int) - 192) * 64 + bN l (i + 1) - 128)
  else if (((224 : Int) ≤ bN l i ∧ (bN l i : Int) ≤ 239) ∧ tailL l (i + 1) = true) ∧ tailL l (i + 2) = true then
    (if ((bN l i : Int) - 224) * 4096 + ((bN l (i + 1) : Int) - 128) * 64 + bN l (i + 2) - 128 < 2048 ∨ ((55296 : Int) ≤ ((bN l i : Int) - 224) * 4096 + ((bN l (i + 1) : Int) - 128) * 64 + bN l (i + 2) - 128 ∧ ((bN l i : Int) - 224) * 4096 + ((bN l (i + 1) : Int) - 128) * 64 + bN l (i + 2) - 128 ≤ 57343) then (0, 0)
     else (3, ((bN l i : Int) - 224) * 4096 + ((bN l (i + 1) : Int) - 128) * 64 + bN l (i + 2) - 128))
  else if ((((240 : Int) ≤ bN l i ∧ (bN l i : Int) ≤ 244) ∧ tailL l (i + 1) = true) ∧ tailL l (i + 2) = true) ∧ tailL l (i + 3) = true then
    (if ((bN l i : Int) - 240) * 262144 + ((bN l (i + 1) : Int) - 128) * 4096 + ((bN l (i + 2) : Int) - 128) * 64 + bN l (i + 3) - 128 < 65536 ∨ (1114111 : Int) < ((bN l i : Int) - 240) * 262144 + ((bN l (i + 1) : Int) - 128) * 4096 + ((bN l (i + 2) : Int) - 128) * 64 + bN l (i + 3) - 128 then (0, 0)
     else (4, ((bN l i : Int) - 240) * 262144 + ((bN l (i + 1) : Int) - 128) * 4096 + ((bN l (i + 2) : Int) - 128) * 64 + bN l (i + 3) - 128))
  else (0, 0)

def zeroIn (l : List UInt8) : Bool := l.any (· == 0)
def uRight (l : List UInt8) : Bool := decide (l.length ≤ 65535) && (Lib.validD l && !zeroIn l)

theorem tailL_iff (l : List UInt8) (i : Nat) : tailL l i = true ↔ i < l.length ∧ 128 ≤ bN l i ∧ bN l i ≤ 191 := by
  unfold tailL; simp; omega

/-- No byte among the first n is 0, if none of their numbers is. -/
theorem zeroIn_drop : ∀ (n : Nat) (l : List UInt8), n ≤ l.length → (∀ j, j < n → bN l j ≠ 0) → zeroIn l = zeroIn (l.drop n)
  | 0, l, _, _ => by simp
  | n + 1, [], h, _ => by simp at h
  | n + 1, b :: t, h, hb => by
    have h0 := hb 0 (by omega)
    have e : zeroIn (b :: t) = zeroIn t := by
      unfold zeroIn
      have : (b == 0) = false := by
        rw [beq_eq_false_iff_ne]
        intro hc
        apply h0
        subst hc
        rfl
      simp [this]
    rw [e, List.drop_succ_cons]
    refine zeroIn_drop n t (by simpa using h) (fun j hj => ?_)
    have := hb (j + 1) (by omega)
    unfold bN at this ⊢
    simpa using this
theorem zeroIn_hit {l : List UInt8} (hl : 0 < l.length) (h : bN l 0 = 0) : zeroIn l = true := by
  cases l with
  | nil => simp at hl
  | cons b t =>
    have : b = 0 := by
      unfold bN at h
      simp at h
      exact UInt8.toNat_inj.1 (by simpa using h)
    unfold zeroIn
    simp [this]

/-- One step of the reference's loop: on what is left. -/
theorem step_left (l : List UInt8) (i : Nat) (hi : i < l.length) :
    ((stepL l i).1 = 0 → Lib.validD (l.drop i) = false) ∧
    ((stepL l i).1 ≠ 0 → ∃ n : Nat, (stepL l i).1 = n ∧ 1 ≤ n ∧ i + n ≤ l.length ∧ Lib.validD (l.drop i) = Lib.validD (l.drop (i + n)) ∧
      ((stepL l i).2 = 0 → zeroIn (l.drop i) = true) ∧ ((stepL l i).2 ≠ 0 → zeroIn (l.drop i) = zeroIn (l.drop (i + n)))) := by
  have hne : l.drop i ≠ [] := by intro h; have := congrArg List.length h; simp at this; omega
  have hv := Lib.validD_step (l.drop i) hne
  rw [Lib.decodeL_N] at hv
  have e0 : ((l.drop i).getD 0 0).toNat = bN l i := by have := bN_drop l i 0; rw [Nat.add_zero] at this; exact this
  have e1 : ((l.drop i).getD 1 0).toNat = bN l (i + 1) := bN_drop l i 1
  have e2 : ((l.drop i).getD 2 0).toNat = bN l (i + 2) := bN_drop l i 2
  have e3 : ((l.drop i).getD 3 0).toNat = bN l (i + 3) := bN_drop l i 3
  rw [e0, e1, e2, e3, List.length_drop, List.drop_drop] at hv
  have t1 := tailL_iff l (i + 1)
  have t2 := tailL_iff l (i + 2)
  have t3 := tailL_iff l (i + 3)
  have z0 : bN l i = 0 → zeroIn (l.drop i) = true := fun h => zeroIn_hit (by rw [List.length_drop]; omega) (by rw [bN_drop, Nat.add_zero]; exact h)
  have zn : ∀ n, i + n ≤ l.length → (∀ j, j < n → bN l (i + j) ≠ 0) → zeroIn (l.drop i) = zeroIn (l.drop (i + n)) := fun n hn hb => by
    have := zeroIn_drop n (l.drop i) (by rw [List.length_drop]; omega) (fun j hj => by rw [bN_drop]; exact hb j hj)
    rw [List.drop_drop] at this
    exact this
  have b0 := bN_lt l i
  have b1 := bN_lt l (i + 1)
  have b2 := bN_lt l (i + 2)
  have b3 := bN_lt l (i + 3)
  have hz1 : bN l i ≠ 0 → zeroIn (l.drop i) = zeroIn (l.drop (i + 1)) := fun h => zn 1 (by omega) (fun j hj => by
    match j, hj with
    | 0, _ => exact h)
  have hz2 : i + 2 ≤ l.length → bN l i ≠ 0 → bN l (i + 1) ≠ 0 → zeroIn (l.drop i) = zeroIn (l.drop (i + 2)) := fun h h0 h1 => zn 2 h (fun j hj => by
    match j, hj with
    | 0, _ => exact h0
    | 1, _ => exact h1)
  have hz3 : i + 3 ≤ l.length → bN l i ≠ 0 → bN l (i + 1) ≠ 0 → bN l (i + 2) ≠ 0 → zeroIn (l.drop i) = zeroIn (l.drop (i + 3)) := fun h h0 h1 h2 => zn 3 h (fun j hj => by
    match j, hj with
    | 0, _ => exact h0
    | 1, _ => exact h1
    | 2, _ => exact h2)
  have hz4 : i + 4 ≤ l.length → bN l i ≠ 0 → bN l (i + 1) ≠ 0 → bN l (i + 2) ≠ 0 → bN l (i + 3) ≠ 0 → zeroIn (l.drop i) = zeroIn (l.drop (i + 4)) := fun h h0 h1 h2 h3 => zn 4 h (fun j hj => by
    match j, hj with
    | 0, _ => exact h0
    | 1, _ => exact h1
    | 2, _ => exact h2
    | 3, _ => exact h3)
  unfold stepL
  generalize zeroIn (l.drop i) = Z at *
  generalize Lib.validD (l.drop i) = V at *
  generalize bN l i = x0 at *
  generalize bN l (i + 1) = x1 at *
  generalize bN l (i + 2) = x2 at *
  generalize bN l (i + 3) = x3 at *
  clear e0 e1 e2 e3 zn
  have fin : ∀ r n, Lib.decodeN (l.length - i) x0 x1 x2 x3 = (r, n) → (¬ (r = 65533 ∧ n = 1)) → V = Lib.validD (l.drop (i + n)) := fun r n h hr => by
    rw [hv, h, if_neg hr]
  have bad : Lib.decodeN (l.length - i) x0 x1 x2 x3 = (65533, 1) → V = false := fun h => by
    rw [hv, h, if_pos ⟨rfl, rfl⟩]
  clear hv
  by_cases c0 : (x0 : Int) < 128
  · rw [if_pos c0]
    refine ⟨fun h => by simp at h, fun _ => ⟨1, rfl, by omega, by omega, ?_, fun h => z0 (by simpa using h), fun h => hz1 (by simpa using h)⟩⟩
    refine fin x0 1 ?_ (by omega)
    unfold Lib.decodeN
    rw [if_pos (by omega)]
  · rw [if_neg c0]
    by_cases c1 : ((194 : Int) ≤ x0 ∧ (x0 : Int) ≤ 223) ∧ tailL l (i + 1) = true
    · rw [if_pos c1]
      have ht := t1.1 c1.2
      refine ⟨fun h => by simp at h, fun _ => ⟨2, rfl, by omega, by omega, ?_, fun h => by simp only at h; omega, fun h => hz2 (by omega) (by omega) (by omega)⟩⟩
      refine fin (x0 % 32 * 64 + x1 % 64) 2 ?_ (by omega)
      unfold Lib.decodeN
      rw [if_neg (by omega), if_pos (by omega), if_pos (by omega)]
    · rw [if_neg c1]
      by_cases c2 : (((224 : Int) ≤ x0 ∧ (x0 : Int) ≤ 239) ∧ tailL l (i + 1) = true) ∧ tailL l (i + 2) = true
      · rw [if_pos c2]
        have ht := t1.1 c2.1.2
        have ht2 := t2.1 c2.2
        by_cases c3 : ((x0 : Int) - 224) * 4096 + ((x1 : Int) - 128) * 64 + x2 - 128 < 2048 ∨ ((55296 : Int) ≤ ((x0 : Int) - 224) * 4096 + ((x1 : Int) - 128) * 64 + x2 - 128 ∧ ((x0 : Int) - 224) * 4096 + ((x1 : Int) - 128) * 64 + x2 - 128 ≤ 57343)
        · rw [if_pos c3]
          refine ⟨fun _ => bad ?_, fun h => by simp at h⟩
          unfold Lib.decodeN
          rw [if_neg (by omega), if_neg (by omega), if_pos (by omega), if_neg (by omega)]
        · rw [if_neg c3]
          refine ⟨fun h => by simp at h, fun _ => ⟨3, rfl, by omega, by omega, ?_, fun h => by simp only at h; omega, fun h => hz3 (by omega) (by omega) (by omega) (by omega)⟩⟩
          refine fin (x0 % 16 * 4096 + x1 % 64 * 64 + x2 % 64) 3 ?_ (by omega)
          unfold Lib.decodeN
          rw [if_neg (by omega), if_neg (by omega), if_pos (by omega), if_pos (by omega)]
      · rw [if_neg c2]
        by_cases c3 : ((((240 : Int) ≤ x0 ∧ (x0 : Int) ≤ 244) ∧ tailL l (i + 1) = true) ∧ tailL l (i + 2) = true) ∧ tailL l (i + 3) = true
        · rw [if_pos c3]
          have ht := t1.1 c3.1.1.2
          have ht2 := t2.1 c3.1.2
          have ht3 := t3.1 c3.2
          by_cases c4 : ((x0 : Int) - 240) * 262144 + ((x1 : Int) - 128) * 4096 + ((x2 : Int) - 128) * 64 + x3 - 128 < 65536 ∨ (1114111 : Int) < ((x0 : Int) - 240) * 262144 + ((x1 : Int) - 128) * 4096 + ((x2 : Int) - 128) * 64 + x3 - 128
          · rw [if_pos c4]
            refine ⟨fun _ => bad ?_, fun h => by simp at h⟩
            unfold Lib.decodeN
            rw [if_neg (by omega), if_neg (by omega), if_neg (by omega), if_pos (by omega), if_neg (by omega)]
          · rw [if_neg c4]
            refine ⟨fun h => by simp at h, fun _ => ⟨4, rfl, by omega, by omega, ?_, fun h => by simp only at h; omega, fun h => hz4 (by omega) (by omega) (by omega) (by omega) (by omega)⟩⟩
            refine fin (x0 % 8 * 262144 + x1 % 64 * 4096 + x2 % 64 * 64 + x3 % 64) 4 ?_ (by omega)
            unfold Lib.decodeN
            rw [if_neg (by omega), if_neg (by omega), if_neg (by omega), if_pos (by omega), if_pos (by omega)]
        · rw [if_neg c3]
          refine ⟨fun _ => bad ?_, fun h => by simp at h⟩
          rw [t1] at c1 c2 c3
          rw [t2] at c2 c3
          rw [t3] at c3
          unfold Lib.decodeN
          rw [if_neg (by omega)]
          (repeat' split) <;> first | rfl | (exfalso; omega)

theorem zeroIn_nil : zeroIn [] = false := rfl
end Go.Proofs.YtjlnlgemngpelaaGreatDoor

/-
  DERIVED: THE SHELF's CONTRACTS AT THIS DUMP, IN PLAIN WORDS (tools/lay-plain.mjs out of 'YtjlnlgemngpelaaGreatDoorShelfT.lean', which tools/lay-shelf.mjs wrote): THE SAME DECLARATIONS UNDER THE SAME NAMES: 'import', 'namespace', 'open', 'def', 'theorem' AND NOTHING ELSE: no command of the shelf's: FOR A HAND-IN. Each laying: the table of numbers ('.._ren') and one theorem, a field a fact of the dump's own or the kernel's comparison; each contract: ONE APPLICATION.
-/
namespace Go.Proofs
open Go.Shelf
def Tryz.laysValid_ren : Go.Shelf.Ren := ⟨fun | 196 => 152 | 259 => 163 | n => n, fun | 9 => 9 | 4 => 4 | 3 => 3 | 5 => 5 | 12 => 12 | 119 => 237 | 0 => 0 | 46 => 169 | 139 => 240 | 138 => 239 | 53 => 241 | n => n, fun | 3 => 2 | 4 => 3 | n => n⟩
theorem Tryz.laysValid : Go.Proofs.Lays.n196 Tryz.prog Tryz.laysValid_ren := {
  mixed := by kernel_rfl
  f196 := Tryz.func152.trans (congrArg some (by kernel_rfl))
  f259 := Tryz.func163.trans (congrArg some (by kernel_rfl))
  t0 := Tryz.underlying0
  a0 := Tryz.isAgg0
  z0 := Tryz.sizeOf0
  v0 := Tryz.zeroValue0
  t3 := Tryz.underlying3
  a3 := Tryz.isAgg3
  z3 := Tryz.sizeOf3
  v3 := Tryz.zeroValue3
  t4 := Tryz.underlying4
  a4 := Tryz.isAgg4
  z4 := Tryz.sizeOf4
  v4 := Tryz.zeroValue4
  t5 := Tryz.underlying5
  a5 := Tryz.isAgg5
  z5 := Tryz.sizeOf5
  v5 := Tryz.zeroValue5
  t9 := Tryz.underlying9
  a9 := Tryz.isAgg9
  z9 := Tryz.sizeOf9
  v9 := Tryz.zeroValue9
  t12 := Tryz.underlying12
  a12 := Tryz.isAgg12
  z12 := Tryz.sizeOf12
  v12 := Tryz.zeroValue12
  t46 := Tryz.underlying169
  a46 := Tryz.isAgg169
  z46 := Tryz.sizeOf169
  v46 := Tryz.zeroValue169
  t53 := Tryz.underlying241
  a53 := Tryz.isAgg241
  z53 := Tryz.sizeOf241
  v53 := Tryz.zeroValue241
  t119 := Tryz.underlying237
  a119 := Tryz.isAgg237
  z119 := Tryz.sizeOf237
  t138 := Tryz.underlying239
  a138 := Tryz.isAgg239
  z138 := Tryz.sizeOf239
  v138 := Tryz.zeroValue239
  t139 := Tryz.underlying240
  a139 := Tryz.isAgg240
  z139 := Tryz.sizeOf240
  v139 := Tryz.zeroValue240
  g3 := by kernel_rfl
  g4 := by kernel_rfl }
def Tryz.lays138_ren : Go.Shelf.Ren := ⟨fun | 138 => 132 | 195 => 153 | 218 => 154 | 143 => 155 | 219 => 164 | 217 => 165 | 225 => 166 | 224 => 167 | 267 => 168 | 266 => 169 | 314 => 170 | n => n, fun | 9 => 9 | 3 => 3 | 4 => 4 | 5 => 5 | 0 => 0 | 46 => 169 | 146 => 244 | 51 => 243 | n => n, fun | 1 => 4 | n => n⟩
theorem Tryz.lays138 : Go.Proofs.Lays.n138 Tryz.prog Tryz.lays138_ren := {
  mixed := by kernel_rfl
  f138 := Tryz.func132.trans (congrArg some (by kernel_rfl))
  f143 := Tryz.func155.trans (congrArg some (by kernel_rfl))
  f195 := Tryz.func153.trans (congrArg some (by kernel_rfl))
  f217 := Tryz.func165.trans (congrArg some (by kernel_rfl))
  f218 := Tryz.func154.trans (congrArg some (by kernel_rfl))
  f219 := Tryz.func164.trans (congrArg some (by kernel_rfl))
  f224 := Tryz.func167.trans (congrArg some (by kernel_rfl))
  f225 := Tryz.func166.trans (congrArg some (by kernel_rfl))
  f266 := Tryz.func169.trans (congrArg some (by kernel_rfl))
  f267 := Tryz.func168.trans (congrArg some (by kernel_rfl))
  f314 := Tryz.func170.trans (congrArg some (by kernel_rfl))
  t0 := Tryz.underlying0
  a0 := Tryz.isAgg0
  z0 := Tryz.sizeOf0
  v0 := Tryz.zeroValue0
  t3 := Tryz.underlying3
  a3 := Tryz.isAgg3
  z3 := Tryz.sizeOf3
  v3 := Tryz.zeroValue3
  t4 := Tryz.underlying4
  a4 := Tryz.isAgg4
  z4 := Tryz.sizeOf4
  v4 := Tryz.zeroValue4
  t5 := Tryz.underlying5
  a5 := Tryz.isAgg5
  z5 := Tryz.sizeOf5
  v5 := Tryz.zeroValue5
  t9 := Tryz.underlying9
  a9 := Tryz.isAgg9
  z9 := Tryz.sizeOf9
  v9 := Tryz.zeroValue9
  t46 := Tryz.underlying169
  a46 := Tryz.isAgg169
  z46 := Tryz.sizeOf169
  v46 := Tryz.zeroValue169
  t51 := Tryz.underlying243
  a51 := Tryz.isAgg243
  z51 := Tryz.sizeOf243
  v51 := Tryz.zeroValue243
  t146 := Tryz.underlying244
  a146 := Tryz.isAgg244
  z146 := Tryz.sizeOf244
  v146 := Tryz.zeroValue244
  g1 := by kernel_rfl }
open Go.RowKit Go.Lib in
theorem Tryz.strings_Count_one (s : ByteArray) (c : UInt8) (w : World) :
    Calls Tryz.prog 132 #[.string s, .string ⟨#[c]⟩] w fun e w' => e = .returned (.int .i64 (Lib.countByte s.data.toList c)) ∧ w' = w := Any.strings_Count_one Tryz.lays138 s c w
end Go.Proofs
