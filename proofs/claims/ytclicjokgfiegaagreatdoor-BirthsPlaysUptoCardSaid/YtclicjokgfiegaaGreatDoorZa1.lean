/- A bundle of texts (merged for the limit on files): Base, UtfPlain, LevPlain, Shelf, Close. -/
import Derived.Test.YtclicjokgfiegaaGreatDoorRows
import Derived.WalkKit
import Derived.WalkSpells
import Derived.WalkLawsBesides
import Derived.Handy
import Derived.Deep.QuietTactic
import Derived.Deep.DeepCutAuto
import Derived.BigQuiet
import Derived.Deep.LoopGhost
import Derived.Laws.AppendOwnNone
import Derived.WideShapes
import Derived.OpenShut
import Derived.Deep.Slices
import Derived.Lib.ValidLaws
import Derived.Lib.TrimUEq
import Derived.Lib.MapLaws
import Derived.Lib.Bytealg
import Derived.Lib.Join
import Derived.Test.YtclicjokgfiegaaGreatDoorProg
import Derived.Ground.NamesProg
import Derived.Shelf.Unicode.ValidAny
import Derived.Shelf.Strings.Search3
import Derived.Shelf.Strings.Count
import Derived.Shelf.Strings.Prefix
import Derived.ProofKit
import Derived.Deep.DeepHandedRow
import Derived.Lib.LaidTab
import Derived.LaidSub
import Derived.Lib.SmallJoins
import Derived.LaidLaws
/- Base: small laws on what a slice reads as, on rows that a call owns, on endings; a law for append onto an owned row from any slice. Of no function of the program. -/
namespace Go.Proofs.YtclicjokgfiegaaGreatDoor
open Go.RowKit

def Hd (p : Prop) : Prop := p
theorem hd {p : Prop} (h : p) : Hd p := h
theorem Hd.out {p : Prop} (h : Hd p) : p := h

theorem ret_int {k : IntKind} {a b : Int} (h : a = b) : Ending.returned (.int k a) = .returned (.int k b) := by rw [h]
theorem ret_bool {a b : Bool} (h : a = b) : Ending.returned (.bool a) = .returned (.bool b) := by rw [h]

theorem vb {a b : Bool} (h : a = b) : Value.bool a = .bool b := by rw [h]
theorem vi {k : IntKind} {a b : Int} (h : a = b) : Value.int k a = .int k b := by rw [h]
theorem ret2 {a b a' b' : Value} (h1 : a = a') (h2 : b = b') : Ending.returned (.tuple #[a, b]) = .returned (.tuple #[a', b']) := by rw [h1, h2]
theorem ret3 {a b c a' b' c' : Value} (h1 : a = a') (h2 : b = b') (h3 : c = c') : Ending.returned (.tuple #[a, b, c]) = .returned (.tuple #[a', b', c']) := by rw [h1, h2, h3]

/-! ### Bytes -/
def B8 (n : Nat) : UInt8 := UInt8.ofNat n
theorem B8_toNat {n : Nat} (h : n < 256) : (B8 n).toNat = n := by unfold B8; rw [UInt8.toNat_ofNat']; omega
theorem B8_of (b : UInt8) : B8 b.toNat = b := by unfold B8; exact UInt8.ofNat_toNat
def byteV (b : UInt8) : Value := .int .u8 (b.toNat : Int)
theorem byteV_B8 {n : Nat} (h : n < 256) {x : Int} (hx : x = n) : byteV (B8 n) = .int .u8 x := by unfold byteV; rw [B8_toNat h, hx]
theorem byteV_one (l : List UInt8) : ∀ u ∈ l.map byteV, u.oneCell' = true := by
  intro u hu
  obtain ⟨b, _, rfl⟩ := List.mem_map.1 hu
  rfl

/-! ### What a slice value reads as: n elements, the cells xs one behind the other -/
def Rd (w : World) (v : Value) (n : Nat) (xs : List Value) : Prop :=
  ∃ (a : Option Addr) (c : Nat), v = .slice a n c ∧ n ≤ c ∧ c ≤ maxLen ∧ (a = none → n = 0 ∧ c = 0 ∧ xs = []) ∧ ∀ ad, a = some ad → ∀ j u, xs[j]? = some u → w.cell? (ad.add j) = some u

theorem Rd.nil (w : World) : Rd w (.slice none 0 0) 0 [] := ⟨none, 0, rfl, Nat.le_refl _, Nat.zero_le _, fun _ => ⟨rfl, rfl, rfl⟩, fun _ h => by cases h⟩

/-- The block that a slice value points into. -/
def Value.inBlock (v : Value) (B : Nat) : Prop := ∀ a n c, v = .slice (some a) n c → a.block < B

theorem Rd.below {B : Nat} {w w' : World} {v : Value} {n : Nat} {xs : List Value} (h : Rd w v n xs) (hb : Below B w w') (hv : Value.inBlock v B) : Rd w' v n xs := by
  obtain ⟨a, c, rfl, h1, h2, h3, h4⟩ := h
  refine ⟨a, c, rfl, h1, h2, h3, fun ad had j u hu => ?_⟩
  subst had
  have hlt := hv ad _ _ rfl
  rw [hb.cell (p := ad.add j) (by unfold Addr.add; split <;> exact hlt)]
  exact h4 ad rfl j u hu

theorem Rd.block {w : World} {v : Value} {n : Nat} {xs : List Value} (h : Rd w v n xs) (hx : xs ≠ []) : Value.inBlock v w.heap.size := by
  obtain ⟨a, c, rfl, h1, h2, h3, h4⟩ := h
  intro ad n' c' e
  cases e
  cases xs with
  | nil => exact absurd rfl hx
  | cons x r =>
    have := h4 ad rfl 0 x rfl
    exact World.block_lt_of_cell? w ad (by simpa [Addr.add] using this)

/-- Nothing is read of an empty slice: it reads so in any world. -/
theorem Rd.below' {B : Nat} {w w' : World} {v : Value} {n : Nat} {xs : List Value} (h : Rd w v n xs) (hb : Below B w w') (hB : w.heap.size ≤ B) : Rd w' v n xs := by
  by_cases hx : xs = []
  · subst hx
    obtain ⟨a, c, rfl, h1, h2, h3, h4⟩ := h
    exact ⟨a, c, rfl, h1, h2, h3, fun ad _ j u hu => by simp at hu⟩
  · exact h.below hb (fun a n c e => Nat.lt_of_lt_of_le (h.block hx a n c e) hB)

theorem Rd.len {w : World} {v : Value} {n : Nat} {xs : List Value} (h : Rd w v n xs) : n ≤ maxLen := by
  obtain ⟨_, c, _, h1, h2, _⟩ := h; omega

/-- A slice value is empty, or its cells lie at a plain place. -/
theorem Rd.split {w : World} {v : Value} {n : Nat} {xs : List Value} (h : Rd w v n xs) :
    (xs = [] ∧ ∃ a c, v = .slice a n c ∧ n ≤ c ∧ c ≤ maxLen ∧ (a = none → n = 0 ∧ c = 0)) ∨
    (xs ≠ [] ∧ ∃ b o c, v = .slice (some ⟨b, o, none⟩) n c ∧ n ≤ c ∧ c ≤ maxLen ∧ b < w.heap.size ∧ ∀ j u, xs[j]? = some u → w.cell? ⟨b, o + j, none⟩ = some u) := by
  have h' := h
  obtain ⟨a, c, rfl, h1, h2, h3, h4⟩ := h
  cases xs with
  | nil => exact .inl ⟨rfl, a, c, rfl, h1, h2, fun e => ⟨(h3 e).1, (h3 e).2.1⟩⟩
  | cons x r =>
    refine .inr ⟨by simp, ?_⟩
    cases a with
    | none => exact absurd (h3 rfl).2.2 (by simp)
    | some ad =>
      obtain ⟨b, o, sp⟩ := ad
      have hx := h4 _ rfl 0 x rfl
      have hsp : sp = none := by simpa [Addr.add] using World.cell?_spot hx
      subst hsp
      refine ⟨b, o, c, rfl, h1, h2, h'.block (by simp) _ _ _ rfl, fun j u hu => ?_⟩
      have := h4 _ rfl j u hu
      rwa [Go.WideShapes.add_plain] at this

/-! ### Rows that the call owns -/
theorem Owns.rd {w : World} {B e size n : Nat} {v : Value} {xs : List Value} (h : w.ownsRow B e size v n xs) : Rd w v n xs := by
  rcases h.2 with ⟨rfl, hn⟩ | ⟨g, cap, cur, rfl, hb, hg, hn, hm, hs, ht⟩
  · have : xs = [] := List.eq_nil_of_length_eq_zero (by rw [h.1, hn]; omega)
    subst this hn
    exact Rd.nil w
  · refine ⟨some ⟨g, 0, none⟩, cap, rfl, hn, hm, (fun e => by cases e), fun ad had j u hu => ?_⟩
    cases had
    exact World.ownsRow.cells h rfl j u hu

theorem Owns.kept {B B' e size n : Nat} {w w' : World} {v : Value} {xs : List Value} (h : w.ownsRow B e size v n xs) (hb : Below B' w w') (hB : w.heap.size ≤ B') : w'.ownsRow B e size v n xs := by
  refine ⟨h.1, ?_⟩
  rcases h.2 with h0 | ⟨g, cap, cur, rfl, h1, h2, h3⟩
  · exact .inl h0
  · exact .inr ⟨g, cap, cur, rfl, h1, by rw [hb.block g (Nat.lt_of_lt_of_le (Array.getElem?_eq_some_iff.1 h2).1 hB)]; exact h2, h3⟩

theorem Owns.le {B B' e size n : Nat} {w : World} {v : Value} {xs : List Value} (h : w.ownsRow B e size v n xs) (hB : B' ≤ B) : w.ownsRow B' e size v n xs :=
  ⟨h.1, h.2.elim .inl fun ⟨g, cap, cur, h0, h1, r⟩ => .inr ⟨g, cap, cur, h0, Nat.le_trans hB h1, r⟩⟩

theorem Owns.slice {B e size n : Nat} {w : World} {v : Value} {xs : List Value} (h : w.ownsRow B e size v n xs) : ∃ a c, v = .slice a n c := by
  rcases h.2 with ⟨rfl, rfl⟩ | ⟨g, cap, cur, rfl, _⟩
  · exact ⟨none, 0, rfl⟩
  · exact ⟨_, _, rfl⟩

theorem owns_lit (B e : Nat) (w : World) (size n : Nat) (cs : List Value) (g : Nat) (hg : g = w.heap.size) (hB : B ≤ g) (hm : n ≤ maxLen) (hc : cs.length = n * size) :
    (w.alloc (.cells cs.toArray e)).ownsRow B e size (.slice (some ⟨g, 0, none⟩) n n) n cs := by
  subst hg
  exact ⟨hc, .inr ⟨w.heap.size, n, cs.toArray, rfl, hB, heap_alloc_new w _, Nat.le_refl _, hm, by simpa using hc, by rw [← hc]; exact List.take_of_length_le (by simp)⟩⟩

/-- append onto an owned row from whatever slice: the run. -/
theorem run_app {P : Program} (w : World) (base : Nat) (t ty e : TypeId) (i : TypeInfo) (z : Value) (size bytes : Nat) (ht : P.underlying t = some (.slice e)) (hi : P.info? e = some i) (hz : i.zero = some z)
    (hsize : i.size = size) (hby : i.bytes = bytes) (hzs : z.cells.size = size) (hsz : 0 < size)
    (v : Value) (n : Nat) (xs : List Value) (hown : w.ownsRow base e size v n xs)
    (sv : Value) (m : Nat) (news : List Value) (hs : Rd w sv m news) (hl : news.length = m * size) (h1 : ∀ u ∈ news, u.oneCell' = true)
    (hbytes : (n + m) * bytes ≤ 140737488355328) (h63 : n + m ≤ maxLen) (hbase : base ≤ w.heap.size) :
    ∃ v' w', (Builtin.append_ #[t, t] ty #[v, sv]).run P w = .ok v' w' ∧ w'.ownsRow base e size v' (n + m) (xs ++ news) ∧ Below base w w' ∧ (v' = .slice none 0 0 ↔ v = .slice none 0 0 ∧ m = 0) := by
  obtain ⟨a, c, rfl, hc1, hc2, hn0, hcell⟩ := hs
  cases a with
  | none =>
    obtain ⟨rfl, rfl, rfl⟩ := hn0 rfl
    have hr := run_append_owned_none (P := P) w base t ty e i size ht hi v n xs hown
    exact ⟨v, w, hr, by simpa using hown, Below.refl _ _, by simp⟩
  | some ad =>
    obtain ⟨v', w', hr, h2, h3, h4⟩ := run_append_own (P := P) w base t ty e i z size bytes ht hi hz hsize hby hzs hsz v n xs hown ad m c news hl (hcell ad rfl) h1 h63 hbytes hbase
    exact ⟨v', w', hr, h2, (Below.refl base w).grown h3 hbase (fun k hk => (hown.lt k hk).1), h4⟩

/-- The same as a law of the walk. -/
theorem wp_app {P : Program} {w : World} {ops : Array Oper} {rest : List Oper} {o : Oper} {a : Act} {Q : Exit → Act → World → Prop} (hgd : o.guard = none) (s x : Operand) (t : TypeId)
    (ho : o.op = .call { callee := .builtin .append, args := #[s, x], argTypes := #[t, t] })
    (base : Nat) (e : TypeId) (i : TypeInfo) (z : Value) (size bytes : Nat) (ht : P.underlying t = some (.slice e)) (hi : P.info? e = some i) (hz : i.zero = some z)
    (hsize : i.size = size) (hby : i.bytes = bytes) (hzs : z.cells.size = size) (hsz : 0 < size)
    (v : Value) (n : Nat) (xs : List Value) (hv : a.eval s = v) (hown : w.ownsRow base e size v n xs)
    (sv : Value) (m : Nat) (news : List Value) (hx : a.eval x = sv) (hs : Rd w sv m news) (hl : news.length = m * size) (h1 : ∀ u ∈ news, u.oneCell' = true)
    (hbytes : (n + m) * bytes ≤ 140737488355328) (h63 : n + m ≤ maxLen) (hbase : base ≤ w.heap.size)
    (h : ∀ v' w', w'.ownsRow base e size v' (n + m) (xs ++ news) → Below base w w' → (v' = .slice none 0 0 ↔ v = .slice none 0 0 ∧ m = 0) → wpList P ops Q rest (a.put o.dst v') w') :
    wpList P ops Q (o :: rest) a w := by
  refine wpList_plain hgd fun K hK => ?_
  obtain ⟨v', w', hr, h2, h3, h4⟩ := run_app (P := P) w base t o.type e i z size bytes ht hi hz hsize hby hzs hsz v n xs hown sv m news hs hl h1 hbytes h63 hbase
  unfold Oper.wp execOp
  simp only [ho, resolve, invoke, builtin, Sem.run_bind, Sem.run_pure, Result.andThen_ok, List.map_toArray, List.map_cons, List.map_nil, hv, hx, hr]
  exact hK _ _ (h v' w' h2 h3 h4)

/-! ### Bytes of this program: type 79 over type 5 -/
theorem info_u8 : (Tryz.prog.info? 5).map (fun i => (i.zero, i.size, i.bytes)) = some (some (.int .u8 0), 1, 1) := by kernel_rfl

def Bs (w : World) (v : Value) (l : List UInt8) : Prop := Rd w v l.length (l.map byteV)
def Owned (B : Nat) (w : World) (v : Value) (l : List UInt8) : Prop := w.ownsRow B 5 1 v l.length (l.map byteV)
theorem Owned.bs {B : Nat} {w : World} {v : Value} {l : List UInt8} (h : Owned B w v l) : Bs w v l := Owns.rd h
theorem Owned.kept {B B' : Nat} {w w' : World} {v : Value} {l : List UInt8} (h : Owned B w v l) (hb : Below B' w w') (hB : w.heap.size ≤ B') : Owned B w' v l := Owns.kept h hb hB
theorem Owned.le {B B' : Nat} {w : World} {v : Value} {l : List UInt8} (h : Owned B w v l) (hB : B' ≤ B) : Owned B' w v l := Owns.le h hB
theorem Bs.below' {B : Nat} {w w' : World} {v : Value} {l : List UInt8} (h : Bs w v l) (hb : Below B w w') (hB : w.heap.size ≤ B) : Bs w' v l := Rd.below' h hb hB
theorem Owned.nil (B : Nat) (w : World) : Owned B w (.slice none 0 0) [] := ⟨rfl, .inl ⟨rfl, rfl⟩⟩
theorem owned_lit (B : Nat) (w : World) (l : List UInt8) (g : Nat) (hg : g = w.heap.size) (hB : B ≤ g) (hm : l.length ≤ maxLen) (cs : List Value) (hc : cs = l.map byteV) (n : Nat) (hn : n = l.length) :
    Owned B (w.alloc (.cells cs.toArray 5)) (.slice (some ⟨g, 0, none⟩) n n) l := by
  subst hc hn
  exact owns_lit B 5 w 1 l.length (l.map byteV) g hg hB hm (by simp)

theorem Bs.slice {w : World} {v : Value} {l : List UInt8} (h : Bs w v l) : ∃ a c, v = .slice a l.length c := by
  obtain ⟨a, c, hv, _⟩ := h
  exact ⟨a, c, hv⟩
/-- The number of a byte at a place. -/
def bN (l : List UInt8) (j : Nat) : Nat := (l.getD j 0).toNat
theorem bN_lt (l : List UInt8) (j : Nat) : bN l j < 256 := UInt8.toNat_lt _
theorem bN_drop (l : List UInt8) (i j : Nat) : bN (l.drop i) j = bN l (i + j) := by
  unfold bN; simp [List.getD, List.getElem?_drop]
theorem Bs.split {w : World} {v : Value} {l : List UInt8} (h : Bs w v l) :
    (l = [] ∧ ∃ a c, v = .slice a 0 c ∧ c ≤ maxLen) ∨
    (0 < l.length ∧ ∃ b o c, v = .slice (some ⟨b, o, none⟩) l.length c ∧ l.length ≤ c ∧ c ≤ maxLen ∧ b < w.heap.size ∧ ∀ j, j < l.length → w.cell? ⟨b, o + j, none⟩ = some (.int .u8 (bN l j))) := by
  rcases Rd.split h with ⟨hx, a, c, rfl, h1, h2, h3⟩ | ⟨hx, b, o, c, rfl, h1, h2, h3, h4⟩
  · have : l = [] := by simpa using hx
    subst this
    exact .inl ⟨rfl, a, c, rfl, h2⟩
  · refine .inr ⟨List.length_pos_iff.2 (by simpa using hx), b, o, c, rfl, h1, h2, h3, fun j hj => h4 j _ (by simp [byteV, bN, hj])⟩

/-- A part of a slice of bytes. -/
theorem Bs.part {w : World} {a : Option Addr} {n c : Nat} {l : List UInt8} (h : Bs w (.slice a n c) l) (i j : Nat) (hij : i ≤ j) (hj : j ≤ l.length) :
    Bs w (.slice (if c = i then a else a.map (·.add (i * 1))) (j - i) (c - i)) ((l.drop i).take (j - i)) := by
  obtain ⟨a', c', hv, h1, h2, h3, h4⟩ := h
  cases hv
  have hlen : ((l.drop i).take (j - i)).length = j - i := by simp; omega
  unfold Bs
  rw [hlen]
  refine ⟨_, _, rfl, by omega, by omega, fun e => ?_, fun ad had k u hu => ?_⟩
  · cases a with
    | none =>
      obtain ⟨e1, e2, e3⟩ := h3 rfl
      have : l = [] := by simpa using e3
      subst this
      simp at hj
      exact ⟨by omega, by omega, by simp⟩
    | some ad => split at e <;> simp at e
  · have hk : k < j - i := by
      have := (List.getElem?_eq_some_iff.1 hu).1
      rw [List.length_map, hlen] at this
      exact this
    cases a with
    | none => split at had <;> simp at had
    | some a0 =>
      have hci : ¬ c = i := by omega
      rw [if_neg hci] at had
      simp only [Option.map_some, Option.some.injEq] at had
      subst had
      rw [Nat.mul_one, Go.Deep.add_add]
      refine h4 a0 rfl (i + k) u ?_
      rw [← hu]
      simp [hk]

/-- b[i:j], b[i:], b[:j] -/
theorem run_part {w : World} {a : Option Addr} {n c : Nat} {l : List UInt8} (h : Bs w (.slice a n c) l) (I J : Int) (i j : Nat) (hI : I = i) (hJ : J = j) (hij : i ≤ j) (hj : j ≤ l.length) :
    ∃ a' c', (∀ W : World, (Instr.slice 79 (.slice a n c) (some (.int .i64 I)) (some (.int .i64 J)) none).run Tryz.prog W = .ok (.slice a' (j - i) c') W) ∧ Bs w (.slice a' (j - i) c') ((l.drop i).take (j - i)) := by
  have hp := h.part i j hij hj
  obtain ⟨a0, c0, hv, h1, h2, h3, h4⟩ := h
  cases hv
  subst hI hJ
  refine ⟨_, _, fun W => ?_, hp⟩
  rw [run_slice_lh W 79 a l.length c (by kernel_rfl) .i64 .i64 (i : Int) (j : Int) (by omega) (by omega) (by omega)]
  obtain ⟨i0, hi, hz0, hz1, hz2⟩ := info_parts info_u8
  have he : Tryz.prog.elem 79 = 5 := by kernel_rfl
  simp [sizeOf, typeInfo, he, hi, hz1, sliced, Result.andThen]
theorem run_from {w : World} {a : Option Addr} {n c : Nat} {l : List UInt8} (h : Bs w (.slice a n c) l) (I : Int) (i : Nat) (hI : I = i) (hi : i ≤ l.length) :
    ∃ a' c', (∀ W : World, (Instr.slice 79 (.slice a n c) (some (.int .i64 I)) none none).run Tryz.prog W = .ok (.slice a' (l.length - i) c') W) ∧ Bs w (.slice a' (l.length - i) c') (l.drop i) := by
  have hp := h.part i l.length hi (Nat.le_refl _)
  rw [List.take_of_length_le (by simp)] at hp
  obtain ⟨a0, c0, hv, h1, h2, h3, h4⟩ := h
  cases hv
  subst hI
  refine ⟨_, _, fun W => ?_, hp⟩
  rw [run_slice_l W 79 a l.length c (by kernel_rfl) .i64 (i : Int) (by omega) (by omega)]
  obtain ⟨i0, hi, hz0, hz1, hz2⟩ := info_parts info_u8
  have he : Tryz.prog.elem 79 = 5 := by kernel_rfl
  simp [sizeOf, typeInfo, he, hi, hz1, sliced, Result.andThen]
theorem run_to {w : World} {a : Option Addr} {n c : Nat} {l : List UInt8} (h : Bs w (.slice a n c) l) (J : Int) (j : Nat) (hJ : J = j) (hj : j ≤ l.length) :
    ∃ a' c', (∀ W : World, (Instr.slice 79 (.slice a n c) none (some (.int .i64 J)) none).run Tryz.prog W = .ok (.slice a' j c') W) ∧ Bs w (.slice a' j c') (l.take j) := by
  have hp := h.part 0 j (Nat.zero_le _) hj
  rw [List.drop_zero, Nat.sub_zero] at hp
  obtain ⟨a0, c0, hv, h1, h2, h3, h4⟩ := h
  cases hv
  subst hJ
  refine ⟨_, _, fun W => ?_, hp⟩
  rw [run_slice_h W 79 a l.length c (by kernel_rfl) .i64 (j : Int) (by omega) (by omega)]
  obtain ⟨i0, hi, hz0, hz1, hz2⟩ := info_parts info_u8
  have he : Tryz.prog.elem 79 = 5 := by kernel_rfl
  simp [sizeOf, typeInfo, he, hi, hz1, sliced, Result.andThen]

/-- string(b) -/
theorem run_str {w : World} {v : Value} {l : List UInt8} (h : Bs w v l) : (convert 79 9 v).run Tryz.prog w = .ok (.string ⟨l.toArray⟩) w := by
  obtain ⟨a, c, rfl, h1, h2, h3, h4⟩ := h
  cases a with
  | none =>
    obtain ⟨hl, _, _⟩ := h3 rfl
    obtain rfl := List.eq_nil_of_length_eq_zero hl
    exact run_convert_bytes_nil w 79 5 Tryz.underlying79 Tryz.underlying5 _ _ 9 Tryz.underlying9
  | some ad =>
    exact run_convert_bytes_back w 79 9 5 ad c l Tryz.underlying79 Tryz.underlying5 Tryz.underlying9 (fun j hj => h4 ad rfl j _ (by simp [byteV, hj]))

/-- append(out, b...) of bytes -/
theorem wp_appB {w : World} {ops : Array Oper} {rest : List Oper} {o : Oper} {a : Act} {Q : Exit → Act → World → Prop} (hgd : o.guard = none) (s x : Operand)
    (ho : o.op = .call { callee := .builtin .append, args := #[s, x], argTypes := #[79, 79] })
    (B : Nat) (v : Value) (l : List UInt8) (hv : a.eval s = v) (hown : Owned B w v l) (sv : Value) (m : List UInt8) (hx : a.eval x = sv) (hs : Bs w sv m)
    (hlen : l.length + m.length ≤ 140737488355328) (hbase : B ≤ w.heap.size)
    (h : ∀ v' w', Owned B w' v' (l ++ m) → Below B w w' → wpList Tryz.prog ops Q rest (a.put o.dst v') w') : wpList Tryz.prog ops Q (o :: rest) a w := by
  obtain ⟨i0, hi, hz0, hz1, hz2⟩ := info_parts info_u8
  refine wp_app hgd s x 79 ho B 5 i0 (.int .u8 0) 1 1 Tryz.underlying79 hi hz0 hz1 hz2 rfl (by decide) v l.length (l.map byteV) hv hown sv m.length (m.map byteV) hx hs (by simp) (byteV_one m) (by omega) (by unfold maxLen; omega) hbase ?_
  intro v' w' h1 h2 _
  refine h v' w' ?_ h2
  unfold Owned
  rw [List.length_append, List.map_append]
  exact h1

/-- append(out, x) of one byte: the walk has laid a block of one cell for it. -/
theorem wp_appB1 {w : World} {ops : Array Oper} {rest : List Oper} {o : Oper} {a : Act} {Q : Exit → Act → World → Prop} (hgd : o.guard = none) (s x : Operand)
    (ho : o.op = .call { callee := .builtin .append, args := #[s, x], argTypes := #[79, 79] })
    (B : Nat) (v : Value) (l : List UInt8) (hv : a.eval s = v) (hown : Owned B w v l) (X : Int) (b : UInt8) (hX : Value.int .u8 X = byteV b) (hx : a.eval x = .slice (some ⟨w.heap.size, 0, none⟩) 1 1)
    (hlen : l.length < 140737488355328) (hbase : B ≤ w.heap.size)
    (h : ∀ v' w', Owned B w' v' (l ++ [b]) → Below B w w' → wpList Tryz.prog ops Q rest (a.put o.dst v') w') : wpList Tryz.prog ops Q (o :: rest) a (w.alloc (.cells #[.int .u8 X] 5)) := by
  have hb : Below B w (w.alloc (.cells #[.int .u8 X] 5)) := (Below.refl B w).alloc hbase _
  have hb' : Below w.heap.size w (w.alloc (.cells #[.int .u8 X] 5)) := (Below.refl _ w).alloc (Nat.le_refl _) _
  refine wp_appB hgd s x ho B v l hv (hown.kept hb' (Nat.le_refl _)) _ [b] hx (Owned.bs (owned_lit w.heap.size w [b] w.heap.size rfl (Nat.le_refl _) (by unfold maxLen; simp) [.int .u8 X] (by rw [hX]; rfl) 1 rfl)) (by simp; omega) (by simp; omega) ?_
  intro v' w' h1 h2
  exact h v' w' h1 (hb.trans h2)

/-- What a function leaves that hands back bytes of its own and a number. -/
def GivesB (w : World) (l : List UInt8) (err : Int) (e : Ending) (w' : World) : Prop :=
  ∃ v, e = .returned (.tuple #[v, .int .i64 err]) ∧ Owned w.heap.size w' v l ∧ Below w.heap.size w w'
theorem GivesB.nil {w w' : World} {err : Int} (hb : Below w.heap.size w w') : GivesB w [] err (.returned (.tuple #[.slice none 0 0, .int .i64 err])) w' :=
  ⟨_, rfl, Owned.nil _ _, hb⟩

/-! ### A region that draws its order, over a class of worlds: what an operation yields is one value in every world of the class; calls may move within it -/
structure In (C : World → Prop) where
  w : World
  h : C w

theorem wp_region_in {P : Program} {id : Nat} {Q : Exit → Act → World → Prop} {a : Act} {w : World} {l : List Oper} (C : World → Prop) (hm : P.follows .mixedOrders = true) (hB : Region.lexB .any l.toArray = true) (hC : C w.drew)
    (h : wpQuiet P l.toArray (fun w' => ∃ x : In C, w' = x.w) (fun a' => ∀ w', (∃ x : In C, w' = x.w) → Q .normal a' w') l a) : (Code.region id l.toArray true).wp P Q a w :=
  wp_region_quiet (C := fun w' => ∃ x : In C, w' = x.w) hm hB ⟨⟨w.drew, hC⟩, rfl⟩ (by simpa using h)

theorem In.call {P : Program} {f : FuncId} {args : Array Value} {C : World → Prop} {w : World} {v : Value} {R : Ending → World → Prop} (h : Calls P f args w R) (hR : ∀ e w', R e w' → e = .returned v ∧ C w') :
    Calls P f args w fun e w'' => e = .returned v ∧ ∃ y : In C, w'' = y.w :=
  h.mono fun e w' hr => ⟨(hR e w' hr).1, ⟨w', (hR e w' hr).2⟩, rfl⟩

end Go.Proofs.YtclicjokgfiegaaGreatDoor

/- Texts: plain laws: which bytes are a text, by the library's words and by the reference's steps. No program. -/
namespace Go.Proofs.YtclicjokgfiegaaGreatDoor
open Go.RowKit
set_option linter.unusedVariables false

def tailL (l : List UInt8) (i : Nat) : Bool := decide (i < l.length) && decide ((128 : Int) ≤ bN l i) && decide ((bN l i : Int) ≤ 191)
/-- How many bytes the rune at a place has, and its number. -/
def stepL (l : List UInt8) (i : Nat) : Int × Int :=
  if (bN l i : Int) < 128 then (1, bN l i)
  else if ((194 : Int) ≤ bN l i ∧ (bN l i : Int) ≤ 223) ∧ tailL l (i + 1) = true then (2, ((bN l i : Int) - 192) * 64 + bN l (i + 1) - 128)
  else if (((224 : Int) ≤ bN l i ∧ (bN l i : Int) ≤ 239) ∧ tailL l (i + 1) = true) ∧ tailL l (i + 2) = true then
    (if ((bN l i : Int) - 224) * 4096 + ((bN l (i + 1) : Int) - 128) * 64 + bN l (i + 2) - 128 < 2048 ∨ ((55296 : Int) ≤ ((bN l i : Int) - 224) * 4096 + ((bN l (i + 1) : Int) - 128) * 64 + bN l (i + 2) - 128 ∧ ((bN l i : Int) - 224) * 4096 + ((bN l (i + 1) : Int) - 128) * 64 + bN l (i + 2) - 128 ≤ 57343) then (0, 0)
     else (3, ((bN l i : Int) - 224) * 4096 + ((bN l (i + 1) : Int) - 128) * 64 + bN l (i + 2) - 128))
  else if ((((240 : Int) ≤ bN l i ∧ (bN l i : Int) ≤ 244) ∧ tailL l (i + 1) = true) ∧ tailL l (i + 2) = true) ∧ tailL l (i + 3) = true then
    (if ((bN l i : Int) - 240) * 262144 + ((bN l (i + 1) : Int) - 128) * 4096 + ((bN l (i + 2) : Int) - 128) * 64 + bN l (i + 3) - 128 < 65536 ∨ (1114111 : Int) < ((bN l i : Int) - 240) * 262144 + ((bN l (i + 1) : Int) - 128) * 4096 + ((bN l (i + 2) : Int) - 128) * 64 + bN l (i + 3) - 128 then (0, 0)
     else (4, ((bN l i : Int) - 240) * 262144 + ((bN l (i + 1) : Int) - 128) * 4096 + ((bN l (i + 2) : Int) - 128) * 64 + bN l (i + 3) - 128))
  else (0, 0)

def zeroIn (l : List UInt8) : Bool := l.any (· == 0)
def uRight (l : List UInt8) : Bool := decide (l.length ≤ 65535) && (Lib.validD l && !zeroIn l)

theorem tailL_iff (l : List UInt8) (i : Nat) : tailL l i = true ↔ i < l.length ∧ 128 ≤ bN l i ∧ bN l i ≤ 191 := by
  unfold tailL; simp; omega

/-- No byte among the first n is 0, if none of their numbers is. -/
theorem zeroIn_drop : ∀ (n : Nat) (l : List UInt8), n ≤ l.length → (∀ j, j < n → bN l j ≠ 0) → zeroIn l = zeroIn (l.drop n)
  | 0, l, _, _ => by simp
  | n + 1, [], h, _ => by simp at h
  | n + 1, b :: t, h, hb => by
    have h0 := hb 0 (by omega)
    have e : zeroIn (b :: t) = zeroIn t := by
      unfold zeroIn
      have : (b == 0) = false := by
        rw [beq_eq_false_iff_ne]
        intro hc
        apply h0
        subst hc
        rfl
      simp [this]
    rw [e, List.drop_succ_cons]
    refine zeroIn_drop n t (by simpa using h) (fun j hj => ?_)
    have := hb (j + 1) (by omega)
    unfold bN at this ⊢
    simpa using this
theorem zeroIn_hit {l : List UInt8} (hl : 0 < l.length) (h : bN l 0 = 0) : zeroIn l = true := by
  cases l with
  | nil => simp at hl
  | cons b t =>
    have : b = 0 := by
      unfold bN at h
      simp at h
      exact UInt8.toNat_inj.1 (by simpa using h)
    unfold zeroIn
    simp [this]

/-- One step of the reference's loop: on what is left. -/
theorem step_left (l : List UInt8) (i : Nat) (hi : i < l.length) :
    ((stepL l i).1 = 0 → Lib.validD (l.drop i) = false) ∧
    ((stepL l i).1 ≠ 0 → ∃ n : Nat, (stepL l i).1 = n ∧ 1 ≤ n ∧ i + n ≤ l.length ∧ Lib.validD (l.drop i) = Lib.validD (l.drop (i + n)) ∧
      ((stepL l i).2 = 0 → zeroIn (l.drop i) = true) ∧ ((stepL l i).2 ≠ 0 → zeroIn (l.drop i) = zeroIn (l.drop (i + n)))) := by
  have hne : l.drop i ≠ [] := by intro h; have := congrArg List.length h; simp at this; omega
  have hv := Lib.validD_step (l.drop i) hne
  rw [Lib.decodeL_N] at hv
  have e0 : ((l.drop i).getD 0 0).toNat = bN l i := by have := bN_drop l i 0; rw [Nat.add_zero] at this; exact this
  have e1 : ((l.drop i).getD 1 0).toNat = bN l (i + 1) := bN_drop l i 1
  have e2 : ((l.drop i).getD 2 0).toNat = bN l (i + 2) := bN_drop l i 2
  have e3 : ((l.drop i).getD 3 0).toNat = bN l (i + 3) := bN_drop l i 3
  rw [e0, e1, e2, e3, List.length_drop, List.drop_drop] at hv
  have t1 := tailL_iff l (i + 1)
  have t2 := tailL_iff l (i + 2)
  have t3 := tailL_iff l (i + 3)
  have z0 : bN l i = 0 → zeroIn (l.drop i) = true := fun h => zeroIn_hit (by rw [List.length_drop]; omega) (by rw [bN_drop, Nat.add_zero]; exact h)
  have zn : ∀ n, i + n ≤ l.length → (∀ j, j < n → bN l (i + j) ≠ 0) → zeroIn (l.drop i) = zeroIn (l.drop (i + n)) := fun n hn hb => by
    have := zeroIn_drop n (l.drop i) (by rw [List.length_drop]; omega) (fun j hj => by rw [bN_drop]; exact hb j hj)
    rw [List.drop_drop] at this
    exact this
  have b0 := bN_lt l i
  have b1 := bN_lt l (i + 1)
  have b2 := bN_lt l (i + 2)
  have b3 := bN_lt l (i + 3)
  have hz1 : bN l i ≠ 0 → zeroIn (l.drop i) = zeroIn (l.drop (i + 1)) := fun h => zn 1 (by omega) (fun j hj => by
    match j, hj with
    | 0, _ => exact h)
  have hz2 : i + 2 ≤ l.length → bN l i ≠ 0 → bN l (i + 1) ≠ 0 → zeroIn (l.drop i) = zeroIn (l.drop (i + 2)) := fun h h0 h1 => zn 2 h (fun j hj => by
    match j, hj with
    | 0, _ => exact h0
    | 1, _ => exact h1)
  have hz3 : i + 3 ≤ l.length → bN l i ≠ 0 → bN l (i + 1) ≠ 0 → bN l (i + 2) ≠ 0 → zeroIn (l.drop i) = zeroIn (l.drop (i + 3)) := fun h h0 h1 h2 => zn 3 h (fun j hj => by
    match j, hj with
    | 0, _ => exact h0
    | 1, _ => exact h1
    | 2, _ => exact h2)
  have hz4 : i + 4 ≤ l.length → bN l i ≠ 0 → bN l (i + 1) ≠ 0 → bN l (i + 2) ≠ 0 → bN l (i + 3) ≠ 0 → zeroIn (l.drop i) = zeroIn (l.drop (i + 4)) := fun h h0 h1 h2 h3 => zn 4 h (fun j hj => by
    match j, hj with
    | 0, _ => exact h0
    | 1, _ => exact h1
    | 2, _ => exact h2
    | 3, _ => exact h3)
  unfold stepL
  generalize zeroIn (l.drop i) = Z at *
  generalize Lib.validD (l.drop i) = V at *
  generalize bN l i = x0 at *
  generalize bN l (i + 1) = x1 at *
  generalize bN l (i + 2) = x2 at *
  generalize bN l (i + 3) = x3 at *
  clear e0 e1 e2 e3 zn
  have fin : ∀ r n, Lib.decodeN (l.length - i) x0 x1 x2 x3 = (r, n) → (¬ (r = 65533 ∧ n = 1)) → V = Lib.validD (l.drop (i + n)) := fun r n h hr => by
    rw [hv, h, if_neg hr]
  have bad : Lib.decodeN (l.length - i) x0 x1 x2 x3 = (65533, 1) → V = false := fun h => by
    rw [hv, h, if_pos ⟨rfl, rfl⟩]
  clear hv
  by_cases c0 : (x0 : Int) < 128
  · rw [if_pos c0]
    refine ⟨fun h => by simp at h, fun _ => ⟨1, rfl, by omega, by omega, ?_, fun h => z0 (by simpa using h), fun h => hz1 (by simpa using h)⟩⟩
    refine fin x0 1 ?_ (by omega)
    unfold Lib.decodeN
    rw [if_pos (by omega)]
  · rw [if_neg c0]
    by_cases c1 : ((194 : Int) ≤ x0 ∧ (x0 : Int) ≤ 223) ∧ tailL l (i + 1) = true
    · rw [if_pos c1]
      have ht := t1.1 c1.2
      refine ⟨fun h => by simp at h, fun _ => ⟨2, rfl, by omega, by omega, ?_, fun h => by simp only at h; omega, fun h => hz2 (by omega) (by omega) (by omega)⟩⟩
      refine fin (x0 % 32 * 64 + x1 % 64) 2 ?_ (by omega)
      unfold Lib.decodeN
      rw [if_neg (by omega), if_pos (by omega), if_pos (by omega)]
    · rw [if_neg c1]
      by_cases c2 : (((224 : Int) ≤ x0 ∧ (x0 : Int) ≤ 239) ∧ tailL l (i + 1) = true) ∧ tailL l (i + 2) = true
      · rw [if_pos c2]
        have ht := t1.1 c2.1.2
        have ht2 := t2.1 c2.2
        by_cases c3 : ((x0 : Int) - 224) * 4096 + ((x1 : Int) - 128) * 64 + x2 - 128 < 2048 ∨ ((55296 : Int) ≤ ((x0 : Int) - 224) * 4096 + ((x1 : Int) - 128) * 64 + x2 - 128 ∧ ((x0 : Int) - 224) * 4096 + ((x1 : Int) - 128) * 64 + x2 - 128 ≤ 57343)
        · rw [if_pos c3]
          refine ⟨fun _ => bad ?_, fun h => by simp at h⟩
          unfold Lib.decodeN
          rw [if_neg (by omega), if_neg (by omega), if_pos (by omega), if_neg (by omega)]
        · rw [if_neg c3]
          refine ⟨fun h => by simp at h, fun _ => ⟨3, rfl, by omega, by omega, ?_, fun h => by simp only at h; omega, fun h => hz3 (by omega) (by omega) (by omega) (by omega)⟩⟩
          refine fin (x0 % 16 * 4096 + x1 % 64 * 64 + x2 % 64) 3 ?_ (by omega)
          unfold Lib.decodeN
          rw [if_neg (by omega), if_neg (by omega), if_pos (by omega), if_pos (by omega)]
      · rw [if_neg c2]
        by_cases c3 : ((((240 : Int) ≤ x0 ∧ (x0 : Int) ≤ 244) ∧ tailL l (i + 1) = true) ∧ tailL l (i + 2) = true) ∧ tailL l (i + 3) = true
        · rw [if_pos c3]
          have ht := t1.1 c3.1.1.2
          have ht2 := t2.1 c3.1.2
          have ht3 := t3.1 c3.2
          by_cases c4 : ((x0 : Int) - 240) * 262144 + ((x1 : Int) - 128) * 4096 + ((x2 : Int) - 128) * 64 + x3 - 128 < 65536 ∨ (1114111 : Int) < ((x0 : Int) - 240) * 262144 + ((x1 : Int) - 128) * 4096 + ((x2 : Int) - 128) * 64 + x3 - 128
          · rw [if_pos c4]
            refine ⟨fun _ => bad ?_, fun h => by simp at h⟩
            unfold Lib.decodeN
            rw [if_neg (by omega), if_neg (by omega), if_neg (by omega), if_pos (by omega), if_neg (by omega)]
          · rw [if_neg c4]
            refine ⟨fun h => by simp at h, fun _ => ⟨4, rfl, by omega, by omega, ?_, fun h => by simp only at h; omega, fun h => hz4 (by omega) (by omega) (by omega) (by omega) (by omega)⟩⟩
            refine fin (x0 % 8 * 262144 + x1 % 64 * 4096 + x2 % 64 * 64 + x3 % 64) 4 ?_ (by omega)
            unfold Lib.decodeN
            rw [if_neg (by omega), if_neg (by omega), if_neg (by omega), if_pos (by omega), if_pos (by omega)]
        · rw [if_neg c3]
          refine ⟨fun _ => bad ?_, fun h => by simp at h⟩
          rw [t1] at c1 c2 c3
          rw [t2] at c2 c3
          rw [t3] at c3
          unfold Lib.decodeN
          rw [if_neg (by omega)]
          (repeat' split) <;> first | rfl | (exfalso; omega)

theorem zeroIn_nil : zeroIn [] = false := rfl
end Go.Proofs.YtclicjokgfiegaaGreatDoor

/- Levels of texts: plain facts. -/
namespace Go.Proofs.YtclicjokgfiegaaGreatDoor
open Go.RowKit
set_option linter.unusedVariables false
set_option linter.unusedSimpArgs false

/-- One step of a range over a string's runes, for a byte below 128. -/
theorem range_asc (l : List UInt8) (i : Nat) (hi : i < l.length) (c : Nat) (hc : c < 128) :
    ((Lib.decodeL (l.drop i)).1 = c → (Lib.decodeL (l.drop i)).2 = 1 ∧ bN l i = c) ∧
    ((Lib.decodeL (l.drop i)).1 ≠ c → ∀ j, j < (Lib.decodeL (l.drop i)).2 → bN l (i + j) ≠ c) ∧
    1 ≤ (Lib.decodeL (l.drop i)).2 ∧ i + (Lib.decodeL (l.drop i)).2 ≤ l.length ∧ (Lib.decodeL (l.drop i)).1 ≤ 1114111 := by
  rw [Lib.decodeL_N]
  have e0 : ((l.drop i).getD 0 0).toNat = bN l i := by have := bN_drop l i 0; rw [Nat.add_zero] at this; exact this
  have e1 : ((l.drop i).getD 1 0).toNat = bN l (i + 1) := bN_drop l i 1
  have e2 : ((l.drop i).getD 2 0).toNat = bN l (i + 2) := bN_drop l i 2
  have e3 : ((l.drop i).getD 3 0).toNat = bN l (i + 3) := bN_drop l i 3
  rw [e0, e1, e2, e3, List.length_drop]
  clear e0 e1 e2 e3
  have hz : Lib.decodeN (l.length - i) (bN l i) (bN l (i + 1)) (bN l (i + 2)) (bN l (i + 3)) = (65533, 1) → bN l i ≠ c := fun h h0 => by
    rw [h0] at h
    unfold Lib.decodeN at h
    rw [if_pos hc] at h
    have := (Prod.mk.inj h).1
    omega
  rcases Lib.decodeN_shape (l.length - i) (bN l i) (bN l (i + 1)) (bN l (i + 2)) (bN l (i + 3)) with ⟨c0, e⟩ | ⟨c1, c2, c3, cv, e⟩ | ⟨c1, c2, c3, c4, cv, cs, e⟩ | ⟨c1, c2, c3, c4, c5, cv, cw, e⟩ | e
  · rw [e]
    exact ⟨fun h => ⟨rfl, h⟩, fun h j hj => by simp only at hj h; have : j = 0 := by omega
                                               subst this; rw [Nat.add_zero]; exact h, by omega, by simp only; omega, by simp only; omega⟩
  · rw [e]
    refine ⟨fun h => by simp only at h; omega, fun h j hj => ?_, by omega, by simp only; omega, by simp only; omega⟩
    match j, hj with
    | 0, _ => rw [Nat.add_zero]; omega
    | 1, _ => omega
  · rw [e]
    refine ⟨fun h => by simp only at h; omega, fun h j hj => ?_, by omega, by simp only; omega, by simp only; omega⟩
    match j, hj with
    | 0, _ => rw [Nat.add_zero]; omega
    | 1, _ => omega
    | 2, _ => omega
  · rw [e]
    refine ⟨fun h => by simp only at h; omega, fun h j hj => ?_, by omega, by simp only; omega, by simp only; omega⟩
    match j, hj with
    | 0, _ => rw [Nat.add_zero]; omega
    | 1, _ => omega
    | 2, _ => omega
    | 3, _ => omega
  · have := hz e
    rw [e]
    refine ⟨fun h => by simp only at h; omega, fun h j hj => ?_, by omega, by simp only; omega, by simp only; omega⟩
    simp only at hj
    have : j = 0 := by omega
    subst this
    rw [Nat.add_zero]; assumption

/-- has a text + or #? -/
def wildL (l : List UInt8) : Bool := l.any fun b => b == 43 || b == 35
theorem b8_of_bN {l : List UInt8} {i : Nat} (hi : i < l.length) {c : UInt8} : bN l i = c.toNat ↔ l[i] = c := by
  unfold bN
  rw [List.getD_eq_getElem?_getD, List.getElem?_eq_getElem hi, Option.getD_some]
  exact UInt8.toNat_inj
theorem wildL_drop : ∀ (n : Nat) (l : List UInt8), n ≤ l.length → (∀ j, j < n → bN l j ≠ 43 ∧ bN l j ≠ 35) → wildL l = wildL (l.drop n)
  | 0, l, _, _ => by simp
  | n + 1, [], h, _ => by simp at h
  | n + 1, b :: t, h, hb => by
    have h0 := hb 0 (by omega)
    have e : wildL (b :: t) = wildL t := by
      unfold wildL
      have h43 : (b == 43) = false := by
        rw [beq_eq_false_iff_ne]; intro hc; apply h0.1; subst hc; rfl
      have h35 : (b == 35) = false := by
        rw [beq_eq_false_iff_ne]; intro hc; apply h0.2; subst hc; rfl
      simp [h43, h35]
    rw [e, List.drop_succ_cons]
    refine wildL_drop n t (by simpa using h) (fun j hj => ?_)
    have := hb (j + 1) (by omega)
    unfold bN at this ⊢
    simpa using this
theorem wildL_hit {l : List UInt8} {i : Nat} (hi : i < l.length) (h : bN l i = 43 ∨ bN l i = 35) : wildL (l.drop i) = true := by
  have e : l.drop i = l[i] :: l.drop (i + 1) := List.drop_eq_getElem_cons hi
  rw [e]
  unfold wildL
  have : l[i] = 43 ∨ l[i] = 35 := by
    rcases h with h | h
    · exact .inl ((b8_of_bN hi (c := 43)).1 h)
    · exact .inr ((b8_of_bN hi (c := 35)).1 h)
  rcases this with h | h <;> simp [h]
theorem wildL_miss {l : List UInt8} {i n : Nat} (hn : i + n ≤ l.length) (h : ∀ j, j < n → bN l (i + j) ≠ 43 ∧ bN l (i + j) ≠ 35) : wildL (l.drop i) = wildL (l.drop (i + n)) := by
  have := wildL_drop n (l.drop i) (by rw [List.length_drop]; omega) (fun j hj => by rw [bN_drop]; exact h j hj)
  rw [List.drop_drop] at this
  exact this

/-- a text's levels -/
def lSplit : List UInt8 → List (List UInt8)
  | [] => [[]]
  | b :: t => if b = 47 then [] :: lSplit t else match lSplit t with
    | [] => [[b]]
    | x :: r => (b :: x) :: r
theorem lSplit_ne : ∀ l, lSplit l ≠ []
  | [] => by simp [lSplit]
  | b :: t => by
    rw [lSplit]
    split
    · simp
    · split <;> simp
theorem lSplit_hit : ∀ (i : Nat) (l : List UInt8) (hi : i < l.length), (∀ j, j < i → bN l j ≠ 47) → bN l i = 47 → lSplit l = l.take i :: lSplit (l.drop (i + 1))
  | i, [], hi, _, _ => by simp at hi
  | 0, b :: t, hi, _, h => by
    have hb : b = 47 := (b8_of_bN (l := b :: t) hi (c := 47)).1 h
    rw [lSplit, if_pos hb]
    simp
  | i + 1, b :: t, hi, hn, h => by
    have hb : b ≠ 47 := fun e => hn 0 (by omega) (by subst e; rfl)
    have ih := lSplit_hit i t (by simpa using hi) (fun j hj => by
      have := hn (j + 1) (by omega)
      unfold bN at this ⊢
      simpa using this) (by unfold bN at h ⊢; simpa using h)
    rw [lSplit, if_neg hb, ih]
    simp
theorem lSplit_none : ∀ (l : List UInt8), (∀ j, j < l.length → bN l j ≠ 47) → lSplit l = [l]
  | [], _ => rfl
  | b :: t, h => by
    have hb : b ≠ 47 := fun e => h 0 (by simp) (by subst e; rfl)
    have ih := lSplit_none t (fun j hj => by
      have := h (j + 1) (by simpa using hj)
      unfold bN at this ⊢
      simpa using this)
    rw [lSplit, if_neg hb, ih]
theorem lSplit_len : ∀ l : List UInt8, (lSplit l).length = l.count 47 + 1
  | [] => rfl
  | b :: t => by
    have ih := lSplit_len t
    rw [lSplit]
    by_cases hb : b = 47
    · rw [if_pos hb, hb]
      simp [ih]
    · rw [if_neg hb]
      have hc : (b :: t).count 47 = t.count 47 := by rw [List.count_cons]; simp [hb]
      rw [hc]
      split
      · rename_i e; rw [e] at ih; simp at ih
      · rename_i x r e
        rw [e] at ih
        simpa using ih
theorem lSplit_parts : ∀ (l x : List UInt8), x ∈ lSplit l → (47 : UInt8) ∉ x ∧ x.length ≤ l.length
  | [], x, h => by simp [lSplit] at h; subst h; simp
  | b :: t, x, h => by
    rw [lSplit] at h
    by_cases hb : b = 47
    · rw [if_pos hb] at h
      rcases List.mem_cons.1 h with rfl | h
      · simp
      · have := lSplit_parts t x h
        exact ⟨this.1, by simp; omega⟩
    · rw [if_neg hb] at h
      split at h
      · rename_i e; exact absurd e (lSplit_ne t)
      · rename_i y r e
        have hy := lSplit_parts t y (by rw [e]; simp)
        rcases List.mem_cons.1 h with rfl | h
        · refine ⟨?_, by simp; exact hy.2⟩
          intro hm
          rcases List.mem_cons.1 hm with h1 | h1
          · exact hb h1.symm
          · exact hy.1 h1
        · have := lSplit_parts t x (by rw [e]; simp [h])
          exact ⟨this.1, by simp; omega⟩
/-- levels as a text -/
def lJoin (p : List (List UInt8)) : List UInt8 := Lib.join p [47]
theorem lJoin_cons2 (x y : List UInt8) (r : List (List UInt8)) : lJoin (x :: y :: r) = x ++ 47 :: lJoin (y :: r) := by
  simp [lJoin, Lib.join, List.intercalate, List.intersperse]
theorem lJoin_one (x : List UInt8) : lJoin [x] = x := by simp [lJoin, Lib.join, List.intercalate]
theorem lJoin_split : ∀ l, lJoin (lSplit l) = l
  | [] => by simp [lSplit, lJoin_one]
  | b :: t => by
    have ih := lJoin_split t
    rw [lSplit]
    by_cases hb : b = 47
    · rw [if_pos hb]
      cases e : lSplit t with
      | nil => exact absurd e (lSplit_ne t)
      | cons y r =>
        rw [lJoin_cons2, ← e, ih, hb]
        simp
    · rw [if_neg hb]
      split
      · rename_i e; exact absurd e (lSplit_ne t)
      · rename_i y r e
        rw [e] at ih
        cases r with
        | nil => rw [lJoin_one] at ih ⊢; rw [ih]
        | cons z r => rw [lJoin_cons2] at ih ⊢; rw [List.cons_append, ih]

def lSized (l : List UInt8) : Bool := !l.isEmpty && (decide (l.length ≤ 96) && (uRight l && decide ((lSplit l).length ≤ 12)))
def lName (l : List UInt8) : Bool := lSized l && !wildL l
def okLevels : List (List UInt8) → Bool
  | [] => true
  | x :: r => (x == [43] || !wildL x || (x == [35] && r.isEmpty)) && okLevels r
def lFilter (l : List UInt8) : Bool := lSized l && okLevels (lSplit l)
def lHidden (l : List UInt8) : Bool := !l.isEmpty && decide (bN l 0 = 36)
theorem okLevels_at {p : List (List UInt8)} {k : Nat} {x : List UInt8} (hk : p[k]? = some x) : okLevels (p.drop k) = ((x == [43] || !wildL x || (x == [35] && decide (k + 1 = p.length))) && okLevels (p.drop (k + 1))) := by
  have hlt : k < p.length := (List.getElem?_eq_some_iff.1 hk).1
  have hx : p[k] = x := (List.getElem?_eq_some_iff.1 hk).2
  rw [List.drop_eq_getElem_cons hlt, hx, okLevels]
  congr 3
  have : (p.drop (k + 1)).isEmpty = decide (k + 1 = p.length) := by
    rw [Bool.eq_iff_iff]
    simp
    omega
  rw [this]
end Go.Proofs.YtclicjokgfiegaaGreatDoor

/-
  DERIVED: THE SHELF's CONTRACTS AT THIS DUMP, IN PLAIN WORDS (tools/lay-plain.mjs out of 'YtclicjokgfiegaaGreatDoorShelfT.lean', which tools/lay-shelf.mjs wrote): THE SAME DECLARATIONS UNDER THE SAME NAMES: 'import', 'namespace', 'open', 'def', 'theorem' AND NOTHING ELSE: no command of the shelf's: FOR A HAND-IN. Each laying: the table of numbers ('.._ren') and one theorem, a field a fact of the dump's own or the kernel's comparison; each contract: ONE APPLICATION.
-/
namespace Go.Proofs
open Go.Shelf
def Tryz.laysValid_ren : Go.Shelf.Ren := ⟨fun | 196 => 151 | 259 => 181 | n => n, fun | 9 => 9 | 4 => 4 | 3 => 3 | 5 => 5 | 12 => 12 | 119 => 211 | 0 => 0 | 46 => 130 | 139 => 214 | 138 => 213 | 53 => 230 | n => n, fun | 3 => 3 | 4 => 4 | n => n⟩
theorem Tryz.laysValid : Go.Proofs.Lays.n196 Tryz.prog Tryz.laysValid_ren := {
  mixed := by kernel_rfl
  f196 := Tryz.func151.trans (congrArg some (by kernel_rfl))
  f259 := Tryz.func181.trans (congrArg some (by kernel_rfl))
  t0 := Tryz.underlying0
  a0 := Tryz.isAgg0
  z0 := Tryz.sizeOf0
  v0 := Tryz.zeroValue0
  t3 := Tryz.underlying3
  a3 := Tryz.isAgg3
  z3 := Tryz.sizeOf3
  v3 := Tryz.zeroValue3
  t4 := Tryz.underlying4
  a4 := Tryz.isAgg4
  z4 := Tryz.sizeOf4
  v4 := Tryz.zeroValue4
  t5 := Tryz.underlying5
  a5 := Tryz.isAgg5
  z5 := Tryz.sizeOf5
  v5 := Tryz.zeroValue5
  t9 := Tryz.underlying9
  a9 := Tryz.isAgg9
  z9 := Tryz.sizeOf9
  v9 := Tryz.zeroValue9
  t12 := Tryz.underlying12
  a12 := Tryz.isAgg12
  z12 := Tryz.sizeOf12
  v12 := Tryz.zeroValue12
  t46 := Tryz.underlying130
  a46 := Tryz.isAgg130
  z46 := Tryz.sizeOf130
  v46 := Tryz.zeroValue130
  t53 := Tryz.underlying230
  a53 := Tryz.isAgg230
  z53 := Tryz.sizeOf230
  v53 := Tryz.zeroValue230
  t119 := Tryz.underlying211
  a119 := Tryz.isAgg211
  z119 := Tryz.sizeOf211
  t138 := Tryz.underlying213
  a138 := Tryz.isAgg213
  z138 := Tryz.sizeOf213
  v138 := Tryz.zeroValue213
  t139 := Tryz.underlying214
  a139 := Tryz.isAgg214
  z139 := Tryz.sizeOf214
  v139 := Tryz.zeroValue214
  g3 := by kernel_rfl
  g4 := by kernel_rfl }
def Tryz.lays144_ren : Go.Shelf.Ren := ⟨fun | 144 => 149 | 143 => 123 | 219 => 153 | 217 => 182 | 225 => 183 | 224 => 184 | 267 => 185 | 266 => 199 | 314 => 200 | n => n, fun | 9 => 9 | 4 => 4 | 3 => 3 | 5 => 5 | 46 => 130 | 146 => 232 | 51 => 231 | n => n, fun | 1 => 1 | n => n⟩
theorem Tryz.lays144 : Go.Proofs.Lays.n144 Tryz.prog Tryz.lays144_ren := {
  mixed := by kernel_rfl
  f143 := Tryz.func123.trans (congrArg some (by kernel_rfl))
  f144 := Tryz.func149.trans (congrArg some (by kernel_rfl))
  f217 := Tryz.func182.trans (congrArg some (by kernel_rfl))
  f219 := Tryz.func153.trans (congrArg some (by kernel_rfl))
  f224 := Tryz.func184.trans (congrArg some (by kernel_rfl))
  f225 := Tryz.func183.trans (congrArg some (by kernel_rfl))
  f266 := Tryz.func199.trans (congrArg some (by kernel_rfl))
  f267 := Tryz.func185.trans (congrArg some (by kernel_rfl))
  f314 := Tryz.func200.trans (congrArg some (by kernel_rfl))
  t3 := Tryz.underlying3
  a3 := Tryz.isAgg3
  z3 := Tryz.sizeOf3
  v3 := Tryz.zeroValue3
  t4 := Tryz.underlying4
  a4 := Tryz.isAgg4
  z4 := Tryz.sizeOf4
  v4 := Tryz.zeroValue4
  t5 := Tryz.underlying5
  a5 := Tryz.isAgg5
  z5 := Tryz.sizeOf5
  v5 := Tryz.zeroValue5
  t9 := Tryz.underlying9
  a9 := Tryz.isAgg9
  z9 := Tryz.sizeOf9
  v9 := Tryz.zeroValue9
  t46 := Tryz.underlying130
  a46 := Tryz.isAgg130
  z46 := Tryz.sizeOf130
  v46 := Tryz.zeroValue130
  t51 := Tryz.underlying231
  a51 := Tryz.isAgg231
  z51 := Tryz.sizeOf231
  v51 := Tryz.zeroValue231
  t146 := Tryz.underlying232
  a146 := Tryz.isAgg232
  z146 := Tryz.sizeOf232
  v146 := Tryz.zeroValue232
  g1 := by kernel_rfl }
open Go.RowKit Go.Lib in
theorem Tryz.strings_Contains_one (s : ByteArray) (c : UInt8) (w : World) :
    Calls Tryz.prog 149 #[.string s, .string ⟨#[c]⟩] w fun e w' => e = .returned (.bool (decide (0 ≤ Lib.indexByte s.data.toList c))) ∧ w' = w := Any.strings_Contains_one Tryz.lays144 s c w
def Tryz.lays138_ren : Go.Shelf.Ren := ⟨fun | 138 => 85 | 195 => 121 | 218 => 122 | 143 => 123 | 219 => 153 | 217 => 182 | 225 => 183 | 224 => 184 | 267 => 185 | 266 => 199 | 314 => 200 | n => n, fun | 9 => 9 | 3 => 3 | 4 => 4 | 5 => 5 | 0 => 0 | 46 => 130 | 146 => 232 | 51 => 231 | n => n, fun | 1 => 1 | n => n⟩
theorem Tryz.lays138 : Go.Proofs.Lays.n138 Tryz.prog Tryz.lays138_ren := {
  mixed := by kernel_rfl
  f138 := Tryz.func85.trans (congrArg some (by kernel_rfl))
  f143 := Tryz.func123.trans (congrArg some (by kernel_rfl))
  f195 := Tryz.func121.trans (congrArg some (by kernel_rfl))
  f217 := Tryz.func182.trans (congrArg some (by kernel_rfl))
  f218 := Tryz.func122.trans (congrArg some (by kernel_rfl))
  f219 := Tryz.func153.trans (congrArg some (by kernel_rfl))
  f224 := Tryz.func184.trans (congrArg some (by kernel_rfl))
  f225 := Tryz.func183.trans (congrArg some (by kernel_rfl))
  f266 := Tryz.func199.trans (congrArg some (by kernel_rfl))
  f267 := Tryz.func185.trans (congrArg some (by kernel_rfl))
  f314 := Tryz.func200.trans (congrArg some (by kernel_rfl))
  t0 := Tryz.underlying0
  a0 := Tryz.isAgg0
  z0 := Tryz.sizeOf0
  v0 := Tryz.zeroValue0
  t3 := Tryz.underlying3
  a3 := Tryz.isAgg3
  z3 := Tryz.sizeOf3
  v3 := Tryz.zeroValue3
  t4 := Tryz.underlying4
  a4 := Tryz.isAgg4
  z4 := Tryz.sizeOf4
  v4 := Tryz.zeroValue4
  t5 := Tryz.underlying5
  a5 := Tryz.isAgg5
  z5 := Tryz.sizeOf5
  v5 := Tryz.zeroValue5
  t9 := Tryz.underlying9
  a9 := Tryz.isAgg9
  z9 := Tryz.sizeOf9
  v9 := Tryz.zeroValue9
  t46 := Tryz.underlying130
  a46 := Tryz.isAgg130
  z46 := Tryz.sizeOf130
  v46 := Tryz.zeroValue130
  t51 := Tryz.underlying231
  a51 := Tryz.isAgg231
  z51 := Tryz.sizeOf231
  v51 := Tryz.zeroValue231
  t146 := Tryz.underlying232
  a146 := Tryz.isAgg232
  z146 := Tryz.sizeOf232
  v146 := Tryz.zeroValue232
  g1 := by kernel_rfl }
open Go.RowKit Go.Lib in
theorem Tryz.strings_Count_one (s : ByteArray) (c : UInt8) (w : World) :
    Calls Tryz.prog 85 #[.string s, .string ⟨#[c]⟩] w fun e w' => e = .returned (.int .i64 (Lib.countByte s.data.toList c)) ∧ w' = w := Any.strings_Count_one Tryz.lays138 s c w
def Tryz.lays99_ren : Go.Shelf.Ren := ⟨fun | 99 => 120 | 206 => 152 | n => n, fun | 9 => 9 | 4 => 4 | 3 => 3 | n => n, fun | n => n⟩
theorem Tryz.lays99 : Go.Proofs.Lays.n99 Tryz.prog Tryz.lays99_ren := {
  mixed := by kernel_rfl
  f99 := Tryz.func120.trans (congrArg some (by kernel_rfl))
  f206 := Tryz.func152.trans (congrArg some (by kernel_rfl))
  t3 := Tryz.underlying3
  a3 := Tryz.isAgg3
  z3 := Tryz.sizeOf3
  v3 := Tryz.zeroValue3
  t4 := Tryz.underlying4
  a4 := Tryz.isAgg4
  z4 := Tryz.sizeOf4
  v4 := Tryz.zeroValue4
  t9 := Tryz.underlying9
  a9 := Tryz.isAgg9
  z9 := Tryz.sizeOf9
  v9 := Tryz.zeroValue9 }
open Go.RowKit Go.Lib in
theorem Tryz.strings_HasPrefix (s p : ByteArray) (w : World) :
    Calls Tryz.prog 120 #[.string s, .string p] w fun e w' => e = .returned (.bool (Lib.hasPrefix s.data.toList p.data.toList)) ∧ w' = w := Any.strings_HasPrefix Tryz.lays99 s p w
end Go.Proofs

/- From a walk to a law's statement: what a law leaves behind, argument by argument; what a listed variable reads as. Of no function of the program. -/
namespace Go.Proofs.YtclicjokgfiegaaGreatDoor
open Go.ChangeShapes Go.WideShapes Go.ChangeAt Go.RowKit

section
variable {H : Type} {enc : TypeId × Value → H} {P : Program}

/-- Every argument reads behind the call as it did, if nothing that was there has turned. -/
theorem trodAll_below (hl : laidOutB P = true) {W W' : World} (hb : Below W.heap.size W W') :
    ∀ (ts : List TypeId) (vs : List Value) (ds : List (DataW H)) (p : List MemPlace), (ts.all fun t => P.readableRec t && decide (t < P.types.size)) = true →
      DataW.TrodAll enc P W 0 (fun _ => true) true ts vs ds p → (∀ x ∈ p, x.block < W.heap.size) → DataW.TrodAll enc P W' 0 (fun b => decide (b < W.heap.size)) true ts vs ds p
  | [], [], [], _, _, h, _ => h
  | t :: ts, v :: vs, d :: ds, p, hr, h, hp => by
    obtain ⟨p1, q, h1, h2, rfl⟩ := h
    simp only [List.all_cons, Bool.and_eq_true, decide_eq_true_eq] at hr
    exact ⟨p1, q, Below.trod hl hr.1.1 hr.1.2 h1 hb (fun x hx => hp x (by simp [hx])),
      trodAll_below hl hb ts vs ds q (by simpa using hr.2) h2 (fun x hx => hp x (by simp [hx])), rfl⟩
  | [], _ :: _, _, _, _, h, _ => by cases h
  | [], [], _ :: _, _, _, h, _ => by cases h
  | _ :: _, [], _, _, _, h, _ => by cases h
  | _ :: _, _ :: _, [], _, _, h, _ => by cases h

/-- A LAW's END: it returns true; nothing that was there has turned. -/
theorem post_law {f : Func} {s : ChangeSpec} {W W' : World} {args : Array Value} {ds gs : List (DataW H)} {before : List MemPlace} {T : TypeId}
    (hl : laidOutB P = true) (hT : P.underlying T = some .bool) (hres : f.resultTypes = #[T]) (hvars : s.vars = [])
    (hread : (f.params.toList.all fun t => P.readableRec t && decide (t < P.types.size)) = true)
    (hW : DataW.Whole enc P f.params.toList s.vars false W args.toList ds gs before) (hfn : s.fn H (ds ++ gs) = { results := [.lit (.bool true)], args := ds })
    (hb : Below W.heap.size W W') : s.post enc P f false true false false W args (.bool true) W' := by
  have hW' := hW
  obtain ⟨p, q, hA, hV, rfl, hfz, hnd⟩ := hW
  rw [hvars] at hV
  obtain ⟨rfl, rfl⟩ := trodVars_none hV
  have hlt : ∀ x ∈ p, x.block < W.heap.size := fun x hx => by simpa using hW'.lt x (by simpa using hx)
  refine ⟨ds, [], p ++ [], [], p, [], hW', ?_, ?_, ?_, hb.frame _, fun h => by cases h⟩
  · rw [hfn, hres]
    exact trodAll_cons_mk (shut_bool hT _) trodAll_mk0
  · rw [hfn]
    exact trodAll_below hl hb _ _ _ _ hread hA hlt
  · rw [hvars, hfn]
    rfl

/-! ### A listed variable that is an array of plain literals -/
theorem bytes_eta (s : ByteArray) : (⟨s.data.toList.toArray⟩ : ByteArray) = s := by cases s; simp
def litV : Lit → Value
  | .bool b => .bool b
  | .int k n => .int k n
  | .float k b => .float k b
  | .string l => .string ⟨l.toArray⟩
  | .nil => undef

theorem cell_of_lit {w : World} {base : Nat} {sp : Nat → Bool} {held : Bool} {fuel : Nat} {e : TypeId} {cs : List Value} {l : Lit} {p : List MemPlace} (he : P.underlying e = some .bool ∨ (∃ k, P.underlying e = some (.int k)) ∨ P.underlying e = some .string)
    (h : DataW.trod enc P w base sp held fuel e cs = some (.lit l, p)) : cs = [litV l] := by
  cases fuel with
  | zero => simp [DataW.trod] at h
  | succ n =>
    rcases he with he | ⟨k, he⟩ | he
    · unfold DataW.trod at h
      rw [he] at h
      split at h <;> simp_all
      obtain ⟨h1, _⟩ := h
      rw [← h1]; rfl
    · unfold DataW.trod at h
      rw [he] at h
      split at h <;> simp_all
      obtain ⟨⟨h1, h2⟩, h3, h4⟩ := h
      subst h1 h3
      rfl
    · unfold DataW.trod at h
      rw [he] at h
      split at h <;> simp_all
      obtain ⟨h1, h3, h4⟩ := h
      subst h3
      exact congrArg Value.string (bytes_eta _).symm

theorem cells_of_lits {w : World} {base : Nat} {sp : Nat → Bool} {held : Bool} {fuel : Nat} {t e : TypeId} {n : Nat} {cs : List Value} {ls : List Lit} {p : List MemPlace}
    (ht : P.underlying t = some (.array n e)) (he : P.underlying e = some .bool ∨ (∃ k, P.underlying e = some (.int k)) ∨ P.underlying e = some .string) (hce : P.cellsOf e = 1) (hct : P.cellsOf t = n)
    (h : DataW.trod enc P w base sp held fuel t cs = some (.agg (ls.map DataW.lit), p)) : cs = ls.map litV := by
  obtain ⟨xs, m, rfl, hx, hl, hxl, hel⟩ := DataW.trod_array ht h
  simp only [Prod.mk.injEq, DataW.agg.injEq] at hx
  obtain ⟨hx, _⟩ := hx
  have hln : ls.length = n := by have := congrArg List.length hx; simp at this; omega
  rw [hce] at hel
  apply List.ext_getElem?
  intro i
  by_cases hi : i < n
  · have h1 := hel i hi
    have hxi : xs[i]? = some (xs[i]'(by omega)) := List.getElem?_eq_getElem _
    rw [hxi, Nat.mul_one] at h1
    have h2 : (xs[i]'(by omega)).1 = .lit (ls[i]'(by omega)) := by
      have := congrArg (·[i]?) hx
      simp [hi, hxl, hln] at this
      exact this.symm
    have h3 : xs[i]'(by omega) = (.lit (ls[i]'(by omega)), (xs[i]'(by omega)).2) := by rw [← h2]
    rw [h3] at h1
    have h4 := cell_of_lit he h1
    have h5 := congrArg (·[0]?) h4
    simp [List.getElem?_drop] at h5
    rw [h5]
    simp [hln, hi]
  · rw [List.getElem?_eq_none (by omega), List.getElem?_eq_none (by simp; omega)]

/-- What a list says of its variable number i. -/
theorem laidVars_get {w : World} : ∀ (l : List (String × DataW Unit)) (ps : List MemPlace), DataW.LaidVars P w l ps → ∀ (i : Nat) (n : String) (d : DataW Unit), l[i]? = some (n, d) →
    ∃ g t cs fuel p, P.globalNamed n = some g ∧ (P.globals[g]?).map (·.type) = some t ∧ w.var? P n = some cs ∧ DataW.trod (fun _ => ()) P w 0 (fun _ => true) false fuel t cs.toList = some (d, p)
  | [], _, _, i, n, d, hi => by simp at hi
  | (n0, d0) :: r, ps, h, i, n, d, hi => by
    obtain ⟨g, t, cs, fuel, p, q, h1, h2, h3, h4, h5, _⟩ := h
    cases i with
    | zero => cases hi; exact ⟨g, t, cs, fuel, p, h1, h2, h3, h4⟩
    | succ i => exact laidVars_get r q h5 i n d (by simpa using hi)

/-- The cells of a listed array of plain literals. -/
theorem laid_lits {W : World} {l : List (String × DataW Unit)} (h : laidMetH P l W) (i : Nat) {n : String} {ls : List Lit} {g : Nat} {t e : TypeId} {k : Nat}
    (hi : (l.filter fun x => x.2.handleName?.isNone)[i]? = some (n, .agg (ls.map DataW.lit)))
    (hg : P.globalNamed n = some g) (hty : (P.globals[g]?).map (·.type) = some t) (ht : P.underlying t = some (.array k e))
    (he : P.underlying e = some .bool ∨ (∃ k, P.underlying e = some (.int k)) ∨ P.underlying e = some .string) (hce : P.cellsOf e = 1) (hct : P.cellsOf t = k) :
    g < W.heap.size ∧ ∀ j, j < ls.length → W.cell? ⟨g, j, none⟩ = (ls[j]?).map litV := by
  obtain ⟨h1, _⟩ := laidMetH_iff.1 h
  obtain ⟨ps, hv, _⟩ := h1
  obtain ⟨g', t', cs, fuel, p, a1, a2, a3, a4⟩ := laidVars_get _ ps hv i n _ hi
  obtain rfl := Option.some.inj (hg.symm.trans a1)
  obtain rfl := Option.some.inj (hty.symm.trans a2)
  have hc := cells_of_lits ht he hce hct a4
  have hlt : g < W.heap.size := by
    unfold World.var? at a3
    rw [hg] at a3
    simp only [Option.bind_some] at a3
    rcases Nat.lt_or_ge g W.heap.size with h' | h'
    · exact h'
    · rw [Array.getElem?_eq_none h'] at a3; cases a3
  refine ⟨hlt, fun j hj => ?_⟩
  rw [World.var?_cell hg a3 j]
  have h6 : cs.toList[j]? = (ls.map litV)[j]? := by rw [hc]
  simpa using h6
end

/-! ### What the bound of the second form gives -/
theorem bulk_one {H : Type} (d : DataW H) : 1 ≤ Rows.uptoBulk d := by
  cases d with
  | lit l => cases l <;> simp [Rows.uptoBulk]
  | nil => simp [Rows.uptoBulk]
  | ptr d => simp [Rows.uptoBulk]
  | slice elems spare => simp [Rows.uptoBulk]
  | agg parts => simp [Rows.uptoBulk]
  | iface t d => simp [Rows.uptoBulk]
  | map entries => simp [Rows.uptoBulk]
  | held h => simp [Rows.uptoBulk]
theorem bulk_part {H : Type} {d : DataW H} {l : List (DataW H)} (h : d ∈ l) : Rows.uptoBulk d ≤ Rows.uptoBulkAll l := by
  induction l with
  | nil => cases h
  | cons x r ih =>
    simp only [Rows.uptoBulkAll]
    cases List.mem_cons.1 h with
    | inl e => subst e; omega
    | inr e => have := ih e; omega
theorem bulk_length {H : Type} (l : List (DataW H)) : l.length ≤ Rows.uptoBulkAll l := by
  induction l with
  | nil => simp [Rows.uptoBulkAll]
  | cons x r ih => have := bulk_one x; simp only [Rows.uptoBulkAll, List.length_cons]; omega
theorem bulk_bound {H : Type} {l : List (DataW H)} (hk : Rows.uptoSmall H l = true) : Rows.uptoBulkAll l ≤ 1048576 := of_decide_eq_true hk

/-! ### What the reach gives: a string takes at most so many bytes -/
theorem sized_at {H : Type} {P : Program} : ∀ {ts : List TypeId} {ds : List (DataW H)}, (DataW.weightsEach P ts ds).all (· ≤ reachBytes) = true → ∀ {j : Nat} {t : TypeId} {d : DataW H}, ts[j]? = some t → ds[j]? = some d → (d.weights P t).all (· ≤ reachBytes) = true
  | t0 :: ts, d0 :: ds, h, j, t, d, ht, hd => by
    rw [DataW.weightsEach, List.all_append, Bool.and_eq_true] at h
    cases j with
    | zero =>
      simp only [List.getElem?_cons_zero, Option.some.injEq] at ht hd
      subst ht hd
      exact h.1
    | succ j => exact sized_at h.2 (by simpa using ht) (by simpa using hd)
  | [], _, _, j, t, d, ht, _ => by simp at ht
  | _ :: _, [], _, j, t, d, _, hd => by simp at hd
theorem sized_string {H : Type} {P : Program} {ts : List TypeId} {ds : List (DataW H)} (h : (DataW.weightsEach P ts ds).all (· ≤ reachBytes) = true) {j : Nat} {t : TypeId} {s : ByteArray} (ht : ts[j]? = some t) (hd : ds[j]? = some (.lit (.string s.data.toList))) : s.size ≤ 140737488351232 := by
  have := sized_at h ht hd
  simp only [DataW.weights, List.all_cons, List.all_nil, Bool.and_true, decide_eq_true_eq] at this
  have e : s.data.toList.length = s.size := Array.length_toList
  rw [e] at this
  have r : reachBytes = 140737488351232 := rfl
  omega

/-! ### Opening arguments -/
set_option maxRecDepth 100000 in
/-- []byte -/
theorem open_bytes {H : Type} {enc : TypeId × Value → H} {W : World} {r : Reach} {b0 : Nat} {v : Value} {d : DataW H} {ps : List MemPlace} (hval : Value.okWide Tryz.prog W r b0 79 v)
    (h : DataW.Trod enc Tryz.prog W 0 (fun _ => true) true 79 v d ps) : ∃ l : List UInt8, Bs W v l ∧ l.length ≤ Rows.uptoBulk d := by
  obtain ⟨a, len, cap, rfl⟩ := okWide_slice Tryz.underlying79 hval
  obtain ⟨fuel, hf⟩ := h
  have hf' : DataW.trod enc Tryz.prog W 0 (fun _ => true) true fuel 79 [.slice a len cap] = some (d, ps) := by simpa [Value.cells] using hf
  rcases open_ints Tryz.underlying79 Tryz.underlying5 (by kernel_rfl) hf' with ⟨hcs, hx⟩ | ⟨ad, len', cap', zs, hcs, _, hl, hm, hz, hx, hcell, hwz⟩
  · simp only [List.cons.injEq, Value.slice.injEq, and_true] at hcs
    obtain ⟨rfl, rfl, rfl⟩ := hcs
    exact ⟨[], Rd.nil W, by simp⟩
  · simp only [List.cons.injEq, Value.slice.injEq, and_true] at hcs
    obtain ⟨rfl, rfl, rfl⟩ := hcs
    simp only [if_true] at hz
    simp only [Prod.mk.injEq] at hx
    obtain ⟨rfl, _⟩ := hx
    have hlen : ((zs.take len).map fun z => B8 z.toNat).length = len := by simp; omega
    refine ⟨(zs.take len).map fun z => B8 z.toNat, ?_, ?_⟩
    · unfold Bs
      rw [hlen]
      refine ⟨some ad, cap, rfl, hl, hm, (fun e => by cases e), fun ad' e j u hu => ?_⟩
      cases e
      have hj : j < len := by
        have := (List.getElem?_eq_some_iff.1 hu).1
        simp at this; omega
      have hjz : j < zs.length := by omega
      rw [hcell j hjz, ← hu]
      have hw := hwz (zs[j]'hjz) (List.getElem_mem _)
      have hb : 0 ≤ zs[j]'hjz ∧ zs[j]'hjz ≤ 255 := by simpa [Lit.wf, IntKind.min, IntKind.max, IntKind.signed, IntKind.bits] using hw
      have e2 : (((zs.take len).map fun z => B8 z.toNat).map byteV)[j]? = some (byteV (B8 (zs[j]'hjz).toNat)) := by
        simp [hj, List.getElem?_eq_getElem hjz]
      rw [e2, byteV_B8 (show (zs[j]'hjz).toNat < 256 by omega) (show zs[j]'hjz = ((zs[j]'hjz).toNat : Int) by omega)]
      simp [List.getD, hjz]
    · rw [hlen]
      have := bulk_length (lits .u8 (zs.take len) : List (DataW H))
      have h2 : (lits .u8 (zs.take len) : List (DataW H)).length = len := by simp [lits]; omega
      simp only [Rows.uptoBulk]
      omega

theorem laidOut : laidOutB Tryz.prog = true := by kernel_rfl
theorem own : ownKnob Tryz.prog.godebug = none := by kernel_rfl

end Go.Proofs.YtclicjokgfiegaaGreatDoor
