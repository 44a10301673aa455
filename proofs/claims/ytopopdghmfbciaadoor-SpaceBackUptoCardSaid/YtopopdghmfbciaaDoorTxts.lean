/- Rows of texts. Of no function of the program. -/
import Derived.Test.YtopopdghmfbciaaDoorUtf3
import Derived.Test.YtopopdghmfbciaaDoorSteps
namespace Go.Proofs.YtopopdghmfbciaaDoor
open Go.RowKit
set_option linter.unusedVariables false
set_option linter.unusedSimpArgs false

def txV (x : List UInt8) : Value := .string (sOf x)
/-- Texts that a slice reads as. -/
def Ls (w : World) (v : Value) (p : List (List UInt8)) : Prop := Rd w v p.length (p.map txV)
theorem Ls.slice {w : World} {v : Value} {p : List (List UInt8)} (h : Ls w v p) : ∃ a c, v = .slice a p.length c := by
  obtain ⟨a, c, rfl, _⟩ := h; exact ⟨a, c, rfl⟩
theorem Ls.below' {B : Nat} {w w' : World} {v : Value} {p : List (List UInt8)} (h : Ls w v p) (hb : Below B w w') (hB : w.heap.size ≤ B) : Ls w' v p := Rd.below' h hb hB
theorem Ls.len {w : World} {v : Value} {p : List (List UInt8)} (h : Ls w v p) : p.length ≤ maxLen := Rd.len h
theorem Ls.at {w : World} {a : Option Addr} {n c : Nat} {p : List (List UInt8)} (h : Ls w (.slice a n c) p) {k : Nat} {x : List UInt8} (hk : p[k]? = some x) :
    ∃ b o, a = some ⟨b, o, none⟩ ∧ b < w.heap.size ∧ w.cell? ⟨b, o + k, none⟩ = some (.string (sOf x)) := by
  rcases @Rd.split w (.slice a n c) p.length (p.map txV) h with ⟨hn, _⟩ | ⟨_, b, o, c', hv, _, _, hlt, hcell⟩
  · have : p = [] := by simpa using hn
    subst this
    simp at hk
  · simp only [Value.slice.injEq] at hv
    exact ⟨b, o, hv.1, hlt, hcell _ _ (by simp [hk, txV])⟩
def OwnL (B : Nat) (w : World) (v : Value) (p : List (List UInt8)) : Prop := w.ownsRow B 9 1 v p.length (p.map txV)
theorem OwnL.ls {B : Nat} {w : World} {v : Value} {p : List (List UInt8)} (h : OwnL B w v p) : Ls w v p := Owns.rd h
theorem OwnL.kept {B B' : Nat} {w w' : World} {v : Value} {p : List (List UInt8)} (h : OwnL B w v p) (hb : Below B' w w') (hB : w.heap.size ≤ B') : OwnL B w' v p := Owns.kept h hb hB
theorem OwnL.le {B B' : Nat} {w : World} {v : Value} {p : List (List UInt8)} (h : OwnL B w v p) (hB : B' ≤ B) : OwnL B' w v p := Owns.le h hB
theorem OwnL.nil (B : Nat) (w : World) : OwnL B w (.slice none 0 0) [] := ⟨rfl, .inl ⟨rfl, rfl⟩⟩
theorem info_string : (Tryd.prog.info? 9).map (fun i => (i.zero, i.size, i.bytes)) = some (some (.string ⟨#[]⟩), 1, 16) := by kernel_rfl
/-- append(out, x) of one text: the walk has laid a block of its cell for it. -/
theorem wpo_appL {w : World} {o : Oper} {a : Act} {K : Act → World → Prop} {Q : Exit → Act → World → Prop} (s x : Operand)
    (ho : o.op = .call { callee := .builtin .append, args := #[s, x], argTypes := #[26, 26] })
    (B : Nat) (v : Value) (p : List (List UInt8)) (hv : a.eval s = v) (hown : OwnL B w v p) (y : List UInt8) (hx : a.eval x = .slice (some ⟨w.heap.size, 0, none⟩) 1 1)
    (hlen : p.length < 1000000000) (hbase : B ≤ w.heap.size)
    (h : ∀ v' w', OwnL B w' v' (p ++ [y]) → Below B w w' → K (a.put o.dst v') w') : Oper.wp Tryd.prog o a (w.alloc (.cells #[.string (sOf y)] 9)) K Q := by
  obtain ⟨i0, hi, hz0, hz1, hz2⟩ := info_parts info_string
  have hb : Below B w (w.alloc (.cells #[.string (sOf y)] 9)) := (Below.refl B w).alloc hbase _
  have hb' : Below w.heap.size w (w.alloc (.cells #[.string (sOf y)] 9)) := (Below.refl _ w).alloc (Nat.le_refl _) _
  have hone : Rd (w.alloc (.cells #[.string (sOf y)] 9)) (.slice (some ⟨w.heap.size, 0, none⟩) 1 1) 1 [.string (sOf y)] :=
    Owns.rd (owns_lit w.heap.size 9 w 1 1 [.string (sOf y)] w.heap.size rfl (Nat.le_refl _) (by unfold maxLen; simp) rfl)
  obtain ⟨v', w', hr, h2, h3, h4⟩ := run_app (P := Tryd.prog) (w.alloc (.cells #[.string (sOf y)] 9)) B 26 o.type 9 i0 (.string ⟨#[]⟩) 1 16 Tryd.underlying26 hi hz0 hz1 hz2 rfl (by decide) v p.length (p.map txV) (hown.kept hb' (Nat.le_refl _)) _ 1 [.string (sOf y)] hone rfl (by intro u hu; simp at hu; rcases hu with rfl; rfl) (by omega) (by unfold maxLen; omega) (by simp; omega)
  unfold Oper.wp execOp
  simp only [ho, resolve, invoke, builtin, Sem.run_bind, Sem.run_pure, Result.andThen_ok, List.map_toArray, List.map_cons, List.map_nil, hv, hx, hr]
  refine h v' w' ?_ (hb.trans h3)
  unfold OwnL
  rw [List.length_append, List.map_append]
  exact h2
theorem wp_appL {w : World} {ops : Array Oper} {rest : List Oper} {o : Oper} {a : Act} {Q : Exit → Act → World → Prop} (hgd : o.guard = none) (s x : Operand)
    (ho : o.op = .call { callee := .builtin .append, args := #[s, x], argTypes := #[26, 26] })
    (B : Nat) (v : Value) (p : List (List UInt8)) (hv : a.eval s = v) (hown : OwnL B w v p) (y : List UInt8) (hx : a.eval x = .slice (some ⟨w.heap.size, 0, none⟩) 1 1)
    (hlen : p.length < 1000000000) (hbase : B ≤ w.heap.size)
    (h : ∀ v' w', OwnL B w' v' (p ++ [y]) → Below B w w' → wpList Tryd.prog ops Q rest (a.put o.dst v') w') : wpList Tryd.prog ops Q (o :: rest) a (w.alloc (.cells #[.string (sOf y)] 9)) :=
  wpList_plain hgd fun _ hK => wpo_appL s x ho B v p hv hown y hx hlen hbase fun v' w' h1 h2 => hK _ _ (h v' w' h1 h2)

theorem sl_to (l : List UInt8) (n : Nat) (hn : n ≤ l.length) (hl : l.length ≤ 9223372036854775000) (W : World) : (Instr.slice 9 (.string (sOf l)) none (some (.int .i64 n)) none).run Tryd.prog W = .ok (.string (sOf (l.take n))) W := by
  have hs := sOf_size l
  rw [run_slice_string_h W 9 (sOf l) Tryd.underlying9 .i64 n (by omega) (by omega)]
  have : (sOf l).extract 0 (n : Int).toNat = sOf (l.take n) := by
    have h : sB ((sOf l).extract 0 n) = l.take n := by simp [sB, sOf]
    have e : ∀ t : ByteArray, sOf (sB t) = t := fun t => by cases t; simp [sOf, sB]
    rw [Int.toNat_natCast, ← e ((sOf l).extract 0 n), h]
  rw [this]
theorem sl_from (l : List UInt8) (n : Nat) (hn : n ≤ l.length) (hl : l.length ≤ 9223372036854775000) (W : World) : (Instr.slice 9 (.string (sOf l)) (some (.int .i64 n)) none none).run Tryd.prog W = .ok (.string (sOf (l.drop n))) W := by
  have hs := sOf_size l
  rw [run_slice_string_l W 9 (sOf l) Tryd.underlying9 .i64 n (by omega) (by omega)]
  have : (sOf l).extract (n : Int).toNat (sOf l).size = sOf (l.drop n) := by
    have h : sB ((sOf l).extract n (sOf l).size) = l.drop n := by
      rw [hs]
      simp [sB, sOf]
      exact List.take_of_length_le (by simp)
    have e : ∀ t : ByteArray, sOf (sB t) = t := fun t => by cases t; simp [sOf, sB]
    rw [Int.toNat_natCast, ← e ((sOf l).extract n (sOf l).size), h]
  rw [this]

def GivesL (w : World) (p : List (List UInt8)) (e : Ending) (w' : World) : Prop := ∃ v, e = .returned v ∧ OwnL w.heap.size w' v p ∧ Below w.heap.size w w'
end Go.Proofs.YtopopdghmfbciaaDoor
