/- A bundle of texts (merged for the limit on files): PacVars, PacSame. -/
import Derived.Test.YtclicjokgfiegaaGreatDoorZa26
import Derived.Test.YtclicjokgfiegaaGreatDoorZa21
import Derived.Test.YtclicjokgfiegaaGreatDoorZa17
import Derived.Test.YtclicjokgfiegaaGreatDoorZa13
/- The tables of packets' laws, laid; a packet that came in is in hand. -/
namespace Go.Proofs.YtclicjokgfiegaaGreatDoor
open Go.RowKit
theorem PacIn.ok {w : World} {p : Pac} {vf vc : Value} (h : PacIn w p vf vc) : PacOk w p vf vc := ⟨⟨h.1, h.2.1, h.2.2.2.1, h.2.2.2.2⟩, h.2.2.1⟩
def pkLitV : Lit → Value
  | .bool b => .bool b
  | _ => .bool false
def layMay : Obj → Obj
  | .cells _ t frozen => .cells (mayLits.map pkLitV).toArray t frozen
  | o => o
def layPk (h : Array Obj) : Array Obj := (layU h).modify 2 layMay
end Go.Proofs.YtclicjokgfiegaaGreatDoor

/- Packets: are two the same: the walks. -/
namespace Go.Proofs.YtclicjokgfiegaaGreatDoor
open Go.RowKit
set_option linter.unusedVariables false
set_option linter.unusedSimpArgs false

theorem bytes_eq {a b : ByteArray} : a.toList = b.toList ↔ a = b := by
  obtain ⟨a⟩ := a
  obtain ⟨b⟩ := b
  rw [ByteArray.toList_mk, ByteArray.toList_mk]
  constructor
  · intro h
    have : a = b := Array.ext' h
    rw [this]
  · intro h; rw [ByteArray.mk.injEq] at h; rw [h]
theorem Con.eq_iff (a b : Con) : a = b ↔ a.level = b.level ∧ a.clean = b.clean ∧ a.keep = b.keep ∧ a.client = b.client ∧ a.hasWill = b.hasWill ∧ a.topic = b.topic ∧ a.text = b.text ∧ a.qos = b.qos ∧ a.retain = b.retain ∧ a.hasUser = b.hasUser ∧ a.user = b.user ∧ a.hasPass = b.hasPass ∧ a.pass = b.pass := by
  cases a; cases b; simp
instance conDec : DecidableEq Con := fun a b => decidable_of_iff _ (Con.eq_iff a b).symm
theorem Pac.eq_iff (a b : Pac) : a = b ↔ a.k = b.k ∧ a.id = b.id ∧ a.dup = b.dup ∧ (a.tp = b.tp ∧ a.tx = b.tx ∧ a.q = b.q ∧ a.rt = b.rt) ∧ a.c = b.c ∧ a.pr = b.pr ∧ a.code = b.code ∧ a.fs = b.fs ∧ a.cs = b.cs := by
  cases a; cases b; simp [and_assoc]
instance pacDec : DecidableEq Pac := fun a b => decidable_of_iff _ (Pac.eq_iff a b).symm
set_option maxRecDepth 100000 in
theorem neq_msg (p q : Pac) (W : World) : (binOp .neq 51 (.agg p.msg.toArray) (.agg q.msg.toArray)).run Tryz.prog W = .ok (.bool (!decide (p.tp = q.tp ∧ p.tx = q.tx ∧ p.q = q.q ∧ p.rt = q.rt))) W := by
  simp [go_sem, Pac.msg, bytes_eq]
  (repeat' split) <;> simp_all
set_option maxRecDepth 100000 in
theorem neq_con (p q : Con) (W : World) : (binOp .neq 53 (.agg p.cells.toArray) (.agg q.cells.toArray)).run Tryz.prog W = .ok (.bool (!decide (p = q))) W := by
  by_cases h : p = q
  · subst h
    simp [go_sem, Con.cells]
  · simp only [decide_eq_false h, Bool.not_false]
    simp [go_sem, Con.cells, bytes_eq]
    intro e1 e2 e3 e4 e5 e6 e7 e8 e9 e10 e11 e12 e13
    exact h ((Con.eq_iff p q).2 ⟨e1, e2, e3, e4, e5, e6, e7, e8, e9, e10, e11, e12, e13⟩)
set_option maxRecDepth 100000 in
theorem neq_wish (a b : ByteArray) (x y : Int) (W : World) : (binOp .neq 77 (.agg #[.string a, .int .i64 x]) (.agg #[.string b, .int .i64 y])).run Tryz.prog W = .ok (.bool (!decide ((a, x) = (b, y)))) W := by
  simp [go_sem, bytes_eq]
  (repeat' split) <;> simp_all
theorem take_moreP {α : Type} {a b : List α} {k : Nat} {x : α} (h : a.take k = b.take k) (ha : a[k]? = some x) (hb : b[k]? = some x) : a.take (k + 1) = b.take (k + 1) := by
  rw [List.take_add_one, List.take_add_one, h, ha, hb]
end Go.Proofs.YtclicjokgfiegaaGreatDoor
