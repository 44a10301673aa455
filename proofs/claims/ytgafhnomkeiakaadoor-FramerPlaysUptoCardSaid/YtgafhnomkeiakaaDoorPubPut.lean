/- Messages: what lays one: the walks. -/
import Derived.Test.YtgafhnomkeiakaaDoorPub
namespace Go.Proofs.YtgafhnomkeiakaaDoor
open Go.RowKit
set_option linter.unusedVariables false

theorem uPutB_len {l : List UInt8} : (uPutB l).length ≤ 65537 := by
  unfold uPutB
  split
  · rename_i h
    have := uRight_len h
    rw [uPutRawB_len this]
    omega
  · simp
theorem pNumB_len (q id : Int) : (pNumB q id).length ≤ 2 := by
  unfold pNumB pIdB uPut2B
  repeat' split
  all_goals simp

/-- What was there reads as it did. -/
theorem bcell {B : Nat} {W w1 : World} (hb : Below B W w1) : ∀ b o, b < B → w1.cell? ⟨b, o, none⟩ = W.cell? ⟨b, o, none⟩ :=
  fun b o h => hb.cell (p := ⟨b, o, none⟩) h
theorem bfree {B : Nat} {W w1 : World} (hb : Below B W w1) : ∀ b o, b < B → w1.frozen? ⟨b, o, none⟩ = W.frozen? ⟨b, o, none⟩ :=
  fun b o h => hb.frozen (p := ⟨b, o, none⟩) h

/-- A step more. -/
theorem _root_.Go.RowKit.Below.up {w w0 w1 : World} (h : Below w.heap.size w w0) (hb : Below w0.heap.size w0 w1) : Below w.heap.size w w1 := h.trans (hb.mono h.size)

/-- A box, then a step more. -/
theorem _root_.Go.RowKit.Below.upA {w w0 w1 : World} {o : Obj} (h : Below w.heap.size w w0) (hb : Below (w0.alloc o).heap.size (w0.alloc o) w1) : Below w.heap.size w w1 := (h.alloc h.size o).up hb
theorem _root_.Go.RowKit.Below.box {w w0 : World} {o : Obj} (h : Below w.heap.size w w0) : Below w.heap.size w (w0.alloc o) := h.alloc h.size o

theorem pPut_nil {T X : List UInt8} {q id : Int} {w w' : World} (e : Int) (he : pPutE T X q id = e) (h0 : e ≠ 0) (hb : Below w.heap.size w w') :
    GivesB w (pPutB T X q id) (pPutE T X q id) (.returned (.tuple #[.slice none 0 0, .int .i64 e])) w' := by
  unfold pPutB
  rw [he, if_neg h0]
  exact GivesB.nil hb

end Go.Proofs.YtgafhnomkeiakaaDoor
