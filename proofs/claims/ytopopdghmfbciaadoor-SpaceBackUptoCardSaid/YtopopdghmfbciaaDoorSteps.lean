/- Steps from world to world. Of no function of the program. -/
import Derived.Test.YtopopdghmfbciaaDoorBase
namespace Go.Proofs.YtopopdghmfbciaaDoor
open Go.RowKit

/-- What was there reads as it did. -/
theorem bcell {B : Nat} {W w1 : World} (hb : Below B W w1) : ∀ b o, b < B → w1.cell? ⟨b, o, none⟩ = W.cell? ⟨b, o, none⟩ :=
  fun b o h => hb.cell (p := ⟨b, o, none⟩) h
theorem bfree {B : Nat} {W w1 : World} (hb : Below B W w1) : ∀ b o, b < B → w1.frozen? ⟨b, o, none⟩ = W.frozen? ⟨b, o, none⟩ :=
  fun b o h => hb.frozen (p := ⟨b, o, none⟩) h

/-- A step more. -/
theorem _root_.Go.RowKit.Below.up {w w0 w1 : World} (h : Below w.heap.size w w0) (hb : Below w0.heap.size w0 w1) : Below w.heap.size w w1 := h.trans (hb.mono h.size)

/-- A box, then a step more. -/
theorem _root_.Go.RowKit.Below.upA {w w0 w1 : World} {o : Obj} (h : Below w.heap.size w w0) (hb : Below (w0.alloc o).heap.size (w0.alloc o) w1) : Below w.heap.size w w1 := (h.alloc h.size o).up hb
theorem below_dn {B : Nat} {a w : World} (h : Below B a w) (n : Nat) : Below B a (w.drewN n) := ⟨h.os, h.tape, h.output, h.size, h.block⟩
end Go.Proofs.YtopopdghmfbciaaDoor
