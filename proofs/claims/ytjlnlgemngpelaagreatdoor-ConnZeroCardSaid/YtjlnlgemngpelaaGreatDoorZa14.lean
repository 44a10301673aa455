/- A bundle of texts (merged for the limit on files): PacRClean. -/
import Derived.Test.YtjlnlgemngpelaaGreatDoorZa13
/- Packets: cleaned: the reference: the walk. -/
namespace Go.Proofs.YtjlnlgemngpelaaGreatDoor
open Go.RowKit
set_option linter.unusedVariables false
set_option linter.unusedSimpArgs false

structure RCI (w w5 : World) (L : List Value) (p : Pac) (vf : Value) (k : Nat) (vq : Value) (w' : World) : Prop where
  le : k ≤ p.fs.length
  a0 : At w' w.heap.size L
  a1 : At w' (w.heap.size + 1) (zK 0)
  f1 : Free w' (w.heap.size + 1)
  a2 : At w' (w.heap.size + 1 + 1) (({ zP 10 with id := p.id } : Pac).cells vq Nl)
  f2 : Free w' (w.heap.size + 1 + 1)
  own : OwnW w5.heap.size w' vq ((p.fs.take k).map fun f => (f.1, (0 : Int)))
  below : Below w.heap.size w w'
  size : w5.heap.size ≤ w'.heap.size
end Go.Proofs.YtjlnlgemngpelaaGreatDoor
