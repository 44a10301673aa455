/- A bundle of texts (merged for the limit on files): PacSame2. -/
import Derived.Test.YtjlnlgemngpelaaGreatDoorZa15
/- Packets: are two the same: packet.Same, and the reference's: the walks. -/
namespace Go.Proofs.YtjlnlgemngpelaaGreatDoor
open Go.RowKit
set_option linter.unusedVariables false
set_option linter.unusedSimpArgs false

theorem bne_f {α : Type} [DecidableEq α] {a b : α} (h : a = b) : (a != b) = false := by simp [h]
theorem beq_tB {a b : Bool} (h : a = b) : (a == b) = true := by simp [h]
theorem beq_fB {a b : Bool} (h : ¬ a = b) : (a == b) = false := by simpa using h
theorem bne_t {α : Type} [DecidableEq α] {a b : α} (h : ¬ a = b) : (a != b) = true := by simp [h]
end Go.Proofs.YtjlnlgemngpelaaGreatDoor
