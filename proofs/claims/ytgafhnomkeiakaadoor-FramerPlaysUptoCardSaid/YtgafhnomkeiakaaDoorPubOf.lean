/- Messages: what bytes tell: the walks. -/
import Derived.Test.YtgafhnomkeiakaaDoorPubRef
namespace Go.Proofs.YtgafhnomkeiakaaDoor
open Go.RowKit
set_option linter.unusedVariables false
set_option linter.unusedSimpArgs false

set_option maxRecDepth 100000 in
/-- []byte(s), where the walk stands at it. -/
theorem upon_bytes {o : Oper} {a : Act} {K : Act → World → Prop} {Q : Exit → Act → World → Prop} {W : World} {s : ByteArray} {f : Value → World → Result Next} (hs : s.size ≤ 140737488355327)
    (h : ∀ ad c W', Bs W' (.slice ad (sB s).length c) (sB s) → Below W.heap.size W W' → Oper.upon Tryd.prog o a K Q ((Result.ok (.slice ad (sB s).length c) W').andThen f)) :
    Oper.upon Tryd.prog o a K Q ((Sem.run Tryd.prog (convert 9 23 (.string s)) W).andThen f) := by
  obtain ⟨c, W', hr, hB, hb⟩ := run_bytes s hs W
  rw [hr]
  exact h _ c W' hB hb

/-- The message that bytes tell. -/
def GivesM (w : World) (l : List UInt8) (q : Int) (e : Ending) (w' : World) : Prop :=
  e = .returned (.tuple #[.agg #[.string (sOf (pOf l q).1), .string (sOf (pOf l q).2.1), .int .i64 (pOfQ l q), .bool false], .int .i64 (pOf l q).2.2.1, .int .i64 (pOf l q).2.2.2]) ∧ Below w.heap.size w w'
theorem GivesM.nil {w w' : World} {l : List UInt8} {q : Int} (e : Int) (h : pOf l q = ([], [], 0, e)) (h0 : e ≠ 0) (hb : Below w.heap.size w w') :
    GivesM w l q (.returned (.tuple #[.agg #[.string ⟨#[]⟩, .string ⟨#[]⟩, .int .i64 0, .bool false], .int .i64 0, .int .i64 e])) w' := by
  unfold GivesM pOfQ
  rw [h]
  simp only
  rw [if_neg h0]
  exact ⟨rfl, hb⟩

theorem uGet_len (l : List UInt8) (k : Int) : (uGet l k).1.length ≤ 65535 := by
  unfold uGet
  have := uGetRaw_len l k
  repeat' split
  all_goals (first | exact this | simp)

theorem extract_drop (b : ByteArray) (n : Nat) : b.extract n b.size = sOf ((sB b).drop n) := by
  apply ByteArray.ext
  rw [ByteArray.data_extract]
  show b.data.extract n b.size = ((b.data.toList).drop n).toArray
  apply Array.toList_inj.1
  rw [Array.toList_extract]
  show ((b.data.toList).drop n).take (b.size - n) = (b.data.toList).drop n
  have : b.data.toList.length = b.size := Array.length_toList
  exact List.take_of_length_le (by rw [List.length_drop]; omega)

end Go.Proofs.YtgafhnomkeiakaaDoor
