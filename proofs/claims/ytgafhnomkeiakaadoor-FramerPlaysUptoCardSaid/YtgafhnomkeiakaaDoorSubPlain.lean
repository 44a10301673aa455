/- Wishes: plain laws: what is laid and told. No program. -/
import Derived.Test.YtgafhnomkeiakaaDoorPubOfPlain
import Derived.Test.YtgafhnomkeiakaaDoorUtfBackPlain
namespace Go.Proofs.YtgafhnomkeiakaaDoor
open Go.RowKit
set_option linter.unusedVariables false

theorem uPutB_short (l : List UInt8) : (uPutB l).length ≤ 65537 := by
  unfold uPutB
  split
  · rename_i h
    have := uRight_len h
    rw [uPutRawB_len this]; omega
  · simp

/-- a filter: its text, its QoS -/
abbrev Wish := ByteArray × Int
def Wish.cells (f : Wish) : List Value := [.string f.1, .int .i64 f.2]
def wCells : List Wish → List Value
  | [] => []
  | f :: t => Wish.cells f ++ wCells t
theorem wCells_len : ∀ l : List Wish, (wCells l).length = l.length * 2
  | [] => rfl
  | f :: t => by simp [wCells, Wish.cells, wCells_len t]; omega
theorem wCells_append : ∀ a b : List Wish, wCells (a ++ b) = wCells a ++ wCells b
  | [], b => rfl
  | f :: t, b => by simp [wCells, wCells_append t b]
theorem wCells_at : ∀ (l : List Wish) (k : Nat) (f : Wish), l[k]? = some f → (wCells l)[k * 2]? = some (.string f.1) ∧ (wCells l)[k * 2 + 1]? = some (.int .i64 f.2)
  | [], k, f, h => by simp at h
  | g :: t, 0, f, h => by simp at h; subst h; simp [wCells, Wish.cells]
  | g :: t, k + 1, f, h => by
    have ih := wCells_at t k f (by simpa using h)
    have e : (k + 1) * 2 = k * 2 + 2 := by omega
    rw [e]
    simpa [wCells, Wish.cells] using ih

/-- a number's two bytes -/
def sbMany (n : Int) : Int := if n < 1 then 4 else if 8 < n then 6 else 0
def sbWish (ends : Bool) (f : Wish) : List UInt8 × Int :=
  if ends = false ∧ (f.2 < 0 ∨ 2 < f.2) then ([], 5)
  else if uPutE (sB f.1) ≠ 0 then ([], uPutE (sB f.1))
  else (uPutB (sB f.1) ++ (if ends = true then [] else [B8 f.2.toNat]), 0)
def sbFold (ends : Bool) : List UInt8 → List Wish → List UInt8 × Int
  | a, [] => (a, 0)
  | a, f :: t => if (sbWish ends f).2 ≠ 0 then ([], (sbWish ends f).2) else sbFold ends (a ++ (sbWish ends f).1) t
def sbPutE (id : Int) (l : List Wish) (ends : Bool) : Int :=
  if pIdE id ≠ 0 then pIdE id else if sbMany l.length ≠ 0 then sbMany l.length
  else if (sbFold ends (pIdB id) l).2 ≠ 0 then (sbFold ends (pIdB id) l).2
  else if 4096 < (sbFold ends (pIdB id) l).1.length then 3 else 0
def sbPutB (id : Int) (l : List Wish) (ends : Bool) : List UInt8 := if sbPutE id l ends = 0 then (sbFold ends (pIdB id) l).1 else []

def sbCoded (n : Int) : Bool := (decide (0 ≤ n) && decide (n ≤ 2)) || decide (n = 128)
def sbAckFold : List UInt8 → List Int → List UInt8 × Int
  | a, [] => (a, 0)
  | a, n :: t => if sbCoded n = false then ([], 5) else sbAckFold (a ++ [B8 n.toNat]) t
def sbAckE (id : Int) (l : List Int) : Int :=
  if pIdE id ≠ 0 then pIdE id else if sbMany l.length ≠ 0 then sbMany l.length else (sbAckFold (pIdB id) l).2
def sbAckB (id : Int) (l : List Int) : List UInt8 := if sbAckE id l = 0 then (sbAckFold (pIdB id) l).1 else []

/-- the number at the beginning -/
def sbBegin (l : List UInt8) : Int × Int :=
  if l.length < 2 then (0, 2) else if (256 * (bN l 0 : Int) + bN l 1) = 0 then (0, 1) else (256 * (bN l 0 : Int) + bN l 1, 0)
/-- codes, byte by byte: those that came, the error -/
def sbCodes : List Int → List UInt8 → List Int × Int
  | a, [] => (a, 0)
  | a, b :: t => if sbCoded (b.toNat : Int) = false then ([], 5) else sbCodes (a ++ [(b.toNat : Int)]) t
def sbOfAck (l : List UInt8) : Int × List Int × Int :=
  if (sbBegin l).2 ≠ 0 then (0, [], (sbBegin l).2)
  else if sbMany ((l.length : Int) - 2) ≠ 0 then (0, [], sbMany ((l.length : Int) - 2))
  else if (sbCodes [] (l.drop 2)).2 ≠ 0 then (0, [], (sbCodes [] (l.drop 2)).2) else ((sbBegin l).1, (sbCodes [] (l.drop 2)).1, 0)

/-- a filter at a place: what it is, the place behind it, the error -/
def sbRead (l : List UInt8) (at' : Int) (ends : Bool) : Wish × Int × Int :=
  if (uGet l at').2.2 ≠ 0 then ((⟨#[]⟩, 0), 0, (uGet l at').2.2)
  else if ends = true then ((sOf (uGet l at').1, 0), (uGet l at').2.1, 0)
  else if (l.length : Int) ≤ (uGet l at').2.1 then ((⟨#[]⟩, 0), 0, 2)
  else if 2 < bN l (uGet l at').2.1.toNat then ((⟨#[]⟩, 0), 0, 5)
  else ((sOf (uGet l at').1, (bN l (uGet l at').2.1.toNat : Int)), (uGet l at').2.1 + 1, 0)
theorem sbRead_rng {l : List UInt8} {at' : Int} {ends : Bool} (h : (sbRead l at' ends).2.2 = 0) : 0 ≤ at' ∧ at' + 2 ≤ (sbRead l at' ends).2.1 ∧ (sbRead l at' ends).2.1 ≤ l.length := by
  unfold sbRead at h ⊢
  by_cases h1 : (uGet l at').2.2 = 0
  · have hr := uGet_rng h1
    rw [if_neg (by simp [h1])] at h ⊢
    by_cases h2 : ends = true
    · rw [if_pos h2]; simp only; omega
    rw [if_neg h2] at h ⊢
    by_cases h3 : (l.length : Int) ≤ (uGet l at').2.1
    · rw [if_pos h3] at h; simp at h
    rw [if_neg h3] at h ⊢
    by_cases h4 : 2 < bN l (uGet l at').2.1.toNat
    · rw [if_pos h4] at h; simp at h
    rw [if_neg h4]; simp only; omega
  · rw [if_pos h1] at h; exact absurd h h1
end Go.Proofs.YtgafhnomkeiakaaDoor
