/- Texts: numbers in two bytes, raw bytes and texts, laid and got: the walks. -/
import Derived.Test.YtopopdghmfbciaaDoorUtf2
import Derived.Lib.QuoteBits
namespace Go.Proofs.YtopopdghmfbciaaDoor
open Go.RowKit
set_option linter.unusedVariables false

def uPut2B (n : Int) : List UInt8 := if n < 0 ∨ 65535 < n then [] else [B8 (n.toNat / 256), B8 (n.toNat % 256)]
def uPut2E (n : Int) : Int := if n < 0 ∨ 65535 < n then 1 else 0
/-- number, the place behind, the error -/
def uGet2 (l : List UInt8) (at' : Int) : Int × Int × Int :=
  if at' < 0 ∨ (l.length : Int) < at' then (0, 0, 1)
  else if (l.length : Int) - at' < 2 then (0, 0, 2)
  else (256 * (bN l at'.toNat : Int) + bN l (at'.toNat + 1), at' + 2, 0)

/-- raw bytes, laid -/
def uPutRawB (l : List UInt8) : List UInt8 := if 65535 < l.length then [] else uPut2B l.length ++ l
def uPutRawE (l : List UInt8) : Int := if 65535 < l.length then 3 else 0
/-- raw bytes, got: the text, the place behind, the error -/
def uGetRaw (l : List UInt8) (at' : Int) : List UInt8 × Int × Int :=
  if (uGet2 l at').2.2 ≠ 0 then ([], 0, (uGet2 l at').2.2)
  else if (l.length : Int) - (uGet2 l at').2.1 < (uGet2 l at').1 then ([], 0, 2)
  else ((l.drop (uGet2 l at').2.1.toNat).take (uGet2 l at').1.toNat, (uGet2 l at').2.1 + (uGet2 l at').1, 0)
def uPutB (l : List UInt8) : List UInt8 := if uRight l = true then uPutRawB l else []
def uPutE (l : List UInt8) : Int := if 65535 < l.length then 3 else if uRight l = true then 0 else 9
def uGet (l : List UInt8) (at' : Int) : List UInt8 × Int × Int :=
  if (uGetRaw l at').2.2 ≠ 0 then ([], 0, (uGetRaw l at').2.2)
  else if uRight (uGetRaw l at').1 = false then ([], 0, 9)
  else uGetRaw l at'
theorem uGet2_ok {l : List UInt8} {at' : Int} (h : (uGet2 l at').2.2 = 0) : 0 ≤ at' ∧ at' + 2 ≤ l.length ∧ (uGet2 l at').2.1 = at' + 2 ∧ 0 ≤ (uGet2 l at').1 ∧ (uGet2 l at').1 ≤ 65535 := by
  unfold uGet2 at h ⊢
  have := bN_lt l at'.toNat
  have := bN_lt l (at'.toNat + 1)
  repeat' split
  all_goals (simp_all <;> omega)

/-- The bytes of a list as a string. -/
def sOf (l : List UInt8) : ByteArray := ⟨l.toArray⟩
theorem sB_sOf (l : List UInt8) : sB (sOf l) = l := rfl
theorem sOf_size (l : List UInt8) : (sOf l).size = l.length := by rw [← sB_len, sB_sOf]

theorem or_join (x y : Nat) (hx : x < 256) (hy : y < 256) : bits .or .i64 ((x : Int) * 256) (y : Int) = 256 * (x : Int) + y := by
  have h := bits_join .i64 16 (by decide) (fun n h0 h1 => by
    obtain ⟨m, rfl⟩ := Int.eq_ofNat_of_zero_le h0
    have hm : m < 65536 := by have : (m : Int) < 65536 := h1; omega
    exact Lib.wrap_i64_small m (by omega)) 8 ((x : Int) * 256) (y : Int) (by omega) (by simp) (by simp; omega) (by omega) (by simp; omega) (by simp; omega)
  rw [h]
  omega

end Go.Proofs.YtopopdghmfbciaaDoor
