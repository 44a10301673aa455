/- Who comes: plain laws: what is laid and told. No program. -/
import Derived.Test.YtinfcjnmloglhaaDoorUtfBackPlain
namespace Go.Proofs.YtinfcjnmloglhaaDoor
open Go.RowKit
set_option linter.unusedVariables false

/-- Who comes. -/
structure Con where
  level : Int
  clean : Bool
  keep : Int
  client : ByteArray
  hasWill : Bool
  topic : ByteArray
  text : ByteArray
  qos : Int
  retain : Bool
  hasUser : Bool
  user : ByteArray
  hasPass : Bool
  pass : ByteArray

def Con.zero : Con := ⟨0, false, 0, ⟨#[]⟩, false, ⟨#[]⟩, ⟨#[]⟩, 0, false, false, ⟨#[]⟩, false, ⟨#[]⟩⟩
def Con.cells (c : Con) : List Value := [.int .i64 c.level, .bool c.clean, .int .i64 c.keep, .string c.client, .bool c.hasWill, .string c.topic, .string c.text, .int .i64 c.qos, .bool c.retain, .bool c.hasUser, .string c.user, .bool c.hasPass, .string c.pass]
def Con.sized (c : Con) (n : Nat) : Prop := c.client.size ≤ n ∧ c.topic.size ≤ n ∧ c.text.size ≤ n ∧ c.user.size ≤ n ∧ c.pass.size ≤ n

def emB (s : ByteArray) : Bool := (sB s).isEmpty
def Con.noWill (c : Con) : Bool := emB c.topic && emB c.text && (c.qos == 0) && !c.retain
/-- why one may not come so -/
def cErr (c : Con) : Int :=
  if c.level ≠ 4 then 15
  else if c.keep < 0 ∨ 65535 < c.keep then 1
  else if c.qos < 0 ∨ 2 < c.qos then 10
  else if (c.hasPass && !c.hasUser) = true then 10
  else if (!c.hasWill && !c.noWill) = true then 4
  else if (!c.hasUser && !emB c.user) = true then 4
  else if (!c.hasPass && !emB c.pass) = true then 4 else 0

def bI (b : Bool) (n : Int) : Int := if b = true then n else 0
def cFlags (c : Con) : Int := bI c.clean 2 + bI c.hasWill 4 + bI c.retain 32 + bI c.hasPass 64 + bI c.hasUser 128 + c.qos * 8
theorem bI_rng (b : Bool) (n : Int) (h : 0 ≤ n) : 0 ≤ bI b n ∧ bI b n ≤ n := by unfold bI; split <;> omega
theorem cFlags_rng {c : Con} (h : 0 ≤ c.qos ∧ c.qos ≤ 2) : 0 ≤ cFlags c ∧ cFlags c ≤ 255 := by
  unfold cFlags
  have := bI_rng c.clean 2 (by omega); have := bI_rng c.hasWill 4 (by omega); have := bI_rng c.retain 32 (by omega); have := bI_rng c.hasPass 64 (by omega); have := bI_rng c.hasUser 128 (by omega)
  omega

/-- the flags, by the bits -/
def cBits (c : Con) : Int := bits .or .i64 (bits .or .i64 (bits .or .i64 (bits .or .i64 (bits .or .i64 (bI c.clean 2) (bI c.hasWill 4)) (bI c.retain 32)) (bI c.hasPass 64)) (bI c.hasUser 128)) (c.qos * 8)
theorem cBits_eq {c : Con} (h : 0 ≤ c.qos ∧ c.qos ≤ 2) : cBits c = cFlags c := by
  have hq : c.qos = 0 ∨ c.qos = 1 ∨ c.qos = 2 := by omega
  unfold cBits cFlags
  generalize c.clean = a at *
  generalize c.hasWill = b at *
  generalize c.retain = d at *
  generalize c.hasPass = e at *
  generalize c.hasUser = f at *
  rcases hq with hq | hq | hq <;> rw [hq] <;> cases a <;> cases b <;> cases d <;> cases e <;> cases f <;> decide

/-- a text more, if it is there; the first error stays -/
def cStep (st : List UInt8 × Int) (is : Bool) (fe : Int) (fb : List UInt8) : List UInt8 × Int :=
  if is = false then st else if st.2 ≠ 0 then st else if fe = 0 then (st.1 ++ fb, 0) else (st.1, fe)
theorem cStep_bad {st : List UInt8 × Int} (h : st.2 ≠ 0) (is : Bool) (fe : Int) (fb : List UInt8) : cStep st is fe fb = st := by
  unfold cStep; split
  · rfl
  · simp
theorem cStep_no (st : List UInt8 × Int) (fe : Int) (fb : List UInt8) : cStep st false fe fb = st := by unfold cStep; rw [if_pos rfl]
theorem cStep_ok (l : List UInt8) (fb : List UInt8) : cStep (l, 0) true 0 fb = (l ++ fb, 0) := by unfold cStep; simp
theorem cStep_err (l : List UInt8) {fe : Int} (fb : List UInt8) (h : fe ≠ 0) : cStep (l, 0) true fe fb = (l, fe) := by unfold cStep; simp [h]
theorem cStep_len (st : List UInt8 × Int) (is : Bool) (fe : Int) (fb : List UInt8) : (cStep st is fe fb).1.length ≤ st.1.length + fb.length := by
  unfold cStep; repeat' split
  all_goals simp

def cHead (c : Con) : List UInt8 := [0, 4, 77, 81, 84, 84, 4, B8 (cFlags c).toNat, B8 (c.keep.toNat / 256), B8 (c.keep.toNat % 256)]
def cS1 (c : Con) : List UInt8 × Int := cStep (cHead c, 0) true (uPutE (sB c.client)) (uPutB (sB c.client))
def cS2 (c : Con) : List UInt8 × Int := cStep (cS1 c) c.hasWill (uPutE (sB c.topic)) (uPutB (sB c.topic))
def cS3 (c : Con) : List UInt8 × Int := cStep (cS2 c) c.hasWill (uPutRawE (sB c.text)) (uPutRawB (sB c.text))
def cS4 (c : Con) : List UInt8 × Int := cStep (cS3 c) c.hasUser (uPutE (sB c.user)) (uPutB (sB c.user))
def cS5 (c : Con) : List UInt8 × Int := cStep (cS4 c) c.hasPass (uPutRawE (sB c.pass)) (uPutRawB (sB c.pass))
def cPutE (c : Con) : Int := if cErr c ≠ 0 then cErr c else if (cS5 c).2 ≠ 0 then (cS5 c).2 else if 4096 < (cS5 c).1.length then 3 else 0
def cPutB (c : Con) : List UInt8 := if cPutE c = 0 then (cS5 c).1 else []
theorem cS1_bad {c : Con} (h : (cS1 c).2 ≠ 0) : cS5 c = cS1 c := by
  rw [cS5, cS4, cS3, cS2, cStep_bad h, cStep_bad h, cStep_bad h, cStep_bad h]
theorem cS2_bad {c : Con} (h : (cS2 c).2 ≠ 0) : cS5 c = cS2 c := by
  rw [cS5, cS4, cS3, cStep_bad h, cStep_bad h, cStep_bad h]
theorem cS3_bad {c : Con} (h : (cS3 c).2 ≠ 0) : cS5 c = cS3 c := by
  rw [cS5, cS4, cStep_bad h, cStep_bad h]
theorem cS4_bad {c : Con} (h : (cS4 c).2 ≠ 0) : cS5 c = cS4 c := by
  rw [cS5, cStep_bad h]

/-! ### What is answered -/
def aPutE (p : Bool) (k : Int) : Int := if k < 0 ∨ 5 < k then 1 else if p = true ∧ k ≠ 0 then 4 else 0
def aPutB (p : Bool) (k : Int) : List UInt8 := if aPutE p k = 0 then [B8 (bI p 1).toNat, B8 k.toNat] else []
def aOf (l : List UInt8) : Bool × Int × Int :=
  if l.length ≠ 2 ∨ 1 < bN l 0 then (false, 0, 4)
  else if aPutE (decide (bN l 0 = 1)) (bN l 1) ≠ 0 then (false, 0, aPutE (decide (bN l 0 = 1)) (bN l 1))
  else (decide (bN l 0 = 1), bN l 1, 0)
theorem aBack {p : Bool} {k : Int} (h : aPutE p k = 0) : aOf (aPutB p k) = (p, k, 0) := by
  have hk : 0 ≤ k ∧ k ≤ 5 := by
    unfold aPutE at h
    by_cases c : k < 0 ∨ 5 < k
    · rw [if_pos c] at h; simp at h
    · omega
  have e0 : bN (aPutB p k) 0 = (bI p 1).toNat := by
    rw [aPutB, if_pos h]
    have := bI_rng p 1 (by omega)
    exact B8_toNat (by omega)
  have e1 : bN (aPutB p k) 1 = k.toNat := by
    rw [aPutB, if_pos h]
    exact B8_toNat (by omega)
  have e2 : (aPutB p k).length = 2 := by rw [aPutB, if_pos h]; rfl
  have ep : decide ((bI p 1).toNat = 1) = p := by cases p <;> rfl
  have h1 : (bI p 1).toNat ≤ 1 := by cases p <;> decide
  have ek : ((k.toNat : Nat) : Int) = k := by omega
  unfold aOf
  rw [e0, e1, e2, if_neg (by omega), ep, ek, if_neg (by omega)]
end Go.Proofs.YtinfcjnmloglhaaDoor
