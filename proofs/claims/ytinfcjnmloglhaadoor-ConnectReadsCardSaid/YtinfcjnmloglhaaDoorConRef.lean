/- Who comes: what bytes tell, by the reference: the walks (printed by wip/gen/conref.py). -/
import Derived.Test.YtinfcjnmloglhaaDoorConRest
namespace Go.Proofs.YtinfcjnmloglhaaDoor
open Go.RowKit
set_option linter.unusedVariables false
set_option linter.unusedSimpArgs false

def q4 (l : List UInt8) (s : Int × Int) : Int × Int := rTextS (uGet l s.1) true s
def q5 (hw : Bool) (l : List UInt8) (s : Int × Int) : Int × Int := rTextS (uGet l (q4 l s).1) hw (q4 l s)
def q6 (hw : Bool) (l : List UInt8) (s : Int × Int) : Int × Int := rTextS (uGetRaw l (q5 hw l s).1) hw (q5 hw l s)
def q7 (hw hu : Bool) (l : List UInt8) (s : Int × Int) : Int × Int := rTextS (uGet l (q6 hw l s).1) hu (q6 hw l s)
def q8 (hw hu hp : Bool) (l : List UInt8) (s : Int × Int) : Int × Int := rTextS (uGetRaw l (q7 hw hu l s).1) hp (q7 hw hu l s)
def qCon (c : Con) (l : List UInt8) (s : Int × Int) (q : Int) (r : Bool) : Con :=
  ⟨c.level, c.clean, c.keep, sOf (uGet l s.1).1, c.hasWill, if c.hasWill = true then sOf (uGet l (q4 l s).1).1 else c.topic, if c.hasWill = true then sOf (uGetRaw l (q5 c.hasWill l s).1).1 else c.text, if c.hasWill = true then q else c.qos, if c.hasWill = true then r else c.retain,
    c.hasUser, if c.hasUser = true then sOf (uGet l (q6 c.hasWill l s).1).1 else c.user, c.hasPass, if c.hasPass = true then sOf (uGetRaw l (q7 c.hasWill c.hasUser l s).1).1 else c.pass⟩
def qRest (c : Con) (l : List UInt8) (s : Int × Int) (q : Int) (r : Bool) : Con × Int :=
  if (q8 c.hasWill c.hasUser c.hasPass l s).2 ≠ 0 then (Con.zero, (q8 c.hasWill c.hasUser c.hasPass l s).2)
  else if (q8 c.hasWill c.hasUser c.hasPass l s).1 ≠ l.length then (Con.zero, 4) else (qCon c l s q r, 0)

theorem qText_stuck (g : List UInt8 × Int × Int) (is : Bool) {st : Int × Int} (h : st.2 ≠ 0) : rTextS g is st = st := by
  unfold rTextS; repeat' split
  all_goals first | rfl | contradiction
theorem q7_bad {hw hu hp : Bool} {l : List UInt8} {s : Int × Int} (h : (q7 hw hu l s).2 ≠ 0) : q8 hw hu hp l s = q7 hw hu l s := qText_stuck _ _ h
theorem q6_bad {hw hu hp : Bool} {l : List UInt8} {s : Int × Int} (h : (q6 hw l s).2 ≠ 0) : q8 hw hu hp l s = q6 hw l s := by
  have e : q7 hw hu l s = q6 hw l s := qText_stuck _ _ h
  rw [q7_bad (by rw [e]; exact h), e]
theorem q5_bad {hw hu hp : Bool} {l : List UInt8} {s : Int × Int} (h : (q5 hw l s).2 ≠ 0) : q8 hw hu hp l s = q5 hw l s := by
  have e : q6 hw l s = q5 hw l s := qText_stuck _ _ h
  rw [q6_bad (by rw [e]; exact h), e]
theorem q4_bad {hw hu hp : Bool} {l : List UInt8} {s : Int × Int} (h : (q4 l s).2 ≠ 0) : q8 hw hu hp l s = q4 l s := by
  have e : q5 hw l s = q4 l s := qText_stuck _ _ h
  rw [q5_bad (by rw [e]; exact h), e]
theorem qRest_bad {c : Con} {l : List UInt8} {s : Int × Int} {q : Int} {r : Bool} {k : Int × Int} (h : q8 c.hasWill c.hasUser c.hasPass l s = k) (hk : k.2 ≠ 0) : qRest c l s q r = (Con.zero, k.2) := by
  unfold qRest; rw [h, if_pos hk]

def GivesQ (w : World) (r : Con × Int) (e : Ending) (w' : World) : Prop :=
  e = .returned (.tuple #[.agg r.1.cells.toArray, .int .i64 r.2]) ∧ Below w.heap.size w w'

/-- The state of the reference's rest: its result's block, its own. -/
structure RQ (w W : World) (gr gc : Nat) (c : Con) : Prop where
  cr : ConAt W gr Con.zero
  fr : Free W gr
  con : ConAt W gc c
  fc : Free W gc
  b : Below w.heap.size w W
theorem Free.below {w w' : World} {b : Nat} (h : Free w b) (hb : Below w.heap.size w w') (hl : b < w.heap.size) : Free w' b := fun o => (bfree hb _ _ hl).trans (h o)
theorem RQ.call {w W W' : World} {gr gc : Nat} {c : Con} (h : RQ w W gr gc c) (hb : Below W.heap.size W W') : RQ w W' gr gc c :=
  ⟨h.cr.keep hb h.cr.lt, h.fr.below hb h.cr.lt, h.con.keep hb h.con.lt, h.fc.below hb h.con.lt, Below.up h.b hb⟩
theorem RQ.set2 {w W : World} {gr gc : Nat} {c : Con} (h : RQ w W gr gc c) (hne : gr ≠ gc) (hl : w.heap.size ≤ gc) (x : Int) : RQ w (W.setCell ⟨gc, 2, none⟩ (.int .i64 x)) gr gc { c with keep := x } :=
  ⟨h.cr.keeps ((Keeps.refl [gc] W).setCell (.inl (by simp)) _) (by simp [hne]), h.fr.set _ _, h.con.set2 x, h.fc.set _ _, h.b.setCell hl _⟩
theorem RQ.set3 {w W : World} {gr gc : Nat} {c : Con} (h : RQ w W gr gc c) (hne : gr ≠ gc) (hl : w.heap.size ≤ gc) (x : ByteArray) : RQ w (W.setCell ⟨gc, 3, none⟩ (.string x)) gr gc { c with client := x } :=
  ⟨h.cr.keeps ((Keeps.refl [gc] W).setCell (.inl (by simp)) _) (by simp [hne]), h.fr.set _ _, h.con.set3 x, h.fc.set _ _, h.b.setCell hl _⟩
theorem RQ.set5 {w W : World} {gr gc : Nat} {c : Con} (h : RQ w W gr gc c) (hne : gr ≠ gc) (hl : w.heap.size ≤ gc) (x : ByteArray) : RQ w (W.setCell ⟨gc, 5, none⟩ (.string x)) gr gc { c with topic := x } :=
  ⟨h.cr.keeps ((Keeps.refl [gc] W).setCell (.inl (by simp)) _) (by simp [hne]), h.fr.set _ _, h.con.set5 x, h.fc.set _ _, h.b.setCell hl _⟩
theorem RQ.set6 {w W : World} {gr gc : Nat} {c : Con} (h : RQ w W gr gc c) (hne : gr ≠ gc) (hl : w.heap.size ≤ gc) (x : ByteArray) : RQ w (W.setCell ⟨gc, 6, none⟩ (.string x)) gr gc { c with text := x } :=
  ⟨h.cr.keeps ((Keeps.refl [gc] W).setCell (.inl (by simp)) _) (by simp [hne]), h.fr.set _ _, h.con.set6 x, h.fc.set _ _, h.b.setCell hl _⟩
theorem RQ.set7 {w W : World} {gr gc : Nat} {c : Con} (h : RQ w W gr gc c) (hne : gr ≠ gc) (hl : w.heap.size ≤ gc) (x : Int) : RQ w (W.setCell ⟨gc, 7, none⟩ (.int .i64 x)) gr gc { c with qos := x } :=
  ⟨h.cr.keeps ((Keeps.refl [gc] W).setCell (.inl (by simp)) _) (by simp [hne]), h.fr.set _ _, h.con.set7 x, h.fc.set _ _, h.b.setCell hl _⟩
theorem RQ.set8 {w W : World} {gr gc : Nat} {c : Con} (h : RQ w W gr gc c) (hne : gr ≠ gc) (hl : w.heap.size ≤ gc) (x : Bool) : RQ w (W.setCell ⟨gc, 8, none⟩ (.bool x)) gr gc { c with retain := x } :=
  ⟨h.cr.keeps ((Keeps.refl [gc] W).setCell (.inl (by simp)) _) (by simp [hne]), h.fr.set _ _, h.con.set8 x, h.fc.set _ _, h.b.setCell hl _⟩
theorem RQ.set10 {w W : World} {gr gc : Nat} {c : Con} (h : RQ w W gr gc c) (hne : gr ≠ gc) (hl : w.heap.size ≤ gc) (x : ByteArray) : RQ w (W.setCell ⟨gc, 10, none⟩ (.string x)) gr gc { c with user := x } :=
  ⟨h.cr.keeps ((Keeps.refl [gc] W).setCell (.inl (by simp)) _) (by simp [hne]), h.fr.set _ _, h.con.set10 x, h.fc.set _ _, h.b.setCell hl _⟩
theorem RQ.set12 {w W : World} {gr gc : Nat} {c : Con} (h : RQ w W gr gc c) (hne : gr ≠ gc) (hl : w.heap.size ≤ gc) (x : ByteArray) : RQ w (W.setCell ⟨gc, 12, none⟩ (.string x)) gr gc { c with pass := x } :=
  ⟨h.cr.keeps ((Keeps.refl [gc] W).setCell (.inl (by simp)) _) (by simp [hne]), h.fr.set _ _, h.con.set12 x, h.fc.set _ _, h.b.setCell hl _⟩
theorem ConAt.put {W : World} {b : Nat} {c0 : Con} (h : ConAt W b c0) (c : Con) : ConAt (((((((((((((W.setCell ⟨b, 0, none⟩ (.int .i64 c.level)).setCell ⟨b, 1, none⟩ (.bool c.clean)).setCell ⟨b, 2, none⟩ (.int .i64 c.keep)).setCell ⟨b, 3, none⟩ (.string c.client)).setCell ⟨b, 4, none⟩ (.bool c.hasWill)).setCell ⟨b, 5, none⟩ (.string c.topic)).setCell ⟨b, 6, none⟩ (.string c.text)).setCell ⟨b, 7, none⟩ (.int .i64 c.qos)).setCell ⟨b, 8, none⟩ (.bool c.retain)).setCell ⟨b, 9, none⟩ (.bool c.hasUser)).setCell ⟨b, 10, none⟩ (.string c.user)).setCell ⟨b, 11, none⟩ (.bool c.hasPass)).setCell ⟨b, 12, none⟩ (.string c.pass)) b c :=
  (((((((((((((h.set0 c.level).set1 c.clean).set2 c.keep).set3 c.client).set4 c.hasWill).set5 c.topic).set6 c.text).set7 c.qos).set8 c.retain).set9 c.hasUser).set10 c.user).set11 c.hasPass).set12 c.pass)
theorem below_put {w W : World} {b : Nat} (h : Below w.heap.size w W) (hb : w.heap.size ≤ b) (c : Con) : Below w.heap.size w (((((((((((((W.setCell ⟨b, 0, none⟩ (.int .i64 c.level)).setCell ⟨b, 1, none⟩ (.bool c.clean)).setCell ⟨b, 2, none⟩ (.int .i64 c.keep)).setCell ⟨b, 3, none⟩ (.string c.client)).setCell ⟨b, 4, none⟩ (.bool c.hasWill)).setCell ⟨b, 5, none⟩ (.string c.topic)).setCell ⟨b, 6, none⟩ (.string c.text)).setCell ⟨b, 7, none⟩ (.int .i64 c.qos)).setCell ⟨b, 8, none⟩ (.bool c.retain)).setCell ⟨b, 9, none⟩ (.bool c.hasUser)).setCell ⟨b, 10, none⟩ (.string c.user)).setCell ⟨b, 11, none⟩ (.bool c.hasPass)).setCell ⟨b, 12, none⟩ (.string c.pass)) := by
  iterate 13 refine Below.setCell ?_ hb _
  exact h

theorem qRead {w' : World} {gr : Nat} {tmps : Array Value} {C : Con} {x : Int} (h2 : tmps[10]?.getD undef = .pointer (some ⟨gr, 0, none⟩)) (h3 : tmps[11]?.getD undef = .int .i64 x) (hc : ConAt w' gr C) :
    (results Tryd.f66 tmps).run Tryd.prog w' = .ok (.tuple #[.agg C.cells.toArray, .int .i64 x]) w' := by
  simp only [ConAt] at hc
  obtain ⟨d0, d1, d2, d3, d4, d5, d6, d7, d8, d9, d10, d11, d12, dl⟩ := hc
  simp [results, Tryd.results66, go_sem, h2, h3, d0, d1, d2, d3, d4, d5, d6, d7, d8, d9, d10, d11, d12, Con.cells]

theorem qDone {w w' : World} {C X : Con} {l : List UInt8} {s : Int × Int} {q : Int} {r : Bool} {e : Int} (h : qRest C l s q r = (X, e)) (hb : Below w.heap.size w w') : GivesQ w (qRest C l s q r) (.returned (.tuple #[.agg X.cells.toArray, .int .i64 e])) w' := by
  unfold GivesQ; rw [h]; exact ⟨rfl, hb⟩
theorem qRest_form {c : Con} {l : List UInt8} {s : Int × Int} {q : Int} {r : Bool} {n : Int} (h : q8 c.hasWill c.hasUser c.hasPass l s = (n, 0)) (hk : n ≠ l.length) : qRest c l s q r = (Con.zero, 4) := by
  unfold qRest; rw [h, if_neg (by simp), if_pos hk]
theorem qRest_ok {c : Con} {l : List UInt8} {s : Int × Int} {q : Int} {r : Bool} {n : Int} (h : q8 c.hasWill c.hasUser c.hasPass l s = (n, 0)) (hk : n = l.length) : qRest c l s q r = (qCon c l s q r, 0) := by
  unfold qRest; rw [h, if_neg (by simp), if_neg (by simp [hk])]
theorem q5_on {l : List UInt8} {s : Int × Int} {n : Int} (h : q4 l s = (n, 0)) : q5 true l s = ((uGet l n).2.1, (uGet l n).2.2) := by unfold q5; rw [h]; rfl
theorem q6_on {l : List UInt8} {s : Int × Int} {n : Int} (h : q5 true l s = (n, 0)) : q6 true l s = ((uGetRaw l n).2.1, (uGetRaw l n).2.2) := by unfold q6; rw [h]; rfl
theorem q7_on {hw : Bool} {l : List UInt8} {s : Int × Int} {n : Int} (h : q6 hw l s = (n, 0)) : q7 hw true l s = ((uGet l n).2.1, (uGet l n).2.2) := by unfold q7; rw [h]; rfl
theorem q8_on {hw hu : Bool} {l : List UInt8} {s : Int × Int} {n : Int} (h : q7 hw hu l s = (n, 0)) : q8 hw hu true l s = ((uGetRaw l n).2.1, (uGetRaw l n).2.2) := by unfold q8; rw [h]; rfl
theorem q6_off (l : List UInt8) (s : Int × Int) : q6 false l s = q4 l s := rfl
theorem q7_off (hw : Bool) (l : List UInt8) (s : Int × Int) : q7 hw false l s = q6 hw l s := rfl
theorem q8_off (hw hu : Bool) (l : List UInt8) (s : Int × Int) : q8 hw hu false l s = q7 hw hu l s := rfl

end Go.Proofs.YtinfcjnmloglhaaDoor
