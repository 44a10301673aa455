/- A bundle of texts (merged for the limit on files): PacLaw1, ConRef, ConRefPlain. -/
import Derived.Test.YtjlnlgemngpelaaGreatDoorZa19
import Derived.Test.YtjlnlgemngpelaaGreatDoorZa23
import Derived.Test.YtjlnlgemngpelaaGreatDoorZa26
import Derived.Test.YtjlnlgemngpelaaGreatDoorZa9
import Derived.Test.YtjlnlgemngpelaaGreatDoorZa10
/- Packets: any packet as bytes: the law's walk. -/
namespace Go.Proofs.YtjlnlgemngpelaaGreatDoor
open Go.RowKit
set_option linter.unusedVariables false
set_option linter.unusedSimpArgs false

theorem Pac.info (p : Pac) (vf vc : Value) : (Tryz.prog.info? 36).map (·.size) = some (p.cells vf vc).length := info_pac
theorem PacOk.below {B : Nat} {w w' : World} {p : Pac} {vf vc : Value} (h : PacOk w p vf vc) (hb : Below B w w') (hB : w.heap.size ≤ B) : PacOk w' p vf vc := ⟨h.rd.below hb hB, h.sized⟩
def pac5 : Pac := { zP 4 with id := 5 }
theorem pac5_ok (w : World) : PacOk w pac5 Nl Nl := ⟨⟨Ws.nil _, Is.nil _, by simp [pac5, zP, Pac.zero], by simp [pac5, zP, Pac.zero]⟩, ⟨Nat.zero_le _, Nat.zero_le _, ⟨Nat.zero_le _, Nat.zero_le _, Nat.zero_le _, Nat.zero_le _, Nat.zero_le _⟩, by simp [pac5, zP, Pac.zero]⟩⟩
theorem pac5_put : paPutB pac5 = [64, 2, 0, 5] ∧ paPutE pac5 = 0 := by decide +kernel
end Go.Proofs.YtjlnlgemngpelaaGreatDoor

/- Who comes: what bytes tell, by the reference: the walks (printed by wip/gen/conref.py). -/
namespace Go.Proofs.YtjlnlgemngpelaaGreatDoor
open Go.RowKit
set_option linter.unusedVariables false
set_option linter.unusedSimpArgs false

def q4 (l : List UInt8) (s : Int × Int) : Int × Int := rTextS (uGet l s.1) true s
def q5 (hw : Bool) (l : List UInt8) (s : Int × Int) : Int × Int := rTextS (uGet l (q4 l s).1) hw (q4 l s)
def q6 (hw : Bool) (l : List UInt8) (s : Int × Int) : Int × Int := rTextS (uGetRaw l (q5 hw l s).1) hw (q5 hw l s)
def q7 (hw hu : Bool) (l : List UInt8) (s : Int × Int) : Int × Int := rTextS (uGet l (q6 hw l s).1) hu (q6 hw l s)
def q8 (hw hu hp : Bool) (l : List UInt8) (s : Int × Int) : Int × Int := rTextS (uGetRaw l (q7 hw hu l s).1) hp (q7 hw hu l s)
def qCon (c : Con) (l : List UInt8) (s : Int × Int) (q : Int) (r : Bool) : Con :=
  ⟨c.level, c.clean, c.keep, sOf (uGet l s.1).1, c.hasWill, if c.hasWill = true then sOf (uGet l (q4 l s).1).1 else c.topic, if c.hasWill = true then sOf (uGetRaw l (q5 c.hasWill l s).1).1 else c.text, if c.hasWill = true then q else c.qos, if c.hasWill = true then r else c.retain,
    c.hasUser, if c.hasUser = true then sOf (uGet l (q6 c.hasWill l s).1).1 else c.user, c.hasPass, if c.hasPass = true then sOf (uGetRaw l (q7 c.hasWill c.hasUser l s).1).1 else c.pass⟩
def qRest (c : Con) (l : List UInt8) (s : Int × Int) (q : Int) (r : Bool) : Con × Int :=
  if (q8 c.hasWill c.hasUser c.hasPass l s).2 ≠ 0 then (Con.zero, (q8 c.hasWill c.hasUser c.hasPass l s).2)
  else if (q8 c.hasWill c.hasUser c.hasPass l s).1 ≠ l.length then (Con.zero, 4) else (qCon c l s q r, 0)

theorem qText_stuck (g : List UInt8 × Int × Int) (is : Bool) {st : Int × Int} (h : st.2 ≠ 0) : rTextS g is st = st := by
  unfold rTextS; repeat' split
  all_goals first | rfl | contradiction
theorem q7_bad {hw hu hp : Bool} {l : List UInt8} {s : Int × Int} (h : (q7 hw hu l s).2 ≠ 0) : q8 hw hu hp l s = q7 hw hu l s := qText_stuck _ _ h
theorem q6_bad {hw hu hp : Bool} {l : List UInt8} {s : Int × Int} (h : (q6 hw l s).2 ≠ 0) : q8 hw hu hp l s = q6 hw l s := by
  have e : q7 hw hu l s = q6 hw l s := qText_stuck _ _ h
  rw [q7_bad (by rw [e]; exact h), e]
theorem q5_bad {hw hu hp : Bool} {l : List UInt8} {s : Int × Int} (h : (q5 hw l s).2 ≠ 0) : q8 hw hu hp l s = q5 hw l s := by
  have e : q6 hw l s = q5 hw l s := qText_stuck _ _ h
  rw [q6_bad (by rw [e]; exact h), e]
theorem q4_bad {hw hu hp : Bool} {l : List UInt8} {s : Int × Int} (h : (q4 l s).2 ≠ 0) : q8 hw hu hp l s = q4 l s := by
  have e : q5 hw l s = q4 l s := qText_stuck _ _ h
  rw [q5_bad (by rw [e]; exact h), e]
theorem qRest_bad {c : Con} {l : List UInt8} {s : Int × Int} {q : Int} {r : Bool} {k : Int × Int} (h : q8 c.hasWill c.hasUser c.hasPass l s = k) (hk : k.2 ≠ 0) : qRest c l s q r = (Con.zero, k.2) := by
  unfold qRest; rw [h, if_pos hk]

def GivesQ (w : World) (r : Con × Int) (e : Ending) (w' : World) : Prop :=
  e = .returned (.tuple #[.agg r.1.cells.toArray, .int .i64 r.2]) ∧ Below w.heap.size w w'

/-- The state of the reference's rest: its result's block, its own. -/
structure RQ (w W : World) (gr gc : Nat) (c : Con) : Prop where
  cr : ConAt W gr Con.zero
  fr : Free W gr
  con : ConAt W gc c
  fc : Free W gc
  b : Below w.heap.size w W
theorem Free.below {w w' : World} {b : Nat} (h : Free w b) (hb : Below w.heap.size w w') (hl : b < w.heap.size) : Free w' b := fun o => (bfree hb _ _ hl).trans (h o)
theorem RQ.call {w W W' : World} {gr gc : Nat} {c : Con} (h : RQ w W gr gc c) (hb : Below W.heap.size W W') : RQ w W' gr gc c :=
  ⟨h.cr.keep hb h.cr.lt, h.fr.below hb h.cr.lt, h.con.keep hb h.con.lt, h.fc.below hb h.con.lt, Below.up h.b hb⟩
theorem RQ.set2 {w W : World} {gr gc : Nat} {c : Con} (h : RQ w W gr gc c) (hne : gr ≠ gc) (hl : w.heap.size ≤ gc) (x : Int) : RQ w (W.setCell ⟨gc, 2, none⟩ (.int .i64 x)) gr gc { c with keep := x } :=
  ⟨h.cr.keeps ((Keeps.refl [gc] W).setCell (.inl (by simp)) _) (by simp [hne]), h.fr.set _ _, h.con.set2 x, h.fc.set _ _, h.b.setCell hl _⟩
theorem RQ.set3 {w W : World} {gr gc : Nat} {c : Con} (h : RQ w W gr gc c) (hne : gr ≠ gc) (hl : w.heap.size ≤ gc) (x : ByteArray) : RQ w (W.setCell ⟨gc, 3, none⟩ (.string x)) gr gc { c with client := x } :=
  ⟨h.cr.keeps ((Keeps.refl [gc] W).setCell (.inl (by simp)) _) (by simp [hne]), h.fr.set _ _, h.con.set3 x, h.fc.set _ _, h.b.setCell hl _⟩
theorem RQ.set5 {w W : World} {gr gc : Nat} {c : Con} (h : RQ w W gr gc c) (hne : gr ≠ gc) (hl : w.heap.size ≤ gc) (x : ByteArray) : RQ w (W.setCell ⟨gc, 5, none⟩ (.string x)) gr gc { c with topic := x } :=
  ⟨h.cr.keeps ((Keeps.refl [gc] W).setCell (.inl (by simp)) _) (by simp [hne]), h.fr.set _ _, h.con.set5 x, h.fc.set _ _, h.b.setCell hl _⟩
theorem RQ.set6 {w W : World} {gr gc : Nat} {c : Con} (h : RQ w W gr gc c) (hne : gr ≠ gc) (hl : w.heap.size ≤ gc) (x : ByteArray) : RQ w (W.setCell ⟨gc, 6, none⟩ (.string x)) gr gc { c with text := x } :=
  ⟨h.cr.keeps ((Keeps.refl [gc] W).setCell (.inl (by simp)) _) (by simp [hne]), h.fr.set _ _, h.con.set6 x, h.fc.set _ _, h.b.setCell hl _⟩
theorem RQ.set7 {w W : World} {gr gc : Nat} {c : Con} (h : RQ w W gr gc c) (hne : gr ≠ gc) (hl : w.heap.size ≤ gc) (x : Int) : RQ w (W.setCell ⟨gc, 7, none⟩ (.int .i64 x)) gr gc { c with qos := x } :=
  ⟨h.cr.keeps ((Keeps.refl [gc] W).setCell (.inl (by simp)) _) (by simp [hne]), h.fr.set _ _, h.con.set7 x, h.fc.set _ _, h.b.setCell hl _⟩
theorem RQ.set8 {w W : World} {gr gc : Nat} {c : Con} (h : RQ w W gr gc c) (hne : gr ≠ gc) (hl : w.heap.size ≤ gc) (x : Bool) : RQ w (W.setCell ⟨gc, 8, none⟩ (.bool x)) gr gc { c with retain := x } :=
  ⟨h.cr.keeps ((Keeps.refl [gc] W).setCell (.inl (by simp)) _) (by simp [hne]), h.fr.set _ _, h.con.set8 x, h.fc.set _ _, h.b.setCell hl _⟩
theorem RQ.set10 {w W : World} {gr gc : Nat} {c : Con} (h : RQ w W gr gc c) (hne : gr ≠ gc) (hl : w.heap.size ≤ gc) (x : ByteArray) : RQ w (W.setCell ⟨gc, 10, none⟩ (.string x)) gr gc { c with user := x } :=
  ⟨h.cr.keeps ((Keeps.refl [gc] W).setCell (.inl (by simp)) _) (by simp [hne]), h.fr.set _ _, h.con.set10 x, h.fc.set _ _, h.b.setCell hl _⟩
theorem RQ.set12 {w W : World} {gr gc : Nat} {c : Con} (h : RQ w W gr gc c) (hne : gr ≠ gc) (hl : w.heap.size ≤ gc) (x : ByteArray) : RQ w (W.setCell ⟨gc, 12, none⟩ (.string x)) gr gc { c with pass := x } :=
  ⟨h.cr.keeps ((Keeps.refl [gc] W).setCell (.inl (by simp)) _) (by simp [hne]), h.fr.set _ _, h.con.set12 x, h.fc.set _ _, h.b.setCell hl _⟩
theorem ConAt.put {W : World} {b : Nat} {c0 : Con} (h : ConAt W b c0) (c : Con) : ConAt (((((((((((((W.setCell ⟨b, 0, none⟩ (.int .i64 c.level)).setCell ⟨b, 1, none⟩ (.bool c.clean)).setCell ⟨b, 2, none⟩ (.int .i64 c.keep)).setCell ⟨b, 3, none⟩ (.string c.client)).setCell ⟨b, 4, none⟩ (.bool c.hasWill)).setCell ⟨b, 5, none⟩ (.string c.topic)).setCell ⟨b, 6, none⟩ (.string c.text)).setCell ⟨b, 7, none⟩ (.int .i64 c.qos)).setCell ⟨b, 8, none⟩ (.bool c.retain)).setCell ⟨b, 9, none⟩ (.bool c.hasUser)).setCell ⟨b, 10, none⟩ (.string c.user)).setCell ⟨b, 11, none⟩ (.bool c.hasPass)).setCell ⟨b, 12, none⟩ (.string c.pass)) b c :=
  (((((((((((((h.set0 c.level).set1 c.clean).set2 c.keep).set3 c.client).set4 c.hasWill).set5 c.topic).set6 c.text).set7 c.qos).set8 c.retain).set9 c.hasUser).set10 c.user).set11 c.hasPass).set12 c.pass)
theorem below_put {w W : World} {b : Nat} (h : Below w.heap.size w W) (hb : w.heap.size ≤ b) (c : Con) : Below w.heap.size w (((((((((((((W.setCell ⟨b, 0, none⟩ (.int .i64 c.level)).setCell ⟨b, 1, none⟩ (.bool c.clean)).setCell ⟨b, 2, none⟩ (.int .i64 c.keep)).setCell ⟨b, 3, none⟩ (.string c.client)).setCell ⟨b, 4, none⟩ (.bool c.hasWill)).setCell ⟨b, 5, none⟩ (.string c.topic)).setCell ⟨b, 6, none⟩ (.string c.text)).setCell ⟨b, 7, none⟩ (.int .i64 c.qos)).setCell ⟨b, 8, none⟩ (.bool c.retain)).setCell ⟨b, 9, none⟩ (.bool c.hasUser)).setCell ⟨b, 10, none⟩ (.string c.user)).setCell ⟨b, 11, none⟩ (.bool c.hasPass)).setCell ⟨b, 12, none⟩ (.string c.pass)) := by
  iterate 13 refine Below.setCell ?_ hb _
  exact h

theorem qRead {w' : World} {gr : Nat} {tmps : Array Value} {C : Con} {x : Int} (h2 : tmps[10]?.getD undef = .pointer (some ⟨gr, 0, none⟩)) (h3 : tmps[11]?.getD undef = .int .i64 x) (hc : ConAt w' gr C) :
    (results Tryz.f135 tmps).run Tryz.prog w' = .ok (.tuple #[.agg C.cells.toArray, .int .i64 x]) w' := by
  simp only [ConAt] at hc
  obtain ⟨d0, d1, d2, d3, d4, d5, d6, d7, d8, d9, d10, d11, d12, dl⟩ := hc
  simp [results, Tryz.results135, go_sem, h2, h3, d0, d1, d2, d3, d4, d5, d6, d7, d8, d9, d10, d11, d12, Con.cells]

theorem qDone {w w' : World} {C X : Con} {l : List UInt8} {s : Int × Int} {q : Int} {r : Bool} {e : Int} (h : qRest C l s q r = (X, e)) (hb : Below w.heap.size w w') : GivesQ w (qRest C l s q r) (.returned (.tuple #[.agg X.cells.toArray, .int .i64 e])) w' := by
  unfold GivesQ; rw [h]; exact ⟨rfl, hb⟩
theorem qRest_form {c : Con} {l : List UInt8} {s : Int × Int} {q : Int} {r : Bool} {n : Int} (h : q8 c.hasWill c.hasUser c.hasPass l s = (n, 0)) (hk : n ≠ l.length) : qRest c l s q r = (Con.zero, 4) := by
  unfold qRest; rw [h, if_neg (by simp), if_pos hk]
theorem qRest_ok {c : Con} {l : List UInt8} {s : Int × Int} {q : Int} {r : Bool} {n : Int} (h : q8 c.hasWill c.hasUser c.hasPass l s = (n, 0)) (hk : n = l.length) : qRest c l s q r = (qCon c l s q r, 0) := by
  unfold qRest; rw [h, if_neg (by simp), if_neg (by simp [hk])]
theorem q5_on {l : List UInt8} {s : Int × Int} {n : Int} (h : q4 l s = (n, 0)) : q5 true l s = ((uGet l n).2.1, (uGet l n).2.2) := by unfold q5; rw [h]; rfl
theorem q6_on {l : List UInt8} {s : Int × Int} {n : Int} (h : q5 true l s = (n, 0)) : q6 true l s = ((uGetRaw l n).2.1, (uGetRaw l n).2.2) := by unfold q6; rw [h]; rfl
theorem q7_on {hw : Bool} {l : List UInt8} {s : Int × Int} {n : Int} (h : q6 hw l s = (n, 0)) : q7 hw true l s = ((uGet l n).2.1, (uGet l n).2.2) := by unfold q7; rw [h]; rfl
theorem q8_on {hw hu : Bool} {l : List UInt8} {s : Int × Int} {n : Int} (h : q7 hw hu l s = (n, 0)) : q8 hw hu true l s = ((uGetRaw l n).2.1, (uGetRaw l n).2.2) := by unfold q8; rw [h]; rfl
theorem q6_off (l : List UInt8) (s : Int × Int) : q6 false l s = q4 l s := rfl
theorem q7_off (hw : Bool) (l : List UInt8) (s : Int × Int) : q7 hw false l s = q6 hw l s := rfl
theorem q8_off (hw hu : Bool) (l : List UInt8) (s : Int × Int) : q8 hw hu false l s = q7 hw hu l s := rfl

end Go.Proofs.YtjlnlgemngpelaaGreatDoor

/- Who comes: what bytes tell, by the reference: plain laws: the program answers so. -/
namespace Go.Proofs.YtjlnlgemngpelaaGreatDoor
open Go.RowKit
set_option linter.unusedVariables false
set_option linter.unusedSimpArgs false

theorem k9_of3 {l : List UInt8} {s : Int × Int} (h : (k3 l s).2 ≠ 0) : k9 l s = k3 l s := by
  have e4 : k4 l s = k3 l s := qText_stuck _ _ h
  have e5 : k5 l s = k3 l s := by unfold k5; rw [e4]; exact qText_stuck _ _ h
  have e6 : k6 l s = k3 l s := by unfold k6; rw [e5]; exact qText_stuck _ _ h
  have e7 : k7 l s = k3 l s := by unfold k7; rw [e6]; exact qText_stuck _ _ h
  have e8 : k8 l s = k3 l s := by unfold k8; rw [e7]; exact qText_stuck _ _ h
  unfold k9
  rw [e8, if_neg (by simp [h])]
theorem k9_of2 {l : List UInt8} {s : Int × Int} (h : (k2 l s).2 ≠ 0) : k9 l s = k2 l s := by
  have e3 : k3 l s = k2 l s := by unfold k3 rTwoS; rw [if_pos h]
  rw [k9_of3 (by rw [e3]; exact h), e3]
theorem k9_of1 {l : List UInt8} {s : Int × Int} (h : (k1 l s).2 ≠ 0) : k9 l s = k1 l s := by
  have e2 : k2 l s = k1 l s := by unfold k2; rw [if_neg (by simp [h])]
  rw [k9_of2 (by rw [e2]; exact h), e2]

/-! ### what Of answers, step by step -/
theorem cOf_get {l : List UInt8} {e : Int} (h : (uGet l 0).2.2 = e) (he : e ≠ 0) : cOf l = (Con.zero, e) := by
  have hn : cNm l = [] := uGet_bad (by rw [h]; exact he)
  have ht : (cT0 l).2 = e := h
  unfold cOf
  rw [if_pos (by rw [hn]; simp)]
  unfold cFin rFail
  rw [if_neg (by simp [ht, he])]
  simp [ht, he]
theorem cOf_name {l : List UInt8} (h : (uGet l 0).2.2 = 0) (hn : (uGet l 0).1 ≠ [77, 81, 84, 84]) : cOf l = (Con.zero, 15) := by
  have ht : (cT0 l).2 = 0 := h
  unfold cOf
  rw [if_pos (show cNm l ≠ _ from hn)]
  unfold cFin rFail
  rw [if_pos ht]
  rfl
theorem cOf_lv {l : List UInt8} {n : Int} (h : uGet l 0 = ([77, 81, 84, 84], n, 0)) (hl : (l.length : Int) ≤ n) : cOf l = (Con.zero, 2) := by
  have hn : cNm l = [77, 81, 84, 84] := by unfold cNm; rw [h]; rfl
  have ht : cT0 l = (n, 0) := by unfold cT0; rw [h]; rfl
  have hv : cLv l = 0 := by unfold cLv rOneV; rw [ht, if_neg (by simp), if_pos hl]
  have h1 : cT1 l = (n, 2) := by unfold cT1 rOneS; rw [ht, if_neg (by simp), if_pos hl]
  unfold cOf
  rw [if_neg (by simp [hn]), hv, if_neg (by decide), h1]
  rfl
theorem cOf_lv4 {l : List UInt8} {n : Int} (h : uGet l 0 = ([77, 81, 84, 84], n, 0)) (hl : n < l.length) (hb : (bN l n.toNat : Int) ≠ 4) : cOf l = ({ Con.zero with level := (bN l n.toNat : Int) }, 0) := by
  have hn : cNm l = [77, 81, 84, 84] := by unfold cNm; rw [h]; rfl
  have ht : cT0 l = (n, 0) := by unfold cT0; rw [h]; rfl
  have hv : cLv l = bN l n.toNat := by unfold cLv rOneV; rw [ht, if_neg (by simp), if_neg (by simp only; omega)]
  have h1 : cT1 l = (n + 1, 0) := by unfold cT1 rOneS; rw [ht, if_neg (by simp), if_neg (by simp only; omega)]
  unfold cOf
  rw [if_neg (by simp [hn]), hv, if_neg hb, h1]
  rfl
/-- level 4: the rest tells -/
theorem cOf_4 {l : List UInt8} {n : Int} (h : uGet l 0 = ([77, 81, 84, 84], n, 0)) (hl : n < l.length) (hb : (bN l n.toNat : Int) = 4) : cOf l = cFin (kCon 4 l (n + 1, 0)) (k9 l (n + 1, 0)) := by
  have hn : cNm l = [77, 81, 84, 84] := by unfold cNm; rw [h]; rfl
  have ht : cT0 l = (n, 0) := by unfold cT0; rw [h]; rfl
  have hv : cLv l = bN l n.toNat := by unfold cLv rOneV; rw [ht, if_neg (by simp), if_neg (by simp only; omega)]
  have h1 : cT1 l = (n + 1, 0) := by unfold cT1 rOneS; rw [ht, if_neg (by simp), if_neg (by simp only; omega)]
  unfold cOf
  rw [if_neg (by simp [hn]), hv, if_pos hb, h1]
theorem cFin_bad {C : Con} {s : Int × Int} (h : s.2 ≠ 0) : cFin C s = (Con.zero, s.2) := by unfold cFin; rw [if_neg h]
theorem c4_short {l : List UInt8} {n : Int} (hl : (l.length : Int) ≤ n) : cFin (kCon 4 l (n, 0)) (k9 l (n, 0)) = (Con.zero, 2) := by
  have h1 : k1 l (n, 0) = (n, 2) := by unfold k1 rOneS; rw [if_neg (by simp), if_pos hl]
  rw [k9_of1 (by rw [h1]; simp), h1]
  rfl
theorem kf_is {l : List UInt8} {n : Int} (hl : n < l.length) : kf l (n, 0) = bN l n.toNat := by unfold kf rOneV; rw [if_neg (by simp), if_neg (by simp only; omega)]
theorem k1_is {l : List UInt8} {n : Int} (hl : n < l.length) : k1 l (n, 0) = (n + 1, 0) := by unfold k1 rOneS; rw [if_neg (by simp), if_neg (by simp only; omega)]
theorem c4_flags {l : List UInt8} {n : Int} (hl : n < l.length) (hm : cMay (bN l n.toNat) = false) : cFin (kCon 4 l (n, 0)) (k9 l (n, 0)) = (Con.zero, 10) := by
  have h2 : k2 l (n, 0) = (n + 1, 10) := by unfold k2; rw [k1_is hl, kf_is hl, hm, if_pos ⟨rfl, rfl⟩]; rfl
  rw [k9_of2 (by rw [h2]; simp), h2]
  rfl
theorem k2_is {l : List UInt8} {n : Int} (hl : n < l.length) (hm : cMay (bN l n.toNat) = true) : k2 l (n, 0) = (n + 1, 0) := by
  unfold k2; rw [k1_is hl, kf_is hl, hm, if_neg (by simp)]
theorem k3_is {l : List UInt8} {n : Int} (hl : n < l.length) (hm : cMay (bN l n.toNat) = true) : k3 l (n, 0) = ((uGet2 l (n + 1)).2.1, (uGet2 l (n + 1)).2.2) := by
  unfold k3; rw [k2_is hl hm]; rfl
theorem c4_two {l : List UInt8} {n : Int} (hl : n < l.length) (hm : cMay (bN l n.toNat) = true) (he : (uGet2 l (n + 1)).2.2 ≠ 0) : cFin (kCon 4 l (n, 0)) (k9 l (n, 0)) = (Con.zero, (uGet2 l (n + 1)).2.2) := by
  have h3 := k3_is hl hm
  rw [k9_of3 (by rw [h3]; exact he), h3]
  exact cFin_bad he

/-- the flags' bits as the reference reads them -/
theorem fb_of {f : Int} (h0 : 0 ≤ f) (h1 : f ≤ 255) : fb f 2 = (f / 2 % 2 == 1) ∧ fb f 4 = (f / 4 % 2 == 1) ∧ fb f 32 = (f / 32 % 2 == 1) ∧ fb f 64 = (f / 64 % 2 == 1) ∧ fb f 128 = decide (128 ≤ f) := by
  obtain ⟨-, b2, b4, b32, b64, b128, -⟩ := bits_of h0 h1
  unfold fb
  rw [b2, b4, b32, b64, b128]
  have c : ∀ x : Int, x = 0 ∨ x = 1 → ∀ k : Int, 0 < k → (x * k != 0) = (x == 1) := by
    intro x hx k hk
    rcases hx with rfl | rfl
    · simp
    · have : k ≠ 0 := by omega
      simp [this]
  refine ⟨c _ (by omega) 2 (by omega), c _ (by omega) 4 (by omega), c _ (by omega) 32 (by omega), c _ (by omega) 64 (by omega), ?_⟩
  rw [c _ (by omega) 128 (by omega)]
  by_cases h : 128 ≤ f
  · rw [decide_eq_true h]; have : f / 128 % 2 = 1 := by omega
    rw [this]; rfl
  · rw [decide_eq_false h]; have : f / 128 % 2 = 0 := by omega
    rw [this]; rfl

/-- WHAT STANDS BEHIND KEEP: the program's answer is the reference's. -/
theorem c4_rest {l : List UInt8} {n m N : Int} (hl : n < l.length) (hm : cMay (bN l n.toNat) = true) (hg : uGet2 l (n + 1) = (N, m, 0)) :
    cFin (kCon 4 l (n, 0)) (k9 l (n, 0)) = qRest ⟨4, fb (bN l n.toNat) 2, N, ⟨#[]⟩, fb (bN l n.toNat) 4, ⟨#[]⟩, ⟨#[]⟩, 0, false, fb (bN l n.toNat) 128, ⟨#[]⟩, fb (bN l n.toNat) 64, ⟨#[]⟩⟩ l (m, 0) (bits .and .i64 ((bN l n.toNat : Int) / 8) 3) (fb (bN l n.toNat) 32) := by
  have h3 := k3_is hl hm
  rw [hg] at h3
  have hf := kf_is hl
  have hN : rTwoV l (k2 l (n, 0)) = N := by rw [k2_is hl hm]; unfold rTwoV; rw [if_neg (by simp)]; simp only; rw [hg]
  have e4 : k4 l (n, 0) = q4 l (m, 0) := by unfold k4; rw [h3]; rfl
  have e5 : k5 l (n, 0) = q5 (fb (bN l n.toNat) 4) l (m, 0) := by unfold k5; rw [e4, hf]; rfl
  have e6 : k6 l (n, 0) = q6 (fb (bN l n.toNat) 4) l (m, 0) := by unfold k6; rw [e5, hf]; rfl
  have e7 : k7 l (n, 0) = q7 (fb (bN l n.toNat) 4) (fb (bN l n.toNat) 128) l (m, 0) := by unfold k7; rw [e6, hf]; rfl
  have e8 : k8 l (n, 0) = q8 (fb (bN l n.toNat) 4) (fb (bN l n.toNat) 128) (fb (bN l n.toNat) 64) l (m, 0) := by unfold k8; rw [e7, hf]; rfl
  -- where no will is, the flags bear none of it
  have hno : fb (bN l n.toNat) 4 = false → bits .and .i64 ((bN l n.toNat : Int) / 8) 3 = 0 ∧ fb (bN l n.toNat) 32 = false := by
    intro hw
    have hr := bN_lt l n.toNat
    obtain ⟨b2, b4, b32, b64, b128⟩ := fb_of (f := (bN l n.toNat : Int)) (by omega) (by omega)
    obtain ⟨-, -, -, -, -, -, b8⟩ := bits_of (f := (bN l n.toNat : Int)) (by omega) (by omega)
    rw [b4] at hw
    unfold cMay at hm
    rw [hw] at hm
    simp only [Bool.false_or, Bool.and_eq_true, beq_iff_eq] at hm
    rw [b8, b32]
    refine ⟨hm.2.2.1.1, ?_⟩
    rw [hm.2.2.1.2]; rfl
  unfold qRest
  simp only
  rw [← e8]
  unfold k9
  by_cases h8 : (k8 l (n, 0)).2 = 0
  rotate_left
  · rw [if_neg (by simp [h8]), if_pos h8]
    exact cFin_bad h8
  by_cases hx : (k8 l (n, 0)).1 = l.length
  rotate_left
  · rw [if_pos ⟨h8, hx⟩, if_neg (by simp [h8]), if_pos hx]
    unfold rFail; rw [h8, if_pos rfl]
    exact cFin_bad (by simp)
  rw [if_neg (by simp [hx]), if_neg (by simp [h8]), if_neg (by simp [hx])]
  unfold cFin
  rw [if_pos h8]
  -- no text was an error, for the last state is none
  have s4 : (q4 l (m, 0)).2 = 0 := by
    by_cases h : (q4 l (m, 0)).2 = 0
    · exact h
    · rw [e8, q4_bad h] at h8; exact absurd h8 h
  have s5 : (q5 (fb (bN l n.toNat) 4) l (m, 0)).2 = 0 := by
    by_cases h : (q5 (fb (bN l n.toNat) 4) l (m, 0)).2 = 0
    · exact h
    · rw [e8, q5_bad h] at h8; exact absurd h8 h
  have s6 : (q6 (fb (bN l n.toNat) 4) l (m, 0)).2 = 0 := by
    by_cases h : (q6 (fb (bN l n.toNat) 4) l (m, 0)).2 = 0
    · exact h
    · rw [e8, q6_bad h] at h8; exact absurd h8 h
  have s7 : (q7 (fb (bN l n.toNat) 4) (fb (bN l n.toNat) 128) l (m, 0)).2 = 0 := by
    by_cases h : (q7 (fb (bN l n.toNat) 4) (fb (bN l n.toNat) 128) l (m, 0)).2 = 0
    · exact h
    · rw [e8, q7_bad h] at h8; exact absurd h8 h
  have tv : ∀ (g : List UInt8 × Int × Int) (is : Bool) (s : Int × Int), s.2 = 0 → sOf (rTextV g is s) = if is = true then sOf g.1 else ⟨#[]⟩ := by
    intro g is s hs
    unfold rTextV
    cases is
    · rfl
    · rw [if_neg (by simp), if_neg (by simp [hs])]; rfl
  unfold kCon qCon
  simp only
  rw [hN, h3, e4, e5, e6, e7, hf, tv _ _ _ rfl, tv _ _ _ s4, tv _ _ _ s5, tv _ _ _ s6, tv _ _ _ s7]
  rw [if_pos rfl]
  cases hw : fb (bN l n.toNat) 4
  · obtain ⟨z1, z2⟩ := hno hw
    rw [z1, z2]
    rfl
  · rfl
end Go.Proofs.YtjlnlgemngpelaaGreatDoor
