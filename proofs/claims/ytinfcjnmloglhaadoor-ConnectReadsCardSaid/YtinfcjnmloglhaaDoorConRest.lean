/- Who comes: what stands behind the level: the walk (printed by wip/gen/conrest2.py). -/
import Derived.Test.YtinfcjnmloglhaaDoorConMay
namespace Go.Proofs.YtinfcjnmloglhaaDoor
open Go.RowKit
set_option linter.unusedVariables false
set_option linter.unusedSimpArgs false

/-- The reader's states behind each step, from what stands behind the level on. -/
def kf (l : List UInt8) (s : Int × Int) : Int := rOneV l s
def k1 (l : List UInt8) (s : Int × Int) : Int × Int := rOneS l s
def k2 (l : List UInt8) (s : Int × Int) : Int × Int := if (k1 l s).2 = 0 ∧ cMay (kf l s) = false then rFail (k1 l s) 10 else k1 l s
def k3 (l : List UInt8) (s : Int × Int) : Int × Int := rTwoS l (k2 l s)
def k4 (l : List UInt8) (s : Int × Int) : Int × Int := rTextS (uGet l (k3 l s).1) true (k3 l s)
def k5 (l : List UInt8) (s : Int × Int) : Int × Int := rTextS (uGet l (k4 l s).1) (fb (kf l s) 4) (k4 l s)
def k6 (l : List UInt8) (s : Int × Int) : Int × Int := rTextS (uGetRaw l (k5 l s).1) (fb (kf l s) 4) (k5 l s)
def k7 (l : List UInt8) (s : Int × Int) : Int × Int := rTextS (uGet l (k6 l s).1) (fb (kf l s) 128) (k6 l s)
def k8 (l : List UInt8) (s : Int × Int) : Int × Int := rTextS (uGetRaw l (k7 l s).1) (fb (kf l s) 64) (k7 l s)
def k9 (l : List UInt8) (s : Int × Int) : Int × Int := if (k8 l s).2 = 0 ∧ (k8 l s).1 ≠ l.length then rFail (k8 l s) 4 else k8 l s
def kCon (lv : Int) (l : List UInt8) (s : Int × Int) : Con :=
  ⟨lv, fb (kf l s) 2, rTwoV l (k2 l s), sOf (rTextV (uGet l (k3 l s).1) true (k3 l s)), fb (kf l s) 4, sOf (rTextV (uGet l (k4 l s).1) (fb (kf l s) 4) (k4 l s)), sOf (rTextV (uGetRaw l (k5 l s).1) (fb (kf l s) 4) (k5 l s)),
    bits .and .i64 (kf l s / 8) 3, fb (kf l s) 32, fb (kf l s) 128, sOf (rTextV (uGet l (k6 l s).1) (fb (kf l s) 128) (k6 l s)), fb (kf l s) 64, sOf (rTextV (uGetRaw l (k7 l s).1) (fb (kf l s) 64) (k7 l s))⟩
theorem kf_rng (l : List UInt8) (s : Int × Int) : 0 ≤ kf l s ∧ kf l s ≤ 255 := by
  unfold kf rOneV
  have := bN_lt l s.1.toNat
  repeat' split
  all_goals omega

/-- None of a block's first cells is frozen. -/
def Free (w : World) (b : Nat) : Prop := ∀ o, w.frozen? ⟨b, o, none⟩ = false
theorem Free.set {w : World} {b : Nat} (h : Free w b) (p : Addr) (u : Value) : Free (w.setCell p u) b := fun o => by have := h o; simp [go_sem, this]
theorem Free.keeps {S : List Nat} {w w' : World} {b : Nat} (h : Free w b) (hk : Keeps S w w') (hb : b < w.heap.size) (hn : b ∉ S) : Free w' b := fun o => (hk.free hb hn).trans (h o)
theorem ConAt.keeps {S : List Nat} {w w' : World} {b : Nat} {c : Con} (h : ConAt w b c) (hk : Keeps S w w') (hn : b ∉ S) : ConAt w' b c := by
  obtain ⟨h0, h1, h2, h3, h4, h5, h6, h7, h8, h9, h10, h11, h12, hl⟩ := h
  exact ⟨(hk.cell hl hn).trans h0, (hk.cell hl hn).trans h1, (hk.cell hl hn).trans h2, (hk.cell hl hn).trans h3, (hk.cell hl hn).trans h4, (hk.cell hl hn).trans h5, (hk.cell hl hn).trans h6, (hk.cell hl hn).trans h7, (hk.cell hl hn).trans h8, (hk.cell hl hn).trans h9, (hk.cell hl hn).trans h10, (hk.cell hl hn).trans h11, (hk.cell hl hn).trans h12, Nat.lt_of_lt_of_le hl hk.size⟩
theorem ConAt.set0 {w : World} {b : Nat} {c : Con} (h : ConAt w b c) (x : Int) : ConAt (w.setCell ⟨b, 0, none⟩ (.int .i64 x)) b { c with level := x } := by
  obtain ⟨h0, h1, h2, h3, h4, h5, h6, h7, h8, h9, h10, h11, h12, hl⟩ := h
  exact ⟨by simp [go_sem, h0], by simp [go_sem, h1], by simp [go_sem, h2], by simp [go_sem, h3], by simp [go_sem, h4], by simp [go_sem, h5], by simp [go_sem, h6], by simp [go_sem, h7], by simp [go_sem, h8], by simp [go_sem, h9], by simp [go_sem, h10], by simp [go_sem, h11], by simp [go_sem, h12], by simpa [go_sem] using hl⟩
theorem ConAt.set1 {w : World} {b : Nat} {c : Con} (h : ConAt w b c) (x : Bool) : ConAt (w.setCell ⟨b, 1, none⟩ (.bool x)) b { c with clean := x } := by
  obtain ⟨h0, h1, h2, h3, h4, h5, h6, h7, h8, h9, h10, h11, h12, hl⟩ := h
  exact ⟨by simp [go_sem, h0], by simp [go_sem, h1], by simp [go_sem, h2], by simp [go_sem, h3], by simp [go_sem, h4], by simp [go_sem, h5], by simp [go_sem, h6], by simp [go_sem, h7], by simp [go_sem, h8], by simp [go_sem, h9], by simp [go_sem, h10], by simp [go_sem, h11], by simp [go_sem, h12], by simpa [go_sem] using hl⟩
theorem ConAt.set2 {w : World} {b : Nat} {c : Con} (h : ConAt w b c) (x : Int) : ConAt (w.setCell ⟨b, 2, none⟩ (.int .i64 x)) b { c with keep := x } := by
  obtain ⟨h0, h1, h2, h3, h4, h5, h6, h7, h8, h9, h10, h11, h12, hl⟩ := h
  exact ⟨by simp [go_sem, h0], by simp [go_sem, h1], by simp [go_sem, h2], by simp [go_sem, h3], by simp [go_sem, h4], by simp [go_sem, h5], by simp [go_sem, h6], by simp [go_sem, h7], by simp [go_sem, h8], by simp [go_sem, h9], by simp [go_sem, h10], by simp [go_sem, h11], by simp [go_sem, h12], by simpa [go_sem] using hl⟩
theorem ConAt.set3 {w : World} {b : Nat} {c : Con} (h : ConAt w b c) (x : ByteArray) : ConAt (w.setCell ⟨b, 3, none⟩ (.string x)) b { c with client := x } := by
  obtain ⟨h0, h1, h2, h3, h4, h5, h6, h7, h8, h9, h10, h11, h12, hl⟩ := h
  exact ⟨by simp [go_sem, h0], by simp [go_sem, h1], by simp [go_sem, h2], by simp [go_sem, h3], by simp [go_sem, h4], by simp [go_sem, h5], by simp [go_sem, h6], by simp [go_sem, h7], by simp [go_sem, h8], by simp [go_sem, h9], by simp [go_sem, h10], by simp [go_sem, h11], by simp [go_sem, h12], by simpa [go_sem] using hl⟩
theorem ConAt.set4 {w : World} {b : Nat} {c : Con} (h : ConAt w b c) (x : Bool) : ConAt (w.setCell ⟨b, 4, none⟩ (.bool x)) b { c with hasWill := x } := by
  obtain ⟨h0, h1, h2, h3, h4, h5, h6, h7, h8, h9, h10, h11, h12, hl⟩ := h
  exact ⟨by simp [go_sem, h0], by simp [go_sem, h1], by simp [go_sem, h2], by simp [go_sem, h3], by simp [go_sem, h4], by simp [go_sem, h5], by simp [go_sem, h6], by simp [go_sem, h7], by simp [go_sem, h8], by simp [go_sem, h9], by simp [go_sem, h10], by simp [go_sem, h11], by simp [go_sem, h12], by simpa [go_sem] using hl⟩
theorem ConAt.set5 {w : World} {b : Nat} {c : Con} (h : ConAt w b c) (x : ByteArray) : ConAt (w.setCell ⟨b, 5, none⟩ (.string x)) b { c with topic := x } := by
  obtain ⟨h0, h1, h2, h3, h4, h5, h6, h7, h8, h9, h10, h11, h12, hl⟩ := h
  exact ⟨by simp [go_sem, h0], by simp [go_sem, h1], by simp [go_sem, h2], by simp [go_sem, h3], by simp [go_sem, h4], by simp [go_sem, h5], by simp [go_sem, h6], by simp [go_sem, h7], by simp [go_sem, h8], by simp [go_sem, h9], by simp [go_sem, h10], by simp [go_sem, h11], by simp [go_sem, h12], by simpa [go_sem] using hl⟩
theorem ConAt.set6 {w : World} {b : Nat} {c : Con} (h : ConAt w b c) (x : ByteArray) : ConAt (w.setCell ⟨b, 6, none⟩ (.string x)) b { c with text := x } := by
  obtain ⟨h0, h1, h2, h3, h4, h5, h6, h7, h8, h9, h10, h11, h12, hl⟩ := h
  exact ⟨by simp [go_sem, h0], by simp [go_sem, h1], by simp [go_sem, h2], by simp [go_sem, h3], by simp [go_sem, h4], by simp [go_sem, h5], by simp [go_sem, h6], by simp [go_sem, h7], by simp [go_sem, h8], by simp [go_sem, h9], by simp [go_sem, h10], by simp [go_sem, h11], by simp [go_sem, h12], by simpa [go_sem] using hl⟩
theorem ConAt.set7 {w : World} {b : Nat} {c : Con} (h : ConAt w b c) (x : Int) : ConAt (w.setCell ⟨b, 7, none⟩ (.int .i64 x)) b { c with qos := x } := by
  obtain ⟨h0, h1, h2, h3, h4, h5, h6, h7, h8, h9, h10, h11, h12, hl⟩ := h
  exact ⟨by simp [go_sem, h0], by simp [go_sem, h1], by simp [go_sem, h2], by simp [go_sem, h3], by simp [go_sem, h4], by simp [go_sem, h5], by simp [go_sem, h6], by simp [go_sem, h7], by simp [go_sem, h8], by simp [go_sem, h9], by simp [go_sem, h10], by simp [go_sem, h11], by simp [go_sem, h12], by simpa [go_sem] using hl⟩
theorem ConAt.set8 {w : World} {b : Nat} {c : Con} (h : ConAt w b c) (x : Bool) : ConAt (w.setCell ⟨b, 8, none⟩ (.bool x)) b { c with retain := x } := by
  obtain ⟨h0, h1, h2, h3, h4, h5, h6, h7, h8, h9, h10, h11, h12, hl⟩ := h
  exact ⟨by simp [go_sem, h0], by simp [go_sem, h1], by simp [go_sem, h2], by simp [go_sem, h3], by simp [go_sem, h4], by simp [go_sem, h5], by simp [go_sem, h6], by simp [go_sem, h7], by simp [go_sem, h8], by simp [go_sem, h9], by simp [go_sem, h10], by simp [go_sem, h11], by simp [go_sem, h12], by simpa [go_sem] using hl⟩
theorem ConAt.set9 {w : World} {b : Nat} {c : Con} (h : ConAt w b c) (x : Bool) : ConAt (w.setCell ⟨b, 9, none⟩ (.bool x)) b { c with hasUser := x } := by
  obtain ⟨h0, h1, h2, h3, h4, h5, h6, h7, h8, h9, h10, h11, h12, hl⟩ := h
  exact ⟨by simp [go_sem, h0], by simp [go_sem, h1], by simp [go_sem, h2], by simp [go_sem, h3], by simp [go_sem, h4], by simp [go_sem, h5], by simp [go_sem, h6], by simp [go_sem, h7], by simp [go_sem, h8], by simp [go_sem, h9], by simp [go_sem, h10], by simp [go_sem, h11], by simp [go_sem, h12], by simpa [go_sem] using hl⟩
theorem ConAt.set10 {w : World} {b : Nat} {c : Con} (h : ConAt w b c) (x : ByteArray) : ConAt (w.setCell ⟨b, 10, none⟩ (.string x)) b { c with user := x } := by
  obtain ⟨h0, h1, h2, h3, h4, h5, h6, h7, h8, h9, h10, h11, h12, hl⟩ := h
  exact ⟨by simp [go_sem, h0], by simp [go_sem, h1], by simp [go_sem, h2], by simp [go_sem, h3], by simp [go_sem, h4], by simp [go_sem, h5], by simp [go_sem, h6], by simp [go_sem, h7], by simp [go_sem, h8], by simp [go_sem, h9], by simp [go_sem, h10], by simp [go_sem, h11], by simp [go_sem, h12], by simpa [go_sem] using hl⟩
theorem ConAt.set11 {w : World} {b : Nat} {c : Con} (h : ConAt w b c) (x : Bool) : ConAt (w.setCell ⟨b, 11, none⟩ (.bool x)) b { c with hasPass := x } := by
  obtain ⟨h0, h1, h2, h3, h4, h5, h6, h7, h8, h9, h10, h11, h12, hl⟩ := h
  exact ⟨by simp [go_sem, h0], by simp [go_sem, h1], by simp [go_sem, h2], by simp [go_sem, h3], by simp [go_sem, h4], by simp [go_sem, h5], by simp [go_sem, h6], by simp [go_sem, h7], by simp [go_sem, h8], by simp [go_sem, h9], by simp [go_sem, h10], by simp [go_sem, h11], by simp [go_sem, h12], by simpa [go_sem] using hl⟩
theorem ConAt.set12 {w : World} {b : Nat} {c : Con} (h : ConAt w b c) (x : ByteArray) : ConAt (w.setCell ⟨b, 12, none⟩ (.string x)) b { c with pass := x } := by
  obtain ⟨h0, h1, h2, h3, h4, h5, h6, h7, h8, h9, h10, h11, h12, hl⟩ := h
  exact ⟨by simp [go_sem, h0], by simp [go_sem, h1], by simp [go_sem, h2], by simp [go_sem, h3], by simp [go_sem, h4], by simp [go_sem, h5], by simp [go_sem, h6], by simp [go_sem, h7], by simp [go_sem, h8], by simp [go_sem, h9], by simp [go_sem, h10], by simp [go_sem, h11], by simp [go_sem, h12], by simpa [go_sem] using hl⟩

/-- The state of both, in the world W, the call having begun in w. -/
def RS (w W : World) (gc g : Nat) (v : Value) (l : List UInt8) (st : Int × Int) (c : Con) : Prop := RdAt W g v l st ∧ ConAt W gc c ∧ Free W gc ∧ Keeps [gc, g] w W
theorem ConAt.lt {w : World} {b : Nat} {c : Con} (h : ConAt w b c) : b < w.heap.size := by
  obtain ⟨_, _, _, _, _, _, _, _, _, _, _, _, _, hl⟩ := h
  exact hl
theorem RS.call {w W W' : World} {gc g : Nat} {v : Value} {l : List UInt8} {st st' : Int × Int} {c : Con} (h : RS w W gc g v l st c) (hne : gc ≠ g) (hR : RdAt W' g v l st') (hk : Keeps [g] W W') : RS w W' gc g v l st' c :=
  ⟨hR, h.2.1.keeps hk (by simp [hne]), h.2.2.1.keeps hk h.2.1.lt (by simp [hne]), h.2.2.2.trans (hk.mono (fun k h => by simp at h; simp [h]))⟩
theorem RS.quiet {w W W' : World} {gc g : Nat} {v : Value} {l : List UInt8} {st : Int × Int} {c : Con} (h : RS w W gc g v l st c) (hk : Keeps [] W W') : RS w W' gc g v l st c :=
  ⟨h.1.keeps hk (by simp) (OutOf.nil _), h.2.1.keeps hk (by simp), h.2.2.1.keeps hk h.2.1.lt (by simp), h.2.2.2.trans (hk.mono (fun k h => by simp at h))⟩
theorem RS.set0 {w W : World} {gc g : Nat} {v : Value} {l : List UInt8} {st : Int × Int} {c : Con} (h : RS w W gc g v l st c) (hne : gc ≠ g) (ho : OutOf v [gc]) (x : Int) : RS w (W.setCell ⟨gc, 0, none⟩ (.int .i64 x)) gc g v l st { c with level := x } :=
  ⟨h.1.keeps ((Keeps.refl [gc] W).setCell (.inl (by simp)) _) (by simp; omega) ho, h.2.1.set0 x, h.2.2.1.set _ _, h.2.2.2.setCell (.inl (by simp)) _⟩
theorem RS.set1 {w W : World} {gc g : Nat} {v : Value} {l : List UInt8} {st : Int × Int} {c : Con} (h : RS w W gc g v l st c) (hne : gc ≠ g) (ho : OutOf v [gc]) (x : Bool) : RS w (W.setCell ⟨gc, 1, none⟩ (.bool x)) gc g v l st { c with clean := x } :=
  ⟨h.1.keeps ((Keeps.refl [gc] W).setCell (.inl (by simp)) _) (by simp; omega) ho, h.2.1.set1 x, h.2.2.1.set _ _, h.2.2.2.setCell (.inl (by simp)) _⟩
theorem RS.set2 {w W : World} {gc g : Nat} {v : Value} {l : List UInt8} {st : Int × Int} {c : Con} (h : RS w W gc g v l st c) (hne : gc ≠ g) (ho : OutOf v [gc]) (x : Int) : RS w (W.setCell ⟨gc, 2, none⟩ (.int .i64 x)) gc g v l st { c with keep := x } :=
  ⟨h.1.keeps ((Keeps.refl [gc] W).setCell (.inl (by simp)) _) (by simp; omega) ho, h.2.1.set2 x, h.2.2.1.set _ _, h.2.2.2.setCell (.inl (by simp)) _⟩
theorem RS.set3 {w W : World} {gc g : Nat} {v : Value} {l : List UInt8} {st : Int × Int} {c : Con} (h : RS w W gc g v l st c) (hne : gc ≠ g) (ho : OutOf v [gc]) (x : ByteArray) : RS w (W.setCell ⟨gc, 3, none⟩ (.string x)) gc g v l st { c with client := x } :=
  ⟨h.1.keeps ((Keeps.refl [gc] W).setCell (.inl (by simp)) _) (by simp; omega) ho, h.2.1.set3 x, h.2.2.1.set _ _, h.2.2.2.setCell (.inl (by simp)) _⟩
theorem RS.set4 {w W : World} {gc g : Nat} {v : Value} {l : List UInt8} {st : Int × Int} {c : Con} (h : RS w W gc g v l st c) (hne : gc ≠ g) (ho : OutOf v [gc]) (x : Bool) : RS w (W.setCell ⟨gc, 4, none⟩ (.bool x)) gc g v l st { c with hasWill := x } :=
  ⟨h.1.keeps ((Keeps.refl [gc] W).setCell (.inl (by simp)) _) (by simp; omega) ho, h.2.1.set4 x, h.2.2.1.set _ _, h.2.2.2.setCell (.inl (by simp)) _⟩
theorem RS.set5 {w W : World} {gc g : Nat} {v : Value} {l : List UInt8} {st : Int × Int} {c : Con} (h : RS w W gc g v l st c) (hne : gc ≠ g) (ho : OutOf v [gc]) (x : ByteArray) : RS w (W.setCell ⟨gc, 5, none⟩ (.string x)) gc g v l st { c with topic := x } :=
  ⟨h.1.keeps ((Keeps.refl [gc] W).setCell (.inl (by simp)) _) (by simp; omega) ho, h.2.1.set5 x, h.2.2.1.set _ _, h.2.2.2.setCell (.inl (by simp)) _⟩
theorem RS.set6 {w W : World} {gc g : Nat} {v : Value} {l : List UInt8} {st : Int × Int} {c : Con} (h : RS w W gc g v l st c) (hne : gc ≠ g) (ho : OutOf v [gc]) (x : ByteArray) : RS w (W.setCell ⟨gc, 6, none⟩ (.string x)) gc g v l st { c with text := x } :=
  ⟨h.1.keeps ((Keeps.refl [gc] W).setCell (.inl (by simp)) _) (by simp; omega) ho, h.2.1.set6 x, h.2.2.1.set _ _, h.2.2.2.setCell (.inl (by simp)) _⟩
theorem RS.set7 {w W : World} {gc g : Nat} {v : Value} {l : List UInt8} {st : Int × Int} {c : Con} (h : RS w W gc g v l st c) (hne : gc ≠ g) (ho : OutOf v [gc]) (x : Int) : RS w (W.setCell ⟨gc, 7, none⟩ (.int .i64 x)) gc g v l st { c with qos := x } :=
  ⟨h.1.keeps ((Keeps.refl [gc] W).setCell (.inl (by simp)) _) (by simp; omega) ho, h.2.1.set7 x, h.2.2.1.set _ _, h.2.2.2.setCell (.inl (by simp)) _⟩
theorem RS.set8 {w W : World} {gc g : Nat} {v : Value} {l : List UInt8} {st : Int × Int} {c : Con} (h : RS w W gc g v l st c) (hne : gc ≠ g) (ho : OutOf v [gc]) (x : Bool) : RS w (W.setCell ⟨gc, 8, none⟩ (.bool x)) gc g v l st { c with retain := x } :=
  ⟨h.1.keeps ((Keeps.refl [gc] W).setCell (.inl (by simp)) _) (by simp; omega) ho, h.2.1.set8 x, h.2.2.1.set _ _, h.2.2.2.setCell (.inl (by simp)) _⟩
theorem RS.set9 {w W : World} {gc g : Nat} {v : Value} {l : List UInt8} {st : Int × Int} {c : Con} (h : RS w W gc g v l st c) (hne : gc ≠ g) (ho : OutOf v [gc]) (x : Bool) : RS w (W.setCell ⟨gc, 9, none⟩ (.bool x)) gc g v l st { c with hasUser := x } :=
  ⟨h.1.keeps ((Keeps.refl [gc] W).setCell (.inl (by simp)) _) (by simp; omega) ho, h.2.1.set9 x, h.2.2.1.set _ _, h.2.2.2.setCell (.inl (by simp)) _⟩
theorem RS.set10 {w W : World} {gc g : Nat} {v : Value} {l : List UInt8} {st : Int × Int} {c : Con} (h : RS w W gc g v l st c) (hne : gc ≠ g) (ho : OutOf v [gc]) (x : ByteArray) : RS w (W.setCell ⟨gc, 10, none⟩ (.string x)) gc g v l st { c with user := x } :=
  ⟨h.1.keeps ((Keeps.refl [gc] W).setCell (.inl (by simp)) _) (by simp; omega) ho, h.2.1.set10 x, h.2.2.1.set _ _, h.2.2.2.setCell (.inl (by simp)) _⟩
theorem RS.set11 {w W : World} {gc g : Nat} {v : Value} {l : List UInt8} {st : Int × Int} {c : Con} (h : RS w W gc g v l st c) (hne : gc ≠ g) (ho : OutOf v [gc]) (x : Bool) : RS w (W.setCell ⟨gc, 11, none⟩ (.bool x)) gc g v l st { c with hasPass := x } :=
  ⟨h.1.keeps ((Keeps.refl [gc] W).setCell (.inl (by simp)) _) (by simp; omega) ho, h.2.1.set11 x, h.2.2.1.set _ _, h.2.2.2.setCell (.inl (by simp)) _⟩
theorem RS.set12 {w W : World} {gc g : Nat} {v : Value} {l : List UInt8} {st : Int × Int} {c : Con} (h : RS w W gc g v l st c) (hne : gc ≠ g) (ho : OutOf v [gc]) (x : ByteArray) : RS w (W.setCell ⟨gc, 12, none⟩ (.string x)) gc g v l st { c with pass := x } :=
  ⟨h.1.keeps ((Keeps.refl [gc] W).setCell (.inl (by simp)) _) (by simp; omega) ho, h.2.1.set12 x, h.2.2.1.set _ _, h.2.2.2.setCell (.inl (by simp)) _⟩

set_option maxRecDepth 100000 in
set_option maxHeartbeats 16000000 in
theorem rest_c (gc g : Nat) (v : Value) (l : List UInt8) (st : Int × Int) (c0 : Con) (w : World) (hne : gc ≠ g) (hR : RdAt w g v l st) (hcon : ConAt w gc c0) (hfr : Free w gc) (hout : OutOf v [gc]) (hp : 0 ≤ st.1 ∧ st.1 ≤ 140737488355328) (hlow : ∀ W, Keeps [gc, g] w W → EnvU W) :
    Calls Tryd.prog 65 #[.pointer (some ⟨g, 0, none⟩), .pointer (some ⟨gc, 0, none⟩)] w fun r w' => r = .returned (.tuple #[]) ∧ RdAt w' g v l (k9 l st) ∧ ConAt w' gc (kCon c0.level l st) ∧ Free w' gc ∧ Keeps [gc, g] w w' := by
  have HL := hd hlow; clear hlow
  have hS : RS w w gc g v l st c0 := ⟨hR, hcon, hfr, Keeps.refl _ _⟩
  clear hR hcon hfr
  obtain ⟨fr0, fr1⟩ := kf_rng l st
  obtain ⟨a, cc, rfl⟩ : ∃ a cc, v = .slice a l.length cc := hS.1.2.1.slice
  go_enter Tryd.func65, Tryd.ntmps65
  go_wp2_with fail
  refine (one_c g _ l st _ hS.1 hp).mono ?_
  rintro r w1 ⟨rfl, hR', hkk⟩
  replace hS : RS w w1 gc g (.slice a l.length cc) l (k1 l st) c0 := hS.call hne hR' hkk
  clear hR' hkk hp
  have hkf : rOneV l st = kf l st := rfl
  rw [hkf]
  clear hkf
  have hrr := hS.1
  obtain ⟨-, -, -, r3, -, -, -, -⟩ := hrr
  by_cases he : (k1 l st).2 = 0
  · cases hm : cMay (kf l st)
    · skip
      have Hk2 := hd (show k2 l st = rFail (k1 l st) 10 from by rw [k2, if_pos ⟨he, hm⟩])
      rw [he] at r3
      clear he
      go_wp2_with fail
      clear r3
      refine (may_c _ fr0 fr1 _).mono ?_
      rw [hm]
      rintro r w' ⟨rfl, rfl⟩
      clear hm
      go_wp2_with fail
      refine (fail_c 10 g _ l (k1 l st) _ hS.1).mono ?_
      rintro r w2 ⟨rfl, hR', hkk⟩
      rw [← Hk2.out] at hR'
      replace hS := hS.call hne hR' hkk
      clear hR' hkk Hk2
      have hcc := hS.2.1
      simp only [ConAt] at hcc
      obtain ⟨-, d1, -, -, d4, -, -, -, -, d9, -, d11, -, -⟩ := hcc
      have z1 := hS.2.2.1 1
      have z4 := hS.2.2.1 4
      have z9 := hS.2.2.1 9
      have z11 := hS.2.2.1 11
      go_wp2_with fail
      clear d1 d4 d9 d11 z1 z4 z9 z11
      replace hS := hS.set1 hne hout (bits .and .i64 (kf l st) 2 != 0)
      replace hS := hS.set4 hne hout (bits .and .i64 (kf l st) 4 != 0)
      replace hS := hS.set11 hne hout (bits .and .i64 (kf l st) 64 != 0)
      replace hS := hS.set9 hne hout (bits .and .i64 (kf l st) 128 != 0)
      refine (two_c g _ l (k2 l st) _ hS.1).mono ?_
      rintro r w3 ⟨rfl, hR', hkk⟩
      replace hS : RS w w3 gc g _ l (k3 l st) _ := hS.call hne hR' hkk
      clear hR' hkk
      have hcc := hS.2.1
      simp only [ConAt] at hcc
      obtain ⟨-, -, d2, -, -, -, -, -, -, -, -, -, -, -⟩ := hcc
      have z2 := hS.2.2.1 2
      go_wp2_with fail
      clear d2 z2
      replace hS := hS.set2 hne hout (rTwoV l (k2 l st))
      refine (textT_c true g _ l (k3 l st) _ (HL.out _ hS.2.2.2) hS.1).mono ?_
      rintro r w4 ⟨rfl, hR', hkk⟩
      replace hS : RS w w4 gc g _ l (k4 l st) _ := hS.call hne hR' hkk
      clear hR' hkk
      have hcc := hS.2.1
      simp only [ConAt] at hcc
      obtain ⟨-, -, -, d3, d4, -, -, d7, d8, -, -, -, -, -⟩ := hcc
      have z3 := hS.2.2.1 3
      have z7 := hS.2.2.1 7
      have z8 := hS.2.2.1 8
      go_wp2_with fail
      clear d3 d4 d7 d8 z3 z7 z8
      replace hS := hS.set3 hne hout (sOf (rTextV (uGet l (k3 l st).1) true (k3 l st)))
      replace hS := hS.set7 hne hout (bits .and .i64 (kf l st / 8) 3)
      replace hS := hS.set8 hne hout (bits .and .i64 (kf l st) 32 != 0)
      refine (textT_c (bits .and .i64 (kf l st) 4 != 0) g _ l (k4 l st) _ (HL.out _ hS.2.2.2) hS.1).mono ?_
      rintro r w5 ⟨rfl, hR', hkk⟩
      replace hS : RS w w5 gc g _ l (k5 l st) _ := hS.call hne hR' hkk
      clear hR' hkk
      have hcc := hS.2.1
      simp only [ConAt] at hcc
      obtain ⟨-, -, -, -, d4, d5, -, -, -, -, -, -, -, -⟩ := hcc
      have z5 := hS.2.2.1 5
      go_wp2_with fail
      clear d4 d5 z5
      replace hS := hS.set5 hne hout (sOf (rTextV (uGet l (k4 l st).1) (bits .and .i64 (kf l st) 4 != 0) (k4 l st)))
      refine (textR_c (bits .and .i64 (kf l st) 4 != 0) g _ l (k5 l st) _ (HL.out _ hS.2.2.2) hS.1).mono ?_
      rintro r w6 ⟨rfl, hR', hkk⟩
      replace hS : RS w w6 gc g _ l (k6 l st) _ := hS.call hne hR' hkk
      clear hR' hkk
      have hcc := hS.2.1
      simp only [ConAt] at hcc
      obtain ⟨-, -, -, -, -, -, d6, -, -, d9, -, -, -, -⟩ := hcc
      have z6 := hS.2.2.1 6
      go_wp2_with fail
      clear d6 d9 z6
      replace hS := hS.set6 hne hout (sOf (rTextV (uGetRaw l (k5 l st).1) (bits .and .i64 (kf l st) 4 != 0) (k5 l st)))
      refine (textT_c (bits .and .i64 (kf l st) 128 != 0) g _ l (k6 l st) _ (HL.out _ hS.2.2.2) hS.1).mono ?_
      rintro r w7 ⟨rfl, hR', hkk⟩
      replace hS : RS w w7 gc g _ l (k7 l st) _ := hS.call hne hR' hkk
      clear hR' hkk
      have hcc := hS.2.1
      simp only [ConAt] at hcc
      obtain ⟨-, -, -, -, -, -, -, -, -, -, d10, d11, -, -⟩ := hcc
      have z10 := hS.2.2.1 10
      go_wp2_with fail
      clear d10 d11 z10
      replace hS := hS.set10 hne hout (sOf (rTextV (uGet l (k6 l st).1) (bits .and .i64 (kf l st) 128 != 0) (k6 l st)))
      refine (textR_c (bits .and .i64 (kf l st) 64 != 0) g _ l (k7 l st) _ (HL.out _ hS.2.2.2) hS.1).mono ?_
      rintro r w8 ⟨rfl, hR', hkk⟩
      replace hS : RS w w8 gc g _ l (k8 l st) _ := hS.call hne hR' hkk
      clear hR' hkk
      have hcc := hS.2.1
      simp only [ConAt] at hcc
      obtain ⟨-, -, -, -, -, -, -, -, -, -, -, -, d12, -⟩ := hcc
      have z12 := hS.2.2.1 12
      have hrr := hS.1
      obtain ⟨r0, -, r2, r3, -, -, -, -⟩ := hrr
      have hll : l.length ≤ 9223372036854775807 := by have := hS.1.2.1.len; unfold maxLen at this; omega
      by_cases h8 : (k8 l st).2 = 0
      · rw [h8] at r3
        by_cases h9 : (k8 l st).1 = l.length
        · have Hk := hd (show k9 l st = k8 l st from by rw [k9, if_neg (fun h => h.2 h9)])
          rw [h9] at r2
          clear h8 h9
          go_wp2_with fail
          go_quiet (fail)
          go_wp2_with fail
          go_end0
          rw [Hk.out]
          replace hS := hS.set12 hne hout (sOf (rTextV (uGetRaw l (k7 l st).1) (bits .and .i64 (kf l st) 64 != 0) (k7 l st)))
          replace hS := hS.quiet ((Keeps.refl [] _).drewN nq)
          exact ⟨rfl, hS.1, hS.2.1, hS.2.2.1, hS.2.2.2⟩
        · have Hk := hd (show k9 l st = rFail (k8 l st) 4 from by rw [k9, if_pos ⟨h8, h9⟩])
          have h9b : ((k8 l st).1 != (l.length : Int)) = true := by simpa using h9
          clear h8 h9
          go_wp2_with fail
          go_quiet (fail)
          go_wp2_with fail
          replace hS := hS.set12 hne hout (sOf (rTextV (uGetRaw l (k7 l st).1) (bits .and .i64 (kf l st) 64 != 0) (k7 l st)))
          replace hS := hS.quiet ((Keeps.refl [] _).drewN nq)
          refine (fail_c 4 g _ l (k8 l st) _ hS.1).mono ?_
          rintro r w9 ⟨rfl, hR', hkk⟩
          rw [← Hk.out] at hR'
          replace hS := hS.call hne hR' hkk
          go_wp2_with fail
          go_end0
          exact ⟨rfl, hS.1, hS.2.1, hS.2.2.1, hS.2.2.2⟩
      · have Hk := hd (show k9 l st = k8 l st from by rw [k9, if_neg (fun h => h8 h.1)])
        have h8b : ((k8 l st).2 == 0) = false := by simpa using h8
        clear h8
        go_wp2_with fail
        go_quiet (fail)
        go_wp2_with fail
        go_end0
        rw [Hk.out]
        replace hS := hS.set12 hne hout (sOf (rTextV (uGetRaw l (k7 l st).1) (bits .and .i64 (kf l st) 64 != 0) (k7 l st)))
        replace hS := hS.quiet ((Keeps.refl [] _).drewN nq)
        exact ⟨rfl, hS.1, hS.2.1, hS.2.2.1, hS.2.2.2⟩
    · skip
      have Hk2 := hd (show k2 l st = k1 l st from by rw [k2, if_neg (fun h => by rw [hm] at h; simp at h)])
      rw [he] at r3
      clear he
      go_wp2_with fail
      clear r3
      refine (may_c _ fr0 fr1 _).mono ?_
      rw [hm]
      rintro r w' ⟨rfl, rfl⟩
      clear hm
      have hcc := hS.2.1
      simp only [ConAt] at hcc
      obtain ⟨-, d1, -, -, d4, -, -, -, -, d9, -, d11, -, -⟩ := hcc
      have z1 := hS.2.2.1 1
      have z4 := hS.2.2.1 4
      have z9 := hS.2.2.1 9
      have z11 := hS.2.2.1 11
      go_wp2_with fail
      clear d1 d4 d9 d11 z1 z4 z9 z11
      rw [← Hk2.out] at hS
      clear Hk2
      replace hS := hS.set1 hne hout (bits .and .i64 (kf l st) 2 != 0)
      replace hS := hS.set4 hne hout (bits .and .i64 (kf l st) 4 != 0)
      replace hS := hS.set11 hne hout (bits .and .i64 (kf l st) 64 != 0)
      replace hS := hS.set9 hne hout (bits .and .i64 (kf l st) 128 != 0)
      refine (two_c g _ l (k2 l st) _ hS.1).mono ?_
      rintro r w3 ⟨rfl, hR', hkk⟩
      replace hS : RS w w3 gc g _ l (k3 l st) _ := hS.call hne hR' hkk
      clear hR' hkk
      have hcc := hS.2.1
      simp only [ConAt] at hcc
      obtain ⟨-, -, d2, -, -, -, -, -, -, -, -, -, -, -⟩ := hcc
      have z2 := hS.2.2.1 2
      go_wp2_with fail
      clear d2 z2
      replace hS := hS.set2 hne hout (rTwoV l (k2 l st))
      refine (textT_c true g _ l (k3 l st) _ (HL.out _ hS.2.2.2) hS.1).mono ?_
      rintro r w4 ⟨rfl, hR', hkk⟩
      replace hS : RS w w4 gc g _ l (k4 l st) _ := hS.call hne hR' hkk
      clear hR' hkk
      have hcc := hS.2.1
      simp only [ConAt] at hcc
      obtain ⟨-, -, -, d3, d4, -, -, d7, d8, -, -, -, -, -⟩ := hcc
      have z3 := hS.2.2.1 3
      have z7 := hS.2.2.1 7
      have z8 := hS.2.2.1 8
      go_wp2_with fail
      clear d3 d4 d7 d8 z3 z7 z8
      replace hS := hS.set3 hne hout (sOf (rTextV (uGet l (k3 l st).1) true (k3 l st)))
      replace hS := hS.set7 hne hout (bits .and .i64 (kf l st / 8) 3)
      replace hS := hS.set8 hne hout (bits .and .i64 (kf l st) 32 != 0)
      refine (textT_c (bits .and .i64 (kf l st) 4 != 0) g _ l (k4 l st) _ (HL.out _ hS.2.2.2) hS.1).mono ?_
      rintro r w5 ⟨rfl, hR', hkk⟩
      replace hS : RS w w5 gc g _ l (k5 l st) _ := hS.call hne hR' hkk
      clear hR' hkk
      have hcc := hS.2.1
      simp only [ConAt] at hcc
      obtain ⟨-, -, -, -, d4, d5, -, -, -, -, -, -, -, -⟩ := hcc
      have z5 := hS.2.2.1 5
      go_wp2_with fail
      clear d4 d5 z5
      replace hS := hS.set5 hne hout (sOf (rTextV (uGet l (k4 l st).1) (bits .and .i64 (kf l st) 4 != 0) (k4 l st)))
      refine (textR_c (bits .and .i64 (kf l st) 4 != 0) g _ l (k5 l st) _ (HL.out _ hS.2.2.2) hS.1).mono ?_
      rintro r w6 ⟨rfl, hR', hkk⟩
      replace hS : RS w w6 gc g _ l (k6 l st) _ := hS.call hne hR' hkk
      clear hR' hkk
      have hcc := hS.2.1
      simp only [ConAt] at hcc
      obtain ⟨-, -, -, -, -, -, d6, -, -, d9, -, -, -, -⟩ := hcc
      have z6 := hS.2.2.1 6
      go_wp2_with fail
      clear d6 d9 z6
      replace hS := hS.set6 hne hout (sOf (rTextV (uGetRaw l (k5 l st).1) (bits .and .i64 (kf l st) 4 != 0) (k5 l st)))
      refine (textT_c (bits .and .i64 (kf l st) 128 != 0) g _ l (k6 l st) _ (HL.out _ hS.2.2.2) hS.1).mono ?_
      rintro r w7 ⟨rfl, hR', hkk⟩
      replace hS : RS w w7 gc g _ l (k7 l st) _ := hS.call hne hR' hkk
      clear hR' hkk
      have hcc := hS.2.1
      simp only [ConAt] at hcc
      obtain ⟨-, -, -, -, -, -, -, -, -, -, d10, d11, -, -⟩ := hcc
      have z10 := hS.2.2.1 10
      go_wp2_with fail
      clear d10 d11 z10
      replace hS := hS.set10 hne hout (sOf (rTextV (uGet l (k6 l st).1) (bits .and .i64 (kf l st) 128 != 0) (k6 l st)))
      refine (textR_c (bits .and .i64 (kf l st) 64 != 0) g _ l (k7 l st) _ (HL.out _ hS.2.2.2) hS.1).mono ?_
      rintro r w8 ⟨rfl, hR', hkk⟩
      replace hS : RS w w8 gc g _ l (k8 l st) _ := hS.call hne hR' hkk
      clear hR' hkk
      have hcc := hS.2.1
      simp only [ConAt] at hcc
      obtain ⟨-, -, -, -, -, -, -, -, -, -, -, -, d12, -⟩ := hcc
      have z12 := hS.2.2.1 12
      have hrr := hS.1
      obtain ⟨r0, -, r2, r3, -, -, -, -⟩ := hrr
      have hll : l.length ≤ 9223372036854775807 := by have := hS.1.2.1.len; unfold maxLen at this; omega
      by_cases h8 : (k8 l st).2 = 0
      · rw [h8] at r3
        by_cases h9 : (k8 l st).1 = l.length
        · have Hk := hd (show k9 l st = k8 l st from by rw [k9, if_neg (fun h => h.2 h9)])
          rw [h9] at r2
          clear h8 h9
          go_wp2_with fail
          go_quiet (fail)
          go_wp2_with fail
          go_end0
          rw [Hk.out]
          replace hS := hS.set12 hne hout (sOf (rTextV (uGetRaw l (k7 l st).1) (bits .and .i64 (kf l st) 64 != 0) (k7 l st)))
          replace hS := hS.quiet ((Keeps.refl [] _).drewN nq)
          exact ⟨rfl, hS.1, hS.2.1, hS.2.2.1, hS.2.2.2⟩
        · have Hk := hd (show k9 l st = rFail (k8 l st) 4 from by rw [k9, if_pos ⟨h8, h9⟩])
          have h9b : ((k8 l st).1 != (l.length : Int)) = true := by simpa using h9
          clear h8 h9
          go_wp2_with fail
          go_quiet (fail)
          go_wp2_with fail
          replace hS := hS.set12 hne hout (sOf (rTextV (uGetRaw l (k7 l st).1) (bits .and .i64 (kf l st) 64 != 0) (k7 l st)))
          replace hS := hS.quiet ((Keeps.refl [] _).drewN nq)
          refine (fail_c 4 g _ l (k8 l st) _ hS.1).mono ?_
          rintro r w9 ⟨rfl, hR', hkk⟩
          rw [← Hk.out] at hR'
          replace hS := hS.call hne hR' hkk
          go_wp2_with fail
          go_end0
          exact ⟨rfl, hS.1, hS.2.1, hS.2.2.1, hS.2.2.2⟩
      · have Hk := hd (show k9 l st = k8 l st from by rw [k9, if_neg (fun h => h8 h.1)])
        have h8b : ((k8 l st).2 == 0) = false := by simpa using h8
        clear h8
        go_wp2_with fail
        go_quiet (fail)
        go_wp2_with fail
        go_end0
        rw [Hk.out]
        replace hS := hS.set12 hne hout (sOf (rTextV (uGetRaw l (k7 l st).1) (bits .and .i64 (kf l st) 64 != 0) (k7 l st)))
        replace hS := hS.quiet ((Keeps.refl [] _).drewN nq)
        exact ⟨rfl, hS.1, hS.2.1, hS.2.2.1, hS.2.2.2⟩
  · skip
    have Hk2 := hd (show k2 l st = k1 l st from by rw [k2, if_neg (fun h => he h.1)])
    have heb : ((k1 l st).2 == 0) = false := (by simpa using he)
    clear he
    have hcc := hS.2.1
    simp only [ConAt] at hcc
    obtain ⟨-, d1, -, -, d4, -, -, -, -, d9, -, d11, -, -⟩ := hcc
    have z1 := hS.2.2.1 1
    have z4 := hS.2.2.1 4
    have z9 := hS.2.2.1 9
    have z11 := hS.2.2.1 11
    go_wp2_with fail
    clear d1 d4 d9 d11 z1 z4 z9 z11 r3
    rw [← Hk2.out] at hS
    clear Hk2 heb
    replace hS := hS.set1 hne hout (bits .and .i64 (kf l st) 2 != 0)
    replace hS := hS.set4 hne hout (bits .and .i64 (kf l st) 4 != 0)
    replace hS := hS.set11 hne hout (bits .and .i64 (kf l st) 64 != 0)
    replace hS := hS.set9 hne hout (bits .and .i64 (kf l st) 128 != 0)
    refine (two_c g _ l (k2 l st) _ hS.1).mono ?_
    rintro r w3 ⟨rfl, hR', hkk⟩
    replace hS : RS w w3 gc g _ l (k3 l st) _ := hS.call hne hR' hkk
    clear hR' hkk
    have hcc := hS.2.1
    simp only [ConAt] at hcc
    obtain ⟨-, -, d2, -, -, -, -, -, -, -, -, -, -, -⟩ := hcc
    have z2 := hS.2.2.1 2
    go_wp2_with fail
    clear d2 z2
    replace hS := hS.set2 hne hout (rTwoV l (k2 l st))
    refine (textT_c true g _ l (k3 l st) _ (HL.out _ hS.2.2.2) hS.1).mono ?_
    rintro r w4 ⟨rfl, hR', hkk⟩
    replace hS : RS w w4 gc g _ l (k4 l st) _ := hS.call hne hR' hkk
    clear hR' hkk
    have hcc := hS.2.1
    simp only [ConAt] at hcc
    obtain ⟨-, -, -, d3, d4, -, -, d7, d8, -, -, -, -, -⟩ := hcc
    have z3 := hS.2.2.1 3
    have z7 := hS.2.2.1 7
    have z8 := hS.2.2.1 8
    go_wp2_with fail
    clear d3 d4 d7 d8 z3 z7 z8
    replace hS := hS.set3 hne hout (sOf (rTextV (uGet l (k3 l st).1) true (k3 l st)))
    replace hS := hS.set7 hne hout (bits .and .i64 (kf l st / 8) 3)
    replace hS := hS.set8 hne hout (bits .and .i64 (kf l st) 32 != 0)
    refine (textT_c (bits .and .i64 (kf l st) 4 != 0) g _ l (k4 l st) _ (HL.out _ hS.2.2.2) hS.1).mono ?_
    rintro r w5 ⟨rfl, hR', hkk⟩
    replace hS : RS w w5 gc g _ l (k5 l st) _ := hS.call hne hR' hkk
    clear hR' hkk
    have hcc := hS.2.1
    simp only [ConAt] at hcc
    obtain ⟨-, -, -, -, d4, d5, -, -, -, -, -, -, -, -⟩ := hcc
    have z5 := hS.2.2.1 5
    go_wp2_with fail
    clear d4 d5 z5
    replace hS := hS.set5 hne hout (sOf (rTextV (uGet l (k4 l st).1) (bits .and .i64 (kf l st) 4 != 0) (k4 l st)))
    refine (textR_c (bits .and .i64 (kf l st) 4 != 0) g _ l (k5 l st) _ (HL.out _ hS.2.2.2) hS.1).mono ?_
    rintro r w6 ⟨rfl, hR', hkk⟩
    replace hS : RS w w6 gc g _ l (k6 l st) _ := hS.call hne hR' hkk
    clear hR' hkk
    have hcc := hS.2.1
    simp only [ConAt] at hcc
    obtain ⟨-, -, -, -, -, -, d6, -, -, d9, -, -, -, -⟩ := hcc
    have z6 := hS.2.2.1 6
    go_wp2_with fail
    clear d6 d9 z6
    replace hS := hS.set6 hne hout (sOf (rTextV (uGetRaw l (k5 l st).1) (bits .and .i64 (kf l st) 4 != 0) (k5 l st)))
    refine (textT_c (bits .and .i64 (kf l st) 128 != 0) g _ l (k6 l st) _ (HL.out _ hS.2.2.2) hS.1).mono ?_
    rintro r w7 ⟨rfl, hR', hkk⟩
    replace hS : RS w w7 gc g _ l (k7 l st) _ := hS.call hne hR' hkk
    clear hR' hkk
    have hcc := hS.2.1
    simp only [ConAt] at hcc
    obtain ⟨-, -, -, -, -, -, -, -, -, -, d10, d11, -, -⟩ := hcc
    have z10 := hS.2.2.1 10
    go_wp2_with fail
    clear d10 d11 z10
    replace hS := hS.set10 hne hout (sOf (rTextV (uGet l (k6 l st).1) (bits .and .i64 (kf l st) 128 != 0) (k6 l st)))
    refine (textR_c (bits .and .i64 (kf l st) 64 != 0) g _ l (k7 l st) _ (HL.out _ hS.2.2.2) hS.1).mono ?_
    rintro r w8 ⟨rfl, hR', hkk⟩
    replace hS : RS w w8 gc g _ l (k8 l st) _ := hS.call hne hR' hkk
    clear hR' hkk
    have hcc := hS.2.1
    simp only [ConAt] at hcc
    obtain ⟨-, -, -, -, -, -, -, -, -, -, -, -, d12, -⟩ := hcc
    have z12 := hS.2.2.1 12
    have hrr := hS.1
    obtain ⟨r0, -, r2, r3, -, -, -, -⟩ := hrr
    have hll : l.length ≤ 9223372036854775807 := by have := hS.1.2.1.len; unfold maxLen at this; omega
    by_cases h8 : (k8 l st).2 = 0
    · rw [h8] at r3
      by_cases h9 : (k8 l st).1 = l.length
      · have Hk := hd (show k9 l st = k8 l st from by rw [k9, if_neg (fun h => h.2 h9)])
        rw [h9] at r2
        clear h8 h9
        go_wp2_with fail
        go_quiet (fail)
        go_wp2_with fail
        go_end0
        rw [Hk.out]
        replace hS := hS.set12 hne hout (sOf (rTextV (uGetRaw l (k7 l st).1) (bits .and .i64 (kf l st) 64 != 0) (k7 l st)))
        replace hS := hS.quiet ((Keeps.refl [] _).drewN nq)
        exact ⟨rfl, hS.1, hS.2.1, hS.2.2.1, hS.2.2.2⟩
      · have Hk := hd (show k9 l st = rFail (k8 l st) 4 from by rw [k9, if_pos ⟨h8, h9⟩])
        have h9b : ((k8 l st).1 != (l.length : Int)) = true := by simpa using h9
        clear h8 h9
        go_wp2_with fail
        go_quiet (fail)
        go_wp2_with fail
        replace hS := hS.set12 hne hout (sOf (rTextV (uGetRaw l (k7 l st).1) (bits .and .i64 (kf l st) 64 != 0) (k7 l st)))
        replace hS := hS.quiet ((Keeps.refl [] _).drewN nq)
        refine (fail_c 4 g _ l (k8 l st) _ hS.1).mono ?_
        rintro r w9 ⟨rfl, hR', hkk⟩
        rw [← Hk.out] at hR'
        replace hS := hS.call hne hR' hkk
        go_wp2_with fail
        go_end0
        exact ⟨rfl, hS.1, hS.2.1, hS.2.2.1, hS.2.2.2⟩
    · have Hk := hd (show k9 l st = k8 l st from by rw [k9, if_neg (fun h => h8 h.1)])
      have h8b : ((k8 l st).2 == 0) = false := by simpa using h8
      clear h8
      go_wp2_with fail
      go_quiet (fail)
      go_wp2_with fail
      go_end0
      rw [Hk.out]
      replace hS := hS.set12 hne hout (sOf (rTextV (uGetRaw l (k7 l st).1) (bits .and .i64 (kf l st) 64 != 0) (k7 l st)))
      replace hS := hS.quiet ((Keeps.refl [] _).drewN nq)
      exact ⟨rfl, hS.1, hS.2.1, hS.2.2.1, hS.2.2.2⟩
end Go.Proofs.YtinfcjnmloglhaaDoor
