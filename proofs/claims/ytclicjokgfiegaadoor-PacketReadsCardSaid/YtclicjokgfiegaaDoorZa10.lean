/- A bundle of texts (merged for the limit on files): ConRest, ConOf. -/
import Derived.Test.YtclicjokgfiegaaDoorZa9
import Derived.Defers
/- Who comes: what stands behind the level: the walk (printed by wip/gen/conrest2.py). -/
namespace Go.Proofs.YtclicjokgfiegaaDoor
open Go.RowKit
set_option linter.unusedVariables false
set_option linter.unusedSimpArgs false

/-- The reader's states behind each step, from what stands behind the level on. -/
def kf (l : List UInt8) (s : Int × Int) : Int := rOneV l s
def k1 (l : List UInt8) (s : Int × Int) : Int × Int := rOneS l s
def k2 (l : List UInt8) (s : Int × Int) : Int × Int := if (k1 l s).2 = 0 ∧ cMay (kf l s) = false then rFail (k1 l s) 10 else k1 l s
def k3 (l : List UInt8) (s : Int × Int) : Int × Int := rTwoS l (k2 l s)
def k4 (l : List UInt8) (s : Int × Int) : Int × Int := rTextS (uGet l (k3 l s).1) true (k3 l s)
def k5 (l : List UInt8) (s : Int × Int) : Int × Int := rTextS (uGet l (k4 l s).1) (fb (kf l s) 4) (k4 l s)
def k6 (l : List UInt8) (s : Int × Int) : Int × Int := rTextS (uGetRaw l (k5 l s).1) (fb (kf l s) 4) (k5 l s)
def k7 (l : List UInt8) (s : Int × Int) : Int × Int := rTextS (uGet l (k6 l s).1) (fb (kf l s) 128) (k6 l s)
def k8 (l : List UInt8) (s : Int × Int) : Int × Int := rTextS (uGetRaw l (k7 l s).1) (fb (kf l s) 64) (k7 l s)
def k9 (l : List UInt8) (s : Int × Int) : Int × Int := if (k8 l s).2 = 0 ∧ (k8 l s).1 ≠ l.length then rFail (k8 l s) 4 else k8 l s
def kCon (lv : Int) (l : List UInt8) (s : Int × Int) : Con :=
  ⟨lv, fb (kf l s) 2, rTwoV l (k2 l s), sOf (rTextV (uGet l (k3 l s).1) true (k3 l s)), fb (kf l s) 4, sOf (rTextV (uGet l (k4 l s).1) (fb (kf l s) 4) (k4 l s)), sOf (rTextV (uGetRaw l (k5 l s).1) (fb (kf l s) 4) (k5 l s)),
    bits .and .i64 (kf l s / 8) 3, fb (kf l s) 32, fb (kf l s) 128, sOf (rTextV (uGet l (k6 l s).1) (fb (kf l s) 128) (k6 l s)), fb (kf l s) 64, sOf (rTextV (uGetRaw l (k7 l s).1) (fb (kf l s) 64) (k7 l s))⟩
theorem kf_rng (l : List UInt8) (s : Int × Int) : 0 ≤ kf l s ∧ kf l s ≤ 255 := by
  unfold kf rOneV
  have := bN_lt l s.1.toNat
  repeat' split
  all_goals omega

/-- None of a block's first cells is frozen. -/
def Free (w : World) (b : Nat) : Prop := ∀ o, w.frozen? ⟨b, o, none⟩ = false
theorem Free.set {w : World} {b : Nat} (h : Free w b) (p : Addr) (u : Value) : Free (w.setCell p u) b := fun o => by have := h o; simp [go_sem, this]
theorem Free.keeps {S : List Nat} {w w' : World} {b : Nat} (h : Free w b) (hk : Keeps S w w') (hb : b < w.heap.size) (hn : b ∉ S) : Free w' b := fun o => (hk.free hb hn).trans (h o)
theorem ConAt.keeps {S : List Nat} {w w' : World} {b : Nat} {c : Con} (h : ConAt w b c) (hk : Keeps S w w') (hn : b ∉ S) : ConAt w' b c := by
  obtain ⟨h0, h1, h2, h3, h4, h5, h6, h7, h8, h9, h10, h11, h12, hl⟩ := h
  exact ⟨(hk.cell hl hn).trans h0, (hk.cell hl hn).trans h1, (hk.cell hl hn).trans h2, (hk.cell hl hn).trans h3, (hk.cell hl hn).trans h4, (hk.cell hl hn).trans h5, (hk.cell hl hn).trans h6, (hk.cell hl hn).trans h7, (hk.cell hl hn).trans h8, (hk.cell hl hn).trans h9, (hk.cell hl hn).trans h10, (hk.cell hl hn).trans h11, (hk.cell hl hn).trans h12, Nat.lt_of_lt_of_le hl hk.size⟩
theorem ConAt.set0 {w : World} {b : Nat} {c : Con} (h : ConAt w b c) (x : Int) : ConAt (w.setCell ⟨b, 0, none⟩ (.int .i64 x)) b { c with level := x } := by
  obtain ⟨h0, h1, h2, h3, h4, h5, h6, h7, h8, h9, h10, h11, h12, hl⟩ := h
  exact ⟨by simp [go_sem, h0], by simp [go_sem, h1], by simp [go_sem, h2], by simp [go_sem, h3], by simp [go_sem, h4], by simp [go_sem, h5], by simp [go_sem, h6], by simp [go_sem, h7], by simp [go_sem, h8], by simp [go_sem, h9], by simp [go_sem, h10], by simp [go_sem, h11], by simp [go_sem, h12], by simpa [go_sem] using hl⟩
theorem ConAt.set1 {w : World} {b : Nat} {c : Con} (h : ConAt w b c) (x : Bool) : ConAt (w.setCell ⟨b, 1, none⟩ (.bool x)) b { c with clean := x } := by
  obtain ⟨h0, h1, h2, h3, h4, h5, h6, h7, h8, h9, h10, h11, h12, hl⟩ := h
  exact ⟨by simp [go_sem, h0], by simp [go_sem, h1], by simp [go_sem, h2], by simp [go_sem, h3], by simp [go_sem, h4], by simp [go_sem, h5], by simp [go_sem, h6], by simp [go_sem, h7], by simp [go_sem, h8], by simp [go_sem, h9], by simp [go_sem, h10], by simp [go_sem, h11], by simp [go_sem, h12], by simpa [go_sem] using hl⟩
theorem ConAt.set2 {w : World} {b : Nat} {c : Con} (h : ConAt w b c) (x : Int) : ConAt (w.setCell ⟨b, 2, none⟩ (.int .i64 x)) b { c with keep := x } := by
  obtain ⟨h0, h1, h2, h3, h4, h5, h6, h7, h8, h9, h10, h11, h12, hl⟩ := h
  exact ⟨by simp [go_sem, h0], by simp [go_sem, h1], by simp [go_sem, h2], by simp [go_sem, h3], by simp [go_sem, h4], by simp [go_sem, h5], by simp [go_sem, h6], by simp [go_sem, h7], by simp [go_sem, h8], by simp [go_sem, h9], by simp [go_sem, h10], by simp [go_sem, h11], by simp [go_sem, h12], by simpa [go_sem] using hl⟩
theorem ConAt.set3 {w : World} {b : Nat} {c : Con} (h : ConAt w b c) (x : ByteArray) : ConAt (w.setCell ⟨b, 3, none⟩ (.string x)) b { c with client := x } := by
  obtain ⟨h0, h1, h2, h3, h4, h5, h6, h7, h8, h9, h10, h11, h12, hl⟩ := h
  exact ⟨by simp [go_sem, h0], by simp [go_sem, h1], by simp [go_sem, h2], by simp [go_sem, h3], by simp [go_sem, h4], by simp [go_sem, h5], by simp [go_sem, h6], by simp [go_sem, h7], by simp [go_sem, h8], by simp [go_sem, h9], by simp [go_sem, h10], by simp [go_sem, h11], by simp [go_sem, h12], by simpa [go_sem] using hl⟩
theorem ConAt.set4 {w : World} {b : Nat} {c : Con} (h : ConAt w b c) (x : Bool) : ConAt (w.setCell ⟨b, 4, none⟩ (.bool x)) b { c with hasWill := x } := by
  obtain ⟨h0, h1, h2, h3, h4, h5, h6, h7, h8, h9, h10, h11, h12, hl⟩ := h
  exact ⟨by simp [go_sem, h0], by simp [go_sem, h1], by simp [go_sem, h2], by simp [go_sem, h3], by simp [go_sem, h4], by simp [go_sem, h5], by simp [go_sem, h6], by simp [go_sem, h7], by simp [go_sem, h8], by simp [go_sem, h9], by simp [go_sem, h10], by simp [go_sem, h11], by simp [go_sem, h12], by simpa [go_sem] using hl⟩
theorem ConAt.set5 {w : World} {b : Nat} {c : Con} (h : ConAt w b c) (x : ByteArray) : ConAt (w.setCell ⟨b, 5, none⟩ (.string x)) b { c with topic := x } := by
  obtain ⟨h0, h1, h2, h3, h4, h5, h6, h7, h8, h9, h10, h11, h12, hl⟩ := h
  exact ⟨by simp [go_sem, h0], by simp [go_sem, h1], by simp [go_sem, h2], by simp [go_sem, h3], by simp [go_sem, h4], by simp [go_sem, h5], by simp [go_sem, h6], by simp [go_sem, h7], by simp [go_sem, h8], by simp [go_sem, h9], by simp [go_sem, h10], by simp [go_sem, h11], by simp [go_sem, h12], by simpa [go_sem] using hl⟩
theorem ConAt.set6 {w : World} {b : Nat} {c : Con} (h : ConAt w b c) (x : ByteArray) : ConAt (w.setCell ⟨b, 6, none⟩ (.string x)) b { c with text := x } := by
  obtain ⟨h0, h1, h2, h3, h4, h5, h6, h7, h8, h9, h10, h11, h12, hl⟩ := h
  exact ⟨by simp [go_sem, h0], by simp [go_sem, h1], by simp [go_sem, h2], by simp [go_sem, h3], by simp [go_sem, h4], by simp [go_sem, h5], by simp [go_sem, h6], by simp [go_sem, h7], by simp [go_sem, h8], by simp [go_sem, h9], by simp [go_sem, h10], by simp [go_sem, h11], by simp [go_sem, h12], by simpa [go_sem] using hl⟩
theorem ConAt.set7 {w : World} {b : Nat} {c : Con} (h : ConAt w b c) (x : Int) : ConAt (w.setCell ⟨b, 7, none⟩ (.int .i64 x)) b { c with qos := x } := by
  obtain ⟨h0, h1, h2, h3, h4, h5, h6, h7, h8, h9, h10, h11, h12, hl⟩ := h
  exact ⟨by simp [go_sem, h0], by simp [go_sem, h1], by simp [go_sem, h2], by simp [go_sem, h3], by simp [go_sem, h4], by simp [go_sem, h5], by simp [go_sem, h6], by simp [go_sem, h7], by simp [go_sem, h8], by simp [go_sem, h9], by simp [go_sem, h10], by simp [go_sem, h11], by simp [go_sem, h12], by simpa [go_sem] using hl⟩
theorem ConAt.set8 {w : World} {b : Nat} {c : Con} (h : ConAt w b c) (x : Bool) : ConAt (w.setCell ⟨b, 8, none⟩ (.bool x)) b { c with retain := x } := by
  obtain ⟨h0, h1, h2, h3, h4, h5, h6, h7, h8, h9, h10, h11, h12, hl⟩ := h
  exact ⟨by simp [go_sem, h0], by simp [go_sem, h1], by simp [go_sem, h2], by simp [go_sem, h3], by simp [go_sem, h4], by simp [go_sem, h5], by simp [go_sem, h6], by simp [go_sem, h7], by simp [go_sem, h8], by simp [go_sem, h9], by simp [go_sem, h10], by simp [go_sem, h11], by simp [go_sem, h12], by simpa [go_sem] using hl⟩
theorem ConAt.set9 {w : World} {b : Nat} {c : Con} (h : ConAt w b c) (x : Bool) : ConAt (w.setCell ⟨b, 9, none⟩ (.bool x)) b { c with hasUser := x } := by
  obtain ⟨h0, h1, h2, h3, h4, h5, h6, h7, h8, h9, h10, h11, h12, hl⟩ := h
  exact ⟨by simp [go_sem, h0], by simp [go_sem, h1], by simp [go_sem, h2], by simp [go_sem, h3], by simp [go_sem, h4], by simp [go_sem, h5], by simp [go_sem, h6], by simp [go_sem, h7], by simp [go_sem, h8], by simp [go_sem, h9], by simp [go_sem, h10], by simp [go_sem, h11], by simp [go_sem, h12], by simpa [go_sem] using hl⟩
theorem ConAt.set10 {w : World} {b : Nat} {c : Con} (h : ConAt w b c) (x : ByteArray) : ConAt (w.setCell ⟨b, 10, none⟩ (.string x)) b { c with user := x } := by
  obtain ⟨h0, h1, h2, h3, h4, h5, h6, h7, h8, h9, h10, h11, h12, hl⟩ := h
  exact ⟨by simp [go_sem, h0], by simp [go_sem, h1], by simp [go_sem, h2], by simp [go_sem, h3], by simp [go_sem, h4], by simp [go_sem, h5], by simp [go_sem, h6], by simp [go_sem, h7], by simp [go_sem, h8], by simp [go_sem, h9], by simp [go_sem, h10], by simp [go_sem, h11], by simp [go_sem, h12], by simpa [go_sem] using hl⟩
theorem ConAt.set11 {w : World} {b : Nat} {c : Con} (h : ConAt w b c) (x : Bool) : ConAt (w.setCell ⟨b, 11, none⟩ (.bool x)) b { c with hasPass := x } := by
  obtain ⟨h0, h1, h2, h3, h4, h5, h6, h7, h8, h9, h10, h11, h12, hl⟩ := h
  exact ⟨by simp [go_sem, h0], by simp [go_sem, h1], by simp [go_sem, h2], by simp [go_sem, h3], by simp [go_sem, h4], by simp [go_sem, h5], by simp [go_sem, h6], by simp [go_sem, h7], by simp [go_sem, h8], by simp [go_sem, h9], by simp [go_sem, h10], by simp [go_sem, h11], by simp [go_sem, h12], by simpa [go_sem] using hl⟩
theorem ConAt.set12 {w : World} {b : Nat} {c : Con} (h : ConAt w b c) (x : ByteArray) : ConAt (w.setCell ⟨b, 12, none⟩ (.string x)) b { c with pass := x } := by
  obtain ⟨h0, h1, h2, h3, h4, h5, h6, h7, h8, h9, h10, h11, h12, hl⟩ := h
  exact ⟨by simp [go_sem, h0], by simp [go_sem, h1], by simp [go_sem, h2], by simp [go_sem, h3], by simp [go_sem, h4], by simp [go_sem, h5], by simp [go_sem, h6], by simp [go_sem, h7], by simp [go_sem, h8], by simp [go_sem, h9], by simp [go_sem, h10], by simp [go_sem, h11], by simp [go_sem, h12], by simpa [go_sem] using hl⟩

/-- The state of both, in the world W, the call having begun in w. -/
def RS (w W : World) (gc g : Nat) (v : Value) (l : List UInt8) (st : Int × Int) (c : Con) : Prop := RdAt W g v l st ∧ ConAt W gc c ∧ Free W gc ∧ Keeps [gc, g] w W
theorem ConAt.lt {w : World} {b : Nat} {c : Con} (h : ConAt w b c) : b < w.heap.size := by
  obtain ⟨_, _, _, _, _, _, _, _, _, _, _, _, _, hl⟩ := h
  exact hl
theorem RS.call {w W W' : World} {gc g : Nat} {v : Value} {l : List UInt8} {st st' : Int × Int} {c : Con} (h : RS w W gc g v l st c) (hne : gc ≠ g) (hR : RdAt W' g v l st') (hk : Keeps [g] W W') : RS w W' gc g v l st' c :=
  ⟨hR, h.2.1.keeps hk (by simp [hne]), h.2.2.1.keeps hk h.2.1.lt (by simp [hne]), h.2.2.2.trans (hk.mono (fun k h => by simp at h; simp [h]))⟩
theorem RS.quiet {w W W' : World} {gc g : Nat} {v : Value} {l : List UInt8} {st : Int × Int} {c : Con} (h : RS w W gc g v l st c) (hk : Keeps [] W W') : RS w W' gc g v l st c :=
  ⟨h.1.keeps hk (by simp) (OutOf.nil _), h.2.1.keeps hk (by simp), h.2.2.1.keeps hk h.2.1.lt (by simp), h.2.2.2.trans (hk.mono (fun k h => by simp at h))⟩
theorem RS.set0 {w W : World} {gc g : Nat} {v : Value} {l : List UInt8} {st : Int × Int} {c : Con} (h : RS w W gc g v l st c) (hne : gc ≠ g) (ho : OutOf v [gc]) (x : Int) : RS w (W.setCell ⟨gc, 0, none⟩ (.int .i64 x)) gc g v l st { c with level := x } :=
  ⟨h.1.keeps ((Keeps.refl [gc] W).setCell (.inl (by simp)) _) (by simp; omega) ho, h.2.1.set0 x, h.2.2.1.set _ _, h.2.2.2.setCell (.inl (by simp)) _⟩
theorem RS.set1 {w W : World} {gc g : Nat} {v : Value} {l : List UInt8} {st : Int × Int} {c : Con} (h : RS w W gc g v l st c) (hne : gc ≠ g) (ho : OutOf v [gc]) (x : Bool) : RS w (W.setCell ⟨gc, 1, none⟩ (.bool x)) gc g v l st { c with clean := x } :=
  ⟨h.1.keeps ((Keeps.refl [gc] W).setCell (.inl (by simp)) _) (by simp; omega) ho, h.2.1.set1 x, h.2.2.1.set _ _, h.2.2.2.setCell (.inl (by simp)) _⟩
theorem RS.set2 {w W : World} {gc g : Nat} {v : Value} {l : List UInt8} {st : Int × Int} {c : Con} (h : RS w W gc g v l st c) (hne : gc ≠ g) (ho : OutOf v [gc]) (x : Int) : RS w (W.setCell ⟨gc, 2, none⟩ (.int .i64 x)) gc g v l st { c with keep := x } :=
  ⟨h.1.keeps ((Keeps.refl [gc] W).setCell (.inl (by simp)) _) (by simp; omega) ho, h.2.1.set2 x, h.2.2.1.set _ _, h.2.2.2.setCell (.inl (by simp)) _⟩
theorem RS.set3 {w W : World} {gc g : Nat} {v : Value} {l : List UInt8} {st : Int × Int} {c : Con} (h : RS w W gc g v l st c) (hne : gc ≠ g) (ho : OutOf v [gc]) (x : ByteArray) : RS w (W.setCell ⟨gc, 3, none⟩ (.string x)) gc g v l st { c with client := x } :=
  ⟨h.1.keeps ((Keeps.refl [gc] W).setCell (.inl (by simp)) _) (by simp; omega) ho, h.2.1.set3 x, h.2.2.1.set _ _, h.2.2.2.setCell (.inl (by simp)) _⟩
theorem RS.set4 {w W : World} {gc g : Nat} {v : Value} {l : List UInt8} {st : Int × Int} {c : Con} (h : RS w W gc g v l st c) (hne : gc ≠ g) (ho : OutOf v [gc]) (x : Bool) : RS w (W.setCell ⟨gc, 4, none⟩ (.bool x)) gc g v l st { c with hasWill := x } :=
  ⟨h.1.keeps ((Keeps.refl [gc] W).setCell (.inl (by simp)) _) (by simp; omega) ho, h.2.1.set4 x, h.2.2.1.set _ _, h.2.2.2.setCell (.inl (by simp)) _⟩
theorem RS.set5 {w W : World} {gc g : Nat} {v : Value} {l : List UInt8} {st : Int × Int} {c : Con} (h : RS w W gc g v l st c) (hne : gc ≠ g) (ho : OutOf v [gc]) (x : ByteArray) : RS w (W.setCell ⟨gc, 5, none⟩ (.string x)) gc g v l st { c with topic := x } :=
  ⟨h.1.keeps ((Keeps.refl [gc] W).setCell (.inl (by simp)) _) (by simp; omega) ho, h.2.1.set5 x, h.2.2.1.set _ _, h.2.2.2.setCell (.inl (by simp)) _⟩
theorem RS.set6 {w W : World} {gc g : Nat} {v : Value} {l : List UInt8} {st : Int × Int} {c : Con} (h : RS w W gc g v l st c) (hne : gc ≠ g) (ho : OutOf v [gc]) (x : ByteArray) : RS w (W.setCell ⟨gc, 6, none⟩ (.string x)) gc g v l st { c with text := x } :=
  ⟨h.1.keeps ((Keeps.refl [gc] W).setCell (.inl (by simp)) _) (by simp; omega) ho, h.2.1.set6 x, h.2.2.1.set _ _, h.2.2.2.setCell (.inl (by simp)) _⟩
theorem RS.set7 {w W : World} {gc g : Nat} {v : Value} {l : List UInt8} {st : Int × Int} {c : Con} (h : RS w W gc g v l st c) (hne : gc ≠ g) (ho : OutOf v [gc]) (x : Int) : RS w (W.setCell ⟨gc, 7, none⟩ (.int .i64 x)) gc g v l st { c with qos := x } :=
  ⟨h.1.keeps ((Keeps.refl [gc] W).setCell (.inl (by simp)) _) (by simp; omega) ho, h.2.1.set7 x, h.2.2.1.set _ _, h.2.2.2.setCell (.inl (by simp)) _⟩
theorem RS.set8 {w W : World} {gc g : Nat} {v : Value} {l : List UInt8} {st : Int × Int} {c : Con} (h : RS w W gc g v l st c) (hne : gc ≠ g) (ho : OutOf v [gc]) (x : Bool) : RS w (W.setCell ⟨gc, 8, none⟩ (.bool x)) gc g v l st { c with retain := x } :=
  ⟨h.1.keeps ((Keeps.refl [gc] W).setCell (.inl (by simp)) _) (by simp; omega) ho, h.2.1.set8 x, h.2.2.1.set _ _, h.2.2.2.setCell (.inl (by simp)) _⟩
theorem RS.set9 {w W : World} {gc g : Nat} {v : Value} {l : List UInt8} {st : Int × Int} {c : Con} (h : RS w W gc g v l st c) (hne : gc ≠ g) (ho : OutOf v [gc]) (x : Bool) : RS w (W.setCell ⟨gc, 9, none⟩ (.bool x)) gc g v l st { c with hasUser := x } :=
  ⟨h.1.keeps ((Keeps.refl [gc] W).setCell (.inl (by simp)) _) (by simp; omega) ho, h.2.1.set9 x, h.2.2.1.set _ _, h.2.2.2.setCell (.inl (by simp)) _⟩
theorem RS.set10 {w W : World} {gc g : Nat} {v : Value} {l : List UInt8} {st : Int × Int} {c : Con} (h : RS w W gc g v l st c) (hne : gc ≠ g) (ho : OutOf v [gc]) (x : ByteArray) : RS w (W.setCell ⟨gc, 10, none⟩ (.string x)) gc g v l st { c with user := x } :=
  ⟨h.1.keeps ((Keeps.refl [gc] W).setCell (.inl (by simp)) _) (by simp; omega) ho, h.2.1.set10 x, h.2.2.1.set _ _, h.2.2.2.setCell (.inl (by simp)) _⟩
theorem RS.set11 {w W : World} {gc g : Nat} {v : Value} {l : List UInt8} {st : Int × Int} {c : Con} (h : RS w W gc g v l st c) (hne : gc ≠ g) (ho : OutOf v [gc]) (x : Bool) : RS w (W.setCell ⟨gc, 11, none⟩ (.bool x)) gc g v l st { c with hasPass := x } :=
  ⟨h.1.keeps ((Keeps.refl [gc] W).setCell (.inl (by simp)) _) (by simp; omega) ho, h.2.1.set11 x, h.2.2.1.set _ _, h.2.2.2.setCell (.inl (by simp)) _⟩
theorem RS.set12 {w W : World} {gc g : Nat} {v : Value} {l : List UInt8} {st : Int × Int} {c : Con} (h : RS w W gc g v l st c) (hne : gc ≠ g) (ho : OutOf v [gc]) (x : ByteArray) : RS w (W.setCell ⟨gc, 12, none⟩ (.string x)) gc g v l st { c with pass := x } :=
  ⟨h.1.keeps ((Keeps.refl [gc] W).setCell (.inl (by simp)) _) (by simp; omega) ho, h.2.1.set12 x, h.2.2.1.set _ _, h.2.2.2.setCell (.inl (by simp)) _⟩

set_option maxRecDepth 100000 in
set_option maxHeartbeats 16000000 in
theorem rest_c (gc g : Nat) (v : Value) (l : List UInt8) (st : Int × Int) (c0 : Con) (w : World) (hne : gc ≠ g) (hR : RdAt w g v l st) (hcon : ConAt w gc c0) (hfr : Free w gc) (hout : OutOf v [gc]) (hp : 0 ≤ st.1 ∧ st.1 ≤ 140737488355328) (hlow : ∀ W, Keeps [gc, g] w W → EnvU W) :
    Calls Tryd.prog 186 #[.pointer (some ⟨g, 0, none⟩), .pointer (some ⟨gc, 0, none⟩)] w fun r w' => r = .returned (.tuple #[]) ∧ RdAt w' g v l (k9 l st) ∧ ConAt w' gc (kCon c0.level l st) ∧ Free w' gc ∧ Keeps [gc, g] w w' := by
  have HL := hd hlow; clear hlow
  have hS : RS w w gc g v l st c0 := ⟨hR, hcon, hfr, Keeps.refl _ _⟩
  clear hR hcon hfr
  obtain ⟨fr0, fr1⟩ := kf_rng l st
  obtain ⟨a, cc, rfl⟩ : ∃ a cc, v = .slice a l.length cc := hS.1.2.1.slice
  go_enter Tryd.func186, Tryd.ntmps186
  go_wp2_with fail
  refine (one_c g _ l st _ hS.1 hp).mono ?_
  rintro r w1 ⟨rfl, hR', hkk⟩
  replace hS : RS w w1 gc g (.slice a l.length cc) l (k1 l st) c0 := hS.call hne hR' hkk
  clear hR' hkk hp
  have hkf : rOneV l st = kf l st := rfl
  rw [hkf]
  clear hkf
  have hrr := hS.1
  obtain ⟨-, -, -, r3, -, -, -, -⟩ := hrr
  by_cases he : (k1 l st).2 = 0
  · cases hm : cMay (kf l st)
    · skip
      have Hk2 := hd (show k2 l st = rFail (k1 l st) 10 from by rw [k2, if_pos ⟨he, hm⟩])
      rw [he] at r3
      clear he
      go_wp2_with fail
      clear r3
      refine (may_c _ fr0 fr1 _).mono ?_
      rw [hm]
      rintro r w' ⟨rfl, rfl⟩
      clear hm
      go_wp2_with fail
      refine (fail_c 10 g _ l (k1 l st) _ hS.1).mono ?_
      rintro r w2 ⟨rfl, hR', hkk⟩
      rw [← Hk2.out] at hR'
      replace hS := hS.call hne hR' hkk
      clear hR' hkk Hk2
      have hcc := hS.2.1
      simp only [ConAt] at hcc
      obtain ⟨-, d1, -, -, d4, -, -, -, -, d9, -, d11, -, -⟩ := hcc
      have z1 := hS.2.2.1 1
      have z4 := hS.2.2.1 4
      have z9 := hS.2.2.1 9
      have z11 := hS.2.2.1 11
      go_wp2_with fail
      clear d1 d4 d9 d11 z1 z4 z9 z11
      replace hS := hS.set1 hne hout (bits .and .i64 (kf l st) 2 != 0)
      replace hS := hS.set4 hne hout (bits .and .i64 (kf l st) 4 != 0)
      replace hS := hS.set11 hne hout (bits .and .i64 (kf l st) 64 != 0)
      replace hS := hS.set9 hne hout (bits .and .i64 (kf l st) 128 != 0)
      refine (two_c g _ l (k2 l st) _ hS.1).mono ?_
      rintro r w3 ⟨rfl, hR', hkk⟩
      replace hS : RS w w3 gc g _ l (k3 l st) _ := hS.call hne hR' hkk
      clear hR' hkk
      have hcc := hS.2.1
      simp only [ConAt] at hcc
      obtain ⟨-, -, d2, -, -, -, -, -, -, -, -, -, -, -⟩ := hcc
      have z2 := hS.2.2.1 2
      go_wp2_with fail
      clear d2 z2
      replace hS := hS.set2 hne hout (rTwoV l (k2 l st))
      refine (textT_c true g _ l (k3 l st) _ (HL.out _ hS.2.2.2) hS.1).mono ?_
      rintro r w4 ⟨rfl, hR', hkk⟩
      replace hS : RS w w4 gc g _ l (k4 l st) _ := hS.call hne hR' hkk
      clear hR' hkk
      have hcc := hS.2.1
      simp only [ConAt] at hcc
      obtain ⟨-, -, -, d3, d4, -, -, d7, d8, -, -, -, -, -⟩ := hcc
      have z3 := hS.2.2.1 3
      have z7 := hS.2.2.1 7
      have z8 := hS.2.2.1 8
      go_wp2_with fail
      clear d3 d4 d7 d8 z3 z7 z8
      replace hS := hS.set3 hne hout (sOf (rTextV (uGet l (k3 l st).1) true (k3 l st)))
      replace hS := hS.set7 hne hout (bits .and .i64 (kf l st / 8) 3)
      replace hS := hS.set8 hne hout (bits .and .i64 (kf l st) 32 != 0)
      refine (textT_c (bits .and .i64 (kf l st) 4 != 0) g _ l (k4 l st) _ (HL.out _ hS.2.2.2) hS.1).mono ?_
      rintro r w5 ⟨rfl, hR', hkk⟩
      replace hS : RS w w5 gc g _ l (k5 l st) _ := hS.call hne hR' hkk
      clear hR' hkk
      have hcc := hS.2.1
      simp only [ConAt] at hcc
      obtain ⟨-, -, -, -, d4, d5, -, -, -, -, -, -, -, -⟩ := hcc
      have z5 := hS.2.2.1 5
      go_wp2_with fail
      clear d4 d5 z5
      replace hS := hS.set5 hne hout (sOf (rTextV (uGet l (k4 l st).1) (bits .and .i64 (kf l st) 4 != 0) (k4 l st)))
      refine (textR_c (bits .and .i64 (kf l st) 4 != 0) g _ l (k5 l st) _ (HL.out _ hS.2.2.2) hS.1).mono ?_
      rintro r w6 ⟨rfl, hR', hkk⟩
      replace hS : RS w w6 gc g _ l (k6 l st) _ := hS.call hne hR' hkk
      clear hR' hkk
      have hcc := hS.2.1
      simp only [ConAt] at hcc
      obtain ⟨-, -, -, -, -, -, d6, -, -, d9, -, -, -, -⟩ := hcc
      have z6 := hS.2.2.1 6
      go_wp2_with fail
      clear d6 d9 z6
      replace hS := hS.set6 hne hout (sOf (rTextV (uGetRaw l (k5 l st).1) (bits .and .i64 (kf l st) 4 != 0) (k5 l st)))
      refine (textT_c (bits .and .i64 (kf l st) 128 != 0) g _ l (k6 l st) _ (HL.out _ hS.2.2.2) hS.1).mono ?_
      rintro r w7 ⟨rfl, hR', hkk⟩
      replace hS : RS w w7 gc g _ l (k7 l st) _ := hS.call hne hR' hkk
      clear hR' hkk
      have hcc := hS.2.1
      simp only [ConAt] at hcc
      obtain ⟨-, -, -, -, -, -, -, -, -, -, d10, d11, -, -⟩ := hcc
      have z10 := hS.2.2.1 10
      go_wp2_with fail
      clear d10 d11 z10
      replace hS := hS.set10 hne hout (sOf (rTextV (uGet l (k6 l st).1) (bits .and .i64 (kf l st) 128 != 0) (k6 l st)))
      refine (textR_c (bits .and .i64 (kf l st) 64 != 0) g _ l (k7 l st) _ (HL.out _ hS.2.2.2) hS.1).mono ?_
      rintro r w8 ⟨rfl, hR', hkk⟩
      replace hS : RS w w8 gc g _ l (k8 l st) _ := hS.call hne hR' hkk
      clear hR' hkk
      have hcc := hS.2.1
      simp only [ConAt] at hcc
      obtain ⟨-, -, -, -, -, -, -, -, -, -, -, -, d12, -⟩ := hcc
      have z12 := hS.2.2.1 12
      have hrr := hS.1
      obtain ⟨r0, -, r2, r3, -, -, -, -⟩ := hrr
      have hll : l.length ≤ 9223372036854775807 := by have := hS.1.2.1.len; unfold maxLen at this; omega
      by_cases h8 : (k8 l st).2 = 0
      · rw [h8] at r3
        by_cases h9 : (k8 l st).1 = l.length
        · have Hk := hd (show k9 l st = k8 l st from by rw [k9, if_neg (fun h => h.2 h9)])
          rw [h9] at r2
          clear h8 h9
          go_wp2_with fail
          go_quiet (fail)
          go_wp2_with fail
          go_end0
          rw [Hk.out]
          replace hS := hS.set12 hne hout (sOf (rTextV (uGetRaw l (k7 l st).1) (bits .and .i64 (kf l st) 64 != 0) (k7 l st)))
          replace hS := hS.quiet ((Keeps.refl [] _).drewN nq)
          exact ⟨rfl, hS.1, hS.2.1, hS.2.2.1, hS.2.2.2⟩
        · have Hk := hd (show k9 l st = rFail (k8 l st) 4 from by rw [k9, if_pos ⟨h8, h9⟩])
          have h9b : ((k8 l st).1 != (l.length : Int)) = true := by simpa using h9
          clear h8 h9
          go_wp2_with fail
          go_quiet (fail)
          go_wp2_with fail
          replace hS := hS.set12 hne hout (sOf (rTextV (uGetRaw l (k7 l st).1) (bits .and .i64 (kf l st) 64 != 0) (k7 l st)))
          replace hS := hS.quiet ((Keeps.refl [] _).drewN nq)
          refine (fail_c 4 g _ l (k8 l st) _ hS.1).mono ?_
          rintro r w9 ⟨rfl, hR', hkk⟩
          rw [← Hk.out] at hR'
          replace hS := hS.call hne hR' hkk
          go_wp2_with fail
          go_end0
          exact ⟨rfl, hS.1, hS.2.1, hS.2.2.1, hS.2.2.2⟩
      · have Hk := hd (show k9 l st = k8 l st from by rw [k9, if_neg (fun h => h8 h.1)])
        have h8b : ((k8 l st).2 == 0) = false := by simpa using h8
        clear h8
        go_wp2_with fail
        go_quiet (fail)
        go_wp2_with fail
        go_end0
        rw [Hk.out]
        replace hS := hS.set12 hne hout (sOf (rTextV (uGetRaw l (k7 l st).1) (bits .and .i64 (kf l st) 64 != 0) (k7 l st)))
        replace hS := hS.quiet ((Keeps.refl [] _).drewN nq)
        exact ⟨rfl, hS.1, hS.2.1, hS.2.2.1, hS.2.2.2⟩
    · skip
      have Hk2 := hd (show k2 l st = k1 l st from by rw [k2, if_neg (fun h => by rw [hm] at h; simp at h)])
      rw [he] at r3
      clear he
      go_wp2_with fail
      clear r3
      refine (may_c _ fr0 fr1 _).mono ?_
      rw [hm]
      rintro r w' ⟨rfl, rfl⟩
      clear hm
      have hcc := hS.2.1
      simp only [ConAt] at hcc
      obtain ⟨-, d1, -, -, d4, -, -, -, -, d9, -, d11, -, -⟩ := hcc
      have z1 := hS.2.2.1 1
      have z4 := hS.2.2.1 4
      have z9 := hS.2.2.1 9
      have z11 := hS.2.2.1 11
      go_wp2_with fail
      clear d1 d4 d9 d11 z1 z4 z9 z11
      rw [← Hk2.out] at hS
      clear Hk2
      replace hS := hS.set1 hne hout (bits .and .i64 (kf l st) 2 != 0)
      replace hS := hS.set4 hne hout (bits .and .i64 (kf l st) 4 != 0)
      replace hS := hS.set11 hne hout (bits .and .i64 (kf l st) 64 != 0)
      replace hS := hS.set9 hne hout (bits .and .i64 (kf l st) 128 != 0)
      refine (two_c g _ l (k2 l st) _ hS.1).mono ?_
      rintro r w3 ⟨rfl, hR', hkk⟩
      replace hS : RS w w3 gc g _ l (k3 l st) _ := hS.call hne hR' hkk
      clear hR' hkk
      have hcc := hS.2.1
      simp only [ConAt] at hcc
      obtain ⟨-, -, d2, -, -, -, -, -, -, -, -, -, -, -⟩ := hcc
      have z2 := hS.2.2.1 2
      go_wp2_with fail
      clear d2 z2
      replace hS := hS.set2 hne hout (rTwoV l (k2 l st))
      refine (textT_c true g _ l (k3 l st) _ (HL.out _ hS.2.2.2) hS.1).mono ?_
      rintro r w4 ⟨rfl, hR', hkk⟩
      replace hS : RS w w4 gc g _ l (k4 l st) _ := hS.call hne hR' hkk
      clear hR' hkk
      have hcc := hS.2.1
      simp only [ConAt] at hcc
      obtain ⟨-, -, -, d3, d4, -, -, d7, d8, -, -, -, -, -⟩ := hcc
      have z3 := hS.2.2.1 3
      have z7 := hS.2.2.1 7
      have z8 := hS.2.2.1 8
      go_wp2_with fail
      clear d3 d4 d7 d8 z3 z7 z8
      replace hS := hS.set3 hne hout (sOf (rTextV (uGet l (k3 l st).1) true (k3 l st)))
      replace hS := hS.set7 hne hout (bits .and .i64 (kf l st / 8) 3)
      replace hS := hS.set8 hne hout (bits .and .i64 (kf l st) 32 != 0)
      refine (textT_c (bits .and .i64 (kf l st) 4 != 0) g _ l (k4 l st) _ (HL.out _ hS.2.2.2) hS.1).mono ?_
      rintro r w5 ⟨rfl, hR', hkk⟩
      replace hS : RS w w5 gc g _ l (k5 l st) _ := hS.call hne hR' hkk
      clear hR' hkk
      have hcc := hS.2.1
      simp only [ConAt] at hcc
      obtain ⟨-, -, -, -, d4, d5, -, -, -, -, -, -, -, -⟩ := hcc
      have z5 := hS.2.2.1 5
      go_wp2_with fail
      clear d4 d5 z5
      replace hS := hS.set5 hne hout (sOf (rTextV (uGet l (k4 l st).1) (bits .and .i64 (kf l st) 4 != 0) (k4 l st)))
      refine (textR_c (bits .and .i64 (kf l st) 4 != 0) g _ l (k5 l st) _ (HL.out _ hS.2.2.2) hS.1).mono ?_
      rintro r w6 ⟨rfl, hR', hkk⟩
      replace hS : RS w w6 gc g _ l (k6 l st) _ := hS.call hne hR' hkk
      clear hR' hkk
      have hcc := hS.2.1
      simp only [ConAt] at hcc
      obtain ⟨-, -, -, -, -, -, d6, -, -, d9, -, -, -, -⟩ := hcc
      have z6 := hS.2.2.1 6
      go_wp2_with fail
      clear d6 d9 z6
      replace hS := hS.set6 hne hout (sOf (rTextV (uGetRaw l (k5 l st).1) (bits .and .i64 (kf l st) 4 != 0) (k5 l st)))
      refine (textT_c (bits .and .i64 (kf l st) 128 != 0) g _ l (k6 l st) _ (HL.out _ hS.2.2.2) hS.1).mono ?_
      rintro r w7 ⟨rfl, hR', hkk⟩
      replace hS : RS w w7 gc g _ l (k7 l st) _ := hS.call hne hR' hkk
      clear hR' hkk
      have hcc := hS.2.1
      simp only [ConAt] at hcc
      obtain ⟨-, -, -, -, -, -, -, -, -, -, d10, d11, -, -⟩ := hcc
      have z10 := hS.2.2.1 10
      go_wp2_with fail
      clear d10 d11 z10
      replace hS := hS.set10 hne hout (sOf (rTextV (uGet l (k6 l st).1) (bits .and .i64 (kf l st) 128 != 0) (k6 l st)))
      refine (textR_c (bits .and .i64 (kf l st) 64 != 0) g _ l (k7 l st) _ (HL.out _ hS.2.2.2) hS.1).mono ?_
      rintro r w8 ⟨rfl, hR', hkk⟩
      replace hS : RS w w8 gc g _ l (k8 l st) _ := hS.call hne hR' hkk
      clear hR' hkk
      have hcc := hS.2.1
      simp only [ConAt] at hcc
      obtain ⟨-, -, -, -, -, -, -, -, -, -, -, -, d12, -⟩ := hcc
      have z12 := hS.2.2.1 12
      have hrr := hS.1
      obtain ⟨r0, -, r2, r3, -, -, -, -⟩ := hrr
      have hll : l.length ≤ 9223372036854775807 := by have := hS.1.2.1.len; unfold maxLen at this; omega
      by_cases h8 : (k8 l st).2 = 0
      · rw [h8] at r3
        by_cases h9 : (k8 l st).1 = l.length
        · have Hk := hd (show k9 l st = k8 l st from by rw [k9, if_neg (fun h => h.2 h9)])
          rw [h9] at r2
          clear h8 h9
          go_wp2_with fail
          go_quiet (fail)
          go_wp2_with fail
          go_end0
          rw [Hk.out]
          replace hS := hS.set12 hne hout (sOf (rTextV (uGetRaw l (k7 l st).1) (bits .and .i64 (kf l st) 64 != 0) (k7 l st)))
          replace hS := hS.quiet ((Keeps.refl [] _).drewN nq)
          exact ⟨rfl, hS.1, hS.2.1, hS.2.2.1, hS.2.2.2⟩
        · have Hk := hd (show k9 l st = rFail (k8 l st) 4 from by rw [k9, if_pos ⟨h8, h9⟩])
          have h9b : ((k8 l st).1 != (l.length : Int)) = true := by simpa using h9
          clear h8 h9
          go_wp2_with fail
          go_quiet (fail)
          go_wp2_with fail
          replace hS := hS.set12 hne hout (sOf (rTextV (uGetRaw l (k7 l st).1) (bits .and .i64 (kf l st) 64 != 0) (k7 l st)))
          replace hS := hS.quiet ((Keeps.refl [] _).drewN nq)
          refine (fail_c 4 g _ l (k8 l st) _ hS.1).mono ?_
          rintro r w9 ⟨rfl, hR', hkk⟩
          rw [← Hk.out] at hR'
          replace hS := hS.call hne hR' hkk
          go_wp2_with fail
          go_end0
          exact ⟨rfl, hS.1, hS.2.1, hS.2.2.1, hS.2.2.2⟩
      · have Hk := hd (show k9 l st = k8 l st from by rw [k9, if_neg (fun h => h8 h.1)])
        have h8b : ((k8 l st).2 == 0) = false := by simpa using h8
        clear h8
        go_wp2_with fail
        go_quiet (fail)
        go_wp2_with fail
        go_end0
        rw [Hk.out]
        replace hS := hS.set12 hne hout (sOf (rTextV (uGetRaw l (k7 l st).1) (bits .and .i64 (kf l st) 64 != 0) (k7 l st)))
        replace hS := hS.quiet ((Keeps.refl [] _).drewN nq)
        exact ⟨rfl, hS.1, hS.2.1, hS.2.2.1, hS.2.2.2⟩
  · skip
    have Hk2 := hd (show k2 l st = k1 l st from by rw [k2, if_neg (fun h => he h.1)])
    have heb : ((k1 l st).2 == 0) = false := (by simpa using he)
    clear he
    have hcc := hS.2.1
    simp only [ConAt] at hcc
    obtain ⟨-, d1, -, -, d4, -, -, -, -, d9, -, d11, -, -⟩ := hcc
    have z1 := hS.2.2.1 1
    have z4 := hS.2.2.1 4
    have z9 := hS.2.2.1 9
    have z11 := hS.2.2.1 11
    go_wp2_with fail
    clear d1 d4 d9 d11 z1 z4 z9 z11 r3
    rw [← Hk2.out] at hS
    clear Hk2 heb
    replace hS := hS.set1 hne hout (bits .and .i64 (kf l st) 2 != 0)
    replace hS := hS.set4 hne hout (bits .and .i64 (kf l st) 4 != 0)
    replace hS := hS.set11 hne hout (bits .and .i64 (kf l st) 64 != 0)
    replace hS := hS.set9 hne hout (bits .and .i64 (kf l st) 128 != 0)
    refine (two_c g _ l (k2 l st) _ hS.1).mono ?_
    rintro r w3 ⟨rfl, hR', hkk⟩
    replace hS : RS w w3 gc g _ l (k3 l st) _ := hS.call hne hR' hkk
    clear hR' hkk
    have hcc := hS.2.1
    simp only [ConAt] at hcc
    obtain ⟨-, -, d2, -, -, -, -, -, -, -, -, -, -, -⟩ := hcc
    have z2 := hS.2.2.1 2
    go_wp2_with fail
    clear d2 z2
    replace hS := hS.set2 hne hout (rTwoV l (k2 l st))
    refine (textT_c true g _ l (k3 l st) _ (HL.out _ hS.2.2.2) hS.1).mono ?_
    rintro r w4 ⟨rfl, hR', hkk⟩
    replace hS : RS w w4 gc g _ l (k4 l st) _ := hS.call hne hR' hkk
    clear hR' hkk
    have hcc := hS.2.1
    simp only [ConAt] at hcc
    obtain ⟨-, -, -, d3, d4, -, -, d7, d8, -, -, -, -, -⟩ := hcc
    have z3 := hS.2.2.1 3
    have z7 := hS.2.2.1 7
    have z8 := hS.2.2.1 8
    go_wp2_with fail
    clear d3 d4 d7 d8 z3 z7 z8
    replace hS := hS.set3 hne hout (sOf (rTextV (uGet l (k3 l st).1) true (k3 l st)))
    replace hS := hS.set7 hne hout (bits .and .i64 (kf l st / 8) 3)
    replace hS := hS.set8 hne hout (bits .and .i64 (kf l st) 32 != 0)
    refine (textT_c (bits .and .i64 (kf l st) 4 != 0) g _ l (k4 l st) _ (HL.out _ hS.2.2.2) hS.1).mono ?_
    rintro r w5 ⟨rfl, hR', hkk⟩
    replace hS : RS w w5 gc g _ l (k5 l st) _ := hS.call hne hR' hkk
    clear hR' hkk
    have hcc := hS.2.1
    simp only [ConAt] at hcc
    obtain ⟨-, -, -, -, d4, d5, -, -, -, -, -, -, -, -⟩ := hcc
    have z5 := hS.2.2.1 5
    go_wp2_with fail
    clear d4 d5 z5
    replace hS := hS.set5 hne hout (sOf (rTextV (uGet l (k4 l st).1) (bits .and .i64 (kf l st) 4 != 0) (k4 l st)))
    refine (textR_c (bits .and .i64 (kf l st) 4 != 0) g _ l (k5 l st) _ (HL.out _ hS.2.2.2) hS.1).mono ?_
    rintro r w6 ⟨rfl, hR', hkk⟩
    replace hS : RS w w6 gc g _ l (k6 l st) _ := hS.call hne hR' hkk
    clear hR' hkk
    have hcc := hS.2.1
    simp only [ConAt] at hcc
    obtain ⟨-, -, -, -, -, -, d6, -, -, d9, -, -, -, -⟩ := hcc
    have z6 := hS.2.2.1 6
    go_wp2_with fail
    clear d6 d9 z6
    replace hS := hS.set6 hne hout (sOf (rTextV (uGetRaw l (k5 l st).1) (bits .and .i64 (kf l st) 4 != 0) (k5 l st)))
    refine (textT_c (bits .and .i64 (kf l st) 128 != 0) g _ l (k6 l st) _ (HL.out _ hS.2.2.2) hS.1).mono ?_
    rintro r w7 ⟨rfl, hR', hkk⟩
    replace hS : RS w w7 gc g _ l (k7 l st) _ := hS.call hne hR' hkk
    clear hR' hkk
    have hcc := hS.2.1
    simp only [ConAt] at hcc
    obtain ⟨-, -, -, -, -, -, -, -, -, -, d10, d11, -, -⟩ := hcc
    have z10 := hS.2.2.1 10
    go_wp2_with fail
    clear d10 d11 z10
    replace hS := hS.set10 hne hout (sOf (rTextV (uGet l (k6 l st).1) (bits .and .i64 (kf l st) 128 != 0) (k6 l st)))
    refine (textR_c (bits .and .i64 (kf l st) 64 != 0) g _ l (k7 l st) _ (HL.out _ hS.2.2.2) hS.1).mono ?_
    rintro r w8 ⟨rfl, hR', hkk⟩
    replace hS : RS w w8 gc g _ l (k8 l st) _ := hS.call hne hR' hkk
    clear hR' hkk
    have hcc := hS.2.1
    simp only [ConAt] at hcc
    obtain ⟨-, -, -, -, -, -, -, -, -, -, -, -, d12, -⟩ := hcc
    have z12 := hS.2.2.1 12
    have hrr := hS.1
    obtain ⟨r0, -, r2, r3, -, -, -, -⟩ := hrr
    have hll : l.length ≤ 9223372036854775807 := by have := hS.1.2.1.len; unfold maxLen at this; omega
    by_cases h8 : (k8 l st).2 = 0
    · rw [h8] at r3
      by_cases h9 : (k8 l st).1 = l.length
      · have Hk := hd (show k9 l st = k8 l st from by rw [k9, if_neg (fun h => h.2 h9)])
        rw [h9] at r2
        clear h8 h9
        go_wp2_with fail
        go_quiet (fail)
        go_wp2_with fail
        go_end0
        rw [Hk.out]
        replace hS := hS.set12 hne hout (sOf (rTextV (uGetRaw l (k7 l st).1) (bits .and .i64 (kf l st) 64 != 0) (k7 l st)))
        replace hS := hS.quiet ((Keeps.refl [] _).drewN nq)
        exact ⟨rfl, hS.1, hS.2.1, hS.2.2.1, hS.2.2.2⟩
      · have Hk := hd (show k9 l st = rFail (k8 l st) 4 from by rw [k9, if_pos ⟨h8, h9⟩])
        have h9b : ((k8 l st).1 != (l.length : Int)) = true := by simpa using h9
        clear h8 h9
        go_wp2_with fail
        go_quiet (fail)
        go_wp2_with fail
        replace hS := hS.set12 hne hout (sOf (rTextV (uGetRaw l (k7 l st).1) (bits .and .i64 (kf l st) 64 != 0) (k7 l st)))
        replace hS := hS.quiet ((Keeps.refl [] _).drewN nq)
        refine (fail_c 4 g _ l (k8 l st) _ hS.1).mono ?_
        rintro r w9 ⟨rfl, hR', hkk⟩
        rw [← Hk.out] at hR'
        replace hS := hS.call hne hR' hkk
        go_wp2_with fail
        go_end0
        exact ⟨rfl, hS.1, hS.2.1, hS.2.2.1, hS.2.2.2⟩
    · have Hk := hd (show k9 l st = k8 l st from by rw [k9, if_neg (fun h => h8 h.1)])
      have h8b : ((k8 l st).2 == 0) = false := by simpa using h8
      clear h8
      go_wp2_with fail
      go_quiet (fail)
      go_wp2_with fail
      go_end0
      rw [Hk.out]
      replace hS := hS.set12 hne hout (sOf (rTextV (uGetRaw l (k7 l st).1) (bits .and .i64 (kf l st) 64 != 0) (k7 l st)))
      replace hS := hS.quiet ((Keeps.refl [] _).drewN nq)
      exact ⟨rfl, hS.1, hS.2.1, hS.2.2.1, hS.2.2.2⟩
end Go.Proofs.YtclicjokgfiegaaDoor

/- Who comes: what bytes tell: the walk of the program's Of. -/
namespace Go.Proofs.YtclicjokgfiegaaDoor
open Go.RowKit
set_option linter.unusedVariables false
set_option linter.unusedSimpArgs false

theorem conZero_cells : Con.zero.cells = [.int .i64 0, .bool false, .int .i64 0, .string ⟨#[]⟩, .bool false, .string ⟨#[]⟩, .string ⟨#[]⟩, .int .i64 0, .bool false, .bool false, .string ⟨#[]⟩, .bool false, .string ⟨#[]⟩] := rfl

set_option maxRecDepth 100000 in
set_option maxHeartbeats 2000000 in
theorem ofClose_c (gr ge gc g : Nat) (v : Value) (l : List UInt8) (st : Int × Int) (c : Con) (x : Int) (w : World) (hr : w.cell? ⟨gr, 0, none⟩ = some (.pointer (some ⟨g, 0, none⟩))) (hR : RdAt w g v l st) (he : w.cell? ⟨ge, 0, none⟩ = some (.int .i64 x)) (hz : w.frozen? ⟨ge, 0, none⟩ = false)
    (hcon : ConAt w gc c) (hfr : Free w gc) (n1 : ge ≠ gc) (n2 : ge ≠ g) (n3 : ge ≠ gr) :
    CallsD Tryd.prog 181 #[.pointer (some ⟨gr, 0, none⟩), .pointer (some ⟨ge, 0, none⟩), .pointer (some ⟨gc, 0, none⟩)] .returning w fun e u' w' =>
      u' = .returning ∧ e = .returned (.tuple #[]) ∧ w'.cell? ⟨ge, 0, none⟩ = some (.int .i64 st.2) ∧ ConAt w' gc (if st.2 = 0 then c else Con.zero) ∧ Keeps [ge, gc] w w' := by
  obtain ⟨r0, r1, r2, r3, r4, r5, r6, r7⟩ := hR
  by_cases h : st.2 = 0
  · rw [h] at r3
    have hk : Keeps [ge, gc] w (w.setCell ⟨ge, 0, none⟩ (.int .i64 0)) := (Keeps.refl _ _).setCell (.inl (by simp)) _
    have hk1 : Keeps [ge] w (w.setCell ⟨ge, 0, none⟩ (.int .i64 0)) := (Keeps.refl _ _).setCell (.inl (by simp)) _
    have hcon' := hcon.keeps hk1 (by simp; omega)
    have HC := hd hcon'; clear hcon' hcon hfr
    rw [if_pos h, h]
    clear h
    go_enter_d Tryd.func181, Tryd.ntmps181
    go_wp2_with fail
    go_end0
    exact ⟨rfl, by simp [go_sem, he], HC.out, hk⟩
  · have hb : (st.2 != 0) = true := by simpa using h
    rw [if_neg h]
    have hk1 : Keeps [ge] w (w.setCell ⟨ge, 0, none⟩ (.int .i64 st.2)) := (Keeps.refl _ _).setCell (.inl (by simp)) _
    have hcon' := hcon.keeps hk1 (by simp; omega)
    have hfr' := hfr.set ⟨ge, 0, none⟩ (.int .i64 st.2)
    have HC := hd hcon'
    simp only [ConAt] at hcon'
    obtain ⟨d0, d1, d2, d3, d4, d5, d6, d7, d8, d9, d10, d11, d12, dl⟩ := hcon'
    have z0 := hfr' 0; have z1 := hfr' 1; have z2 := hfr' 2; have z3 := hfr' 3; have z4 := hfr' 4; have z5 := hfr' 5; have z6 := hfr' 6; have z7 := hfr' 7; have z8 := hfr' 8; have z9 := hfr' 9; have z10 := hfr' 10; have z11 := hfr' 11; have z12 := hfr' 12
    clear hcon hfr hfr' h
    go_enter_d Tryd.func181, Tryd.ntmps181
    go_wp2_with fail
    go_end0
    refine ⟨rfl, ?_, (((((((((((((HC.out.set0 0).set1 false).set2 0).set3 ⟨#[]⟩).set4 false).set5 ⟨#[]⟩).set6 ⟨#[]⟩).set7 0).set8 false).set9 false).set10 ⟨#[]⟩).set11 false).set12 ⟨#[]⟩), ?_⟩
    · simp [go_sem, he, n1, Ne.symm n1]
    · iterate 14 refine Keeps.setCell ?_ (.inl (by simp)) _
      exact Keeps.refl _ _

/-- []byte(s): where the new bytes lie. -/
theorem run_bytes2 (s : ByteArray) (hs : s.size ≤ 140737488355327) (w : World) : ∃ c W', (convert 9 30 (.string s)).run Tryd.prog w = .ok (.slice (some ⟨w.heap.size, 0, none⟩) (sB s).length c) W' ∧ Bs W' (.slice (some ⟨w.heap.size, 0, none⟩) (sB s).length c) (sB s) ∧ Below w.heap.size w W' ∧ w.heap.size < W'.heap.size := by
  obtain ⟨c, W', hr, hB, hb⟩ := run_bytes s hs w
  refine ⟨c, W', hr, hB, hb, ?_⟩
  have h2 := Lib.run_convert_string_bytes w 9 30 5 s Tryd.underlying9 Tryd.underlying30 Tryd.underlying5
  rw [hr] at h2
  simp only [Result.ok.injEq] at h2
  rw [h2.2, Lib.bytesWorld_size]
  omega
set_option maxRecDepth 100000 in
theorem upon_bytes2 {o : Oper} {a : Act} {K : Act → World → Prop} {Q : Exit → Act → World → Prop} {W : World} {s : ByteArray} {f : Value → World → Result Next} (hs : s.size ≤ 140737488355327)
    (h : ∀ ad c W', Bs W' (.slice (some ad) (sB s).length c) (sB s) → Below W.heap.size W W' → W.heap.size ≤ ad.block → ad.block < W'.heap.size → Oper.upon Tryd.prog o a K Q ((Result.ok (.slice (some ad) (sB s).length c) W').andThen f)) :
    Oper.upon Tryd.prog o a K Q ((Sem.run Tryd.prog (convert 9 30 (.string s)) W).andThen f) := by
  obtain ⟨c, W', hr, hB, hb, hl⟩ := run_bytes2 s hs W
  rw [hr]
  exact h _ c W' hB hb (Nat.le_refl _) hl

def cFin (c : Con) (st : Int × Int) : Con × Int := if st.2 = 0 then (c, 0) else (Con.zero, st.2)
def cT0 (l : List UInt8) : Int × Int := rTextS (uGet l 0) true (0, 0)
def cNm (l : List UInt8) : List UInt8 := rTextV (uGet l 0) true (0, 0)
def cT1 (l : List UInt8) : Int × Int := rOneS l (cT0 l)
def cLv (l : List UInt8) : Int := rOneV l (cT0 l)
/-- who comes, by bytes -/
def cOf (l : List UInt8) : Con × Int :=
  if cNm l ≠ [77, 81, 84, 84] then cFin Con.zero (rFail (cT0 l) 15)
  else if cLv l = 4 then cFin (kCon 4 l (cT1 l)) (k9 l (cT1 l))
  else cFin { Con.zero with level := cLv l } (cT1 l)
def GivesC (w : World) (l : List UInt8) (e : Ending) (w' : World) : Prop :=
  e = .returned (.tuple #[.agg (cOf l).1.cells.toArray, .int .i64 (cOf l).2]) ∧ Below w.heap.size w w'

/-- The state of Of, in the world W. -/
structure OS (w W : World) (gc ge g gr : Nat) (v : Value) (l : List UInt8) (st : Int × Int) (c : Con) : Prop where
  rd : RdAt W g v l st
  con : ConAt W gc c
  fr : Free W gc
  e0 : W.cell? ⟨ge, 0, none⟩ = some (.int .i64 0)
  ez : W.frozen? ⟨ge, 0, none⟩ = false
  el : ge < W.heap.size
  rv : W.cell? ⟨gr, 0, none⟩ = some (.pointer (some ⟨g, 0, none⟩))
  rl : gr < W.heap.size
  b : Below w.heap.size w W
theorem OS.step {w W W' : World} {gc ge g gr : Nat} {v : Value} {l : List UInt8} {st st' : Int × Int} {c c' : Con} (h : OS w W gc ge g gr v l st c) (hR : RdAt W' g v l st') (hc : ConAt W' gc c') (hf : Free W' gc) (hk : Keeps [gc, g] W W')
    (n1 : ge ∉ [gc, g]) (n2 : gr ∉ [gc, g]) (n3 : w.heap.size ≤ gc) (n4 : w.heap.size ≤ g) : OS w W' gc ge g gr v l st' c' :=
  ⟨hR, hc, hf, (hk.cell h.el n1).trans h.e0, (hk.free h.el n1).trans h.ez, Nat.lt_of_lt_of_le h.el hk.size, (hk.cell h.rl n2).trans h.rv, Nat.lt_of_lt_of_le h.rl hk.size,
    h.b.trans (hk.toBelow h.b.size (fun k hk => by simp at hk; omega))⟩
theorem OS.call {w W W' : World} {gc ge g gr : Nat} {v : Value} {l : List UInt8} {st st' : Int × Int} {c : Con} (h : OS w W gc ge g gr v l st c) (hR : RdAt W' g v l st') (hk : Keeps [g] W W')
    (n0 : gc ≠ g) (n1 : ge ∉ [gc, g]) (n2 : gr ∉ [gc, g]) (n3 : w.heap.size ≤ gc) (n4 : w.heap.size ≤ g) : OS w W' gc ge g gr v l st' c :=
  h.step hR (h.con.keeps hk (by simp [n0])) (h.fr.keeps hk h.con.lt (by simp [n0])) (hk.mono (fun k h => by simp at h; simp [h])) n1 n2 n3 n4

theorem uGet_bad {l : List UInt8} {k : Int} (h : (uGet l k).2.2 ≠ 0) : (uGet l k).1 = [] := by
  unfold uGet at h ⊢
  by_cases h1 : (uGetRaw l k).2.2 = 0
  · rw [if_neg (by omega)] at h ⊢
    by_cases h2 : uRight (uGetRaw l k).1 = false
    · rw [if_pos h2]
    · rw [if_neg h2] at h; exact absurd h1 h
  · rw [if_pos h1]
theorem cNm_ok {l : List UInt8} (h : cNm l = [77, 81, 84, 84]) : (cT0 l).2 = 0 ∧ 2 ≤ (cT0 l).1 ∧ (cT0 l).1 ≤ l.length := by
  have e1 : cNm l = (uGet l 0).1 := rfl
  have e2 : cT0 l = ((uGet l 0).2.1, (uGet l 0).2.2) := rfl
  rw [e2]
  by_cases h0 : (uGet l 0).2.2 = 0
  · have := uGet_rng h0; simp only; omega
  · rw [e1, uGet_bad h0] at h; cases h
theorem rOneS_rng (l : List UInt8) (s : Int × Int) : s.1 ≤ (rOneS l s).1 ∧ (rOneS l s).1 ≤ max s.1 l.length := by
  unfold rOneS
  by_cases h1 : s.2 ≠ 0
  · rw [if_pos h1]; omega
  · rw [if_neg h1]
    by_cases h2 : (l.length : Int) ≤ s.1
    · rw [if_pos h2]; simp only; omega
    · rw [if_neg h2]; simp only; omega

theorem sOf_toList (l : List UInt8) : (sOf l).toList = l := by rw [ByteArray.toList_eq]; rfl
theorem ofDone {w w' : World} {l : List UInt8} {c : Con} {st : Int × Int} {gc ge : Nat} (hsp : cOf l = cFin c st) (he : w'.cell? ⟨ge, 0, none⟩ = some (.int .i64 st.2)) (hc : ConAt w' gc (if st.2 = 0 then c else Con.zero)) (hb : Below w.heap.size w w') :
    GivesC w l (.returned (.tuple #[.agg (if st.2 = 0 then c else Con.zero).cells.toArray, .int .i64 st.2])) w' := by
  unfold GivesC
  rw [hsp, cFin]
  by_cases h : st.2 = 0
  · rw [if_pos h, if_pos h, h]; exact ⟨rfl, hb⟩
  · rw [if_neg h, if_neg h]; exact ⟨rfl, hb⟩

theorem ofRead {w' : World} {gc ge : Nat} {tmps : Array Value} {C : Con} {x : Int} (h2 : tmps[2]?.getD undef = .pointer (some ⟨gc, 0, none⟩)) (h3 : tmps[3]?.getD undef = .pointer (some ⟨ge, 0, none⟩)) (he : w'.cell? ⟨ge, 0, none⟩ = some (.int .i64 x)) (hc : ConAt w' gc C) :
    (results Tryd.f147 tmps).run Tryd.prog w' = .ok (.tuple #[.agg C.cells.toArray, .int .i64 x]) w' := by
  simp only [ConAt] at hc
  obtain ⟨d0, d1, d2, d3, d4, d5, d6, d7, d8, d9, d10, d11, d12, dl⟩ := hc
  simp [results, Tryd.results147, go_sem, h2, h3, he, d0, d1, d2, d3, d4, d5, d6, d7, d8, d9, d10, d11, d12, Con.cells]

set_option maxRecDepth 100000 in
set_option maxHeartbeats 8000000 in
theorem conOf_c (b : ByteArray) (w : World) (hE : EnvU w) (hs : b.size ≤ 140737488351232) :
    Calls Tryd.prog 147 #[.string b] w (GivesC w (sB b)) := by
  have HE := hd hE; clear hE
  have hmf : ∀ (fn : Fn) (first cap : Array Value) (w : World), (Instr.makeFunc fn first cap).run Tryd.prog w = .ok (.func fn first cap) w := fun _ _ _ _ => rfl
  go_enter_defers Tryd.func147, Tryd.ntmps147
  go_wp2_with fail
  refine upon_bytes2 (by omega) fun d1 k1 w1 hs1 hb1 hd0 hd1 => ?_
  have hcon0 : ConAt w1 w.heap.size Con.zero := ConAt.keep (ConAt.keep (ConAt.new w Con.zero) ((Below.refl _ _).alloc (Nat.le_refl _) _) (by simp)) hb1 (by simp; omega)
  have hfr0 : Free w1 w.heap.size := fun o => (bfree hb1 _ _ (by simp; omega)).trans (by simp [go_sem])
  have he0 : w1.cell? ⟨w.heap.size + 1, 0, none⟩ = some (.int .i64 0) := (bcell hb1 _ _ (by simp)).trans (by simp [go_sem])
  have hez : w1.frozen? ⟨w.heap.size + 1, 0, none⟩ = false := (bfree hb1 _ _ (by simp)).trans (by simp [go_sem])
  have hsz : w.heap.size + 2 ≤ w1.heap.size := by have := hb1.size; simp at this; omega
  have hb : Below w.heap.size w w1 := Below.up (by go_grown) hb1
  simp at hd0
  clear hb1
  have hOS : OS w ((w1.alloc (Obj.cells #[.slice (some d1) (sB b).length k1, .int .i64 0, .int .i64 0] 219)).alloc (Obj.cells #[.pointer (some ⟨w1.heap.size, 0, none⟩)] 217)) w.heap.size (w.heap.size + 1) w1.heap.size (w1.heap.size + 1) (.slice (some d1) (sB b).length k1) (sB b) (0, 0) Con.zero := by
    have hk2 : Keeps [] w1 ((w1.alloc (Obj.cells #[.slice (some d1) (sB b).length k1, .int .i64 0, .int .i64 0] 219)).alloc (Obj.cells #[.pointer (some ⟨w1.heap.size, 0, none⟩)] 217)) := ((Keeps.refl _ _).alloc _).alloc _
    refine ⟨⟨?_, hs1.keeps hk2 (OutOf.nil _), ?_, ?_, ?_, ?_, ?_, ?_⟩, hcon0.keeps hk2 (by simp), hfr0.keeps hk2 hcon0.lt (by simp), (hk2.cell (by omega) (by simp)).trans he0, (hk2.free (by omega) (by simp)).trans hez, ?_, ?_, ?_, (hb.box).box⟩
    all_goals try simp [go_sem]
    · intro a n c e
      cases e
      simp
      omega
    all_goals omega
  have hdx : w.heap.size < d1.block := by omega
  clear hs1 hd1 hcon0 hfr0 he0 hez hb hd0
  go_wp2_with fail
  generalize ((w1.alloc (Obj.cells #[.slice (some d1) (sB b).length k1, .int .i64 0, .int .i64 0] 219)).alloc (Obj.cells #[.pointer (some ⟨w1.heap.size, 0, none⟩)] 217)) = W2 at *
  refine (textT_c true _ _ _ (0, 0) _ (HE.out.below hOS.b) hOS.rd).mono ?_
  rintro r w2 ⟨rfl, hR, hk⟩
  replace hOS := hOS.call hR hk (by omega) (by simp; omega) (by simp; omega) (by omega) (by omega)
  clear hR hk
  have hnm : rTextV (uGet (sB b) 0) true (0, 0) = cNm (sB b) := rfl
  have ht0 : rTextS (uGet (sB b) 0) true (0, 0) = cT0 (sB b) := rfl
  simp only [] at hOS ⊢
  rw [ht0] at hOS
  rw [hnm]
  clear hnm ht0
  by_cases hn : cNm (sB b) = [77, 81, 84, 84]
  rotate_left
  · have hrv := hOS.rv
    have hx : (!(sOf (cNm (sB b))).toList == [77, 81, 84, 84]) = true := by rw [sOf_toList]; simpa using hn
    have hsp : cOf (sB b) = cFin Con.zero (rFail (cT0 (sB b)) 15) := by rw [cOf, if_pos hn]
    have Hsp := hd hsp; clear hsp hn
    go_wp2_with fail
    refine (fail_c 15 _ _ _ _ _ hOS.rd).mono ?_
    rintro r w3 ⟨rfl, hR, hk⟩
    replace hOS := hOS.call hR hk (by omega) (by simp; omega) (by simp; omega) (by omega) (by omega)
    clear hR hk hrv
    go_wp2_with fail
    refine leaves_cons (f := 181) (args := #[.pointer (some ⟨w1.heap.size + 1, 0, none⟩), .pointer (some ⟨w.heap.size + 1, 0, none⟩), .pointer (some ⟨w.heap.size, 0, none⟩)]) (by simp) (by simp [go_sem]) ?_
    refine (ofClose_c _ _ _ _ _ _ _ _ 0 _ hOS.rv hOS.rd hOS.e0 hOS.ez hOS.con hOS.fr (by omega) (by omega) (by omega)).mono ?_
    rintro e u' w'' ⟨rfl, rfl, he', hc', hk'⟩
    have hbb : Below w.heap.size w w'' := hOS.b.trans (hk'.toBelow hOS.b.size (fun k hk => by simp at hk; omega))
    exact ⟨_, ofRead rfl rfl he' hc', ofDone Hsp.out he' hc' hbb⟩
  have hx : (!(sOf [77, 81, 84, 84]).toList == [77, 81, 84, 84]) = false := by rw [sOf_toList]; rfl
  obtain ⟨ht2, htl, hth⟩ := cNm_ok hn
  have hsl : (sB b).length = b.size := sB_len b
  have hsp : cOf (sB b) = if cLv (sB b) = 4 then cFin (kCon 4 (sB b) (cT1 (sB b))) (k9 (sB b) (cT1 (sB b))) else cFin { Con.zero with level := cLv (sB b) } (cT1 (sB b)) := by rw [cOf, if_neg (by simp [hn])]
  have hp : 0 ≤ (cT0 (sB b)).1 ∧ (cT0 (sB b)).1 ≤ 140737488355328 := by omega
  have hp1 : 0 ≤ (cT1 (sB b)).1 ∧ (cT1 (sB b)).1 ≤ 140737488355328 := by
    have := rOneS_rng (sB b) (cT0 (sB b))
    rw [show cT1 (sB b) = rOneS (sB b) (cT0 (sB b)) from rfl]
    omega
  rw [hn]
  have hrv := hOS.rv
  have HP1 := hd hp1; have Hsp := hd hsp
  clear hp1 hsp ht2 htl hth hn
  go_wp2_with fail
  refine (one_c _ _ (sB b) _ _ hOS.rd hp).mono ?_
  rintro r w3 ⟨rfl, hR, hk⟩
  replace hOS := hOS.call hR hk (by omega) (by simp; omega) (by simp; omega) (by omega) (by omega)
  rw [show rOneS (sB b) (cT0 (sB b)) = cT1 (sB b) from rfl] at hOS
  rw [show rOneV (sB b) (cT0 (sB b)) = cLv (sB b) from rfl]
  clear hR hk hp hrv hx
  have hc0 : w3.cell? ⟨w.heap.size, 0, none⟩ = some (.int .i64 0) := hOS.con.1
  have hf0 := hOS.fr 0
  have hrv := hOS.rv
  by_cases hlv : cLv (sB b) = 4
  · rw [hlv]
    have hsp2 : cOf (sB b) = cFin (kCon 4 (sB b) (cT1 (sB b))) (k9 (sB b) (cT1 (sB b))) := by rw [Hsp.out, if_pos hlv]
    replace Hsp := hd hsp2
    clear hsp2 hlv
    go_wp2_with fail
    have ho : OutOf (.slice (some d1) (sB b).length k1) [w.heap.size] := fun a n c e => by
      cases e
      simp
      omega
    have hkx : Keeps [w.heap.size] w3 (w3.setCell ⟨w.heap.size, 0, none⟩ (.int .i64 4)) := (Keeps.refl _ _).setCell (.inl (by simp)) _
    replace hOS := hOS.step (hOS.rd.keeps hkx (by simp; omega) ho) (hOS.con.set0 4) (hOS.fr.set _ _) (hkx.mono (by simp)) (by simp; omega) (by simp; omega) (by omega) (by omega)
    clear hc0 hf0 hkx
    have hne0 : w.heap.size ≠ w1.heap.size := by omega
    refine (rest_c w.heap.size w1.heap.size _ (sB b) (cT1 (sB b)) _ _ hne0 hOS.rd hOS.con hOS.fr ho HP1.out ?low).mono ?_
    case low => exact fun W hk => HE.out.below (hOS.b.trans (hk.toBelow hOS.b.size (fun k hk => by simp at hk; omega)))
    rintro r w4 ⟨rfl, hR, hc, hf, hk⟩
    replace hOS := hOS.step hR hc hf hk (by simp; omega) (by simp; omega) (by omega) (by omega)
    clear hR hc hf hk ho hrv
    go_wp2_with fail
    refine leaves_cons (f := 181) (args := #[.pointer (some ⟨w1.heap.size + 1, 0, none⟩), .pointer (some ⟨w.heap.size + 1, 0, none⟩), .pointer (some ⟨w.heap.size, 0, none⟩)]) (by simp) (by simp [go_sem]) ?_
    refine (ofClose_c _ _ _ _ _ _ _ _ 0 _ hOS.rv hOS.rd hOS.e0 hOS.ez hOS.con hOS.fr (by omega) (by omega) (by omega)).mono ?_
    rintro e u' w'' ⟨rfl, rfl, he', hc', hk'⟩
    have hbb : Below w.heap.size w w'' := hOS.b.trans (hk'.toBelow hOS.b.size (fun k hk => by simp at hk; omega))
    exact ⟨_, ofRead rfl rfl he' hc', ofDone Hsp.out he' hc' hbb⟩
  · have hlb : (cLv (sB b) == 4) = false := by simpa using hlv
    have hsp2 : cOf (sB b) = cFin { Con.zero with level := cLv (sB b) } (cT1 (sB b)) := by rw [Hsp.out, if_neg hlv]
    replace Hsp := hd hsp2
    clear hsp2 hlv
    generalize hL : cLv (sB b) = L at *
    clear hL
    go_wp2_with fail
    have ho : OutOf (.slice (some d1) (sB b).length k1) [w.heap.size] := fun a n c e => by
      cases e
      simp
      omega
    have hkx : Keeps [w.heap.size] w3 (w3.setCell ⟨w.heap.size, 0, none⟩ (.int .i64 L)) := (Keeps.refl _ _).setCell (.inl (by simp)) _
    replace hOS := hOS.step (hOS.rd.keeps hkx (by simp; omega) ho) (hOS.con.set0 L) (hOS.fr.set _ _) (hkx.mono (by simp)) (by simp; omega) (by simp; omega) (by omega) (by omega)
    clear hc0 hf0 hkx
    refine leaves_cons (f := 181) (args := #[.pointer (some ⟨w1.heap.size + 1, 0, none⟩), .pointer (some ⟨w.heap.size + 1, 0, none⟩), .pointer (some ⟨w.heap.size, 0, none⟩)]) (by simp) (by simp [go_sem]) ?_
    refine (ofClose_c _ _ _ _ _ _ _ _ 0 _ hOS.rv hOS.rd hOS.e0 hOS.ez hOS.con hOS.fr (by omega) (by omega) (by omega)).mono ?_
    rintro e u' w'' ⟨rfl, rfl, he', hc', hk'⟩
    have hbb : Below w.heap.size w w'' := hOS.b.trans (hk'.toBelow hOS.b.size (fun k hk => by simp at hk; omega))
    exact ⟨_, ofRead rfl rfl he' hc', ofDone Hsp.out he' hc' hbb⟩
end Go.Proofs.YtclicjokgfiegaaDoor
