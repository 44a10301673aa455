/- A bundle of texts (merged for the limit on files): PacCleans, HeadBack, PacSame. -/
import Derived.Test.YtjlnlgemngpelaaGreatDoorZa14
import Derived.Test.YtjlnlgemngpelaaGreatDoorZa4
/- Packets: cleaned: all kinds in one. -/
namespace Go.Proofs.YtjlnlgemngpelaaGreatDoor
open Go.RowKit
set_option linter.unusedVariables false
set_option linter.unusedSimpArgs false

/-- What lies behind a packet's cells. -/
structure PacRd (w : World) (p : Pac) (vf vc : Value) : Prop where
  f : Ws w vf p.fs
  c : Is w vc p.cs
  lf : p.fs.length * 24 ≤ 140737488351232
  lc : p.cs.length * 8 ≤ 140737488351232
theorem PacRd.below {B : Nat} {w w' : World} {p : Pac} {vf vc : Value} (h : PacRd w p vf vc) (hb : Below B w w') (hB : w.heap.size ≤ B) : PacRd w' p vf vc := ⟨h.f.below' hb hB, h.c.below' hb hB, h.lf, h.lc⟩
def GivesPac (w : World) (p : Pac) (e : Ending) (w' : World) : Prop := ∃ vf vc, e = .returned (.agg (p.cells vf vc).toArray) ∧ PacRd w' p vf vc ∧ Below w.heap.size w w'
/-- The same, and what lies behind it is the call's own. -/
def GivesOwn (w : World) (p : Pac) (e : Ending) (w' : World) : Prop := ∃ vf vc, e = .returned (.agg (p.cells vf vc).toArray) ∧ (OwnW w.heap.size w' vf p.fs ∧ OwnI w.heap.size w' vc p.cs ∧ p.fs.length * 24 ≤ 140737488351232 ∧ p.cs.length * 8 ≤ 140737488351232) ∧ Below w.heap.size w w'
theorem OwnI.nilP (B : Nat) (w : World) : OwnI B w Nl [] := ⟨rfl, .inl ⟨rfl, rfl⟩⟩
theorem Ws.nil (w : World) : Ws w Nl [] := Rd.nil w
theorem Is.nil (w : World) : Is w Nl [] := Rd.nil w
theorem kinds_ne {k : Int} (h : ¬ (k = 1 ∨ k = 2 ∨ k = 3 ∨ (k = 4 ∨ k = 5 ∨ k = 6 ∨ k = 7 ∨ k = 11) ∨ k = 8 ∨ k = 10 ∨ k = 9)) : (k == 1) = false ∧ (k == 2) = false ∧ (k == 3) = false ∧ (k == 4) = false ∧ (k == 5) = false ∧ (k == 6) = false ∧ (k == 7) = false ∧ (k == 8) = false ∧ (k == 9) = false ∧ (k == 10) = false ∧ (k == 11) = false := by
  refine ⟨?_, ?_, ?_, ?_, ?_, ?_, ?_, ?_, ?_, ?_, ?_⟩ <;> (simp; omega)
theorem giveP {w : World} {p q : Pac} {e : Ending} {w' : World} (h : e = .returned (.agg (q.cells Nl Nl).toArray) ∧ Below w.heap.size w w') (hq : p = q) (hf : q.fs = []) (hc : q.cs = []) : GivesPac w p e w' := by
  subst hq
  exact ⟨Nl, Nl, h.1, ⟨by rw [hf]; exact Ws.nil _, by rw [hc]; exact Is.nil _, by rw [hf]; simp, by rw [hc]; simp⟩, h.2⟩
theorem giveO {w : World} {p q : Pac} {e : Ending} {w' : World} (h : e = .returned (.agg (q.cells Nl Nl).toArray) ∧ Below w.heap.size w w') (hq : p = q) (hf : q.fs = []) (hc : q.cs = []) : GivesOwn w p e w' := by
  subst hq
  exact ⟨Nl, Nl, h.1, ⟨by rw [hf]; exact OwnW.nil _ _, by rw [hc]; exact OwnI.nilP _ _, by rw [hf]; simp, by rw [hc]; simp⟩, h.2⟩
theorem paClean_1 {p : Pac} (h : p.k = 1) : paClean p = { zP 1 with c := p.c } := by unfold paClean; rw [if_pos h, h]; rfl
theorem paClean_2 {p : Pac} (h : p.k = 2) : paClean p = { zP 2 with pr := p.pr, code := p.code } := by unfold paClean; rw [h]; rfl
theorem paClean_3n {p : Pac} (h : p.k = 3) (hq : p.q ≠ 0) : paClean p = { zP 3 with tp := p.tp, tx := p.tx, q := p.q, rt := p.rt, dup := p.dup, id := p.id } := by
  have : (if p.q ≠ 0 then p.id else 0) = p.id := if_pos hq
  unfold paClean; rw [h, this]; rfl
theorem paClean_3z {p : Pac} (h : p.k = 3) (hq : ¬ p.q ≠ 0) : paClean p = { zP 3 with tp := p.tp, tx := p.tx, q := p.q, rt := p.rt, dup := p.dup } := by
  have : (if p.q ≠ 0 then p.id else 0) = 0 := if_neg hq
  unfold paClean; rw [h, this]; rfl
theorem paClean_8 {p : Pac} (h : p.k = 8) : paClean p = { zP 8 with id := p.id, fs := p.fs } := by unfold paClean; rw [h]; rfl
theorem paClean_10 {p : Pac} (h : p.k = 10) : paClean p = { zP 10 with id := p.id, fs := p.fs.map fun f => (f.1, 0) } := by unfold paClean; rw [h]; rfl
theorem paClean_9 {p : Pac} (h : p.k = 9) : paClean p = { zP 9 with id := p.id, cs := p.cs } := by unfold paClean; rw [h]; rfl
theorem paClean_I {p : Pac} {K : Int} (h : p.k = K) (hk : K = 4 ∨ K = 5 ∨ K = 6 ∨ K = 7 ∨ K = 11) : paClean p = { zP K with id := p.id } := by
  unfold paClean; rw [h]; rcases hk with rfl | rfl | rfl | rfl | rfl <;> rfl
theorem paClean_O {p : Pac} (h : ¬ (p.k = 1 ∨ p.k = 2 ∨ p.k = 3 ∨ (p.k = 4 ∨ p.k = 5 ∨ p.k = 6 ∨ p.k = 7 ∨ p.k = 11) ∨ p.k = 8 ∨ p.k = 10 ∨ p.k = 9)) : paClean p = zP p.k := by
  unfold paClean
  rw [if_neg (by omega), if_neg (by omega), if_neg (by omega), if_neg (by omega), if_neg (by omega), if_neg (by omega), if_neg (by omega)]
  rfl
theorem CleanO_c (p : Pac) (vf vc : Value) (w : World) (h : PacRd w p vf vc) : Calls Tryz.prog 33 #[.agg (p.cells vf vc).toArray] w (GivesOwn w (paClean p)) := by
  by_cases h1 : p.k = 1
  · exact (clean1_c p vf vc w h1).mono fun e w' r => giveO r (paClean_1 h1) rfl rfl
  by_cases h2 : p.k = 2
  · exact (clean2_c p vf vc w h2).mono fun e w' r => giveO r (paClean_2 h2) rfl rfl
  by_cases h3 : p.k = 3
  · by_cases hq : p.q ≠ 0
    · exact (clean3n_c p vf vc w h3 (by simpa using hq)).mono fun e w' r => giveO r (paClean_3n h3 hq) rfl rfl
    · exact (clean3z_c p vf vc w h3 (by simpa using hq)).mono fun e w' r => giveO r (paClean_3z h3 hq) rfl rfl
  by_cases h4 : p.k = 4
  · exact (cleanI4_c p vf vc w h4).mono fun e w' r => giveO r (paClean_I h4 (by decide)) rfl rfl
  by_cases h5 : p.k = 5
  · exact (cleanI5_c p vf vc w h5).mono fun e w' r => giveO r (paClean_I h5 (by decide)) rfl rfl
  by_cases h6 : p.k = 6
  · exact (cleanI6_c p vf vc w h6).mono fun e w' r => giveO r (paClean_I h6 (by decide)) rfl rfl
  by_cases h7 : p.k = 7
  · exact (cleanI7_c p vf vc w h7).mono fun e w' r => giveO r (paClean_I h7 (by decide)) rfl rfl
  by_cases h11 : p.k = 11
  · exact (cleanI11_c p vf vc w h11).mono fun e w' r => giveO r (paClean_I h11 (by decide)) rfl rfl
  by_cases h8 : p.k = 8
  · refine (cleanC8_c p vf vc w h8 h.f h.lf).mono ?_
    rintro e w' ⟨v', rfl, hr, hb⟩
    rw [paClean_8 h8]
    exact ⟨v', Nl, rfl, ⟨hr, OwnI.nilP _ _, by simpa using h.lf, by simp [zP, Pac.zero]⟩, hb⟩
  by_cases h10 : p.k = 10
  · refine (cleanC10_c p vf vc w h10 h.f h.lf).mono ?_
    rintro e w' ⟨v', rfl, hr, hb⟩
    rw [paClean_10 h10]
    exact ⟨v', Nl, rfl, ⟨hr, OwnI.nilP _ _, by simpa using h.lf, by simp [zP, Pac.zero]⟩, hb⟩
  by_cases h9 : p.k = 9
  · refine (cleanC9_c p vf vc w h9 h.c h.lc).mono ?_
    rintro e w' ⟨v', rfl, hr, hb⟩
    rw [paClean_9 h9]
    exact ⟨Nl, v', rfl, ⟨OwnW.nil _ _, hr, by simp [zP, Pac.zero], h.lc⟩, hb⟩
  have hne : ¬ (p.k = 1 ∨ p.k = 2 ∨ p.k = 3 ∨ (p.k = 4 ∨ p.k = 5 ∨ p.k = 6 ∨ p.k = 7 ∨ p.k = 11) ∨ p.k = 8 ∨ p.k = 10 ∨ p.k = 9) := by omega
  obtain ⟨b1, b2, b3, b4, b5, b6, b7, b8, b9, b10, b11⟩ := kinds_ne hne
  exact (cleanO_c p vf vc w b1 b2 b3 b4 b5 b6 b7 b8 b9 b10 b11).mono fun e w' r => giveO r (paClean_O hne) rfl rfl

theorem Clean_c (p : Pac) (vf vc : Value) (w : World) (h : PacRd w p vf vc) : Calls Tryz.prog 33 #[.agg (p.cells vf vc).toArray] w (GivesPac w (paClean p)) :=
  (CleanO_c p vf vc w h).mono fun e w' ⟨vf', vc', he, ⟨h1, h2, h3, h4⟩, hb⟩ => ⟨vf', vc', he, ⟨Owns.rd h1, Owns.rd h2, h3, h4⟩, hb⟩

end Go.Proofs.YtjlnlgemngpelaaGreatDoor

/- Heads: there and back. -/
namespace Go.Proofs.YtjlnlgemngpelaaGreatDoor
open Go.RowKit
set_option linter.unusedVariables false

theorem bN_B8 {n : Nat} (h : n < 256) (l : List UInt8) : bN (B8 n :: l) 0 = n := by unfold bN; simp [B8_toNat h]
theorem bN_cons (b : UInt8) (l : List UInt8) (j : Nat) : bN (b :: l) (j + 1) = bN l j := by unfold bN; simp
theorem bN_app (A l : List UInt8) (j : Nat) : bN (A ++ l) (A.length + j) = bN l j := by unfold bN; simp [List.getD, List.getElem?_append_right]

theorem hPutE_ok {k f n : Int} (h : hPutE k f n = 0) : hRight k f = 0 ∧ 0 ≤ n ∧ n ≤ 4096 := by
  unfold hPutE at h
  by_cases h1 : hRight k f = 0
  · rw [if_pos h1] at h
    by_cases h2 : n < 0 ∨ 4096 < n
    · rw [if_pos h2] at h; omega
    · exact ⟨h1, by omega⟩
  · rw [if_neg h1] at h; exact absurd h h1
theorem hPutB_ok {k f n : Int} (h : hPutE k f n = 0) : hPutB k f n = hBytes k.toNat f.toNat n.toNat := by unfold hPutB; rw [if_pos h]
theorem hPutB_bad {k f n : Int} (h : ¬ hPutE k f n = 0) : hPutB k f n = [] := by unfold hPutB; rw [if_neg h]
theorem hBytes_len (k f n : Nat) : (hBytes k f n).length = if n < 128 then 2 else 3 := by unfold hBytes; split <;> simp

theorem hLen_bytes (n : Nat) (hn : n ≤ 4096) (C : List UInt8) : hLen ((if n < 128 then [B8 n] else [B8 (n % 128 + 128), B8 (n / 128)]) ++ C) = ((n : Int), (if n < 128 then 1 else 2), 0) := by
  by_cases h : n < 128
  · rw [if_pos h, if_pos h]
    unfold hLen
    have e : bN ([B8 n] ++ C) 0 = n := bN_B8 (by omega) C
    rw [if_neg (by simp), e, if_pos (by omega)]
    congr 1
    omega
  · rw [if_neg h, if_neg h]
    unfold hLen
    have e : bN ([B8 (n % 128 + 128), B8 (n / 128)] ++ C) 0 = n % 128 + 128 := bN_B8 (by omega) _
    have e1 : bN ([B8 (n % 128 + 128), B8 (n / 128)] ++ C) 1 = n / 128 := by
      show bN (B8 (n % 128 + 128) :: (B8 (n / 128) :: C)) (0 + 1) = _
      rw [bN_cons, bN_B8 (by omega)]
    rw [if_neg (by simp), e, if_neg (by omega), if_neg (by simp), e1, if_pos (by omega)]
    congr 1
    omega

/-- What was put is got, whatever stands ahead and behind. -/
theorem hGet_back {k f n : Int} (h : hPutE k f n = 0) (A C : List UInt8) : hGet (A ++ hPutB k f n ++ C) A.length = ((k, f, n), (A.length : Int) + (hPutB k f n).length, 0) := by
  obtain ⟨hr, hn1, hn2⟩ := hPutE_ok h
  obtain ⟨hk1, hk2, hf1, hf2⟩ := hRight_ok hr
  rw [hPutB_ok h]
  obtain ⟨k, rfl⟩ := Int.eq_ofNat_of_zero_le (show 0 ≤ k by omega)
  obtain ⟨f, rfl⟩ := Int.eq_ofNat_of_zero_le hf1
  obtain ⟨n, rfl⟩ := Int.eq_ofNat_of_zero_le hn1
  simp only [Int.toNat_natCast]
  have e0 : bN (A ++ hBytes k f n ++ C) A.length = 16 * k + f := by
    rw [List.append_assoc]
    have := bN_app A (hBytes k f n ++ C) 0
    rw [Nat.add_zero] at this
    rw [this]
    exact bN_B8 (by omega) _
  have e1 : (A ++ hBytes k f n ++ C).drop (A.length + 1) = (if n < 128 then [B8 n] else [B8 (n % 128 + 128), B8 (n / 128)]) ++ C := by
    unfold hBytes
    rw [List.append_assoc, List.drop_append]
    simp
  have hl : 2 ≤ (hBytes k f n).length := by rw [hBytes_len]; split <;> omega
  unfold hGet
  rw [if_neg (by simp; omega), if_neg (by simp; omega), Int.toNat_natCast, e0, e1, hLen_bytes n (by omega) C]
  have e2 : (((16 * k + f : Nat) : Int)) / 16 = k := by omega
  have e3 : (((16 * k + f : Nat) : Int)) % 16 = f := by omega
  rw [e2, e3, hr, if_neg (by decide)]
  simp only
  rw [if_neg (by decide), if_neg (by omega), hBytes_len]
  split <;> rfl

/-- Cut anywhere it is too short. -/
theorem hGet_cut {k f n : Int} (h : hPutE k f n = 0) (j : Nat) (hj : j < (hPutB k f n).length) : (hGet ((hPutB k f n).take j) 0).2.2 = 2 := by
  obtain ⟨hr, hn1, hn2⟩ := hPutE_ok h
  obtain ⟨hk1, hk2, hf1, hf2⟩ := hRight_ok hr
  rw [hPutB_ok h] at hj ⊢
  obtain ⟨k, rfl⟩ := Int.eq_ofNat_of_zero_le (show 0 ≤ k by omega)
  obtain ⟨f, rfl⟩ := Int.eq_ofNat_of_zero_le hf1
  obtain ⟨n, rfl⟩ := Int.eq_ofNat_of_zero_le hn1
  simp only [Int.toNat_natCast] at hj ⊢
  rw [hBytes_len] at hj
  have e2 : (((16 * k + f : Nat) : Int)) / 16 = k := by omega
  have e3 : (((16 * k + f : Nat) : Int)) % 16 = f := by omega
  match j, hj with
  | 0, _ => simp [hGet]
  | 1, _ =>
    have e : (hBytes k f n).take 1 = [B8 (16 * k + f)] := by unfold hBytes; simp
    have e0 : bN [B8 (16 * k + f)] 0 = 16 * k + f := bN_B8 (by omega) _
    rw [e]
    unfold hGet
    rw [if_neg (by simp), if_neg (by simp)]
    simp only [Int.toNat_zero, Nat.zero_add, e0, e2, e3, hr]
    rw [if_neg (by decide)]
    have e4 : hLen ([B8 (16 * k + f)].drop 1) = (0, 0, 2) := by simp [hLen]
    rw [e4]
    rfl
  | 2, hj =>
    have h128 : ¬ n < 128 := by intro hc; rw [if_pos hc] at hj; omega
    have e : (hBytes k f n).take 2 = [B8 (16 * k + f), B8 (n % 128 + 128)] := by unfold hBytes; rw [if_neg h128]; simp
    have e0 : bN [B8 (16 * k + f), B8 (n % 128 + 128)] 0 = 16 * k + f := bN_B8 (by omega) _
    rw [e]
    unfold hGet
    rw [if_neg (by simp), if_neg (by simp)]
    simp only [Int.toNat_zero, Nat.zero_add, e0, e2, e3, hr]
    rw [if_neg (by decide)]
    have e5 : bN [B8 (n % 128 + 128)] 0 = n % 128 + 128 := bN_B8 (by omega) _
    have e4 : hLen ([B8 (16 * k + f), B8 (n % 128 + 128)].drop 1) = (0, 0, 2) := by
      show hLen [B8 (n % 128 + 128)] = _
      unfold hLen
      rw [if_neg (by simp), e5, if_neg (by omega), if_pos (by simp)]
    rw [e4]
    rfl
  | j + 3, hj => exfalso; split at hj <;> omega

end Go.Proofs.YtjlnlgemngpelaaGreatDoor

/- Packets: are two the same: the walks. -/
namespace Go.Proofs.YtjlnlgemngpelaaGreatDoor
open Go.RowKit
set_option linter.unusedVariables false
set_option linter.unusedSimpArgs false

theorem bytes_eq {a b : ByteArray} : a.toList = b.toList ↔ a = b := by
  obtain ⟨a⟩ := a
  obtain ⟨b⟩ := b
  rw [ByteArray.toList_mk, ByteArray.toList_mk]
  constructor
  · intro h
    have : a = b := Array.ext' h
    rw [this]
  · intro h; rw [ByteArray.mk.injEq] at h; rw [h]
theorem Con.eq_iff (a b : Con) : a = b ↔ a.level = b.level ∧ a.clean = b.clean ∧ a.keep = b.keep ∧ a.client = b.client ∧ a.hasWill = b.hasWill ∧ a.topic = b.topic ∧ a.text = b.text ∧ a.qos = b.qos ∧ a.retain = b.retain ∧ a.hasUser = b.hasUser ∧ a.user = b.user ∧ a.hasPass = b.hasPass ∧ a.pass = b.pass := by
  cases a; cases b; simp
instance conDec : DecidableEq Con := fun a b => decidable_of_iff _ (Con.eq_iff a b).symm
theorem Pac.eq_iff (a b : Pac) : a = b ↔ a.k = b.k ∧ a.id = b.id ∧ a.dup = b.dup ∧ (a.tp = b.tp ∧ a.tx = b.tx ∧ a.q = b.q ∧ a.rt = b.rt) ∧ a.c = b.c ∧ a.pr = b.pr ∧ a.code = b.code ∧ a.fs = b.fs ∧ a.cs = b.cs := by
  cases a; cases b; simp [and_assoc]
instance pacDec : DecidableEq Pac := fun a b => decidable_of_iff _ (Pac.eq_iff a b).symm
set_option maxRecDepth 100000 in
theorem neq_msg (p q : Pac) (W : World) : (binOp .neq 30 (.agg p.msg.toArray) (.agg q.msg.toArray)).run Tryz.prog W = .ok (.bool (!decide (p.tp = q.tp ∧ p.tx = q.tx ∧ p.q = q.q ∧ p.rt = q.rt))) W := by
  simp [go_sem, Pac.msg, bytes_eq]
  (repeat' split) <;> simp_all
set_option maxRecDepth 100000 in
theorem neq_con (p q : Con) (W : World) : (binOp .neq 32 (.agg p.cells.toArray) (.agg q.cells.toArray)).run Tryz.prog W = .ok (.bool (!decide (p = q))) W := by
  by_cases h : p = q
  · subst h
    simp [go_sem, Con.cells]
  · simp only [decide_eq_false h, Bool.not_false]
    simp [go_sem, Con.cells, bytes_eq]
    intro e1 e2 e3 e4 e5 e6 e7 e8 e9 e10 e11 e12 e13
    exact h ((Con.eq_iff p q).2 ⟨e1, e2, e3, e4, e5, e6, e7, e8, e9, e10, e11, e12, e13⟩)
set_option maxRecDepth 100000 in
theorem neq_wish (a b : ByteArray) (x y : Int) (W : World) : (binOp .neq 76 (.agg #[.string a, .int .i64 x]) (.agg #[.string b, .int .i64 y])).run Tryz.prog W = .ok (.bool (!decide ((a, x) = (b, y)))) W := by
  simp [go_sem, bytes_eq]
  (repeat' split) <;> simp_all
theorem take_moreP {α : Type} {a b : List α} {k : Nat} {x : α} (h : a.take k = b.take k) (ha : a[k]? = some x) (hb : b[k]? = some x) : a.take (k + 1) = b.take (k + 1) := by
  rw [List.take_add_one, List.take_add_one, h, ha, hb]
end Go.Proofs.YtjlnlgemngpelaaGreatDoor
