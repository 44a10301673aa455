/- Answers to wishes: what is laid and told: the walks of the program and of the reference (printed by wip/gen/suback.py). -/
import Derived.Test.YtgafhnomkeiakaaDoorSubPut2
import Derived.Test.YtgafhnomkeiakaaDoorPubOf2
namespace Go.Proofs.YtgafhnomkeiakaaDoor
open Go.RowKit
set_option linter.unusedVariables false
set_option linter.unusedSimpArgs false

/-! ### Rows of numbers -/
def iV (n : Int) : Value := .int .i64 n
def Is (w : World) (v : Value) (l : List Int) : Prop := Rd w v l.length (l.map iV)
def OwnI (B : Nat) (w : World) (v : Value) (l : List Int) : Prop := w.ownsRow B 3 1 v l.length (l.map iV)
theorem OwnI.is {B : Nat} {w : World} {v : Value} {l : List Int} (h : OwnI B w v l) : Is w v l := Owns.rd h
theorem OwnI.kept {B B' : Nat} {w w' : World} {v : Value} {l : List Int} (h : OwnI B w v l) (hb : Below B' w w') (hB : w.heap.size ≤ B') : OwnI B w' v l := Owns.kept h hb hB
theorem OwnI.nil (B : Nat) (w : World) : OwnI B w (.slice none 0 0) [] := ⟨rfl, .inl ⟨rfl, rfl⟩⟩
theorem Is.slice {w : World} {v : Value} {l : List Int} (h : Is w v l) : ∃ a c, v = .slice a l.length c := by obtain ⟨a, c, rfl, _⟩ := h; exact ⟨a, c, rfl⟩
theorem Is.below' {B : Nat} {w w' : World} {v : Value} {l : List Int} (h : Is w v l) (hb : Below B w w') (hB : w.heap.size ≤ B) : Is w' v l := Rd.below' h hb hB
theorem Is.len {w : World} {v : Value} {l : List Int} (h : Is w v l) : l.length ≤ maxLen := Rd.len h
theorem Is.at {w : World} {a : Option Addr} {n c : Nat} {l : List Int} (h : Is w (.slice a n c) l) {k : Nat} {x : Int} (hk : l[k]? = some x) :
    ∃ b o, a = some ⟨b, o, none⟩ ∧ b < w.heap.size ∧ w.cell? ⟨b, o + k, none⟩ = some (.int .i64 x) := by
  have hw := @Rd.split w (.slice a n c) l.length (l.map iV) h
  rcases hw with ⟨hn, _⟩ | ⟨_, b, o, c', hv, _, _, hlt, hcell⟩
  · have : l = [] := by simpa using hn
    subst this
    simp at hk
  · simp only [Value.slice.injEq] at hv
    exact ⟨b, o, hv.1, hlt, hcell _ _ (by simp [hk, iV])⟩
theorem info_i64 : (Tryd.prog.info? 3).map (fun i => (i.zero, i.size, i.bytes)) = some (some (.int .i64 0), 1, 8) := by kernel_rfl

/-- append(out, x) of one number: the walk has laid a block of one cell for it. -/
theorem wp_appI1 {w : World} {ops : Array Oper} {rest : List Oper} {o : Oper} {a : Act} {Q : Exit → Act → World → Prop} (hgd : o.guard = none) (s x : Operand)
    (ho : o.op = .call { callee := .builtin .append, args := #[s, x], argTypes := #[31, 31] })
    (B : Nat) (v : Value) (l : List Int) (hv : a.eval s = v) (hown : OwnI B w v l) (X : Int) (hx : a.eval x = .slice (some ⟨w.heap.size, 0, none⟩) 1 1)
    (hlen : l.length < 1000000) (hbase : B ≤ w.heap.size)
    (h : ∀ v' w', OwnI B w' v' (l ++ [X]) → Below B w w' → wpList Tryd.prog ops Q rest (a.put o.dst v') w') : wpList Tryd.prog ops Q (o :: rest) a (w.alloc (.cells #[.int .i64 X] 3)) := by
  obtain ⟨i0, hi, hz0, hz1, hz2⟩ := info_parts info_i64
  have hb : Below B w (w.alloc (.cells #[.int .i64 X] 3)) := (Below.refl B w).alloc hbase _
  have hb' : Below w.heap.size w (w.alloc (.cells #[.int .i64 X] 3)) := (Below.refl _ w).alloc (Nat.le_refl _) _
  have hone : Rd (w.alloc (.cells #[.int .i64 X] 3)) (.slice (some ⟨w.heap.size, 0, none⟩) 1 1) 1 [.int .i64 X] :=
    Owns.rd (owns_lit w.heap.size 3 w 1 1 [.int .i64 X] w.heap.size rfl (Nat.le_refl _) (by unfold maxLen; simp) rfl)
  refine wp_app hgd s x 31 ho B 3 i0 (.int .i64 0) 1 8 Tryd.underlying31 hi hz0 hz1 hz2 rfl (by decide) v l.length (l.map iV) hv (hown.kept hb' (Nat.le_refl _)) _ 1 [.int .i64 X] hx hone rfl (by intro u hu; simp at hu; subst hu; rfl) (by omega) (by unfold maxLen; omega) (by simp; omega) ?_
  intro v' w' h1 h2 _
  refine h v' w' ?_ (hb.trans h2)
  unfold OwnI
  rw [List.length_append, List.map_append]
  exact h1

theorem sbCoded_iff (n : Int) : sbCoded n = true ↔ (0 ≤ n ∧ n ≤ 2) ∨ n = 128 := by unfold sbCoded; simp

set_option maxRecDepth 100000 in
theorem coded_c (n : Int) (w : World) : Calls Tryd.prog 41 #[.int .i64 n] w fun e w' => e = .returned (.bool (sbCoded n)) ∧ w = w' := by
  have hi := sbCoded_iff n
  by_cases h0 : n = 128
  · subst h0
    have hc := hd (show sbCoded 128 = true by decide)
    clear hi
    go_enter Tryd.func41, Tryd.ntmps41
    go_wp2_with fail
    go_ret
    exact ⟨ret_bool hc.out.symm, rfl⟩
  have h0b : (n == 128) = false := by simpa using h0
  by_cases h1 : 0 ≤ n
  · by_cases h2 : n ≤ 2
    · have hc := hd (hi.2 (.inl ⟨h1, h2⟩))
      clear hi
      go_enter Tryd.func41, Tryd.ntmps41
      go_wp2_with fail
      go_ret
      exact ⟨ret_bool hc.out.symm, rfl⟩
    · have hc := hd (show sbCoded n = false by rw [← Bool.not_eq_true, hi]; omega)
      clear hi
      go_enter Tryd.func41, Tryd.ntmps41
      go_wp2_with fail
      go_ret
      exact ⟨ret_bool hc.out.symm, rfl⟩
  · have hc := hd (show sbCoded n = false by rw [← Bool.not_eq_true, hi]; omega)
    clear hi
    go_enter Tryd.func41, Tryd.ntmps41
    go_wp2_with fail
    go_ret
    exact ⟨ret_bool hc.out.symm, rfl⟩

set_option maxRecDepth 100000 in
theorem refCoded_c (n : Int) (w : World) : Calls Tryd.prog 42 #[.int .i64 n] w fun e w' => e = .returned (.bool (sbCoded n)) ∧ w = w' := by
  have hi := sbCoded_iff n
  by_cases h0 : n = 128
  · subst h0
    have hc := hd (show sbCoded 128 = true by decide)
    clear hi
    go_enter Tryd.func42, Tryd.ntmps42
    go_wp2_with fail
    go_ret
    exact ⟨ret_bool hc.out.symm, rfl⟩
  have h0b : (n == 128) = false := by simpa using h0
  by_cases h1 : 0 ≤ n
  · by_cases h2 : n ≤ 2
    · have hc := hd (hi.2 (.inl ⟨h1, h2⟩))
      clear hi
      go_enter Tryd.func42, Tryd.ntmps42
      go_wp2_with fail
      go_ret
      exact ⟨ret_bool hc.out.symm, rfl⟩
    · have hc := hd (show sbCoded n = false by rw [← Bool.not_eq_true, hi]; omega)
      clear hi
      go_enter Tryd.func42, Tryd.ntmps42
      go_wp2_with fail
      go_ret
      exact ⟨ret_bool hc.out.symm, rfl⟩
  · have hc := hd (show sbCoded n = false by rw [← Bool.not_eq_true, hi]; omega)
    clear hi
    go_enter Tryd.func42, Tryd.ntmps42
    go_wp2_with fail
    go_ret
    exact ⟨ret_bool hc.out.symm, rfl⟩

theorem sbAckFold_at (a : List UInt8) {l : List Int} {k : Nat} {x : Int} (hk : l[k]? = some x) :
    sbAckFold a (l.drop k) = if sbCoded x = false then ([], 5) else sbAckFold (a ++ [B8 x.toNat]) (l.drop (k + 1)) := by
  have hlt : k < l.length := (List.getElem?_eq_some_iff.1 hk).1
  have hf : l[k] = x := (List.getElem?_eq_some_iff.1 hk).2
  rw [List.drop_eq_getElem_cons hlt, hf]
  rfl
theorem sbAck_bad {id : Int} {l : List Int} {w w' : World} (e : Int) (he : sbAckE id l = e) (h0 : e ≠ 0) (hb : Below w.heap.size w w') :
    GivesB w (sbAckB id l) (sbAckE id l) (.returned (.tuple #[.slice none 0 0, .int .i64 e])) w' := by
  unfold sbAckB
  rw [he, if_neg h0]
  exact GivesB.nil hb

set_option maxRecDepth 100000 in
set_option maxHeartbeats 8000000 in
theorem subPutAck_c (id : Int) (v : Value) (l : List Int) (w : World) (hv : Is w v l) :
    Calls Tryd.prog 15 #[.int .i64 id, v] w (GivesB w (sbAckB id l) (sbAckE id l)) := by
  obtain ⟨a, c, rfl⟩ := hv.slice
  have hmax := hv.len
  unfold maxLen at hmax
  have hmx : l.length ≤ 9223372036854775807 := by omega
  have HV := hd hv; clear hv hmax
  go_enter Tryd.func15, Tryd.ntmps15
  go_wp2_with fail
  refine (subNumbered_c id _).mono ?_
  by_cases h1 : pIdE id = 0
  rotate_left
  · have heb : (pIdE id != 0) = true := by simpa using h1
    rintro e w1 ⟨v1, rfl, ho, hb⟩
    go_wp2_with fail
    go_ret2
    exact sbAck_bad _ (by rw [sbAckE, if_pos h1]) h1 hb
  rw [h1]
  rintro e w1 ⟨v1, rfl, ho, hb⟩
  go_wp2_with fail
  refine (many_c _ _).mono ?_
  by_cases h2 : sbMany l.length = 0
  rotate_left
  · have heb : (sbMany l.length != 0) = true := by simpa using h2
    rintro e w2 ⟨rfl, rfl⟩
    go_wp2_with fail
    go_ret2
    exact sbAck_bad _ (by rw [sbAckE, if_neg (by simp [h1]), if_pos h2]) h2 hb
  rw [h2]
  rintro e w2 ⟨rfl, rfl⟩
  have hl8 : 1 ≤ l.length ∧ l.length ≤ 8 := by
    unfold sbMany at h2
    split at h2
    · simp at h2
    · split at h2
      · simp at h2
      · omega
  have hm := h2
  have hsp : sbAckE id l = (sbAckFold (pIdB id) l).2 := by
    rw [sbAckE, if_neg (by simp [h1]), if_neg (by simp [hm])]
  have Hsp := hd hsp; clear hsp h1 h2 hm hmx
  go_wp2_with fail
  go_loopw [6, 27] (fun o n w' => ∃ (k : Nat) (a : List UInt8), n = .int .i64 k ∧ k ≤ l.length ∧ Owned w.heap.size w' o a ∧ Below w.heap.size w w' ∧ a.length ≤ 2 + k ∧ sbAckFold a (l.drop k) = sbAckFold (pIdB id) l) (fun o n _ => leftTo l.length n)
  case atStart => exact ⟨0, pIdB id, rfl, by omega, ho, hb, by have := pIdB_len id; omega, rfl⟩
  case round =>
    obtain ⟨k, A, rfl, hk, hO, hB, hA, hF⟩ := hrel
    by_cases hkl : k < l.length
    · obtain ⟨x, hf⟩ : ∃ x, l[k]? = some x := ⟨_, List.getElem?_eq_getElem hkl⟩
      have hBs := hB.size
      obtain ⟨b, o, rfl, hbl, hc0⟩ := HV.out.at hf
      replace hc0 := (bcell hB _ _ hbl).trans hc0
      have hst := sbAckFold_at A hf
      have hbA := hd hB
      go_wp2_with fail
      refine (coded_c x _).mono ?_
      by_cases hcd : sbCoded x = false
      · rw [hcd]
        rintro e' w3 ⟨rfl, rfl⟩
        rw [if_pos hcd, hF] at hst
        go_wp2_with fail
        go_ret2
        exact sbAck_bad 5 (by rw [Hsp.out, hst]) (by decide) (by go_grown)
      have hct : sbCoded x = true := by simpa using hcd
      have hxr := (sbCoded_iff x).1 hct
      have hx0 : 0 ≤ x := by omega
      have hx1 : x ≤ 255 := by omega
      rw [hct]
      rintro e' w3 ⟨rfl, rfl⟩
      rw [if_neg hcd, hF] at hst
      have hq8 := u8_wrap (n := x) (by omega)
      have hbv := byteV_B8 (n := x.toNat) (by omega) (x := x) (by omega)
      go_wp2_with (at_builtin; refine wp_appB1 rfl _ _ rfl w.heap.size _ A rfl hO x (B8 x.toNat) hbv.symm rfl (by omega) hBs ?_; intro v4 w4 ho4 hb4)
      go_roundw
      case rel => exact ⟨k + 1, A ++ [B8 x.toNat], by congr 1, by omega, ho4, hB.trans hb4, by simp; omega, hst.symm⟩
      case measure => simp [leftTo]; omega
    · have hke : k = l.length := by omega
      subst hke
      rw [List.drop_length] at hF
      have hF' : sbAckFold (pIdB id) l = (A, 0) := hF.symm
      have hz : sbAckE id l = 0 := by rw [Hsp.out, hF']
      have hBv : sbAckB id l = A := by rw [sbAckB, if_pos hz, hF']
      have Hz := hd hz; have HBv := hd hBv
      clear hz hBv hF hF' Hsp
      go_wp2_with fail
      go_ret2
      rw [Hz.out, HBv.out]
      exact ⟨_, rfl, hO, by go_grown⟩

set_option maxRecDepth 100000 in
set_option maxHeartbeats 8000000 in
theorem refPutAck15_c (id : Int) (v : Value) (l : List Int) (w : World) (hv : Is w v l) :
    Calls Tryd.prog 16 #[.int .i64 id, v] w (GivesB w (sbAckB id l) (sbAckE id l)) := by
  obtain ⟨a, c, rfl⟩ := hv.slice
  have hmax := hv.len
  unfold maxLen at hmax
  have hmx : l.length ≤ 9223372036854775807 := by omega
  have HV := hd hv; clear hv hmax
  go_enter Tryd.func16, Tryd.ntmps16
  go_wp2_with fail
  refine (refPutId_c id _).mono ?_
  by_cases h1 : pIdE id = 0
  rotate_left
  · have heb : (pIdE id != 0) = true := by simpa using h1
    rintro e w1 ⟨v1, rfl, ho, hb⟩
    go_wp2_with fail
    go_ret2
    exact sbAck_bad _ (by rw [sbAckE, if_pos h1]) h1 hb
  rw [h1]
  rintro e w1 ⟨v1, rfl, ho, hb⟩
  by_cases h2 : l.length = 0
  · have h2b : ((l.length : Int) == 0) = true := by simpa using h2
    clear hmx
    go_wp2_with fail
    go_ret2
    have hm : sbMany l.length = 4 := by unfold sbMany; rw [if_pos (by omega)]
    exact sbAck_bad 4 (by rw [sbAckE, if_neg (by simp [h1]), hm]; rfl) (by decide) hb
  have h2b : ((l.length : Int) == 0) = false := by simpa using h2
  by_cases h3 : 8 < l.length
  · clear hmx
    go_wp2_with fail
    go_ret2
    have hm : sbMany l.length = 6 := by unfold sbMany; rw [if_neg (by omega), if_pos (by omega)]
    exact sbAck_bad 6 (by rw [sbAckE, if_neg (by simp [h1]), hm]; rfl) (by decide) hb
  have hl8 : 1 ≤ l.length ∧ l.length ≤ 8 := by omega
  have hm : sbMany l.length = 0 := by unfold sbMany; rw [if_neg (by omega), if_neg (by omega)]
  have hsp : sbAckE id l = (sbAckFold (pIdB id) l).2 := by
    rw [sbAckE, if_neg (by simp [h1]), if_neg (by simp [hm])]
  have Hsp := hd hsp; clear hsp h1 h2 hm hmx
  go_wp2_with fail
  go_loopw [6, 8] (fun o n w' => ∃ (k : Nat) (a : List UInt8), n = .int .i64 k ∧ k ≤ l.length ∧ Owned w.heap.size w' o a ∧ Below w.heap.size w w' ∧ a.length ≤ 2 + k ∧ sbAckFold a (l.drop k) = sbAckFold (pIdB id) l) (fun o n _ => leftTo l.length n)
  case atStart => exact ⟨0, pIdB id, rfl, by omega, ho, hb, by have := pIdB_len id; omega, rfl⟩
  case round =>
    obtain ⟨k, A, rfl, hk, hO, hB, hA, hF⟩ := hrel
    by_cases hkl : k < l.length
    · obtain ⟨x, hf⟩ : ∃ x, l[k]? = some x := ⟨_, List.getElem?_eq_getElem hkl⟩
      have hBs := hB.size
      obtain ⟨b, o, rfl, hbl, hc0⟩ := HV.out.at hf
      replace hc0 := (bcell hB _ _ hbl).trans hc0
      have hst := sbAckFold_at A hf
      have hbA := hd hB
      go_wp2_with fail
      refine (refCoded_c x _).mono ?_
      by_cases hcd : sbCoded x = false
      · rw [hcd]
        rintro e' w3 ⟨rfl, rfl⟩
        rw [if_pos hcd, hF] at hst
        go_wp2_with fail
        go_ret2
        exact sbAck_bad 5 (by rw [Hsp.out, hst]) (by decide) (by go_grown)
      have hct : sbCoded x = true := by simpa using hcd
      have hxr := (sbCoded_iff x).1 hct
      have hx0 : 0 ≤ x := by omega
      have hx1 : x ≤ 255 := by omega
      rw [hct]
      rintro e' w3 ⟨rfl, rfl⟩
      rw [if_neg hcd, hF] at hst
      have hq8 := u8_wrap (n := x) (by omega)
      have hbv := byteV_B8 (n := x.toNat) (by omega) (x := x) (by omega)
      go_wp2_with (at_builtin; refine wp_appB1 rfl _ _ rfl w.heap.size _ A rfl hO x (B8 x.toNat) hbv.symm rfl (by omega) hBs ?_; intro v4 w4 ho4 hb4)
      go_roundw
      case rel => exact ⟨k + 1, A ++ [B8 x.toNat], by congr 1, by omega, ho4, hB.trans hb4, by simp; omega, hst.symm⟩
      case measure => simp [leftTo]; omega
    · have hke : k = l.length := by omega
      subst hke
      rw [List.drop_length] at hF
      have hF' : sbAckFold (pIdB id) l = (A, 0) := hF.symm
      have hz : sbAckE id l = 0 := by rw [Hsp.out, hF']
      have hBv : sbAckB id l = A := by rw [sbAckB, if_pos hz, hF']
      have Hz := hd hz; have HBv := hd hBv
      clear hz hBv hF hF' Hsp
      go_wp2_with fail
      go_ret2
      rw [Hz.out, HBv.out]
      exact ⟨_, rfl, hO, by go_grown⟩

theorem extract_to (s : ByteArray) (n : Nat) : s.extract 0 n = sOf ((sB s).take n) := by
  have h : sB (s.extract 0 n) = (sB s).take n := by simp [sB]
  have e : ∀ t : ByteArray, sOf (sB t) = t := fun t => by cases t; simp [sOf, sB]
  rw [← e (s.extract 0 n), h]
theorem uGet2_zero {l : List UInt8} (h : 2 ≤ l.length) : uGet2 l 0 = (256 * (bN l 0 : Int) + bN l 1, 2, 0) := by
  unfold uGet2; rw [if_neg (by omega), if_neg (by omega)]; rfl
theorem sbBegin_rng {l : List UInt8} (h : (sbBegin l).2 = 0) : 2 ≤ l.length ∧ 1 ≤ (sbBegin l).1 ∧ (sbBegin l).1 ≤ 65535 := by
  have b0 := bN_lt l 0; have b1 := bN_lt l 1
  unfold sbBegin at h ⊢
  by_cases h1 : l.length < 2
  · rw [if_pos h1] at h; simp at h
  rw [if_neg h1] at h ⊢
  by_cases h2 : (256 * (bN l 0 : Int) + bN l 1) = 0
  · rw [if_pos h2] at h; simp at h
  rw [if_neg h2]; simp only; omega
theorem sbBegin_two (l : List UInt8) (h : 2 ≤ l.length) : sbBegin l = pOfId (l.take 2) := by
  have e : (l.take 2).length = 2 := by simp; omega
  have b0 : bN (l.take 2) 0 = bN l 0 := by unfold bN; rw [List.getD_eq_getElem?_getD, List.getD_eq_getElem?_getD, List.getElem?_take]; simp
  have b1 : bN (l.take 2) 1 = bN l 1 := by unfold bN; rw [List.getD_eq_getElem?_getD, List.getD_eq_getElem?_getD, List.getElem?_take]; simp
  unfold sbBegin pOfId
  rw [if_neg (by omega), if_neg (show ¬ (l.take 2).length ≠ 2 by rw [e]; simp), uGet2_zero (by omega), b0, b1]

set_option maxRecDepth 100000 in
set_option maxHeartbeats 2000000 in
theorem subBegin_c (s : ByteArray) (w : World) (hs : s.size ≤ 140737488351232) :
    Calls Tryd.prog 43 #[.string s] w fun e w' => e = .returned (.tuple #[.int .i64 (sbBegin (sB s)).1, .int .i64 (sbBegin (sB s)).2]) ∧ Below w.heap.size w w' := by
  have hsl : Hd ((sB s).length = s.size) := sB_len s
  by_cases hl : s.size < 2
  · have hr : sbBegin (sB s) = (0, 2) := by rw [sbBegin, sB_len, if_pos hl]
    rw [hr]
    go_enter Tryd.func43, Tryd.ntmps43
    go_wp2_with fail
    go_ret2
    exact ⟨rfl, by go_grown⟩
  have hg := uGet2_zero (l := sB s) (by have := hsl.out; omega)
  have hr : sbBegin (sB s) = if (256 * (bN (sB s) 0 : Int) + bN (sB s) 1) = 0 then (0, 1) else (256 * (bN (sB s) 0 : Int) + bN (sB s) 1, 0) := by rw [sbBegin, sB_len, if_neg hl]
  generalize (256 * (bN (sB s) 0 : Int) + bN (sB s) 1) = id at hg hr
  have HG := hd hg; clear hg
  by_cases hid : id = 0
  · subst hid
    rw [hr, if_pos rfl]
    clear hr
    go_enter Tryd.func43, Tryd.ntmps43
    go_wp2_with fail
    refine upon_bytes (by omega) fun d1 k1 w1 hs1 hb1 => ?_
    go_wp2_with fail
    refine (Get2_c _ (sB s) 0 _ hs1).mono ?_
    rw [HG.out]
    rintro e w2 ⟨rfl, hb2⟩
    have hb := Below.up hb1 hb2
    go_wp2_with fail
    go_ret2
    exact ⟨rfl, hb⟩
  · have hidb : (id == 0) = false := by simpa using hid
    rw [hr, if_neg hid]
    clear hr hid
    go_enter Tryd.func43, Tryd.ntmps43
    go_wp2_with fail
    refine upon_bytes (by omega) fun d1 k1 w1 hs1 hb1 => ?_
    go_wp2_with fail
    refine (Get2_c _ (sB s) 0 _ hs1).mono ?_
    rw [HG.out]
    rintro e w2 ⟨rfl, hb2⟩
    have hb := Below.up hb1 hb2
    go_wp2_with fail
    go_ret2
    exact ⟨rfl, hb⟩

set_option maxRecDepth 100000 in
set_option maxHeartbeats 2000000 in
theorem refBegin_c (s : ByteArray) (w : World) (hs : s.size ≤ 140737488351232) :
    Calls Tryd.prog 44 #[.string s] w fun e w' => e = .returned (.tuple #[.int .i64 (sbBegin (sB s)).1, .int .i64 (sbBegin (sB s)).2]) ∧ Below w.heap.size w w' := by
  by_cases hl : s.size < 2
  · have hr : sbBegin (sB s) = (0, 2) := by rw [sbBegin, sB_len, if_pos hl]
    rw [hr]
    go_enter Tryd.func44, Tryd.ntmps44
    go_wp2_with fail
    go_ret2
    exact ⟨rfl, by go_grown⟩
  have hr : sbBegin (sB s) = pOfId ((sB s).take 2) := sbBegin_two _ (by rw [sB_len]; omega)
  rw [hr]
  clear hr
  have hsl : ∀ W : World, (Instr.slice 9 (.string s) none (some (.int .i64 2)) none).run Tryd.prog W = .ok (.string (sOf ((sB s).take 2))) W := by
    intro W
    rw [run_slice_string_h W 9 s Tryd.underlying9 .i64 2 (by omega) (by omega)]
    exact congrArg (fun x => Result.ok (Value.string x) W) (extract_to s 2)
  go_enter Tryd.func44, Tryd.ntmps44
  go_wp2_with fail
  refine (refOfId_c (sOf ((sB s).take 2)) _ (by rw [sOf_size]; simp; omega)).mono ?_
  rw [sB_sOf]
  rintro e w2 ⟨rfl, hb2⟩
  go_wp2_with fail
  go_ret2
  exact ⟨rfl, hb2⟩

end Go.Proofs.YtgafhnomkeiakaaDoor
