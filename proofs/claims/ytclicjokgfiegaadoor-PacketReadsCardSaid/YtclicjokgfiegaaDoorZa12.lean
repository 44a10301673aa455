/- A bundle of texts (merged for the limit on files): SubAck, SubRead, SubRefOf, PacPlain, SubAck2, PacMem. -/
import Derived.Test.YtclicjokgfiegaaDoorZa11
import Derived.Test.YtclicjokgfiegaaDoorZa2
import Derived.Test.YtclicjokgfiegaaDoorZa6
import Derived.Test.YtclicjokgfiegaaDoorZa4
import Derived.Test.YtclicjokgfiegaaDoorZa10
import Derived.Test.YtclicjokgfiegaaDoorZa5
import Derived.Test.YtclicjokgfiegaaDoorZa9
import Derived.Lib.BufferMore
/- Answers to wishes: what is laid and told: the walks of the program and of the reference (printed by wip/gen/suback.py). -/
namespace Go.Proofs.YtclicjokgfiegaaDoor
open Go.RowKit
set_option linter.unusedVariables false
set_option linter.unusedSimpArgs false

/-! ### Rows of numbers -/
def iV (n : Int) : Value := .int .i64 n
def Is (w : World) (v : Value) (l : List Int) : Prop := Rd w v l.length (l.map iV)
def OwnI (B : Nat) (w : World) (v : Value) (l : List Int) : Prop := w.ownsRow B 3 1 v l.length (l.map iV)
theorem OwnI.is {B : Nat} {w : World} {v : Value} {l : List Int} (h : OwnI B w v l) : Is w v l := Owns.rd h
theorem OwnI.kept {B B' : Nat} {w w' : World} {v : Value} {l : List Int} (h : OwnI B w v l) (hb : Below B' w w') (hB : w.heap.size ≤ B') : OwnI B w' v l := Owns.kept h hb hB
theorem OwnI.nil (B : Nat) (w : World) : OwnI B w (.slice none 0 0) [] := ⟨rfl, .inl ⟨rfl, rfl⟩⟩
theorem Is.slice {w : World} {v : Value} {l : List Int} (h : Is w v l) : ∃ a c, v = .slice a l.length c := by obtain ⟨a, c, rfl, _⟩ := h; exact ⟨a, c, rfl⟩
theorem Is.below' {B : Nat} {w w' : World} {v : Value} {l : List Int} (h : Is w v l) (hb : Below B w w') (hB : w.heap.size ≤ B) : Is w' v l := Rd.below' h hb hB
theorem Is.len {w : World} {v : Value} {l : List Int} (h : Is w v l) : l.length ≤ maxLen := Rd.len h
theorem Is.at {w : World} {a : Option Addr} {n c : Nat} {l : List Int} (h : Is w (.slice a n c) l) {k : Nat} {x : Int} (hk : l[k]? = some x) :
    ∃ b o, a = some ⟨b, o, none⟩ ∧ b < w.heap.size ∧ w.cell? ⟨b, o + k, none⟩ = some (.int .i64 x) := by
  have hw := @Rd.split w (.slice a n c) l.length (l.map iV) h
  rcases hw with ⟨hn, _⟩ | ⟨_, b, o, c', hv, _, _, hlt, hcell⟩
  · have : l = [] := by simpa using hn
    subst this
    simp at hk
  · simp only [Value.slice.injEq] at hv
    exact ⟨b, o, hv.1, hlt, hcell _ _ (by simp [hk, iV])⟩
theorem info_i64 : (Tryd.prog.info? 3).map (fun i => (i.zero, i.size, i.bytes)) = some (some (.int .i64 0), 1, 8) := by kernel_rfl

/-- append(out, x) of one number: the walk has laid a block of one cell for it. -/
theorem wp_appI1 {w : World} {ops : Array Oper} {rest : List Oper} {o : Oper} {a : Act} {Q : Exit → Act → World → Prop} (hgd : o.guard = none) (s x : Operand)
    (ho : o.op = .call { callee := .builtin .append, args := #[s, x], argTypes := #[27, 27] })
    (B : Nat) (v : Value) (l : List Int) (hv : a.eval s = v) (hown : OwnI B w v l) (X : Int) (hx : a.eval x = .slice (some ⟨w.heap.size, 0, none⟩) 1 1)
    (hlen : l.length < 1000000) (hbase : B ≤ w.heap.size)
    (h : ∀ v' w', OwnI B w' v' (l ++ [X]) → Below B w w' → wpList Tryd.prog ops Q rest (a.put o.dst v') w') : wpList Tryd.prog ops Q (o :: rest) a (w.alloc (.cells #[.int .i64 X] 3)) := by
  obtain ⟨i0, hi, hz0, hz1, hz2⟩ := info_parts info_i64
  have hb : Below B w (w.alloc (.cells #[.int .i64 X] 3)) := (Below.refl B w).alloc hbase _
  have hb' : Below w.heap.size w (w.alloc (.cells #[.int .i64 X] 3)) := (Below.refl _ w).alloc (Nat.le_refl _) _
  have hone : Rd (w.alloc (.cells #[.int .i64 X] 3)) (.slice (some ⟨w.heap.size, 0, none⟩) 1 1) 1 [.int .i64 X] :=
    Owns.rd (owns_lit w.heap.size 3 w 1 1 [.int .i64 X] w.heap.size rfl (Nat.le_refl _) (by unfold maxLen; simp) rfl)
  refine wp_app hgd s x 27 ho B 3 i0 (.int .i64 0) 1 8 Tryd.underlying27 hi hz0 hz1 hz2 rfl (by decide) v l.length (l.map iV) hv (hown.kept hb' (Nat.le_refl _)) _ 1 [.int .i64 X] hx hone rfl (by intro u hu; simp at hu; subst hu; rfl) (by omega) (by unfold maxLen; omega) (by simp; omega) ?_
  intro v' w' h1 h2 _
  refine h v' w' ?_ (hb.trans h2)
  unfold OwnI
  rw [List.length_append, List.map_append]
  exact h1

theorem sbCoded_iff (n : Int) : sbCoded n = true ↔ (0 ≤ n ∧ n ≤ 2) ∨ n = 128 := by unfold sbCoded; simp

set_option maxRecDepth 100000 in
theorem coded_c (n : Int) (w : World) : Calls Tryd.prog 173 #[.int .i64 n] w fun e w' => e = .returned (.bool (sbCoded n)) ∧ w = w' := by
  have hi := sbCoded_iff n
  by_cases h0 : n = 128
  · subst h0
    have hc := hd (show sbCoded 128 = true by decide)
    clear hi
    go_enter Tryd.func173, Tryd.ntmps173
    go_wp2_with fail
    go_ret
    exact ⟨ret_bool hc.out.symm, rfl⟩
  have h0b : (n == 128) = false := by simpa using h0
  by_cases h1 : 0 ≤ n
  · by_cases h2 : n ≤ 2
    · have hc := hd (hi.2 (.inl ⟨h1, h2⟩))
      clear hi
      go_enter Tryd.func173, Tryd.ntmps173
      go_wp2_with fail
      go_ret
      exact ⟨ret_bool hc.out.symm, rfl⟩
    · have hc := hd (show sbCoded n = false by rw [← Bool.not_eq_true, hi]; omega)
      clear hi
      go_enter Tryd.func173, Tryd.ntmps173
      go_wp2_with fail
      go_ret
      exact ⟨ret_bool hc.out.symm, rfl⟩
  · have hc := hd (show sbCoded n = false by rw [← Bool.not_eq_true, hi]; omega)
    clear hi
    go_enter Tryd.func173, Tryd.ntmps173
    go_wp2_with fail
    go_ret
    exact ⟨ret_bool hc.out.symm, rfl⟩

set_option maxRecDepth 100000 in
theorem refCoded_c (n : Int) (w : World) : Calls Tryd.prog 134 #[.int .i64 n] w fun e w' => e = .returned (.bool (sbCoded n)) ∧ w = w' := by
  have hi := sbCoded_iff n
  by_cases h0 : n = 128
  · subst h0
    have hc := hd (show sbCoded 128 = true by decide)
    clear hi
    go_enter Tryd.func134, Tryd.ntmps134
    go_wp2_with fail
    go_ret
    exact ⟨ret_bool hc.out.symm, rfl⟩
  have h0b : (n == 128) = false := by simpa using h0
  by_cases h1 : 0 ≤ n
  · by_cases h2 : n ≤ 2
    · have hc := hd (hi.2 (.inl ⟨h1, h2⟩))
      clear hi
      go_enter Tryd.func134, Tryd.ntmps134
      go_wp2_with fail
      go_ret
      exact ⟨ret_bool hc.out.symm, rfl⟩
    · have hc := hd (show sbCoded n = false by rw [← Bool.not_eq_true, hi]; omega)
      clear hi
      go_enter Tryd.func134, Tryd.ntmps134
      go_wp2_with fail
      go_ret
      exact ⟨ret_bool hc.out.symm, rfl⟩
  · have hc := hd (show sbCoded n = false by rw [← Bool.not_eq_true, hi]; omega)
    clear hi
    go_enter Tryd.func134, Tryd.ntmps134
    go_wp2_with fail
    go_ret
    exact ⟨ret_bool hc.out.symm, rfl⟩

theorem sbAckFold_at (a : List UInt8) {l : List Int} {k : Nat} {x : Int} (hk : l[k]? = some x) :
    sbAckFold a (l.drop k) = if sbCoded x = false then ([], 5) else sbAckFold (a ++ [B8 x.toNat]) (l.drop (k + 1)) := by
  have hlt : k < l.length := (List.getElem?_eq_some_iff.1 hk).1
  have hf : l[k] = x := (List.getElem?_eq_some_iff.1 hk).2
  rw [List.drop_eq_getElem_cons hlt, hf]
  rfl
theorem sbAck_bad {id : Int} {l : List Int} {w w' : World} (e : Int) (he : sbAckE id l = e) (h0 : e ≠ 0) (hb : Below w.heap.size w w') :
    GivesB w (sbAckB id l) (sbAckE id l) (.returned (.tuple #[.slice none 0 0, .int .i64 e])) w' := by
  unfold sbAckB
  rw [he, if_neg h0]
  exact GivesB.nil hb

set_option maxRecDepth 100000 in
set_option maxHeartbeats 8000000 in
theorem subPutAck_c (id : Int) (v : Value) (l : List Int) (w : World) (hv : Is w v l) :
    Calls Tryd.prog 127 #[.int .i64 id, v] w (GivesB w (sbAckB id l) (sbAckE id l)) := by
  obtain ⟨a, c, rfl⟩ := hv.slice
  have hmax := hv.len
  unfold maxLen at hmax
  have hmx : l.length ≤ 9223372036854775807 := by omega
  have HV := hd hv; clear hv hmax
  go_enter Tryd.func127, Tryd.ntmps127
  go_wp2_with fail
  refine (subNumbered_c id _).mono ?_
  by_cases h1 : pIdE id = 0
  rotate_left
  · have heb : (pIdE id != 0) = true := by simpa using h1
    rintro e w1 ⟨v1, rfl, ho, hb⟩
    go_wp2_with fail
    go_ret2
    exact sbAck_bad _ (by rw [sbAckE, if_pos h1]) h1 hb
  rw [h1]
  rintro e w1 ⟨v1, rfl, ho, hb⟩
  go_wp2_with fail
  refine (many_c _ _).mono ?_
  by_cases h2 : sbMany l.length = 0
  rotate_left
  · have heb : (sbMany l.length != 0) = true := by simpa using h2
    rintro e w2 ⟨rfl, rfl⟩
    go_wp2_with fail
    go_ret2
    exact sbAck_bad _ (by rw [sbAckE, if_neg (by simp [h1]), if_pos h2]) h2 hb
  rw [h2]
  rintro e w2 ⟨rfl, rfl⟩
  have hl8 : 1 ≤ l.length ∧ l.length ≤ 8 := by
    unfold sbMany at h2
    split at h2
    · simp at h2
    · split at h2
      · simp at h2
      · omega
  have hm := h2
  have hsp : sbAckE id l = (sbAckFold (pIdB id) l).2 := by
    rw [sbAckE, if_neg (by simp [h1]), if_neg (by simp [hm])]
  have Hsp := hd hsp; clear hsp h1 h2 hm hmx
  go_wp2_with fail
  go_loopw [6, 27] (fun o n w' => ∃ (k : Nat) (a : List UInt8), n = .int .i64 k ∧ k ≤ l.length ∧ Owned w.heap.size w' o a ∧ Below w.heap.size w w' ∧ a.length ≤ 2 + k ∧ sbAckFold a (l.drop k) = sbAckFold (pIdB id) l) (fun o n _ => leftTo l.length n)
  case atStart => exact ⟨0, pIdB id, rfl, by omega, ho, hb, by have := pIdB_len id; omega, rfl⟩
  case round =>
    obtain ⟨k, A, rfl, hk, hO, hB, hA, hF⟩ := hrel
    by_cases hkl : k < l.length
    · obtain ⟨x, hf⟩ : ∃ x, l[k]? = some x := ⟨_, List.getElem?_eq_getElem hkl⟩
      have hBs := hB.size
      obtain ⟨b, o, rfl, hbl, hc0⟩ := HV.out.at hf
      replace hc0 := (bcell hB _ _ hbl).trans hc0
      have hst := sbAckFold_at A hf
      have hbA := hd hB
      go_wp2_with fail
      refine (coded_c x _).mono ?_
      by_cases hcd : sbCoded x = false
      · rw [hcd]
        rintro e' w3 ⟨rfl, rfl⟩
        rw [if_pos hcd, hF] at hst
        go_wp2_with fail
        go_ret2
        exact sbAck_bad 5 (by rw [Hsp.out, hst]) (by decide) (by go_grown)
      have hct : sbCoded x = true := by simpa using hcd
      have hxr := (sbCoded_iff x).1 hct
      have hx0 : 0 ≤ x := by omega
      have hx1 : x ≤ 255 := by omega
      rw [hct]
      rintro e' w3 ⟨rfl, rfl⟩
      rw [if_neg hcd, hF] at hst
      have hq8 := u8_wrap (n := x) (by omega)
      have hbv := byteV_B8 (n := x.toNat) (by omega) (x := x) (by omega)
      go_wp2_with (at_builtin; refine wp_appB1 rfl _ _ rfl w.heap.size _ A rfl hO x (B8 x.toNat) hbv.symm rfl (by omega) hBs ?_; intro v4 w4 ho4 hb4)
      go_roundw
      case rel => exact ⟨k + 1, A ++ [B8 x.toNat], by congr 1, by omega, ho4, hB.trans hb4, by simp; omega, hst.symm⟩
      case measure => simp [leftTo]; omega
    · have hke : k = l.length := by omega
      subst hke
      rw [List.drop_length] at hF
      have hF' : sbAckFold (pIdB id) l = (A, 0) := hF.symm
      have hz : sbAckE id l = 0 := by rw [Hsp.out, hF']
      have hBv : sbAckB id l = A := by rw [sbAckB, if_pos hz, hF']
      have Hz := hd hz; have HBv := hd hBv
      clear hz hBv hF hF' Hsp
      go_wp2_with fail
      go_ret2
      rw [Hz.out, HBv.out]
      exact ⟨_, rfl, hO, by go_grown⟩

set_option maxRecDepth 100000 in
set_option maxHeartbeats 8000000 in
theorem refPutAck15_c (id : Int) (v : Value) (l : List Int) (w : World) (hv : Is w v l) :
    Calls Tryd.prog 82 #[.int .i64 id, v] w (GivesB w (sbAckB id l) (sbAckE id l)) := by
  obtain ⟨a, c, rfl⟩ := hv.slice
  have hmax := hv.len
  unfold maxLen at hmax
  have hmx : l.length ≤ 9223372036854775807 := by omega
  have HV := hd hv; clear hv hmax
  go_enter Tryd.func82, Tryd.ntmps82
  go_wp2_with fail
  refine (refPutId_c id _).mono ?_
  by_cases h1 : pIdE id = 0
  rotate_left
  · have heb : (pIdE id != 0) = true := by simpa using h1
    rintro e w1 ⟨v1, rfl, ho, hb⟩
    go_wp2_with fail
    go_ret2
    exact sbAck_bad _ (by rw [sbAckE, if_pos h1]) h1 hb
  rw [h1]
  rintro e w1 ⟨v1, rfl, ho, hb⟩
  by_cases h2 : l.length = 0
  · have h2b : ((l.length : Int) == 0) = true := by simpa using h2
    clear hmx
    go_wp2_with fail
    go_ret2
    have hm : sbMany l.length = 4 := by unfold sbMany; rw [if_pos (by omega)]
    exact sbAck_bad 4 (by rw [sbAckE, if_neg (by simp [h1]), hm]; rfl) (by decide) hb
  have h2b : ((l.length : Int) == 0) = false := by simpa using h2
  by_cases h3 : 8 < l.length
  · clear hmx
    go_wp2_with fail
    go_ret2
    have hm : sbMany l.length = 6 := by unfold sbMany; rw [if_neg (by omega), if_pos (by omega)]
    exact sbAck_bad 6 (by rw [sbAckE, if_neg (by simp [h1]), hm]; rfl) (by decide) hb
  have hl8 : 1 ≤ l.length ∧ l.length ≤ 8 := by omega
  have hm : sbMany l.length = 0 := by unfold sbMany; rw [if_neg (by omega), if_neg (by omega)]
  have hsp : sbAckE id l = (sbAckFold (pIdB id) l).2 := by
    rw [sbAckE, if_neg (by simp [h1]), if_neg (by simp [hm])]
  have Hsp := hd hsp; clear hsp h1 h2 hm hmx
  go_wp2_with fail
  go_loopw [6, 8] (fun o n w' => ∃ (k : Nat) (a : List UInt8), n = .int .i64 k ∧ k ≤ l.length ∧ Owned w.heap.size w' o a ∧ Below w.heap.size w w' ∧ a.length ≤ 2 + k ∧ sbAckFold a (l.drop k) = sbAckFold (pIdB id) l) (fun o n _ => leftTo l.length n)
  case atStart => exact ⟨0, pIdB id, rfl, by omega, ho, hb, by have := pIdB_len id; omega, rfl⟩
  case round =>
    obtain ⟨k, A, rfl, hk, hO, hB, hA, hF⟩ := hrel
    by_cases hkl : k < l.length
    · obtain ⟨x, hf⟩ : ∃ x, l[k]? = some x := ⟨_, List.getElem?_eq_getElem hkl⟩
      have hBs := hB.size
      obtain ⟨b, o, rfl, hbl, hc0⟩ := HV.out.at hf
      replace hc0 := (bcell hB _ _ hbl).trans hc0
      have hst := sbAckFold_at A hf
      have hbA := hd hB
      go_wp2_with fail
      refine (refCoded_c x _).mono ?_
      by_cases hcd : sbCoded x = false
      · rw [hcd]
        rintro e' w3 ⟨rfl, rfl⟩
        rw [if_pos hcd, hF] at hst
        go_wp2_with fail
        go_ret2
        exact sbAck_bad 5 (by rw [Hsp.out, hst]) (by decide) (by go_grown)
      have hct : sbCoded x = true := by simpa using hcd
      have hxr := (sbCoded_iff x).1 hct
      have hx0 : 0 ≤ x := by omega
      have hx1 : x ≤ 255 := by omega
      rw [hct]
      rintro e' w3 ⟨rfl, rfl⟩
      rw [if_neg hcd, hF] at hst
      have hq8 := u8_wrap (n := x) (by omega)
      have hbv := byteV_B8 (n := x.toNat) (by omega) (x := x) (by omega)
      go_wp2_with (at_builtin; refine wp_appB1 rfl _ _ rfl w.heap.size _ A rfl hO x (B8 x.toNat) hbv.symm rfl (by omega) hBs ?_; intro v4 w4 ho4 hb4)
      go_roundw
      case rel => exact ⟨k + 1, A ++ [B8 x.toNat], by congr 1, by omega, ho4, hB.trans hb4, by simp; omega, hst.symm⟩
      case measure => simp [leftTo]; omega
    · have hke : k = l.length := by omega
      subst hke
      rw [List.drop_length] at hF
      have hF' : sbAckFold (pIdB id) l = (A, 0) := hF.symm
      have hz : sbAckE id l = 0 := by rw [Hsp.out, hF']
      have hBv : sbAckB id l = A := by rw [sbAckB, if_pos hz, hF']
      have Hz := hd hz; have HBv := hd hBv
      clear hz hBv hF hF' Hsp
      go_wp2_with fail
      go_ret2
      rw [Hz.out, HBv.out]
      exact ⟨_, rfl, hO, by go_grown⟩

theorem extract_to (s : ByteArray) (n : Nat) : s.extract 0 n = sOf ((sB s).take n) := by
  have h : sB (s.extract 0 n) = (sB s).take n := by simp [sB]
  have e : ∀ t : ByteArray, sOf (sB t) = t := fun t => by cases t; simp [sOf, sB]
  rw [← e (s.extract 0 n), h]
theorem uGet2_zero {l : List UInt8} (h : 2 ≤ l.length) : uGet2 l 0 = (256 * (bN l 0 : Int) + bN l 1, 2, 0) := by
  unfold uGet2; rw [if_neg (by omega), if_neg (by omega)]; rfl
theorem sbBegin_rng {l : List UInt8} (h : (sbBegin l).2 = 0) : 2 ≤ l.length ∧ 1 ≤ (sbBegin l).1 ∧ (sbBegin l).1 ≤ 65535 := by
  have b0 := bN_lt l 0; have b1 := bN_lt l 1
  unfold sbBegin at h ⊢
  by_cases h1 : l.length < 2
  · rw [if_pos h1] at h; simp at h
  rw [if_neg h1] at h ⊢
  by_cases h2 : (256 * (bN l 0 : Int) + bN l 1) = 0
  · rw [if_pos h2] at h; simp at h
  rw [if_neg h2]; simp only; omega
theorem sbBegin_two (l : List UInt8) (h : 2 ≤ l.length) : sbBegin l = pOfId (l.take 2) := by
  have e : (l.take 2).length = 2 := by simp; omega
  have b0 : bN (l.take 2) 0 = bN l 0 := by unfold bN; rw [List.getD_eq_getElem?_getD, List.getD_eq_getElem?_getD, List.getElem?_take]; simp
  have b1 : bN (l.take 2) 1 = bN l 1 := by unfold bN; rw [List.getD_eq_getElem?_getD, List.getD_eq_getElem?_getD, List.getElem?_take]; simp
  unfold sbBegin pOfId
  rw [if_neg (by omega), if_neg (show ¬ (l.take 2).length ≠ 2 by rw [e]; simp), uGet2_zero (by omega), b0, b1]

set_option maxRecDepth 100000 in
set_option maxHeartbeats 2000000 in
theorem subBegin_c (s : ByteArray) (w : World) (hs : s.size ≤ 140737488351232) :
    Calls Tryd.prog 188 #[.string s] w fun e w' => e = .returned (.tuple #[.int .i64 (sbBegin (sB s)).1, .int .i64 (sbBegin (sB s)).2]) ∧ Below w.heap.size w w' := by
  have hsl : Hd ((sB s).length = s.size) := sB_len s
  by_cases hl : s.size < 2
  · have hr : sbBegin (sB s) = (0, 2) := by rw [sbBegin, sB_len, if_pos hl]
    rw [hr]
    go_enter Tryd.func188, Tryd.ntmps188
    go_wp2_with fail
    go_ret2
    exact ⟨rfl, by go_grown⟩
  have hg := uGet2_zero (l := sB s) (by have := hsl.out; omega)
  have hr : sbBegin (sB s) = if (256 * (bN (sB s) 0 : Int) + bN (sB s) 1) = 0 then (0, 1) else (256 * (bN (sB s) 0 : Int) + bN (sB s) 1, 0) := by rw [sbBegin, sB_len, if_neg hl]
  generalize (256 * (bN (sB s) 0 : Int) + bN (sB s) 1) = id at hg hr
  have HG := hd hg; clear hg
  by_cases hid : id = 0
  · subst hid
    rw [hr, if_pos rfl]
    clear hr
    go_enter Tryd.func188, Tryd.ntmps188
    go_wp2_with fail
    refine upon_bytes (by omega) fun d1 k1 w1 hs1 hb1 => ?_
    go_wp2_with fail
    refine (Get2_c _ (sB s) 0 _ hs1).mono ?_
    rw [HG.out]
    rintro e w2 ⟨rfl, hb2⟩
    have hb := Below.up hb1 hb2
    go_wp2_with fail
    go_ret2
    exact ⟨rfl, hb⟩
  · have hidb : (id == 0) = false := by simpa using hid
    rw [hr, if_neg hid]
    clear hr hid
    go_enter Tryd.func188, Tryd.ntmps188
    go_wp2_with fail
    refine upon_bytes (by omega) fun d1 k1 w1 hs1 hb1 => ?_
    go_wp2_with fail
    refine (Get2_c _ (sB s) 0 _ hs1).mono ?_
    rw [HG.out]
    rintro e w2 ⟨rfl, hb2⟩
    have hb := Below.up hb1 hb2
    go_wp2_with fail
    go_ret2
    exact ⟨rfl, hb⟩

set_option maxRecDepth 100000 in
set_option maxHeartbeats 2000000 in
theorem refBegin_c (s : ByteArray) (w : World) (hs : s.size ≤ 140737488351232) :
    Calls Tryd.prog 157 #[.string s] w fun e w' => e = .returned (.tuple #[.int .i64 (sbBegin (sB s)).1, .int .i64 (sbBegin (sB s)).2]) ∧ Below w.heap.size w w' := by
  by_cases hl : s.size < 2
  · have hr : sbBegin (sB s) = (0, 2) := by rw [sbBegin, sB_len, if_pos hl]
    rw [hr]
    go_enter Tryd.func157, Tryd.ntmps157
    go_wp2_with fail
    go_ret2
    exact ⟨rfl, by go_grown⟩
  have hr : sbBegin (sB s) = pOfId ((sB s).take 2) := sbBegin_two _ (by rw [sB_len]; omega)
  rw [hr]
  clear hr
  have hsl : ∀ W : World, (Instr.slice 9 (.string s) none (some (.int .i64 2)) none).run Tryd.prog W = .ok (.string (sOf ((sB s).take 2))) W := by
    intro W
    rw [run_slice_string_h W 9 s Tryd.underlying9 .i64 2 (by omega) (by omega)]
    exact congrArg (fun x => Result.ok (Value.string x) W) (extract_to s 2)
  go_enter Tryd.func157, Tryd.ntmps157
  go_wp2_with fail
  refine (refOfId_c (sOf ((sB s).take 2)) _ (by rw [sOf_size]; simp; omega)).mono ?_
  rw [sB_sOf]
  rintro e w2 ⟨rfl, hb2⟩
  go_wp2_with fail
  go_ret2
  exact ⟨rfl, hb2⟩

end Go.Proofs.YtclicjokgfiegaaDoor

/- Wishes: what bytes tell: a filter read; lists of filters compared; the reference's Of. -/
namespace Go.Proofs.YtclicjokgfiegaaDoor
open Go.RowKit
set_option linter.unusedVariables false
set_option linter.unusedSimpArgs false

/-! ### Rows of wishes of one's own -/
def OwnW (B : Nat) (w : World) (v : Value) (l : List Wish) : Prop := w.ownsRow B 58 2 v l.length (wCells l)
theorem OwnW.ws {B : Nat} {w : World} {v : Value} {l : List Wish} (h : OwnW B w v l) : Ws w v l := Owns.rd h
theorem OwnW.kept {B B' : Nat} {w w' : World} {v : Value} {l : List Wish} (h : OwnW B w v l) (hb : Below B' w w') (hB : w.heap.size ≤ B') : OwnW B w' v l := Owns.kept h hb hB
theorem OwnW.nil (B : Nat) (w : World) : OwnW B w (.slice none 0 0) [] := ⟨rfl, .inl ⟨rfl, rfl⟩⟩
theorem info_filter : (Tryd.prog.info? 58).map (fun i => (i.zero, i.size, i.bytes)) = some (some (.agg #[.string ⟨#[]⟩, .int .i64 0]), 2, 24) := by kernel_rfl
/-- append(out, f) of one wish: the walk has laid a block of its cells for it. -/
theorem wp_appW1 {w : World} {ops : Array Oper} {rest : List Oper} {o : Oper} {a : Act} {Q : Exit → Act → World → Prop} (hgd : o.guard = none) (s x : Operand)
    (ho : o.op = .call { callee := .builtin .append, args := #[s, x], argTypes := #[26, 26] })
    (B : Nat) (v : Value) (l : List Wish) (hv : a.eval s = v) (hown : OwnW B w v l) (T : ByteArray) (X : Int) (hx : a.eval x = .slice (some ⟨w.heap.size, 0, none⟩) 1 1)
    (hlen : l.length < 1000000) (hbase : B ≤ w.heap.size)
    (h : ∀ v' w', OwnW B w' v' (l ++ [(T, X)]) → Below B w w' → wpList Tryd.prog ops Q rest (a.put o.dst v') w') : wpList Tryd.prog ops Q (o :: rest) a (w.alloc (.cells #[.string T, .int .i64 X] 58)) := by
  obtain ⟨i0, hi, hz0, hz1, hz2⟩ := info_parts info_filter
  have hb : Below B w (w.alloc (.cells #[.string T, .int .i64 X] 58)) := (Below.refl B w).alloc hbase _
  have hb' : Below w.heap.size w (w.alloc (.cells #[.string T, .int .i64 X] 58)) := (Below.refl _ w).alloc (Nat.le_refl _) _
  have hone : Rd (w.alloc (.cells #[.string T, .int .i64 X] 58)) (.slice (some ⟨w.heap.size, 0, none⟩) 1 1) 1 [.string T, .int .i64 X] :=
    Owns.rd (owns_lit w.heap.size 58 w 2 1 [.string T, .int .i64 X] w.heap.size rfl (Nat.le_refl _) (by unfold maxLen; simp) rfl)
  refine wp_app hgd s x 26 ho B 58 i0 (.agg #[.string ⟨#[]⟩, .int .i64 0]) 2 24 Tryd.underlying26 hi hz0 hz1 hz2 rfl (by decide) v l.length (wCells l) hv (hown.kept hb' (Nat.le_refl _)) _ 1 [.string T, .int .i64 X] hx hone rfl (by intro u hu; simp at hu; rcases hu with rfl | rfl <;> rfl) (by omega) (by unfold maxLen; omega) (by simp; omega) ?_
  intro v' w' h1 h2 _
  refine h v' w' ?_ (hb.trans h2)
  unfold OwnW
  rw [List.length_append, wCells_append]
  exact h1

/-! ### Lists of wishes compared -/
theorem take_moreW {a b : List Wish} {k : Nat} {x : Wish} (h : a.take k = b.take k) (ha : a[k]? = some x) (hb : b[k]? = some x) : a.take (k + 1) = b.take (k + 1) := by
  rw [List.take_add_one, List.take_add_one, h, ha, hb]
instance : DecidableEq ByteArray := fun a b => decidable_of_iff (a.data = b.data) ⟨fun h => by cases a; cases b; simp_all, fun h => by rw [h]⟩

def GivesRd (w : World) (r : Wish × Int × Int) (e : Ending) (w' : World) : Prop :=
  e = .returned (.tuple #[.agg #[.string r.1.1, .int .i64 r.1.2], .int .i64 r.2.1, .int .i64 r.2.2]) ∧ Below w.heap.size w w'
theorem GivesRd.mk {w w' : World} {r : Wish × Int × Int} {T : ByteArray} {q t e : Int} (h : r = ((T, q), t, e)) (hb : Below w.heap.size w w') : GivesRd w r (.returned (.tuple #[.agg #[.string T, .int .i64 q], .int .i64 t, .int .i64 e])) w' := by
  subst h; exact ⟨rfl, hb⟩

set_option maxRecDepth 100000 in
set_option maxHeartbeats 4000000 in
theorem read_c (v : Value) (l : List UInt8) (at' : Int) (ends : Bool) (w : World) (hE : EnvU w) (hv : Bs w v l) (hlm : l.length ≤ 140737488355328) :
    Calls Tryd.prog 204 #[v, .int .i64 at', .bool ends] w (GivesRd w (sbRead l at' ends)) := by
  have HE := hd hE; clear hE
  obtain ⟨a, c, rfl⟩ := hv.slice
  have hsp : sbRead l at' ends = sbRead l at' ends := rfl
  conv at hsp => rhs; rw [sbRead]
  have hrg := @uGet_rng l at'
  generalize sbRead l at' ends = R at hsp ⊢
  have Hsp := hd hsp; clear hsp
  go_enter Tryd.func204, Tryd.ntmps204
  go_wp2_with fail
  refine (Get_c _ l at' _ (HE.out.below (by go_grown)) (hv.below' ((Below.refl _ w).alloc (Nat.le_refl _) _) (Nat.le_refl _))).mono ?_
  have hsp := Hsp.out; clear Hsp
  generalize uGet l at' = g at hsp hrg ⊢
  obtain ⟨T, n, e⟩ := g
  simp only at hsp hrg ⊢
  have Hsp := hd hsp; clear hsp
  rintro e' w1 ⟨rfl, hb1⟩
  have hc1 := bcell hb1
  have hf1 := bfree hb1
  have hl1 : w.heap.size < w1.heap.size := by have := hb1.size; simp at this; omega
  have hb : Below w.heap.size w w1 := Below.up (by go_grown) hb1
  have hv1 := hv.below' hb (Nat.le_refl _)
  clear hb1 hv
  by_cases he : e = 0
  rotate_left
  · have heb : (e != 0) = true := by simpa using he
    clear hrg
    go_wp2_with fail
    exact bodyPost_ret (v := .tuple #[.agg #[.string ⟨#[]⟩, .int .i64 0], .int .i64 0, .int .i64 e]) (by simp [results, Tryd.results204, go_sem, hc1, hl1]) rfl (GivesRd.mk (by rw [Hsp.out, if_pos he]) (by go_grown))
  subst he
  obtain ⟨g1, g2, g3⟩ := hrg rfl
  clear hrg
  have Hsp2 := hd (Hsp.out.trans (if_neg (by simp))); clear Hsp
  cases ends
  rotate_left
  · clear g1 g2 g3 hlm
    go_wp2_with fail
    exact bodyPost_ret (v := .tuple #[.agg #[.string (sOf T), .int .i64 0], .int .i64 n, .int .i64 0]) (by simp [results, Tryd.results204, go_sem, hc1, hl1]) rfl (GivesRd.mk (by rw [Hsp2.out]; simp) (by go_grown))
  have Hsp3 := hd (Hsp2.out.trans (if_neg (by simp))); clear Hsp2
  obtain ⟨k, rfl⟩ := Int.eq_ofNat_of_zero_le (show 0 ≤ n by omega)
  rw [Int.toNat_natCast] at Hsp3
  by_cases hk : (l.length : Int) ≤ k
  · clear g1 g2 g3 hlm
    go_wp2_with fail
    exact bodyPost_ret (v := .tuple #[.agg #[.string ⟨#[]⟩, .int .i64 0], .int .i64 0, .int .i64 2]) (by simp [results, Tryd.results204, go_sem, hc1, hl1]) rfl (GivesRd.mk (by rw [Hsp3.out, if_pos hk]) (by go_grown))
  have hkl : k < l.length := by omega
  have Hsp4 := hd (Hsp3.out.trans (if_neg hk)); clear Hsp3
  have hx0 : (0 : Int) ≤ (bN l k : Int) := by omega
  have hx1 : (bN l k : Int) ≤ 255 := by have := bN_lt l k; omega
  obtain ⟨bb, oo, rfl, hcell⟩ : ∃ bb oo, a = some ⟨bb, oo, none⟩ ∧ w1.cell? ⟨bb, oo + k, none⟩ = some (.int .u8 (bN l k)) := by
    rcases hv1.split with ⟨hn, _⟩ | ⟨_, b, o, c, hv, _, _, _, hcell⟩
    · rw [hn] at hkl; simp at hkl
    · simp only [Value.slice.injEq] at hv; exact ⟨b, o, hv.1, hcell k hkl⟩
  have hgt : (2 < bN l k) ↔ ((2 : Int) < (bN l k : Int)) := by omega
  clear hv1 g1 g2 g3 hk
  generalize hx : (bN l k : Int) = x at *
  have Hx := hd hx; clear hx
  by_cases h2 : 2 < x
  · have Hsp5 := hd (Hsp4.out.trans (if_pos (hgt.2 h2))); clear Hsp4 hgt
    go_wp2_with fail
    exact bodyPost_ret (v := .tuple #[.agg #[.string ⟨#[]⟩, .int .i64 0], .int .i64 0, .int .i64 5]) (by simp [results, Tryd.results204, go_sem, hc1, hl1]) rfl (GivesRd.mk Hsp5.out (by go_grown))
  · have Hsp5 := hd (Hsp4.out.trans (if_neg (fun h => h2 (hgt.1 h)))); clear Hsp4 hgt
    go_wp2_with fail
    exact bodyPost_ret (v := .tuple #[.agg #[.string (sOf T), .int .i64 x], .int .i64 (k + 1), .int .i64 0]) (by simp [results, Tryd.results204, go_sem, hc1, hl1]) rfl (GivesRd.mk Hsp5.out (by go_grown))
end Go.Proofs.YtclicjokgfiegaaDoor

/- Wishes: what bytes tell, by the reference: the walk of its Of. -/
namespace Go.Proofs.YtclicjokgfiegaaDoor
open Go.RowKit
set_option linter.unusedVariables false
set_option linter.unusedSimpArgs false

/-- filters one behind another: those that came, the error -/
def sbAll (ends : Bool) (l : List UInt8) : Nat → List Wish → Int → List Wish × Int
  | 0, a, _ => (a, 0)
  | n + 1, a, at' =>
    if (l.length : Int) ≤ at' then (a, 0) else if 8 ≤ a.length then ([], 6)
    else if (sbRead l at' ends).2.2 ≠ 0 then ([], (sbRead l at' ends).2.2) else sbAll ends l n (a ++ [(sbRead l at' ends).1]) (sbRead l at' ends).2.1
def sbOf (l : List UInt8) (ends : Bool) : Int × List Wish × Int :=
  if (sbBegin l).2 ≠ 0 then (0, [], (sbBegin l).2)
  else if (sbAll ends l 9 [] 2).2 ≠ 0 then (0, [], (sbAll ends l 9 [] 2).2)
  else if (sbAll ends l 9 [] 2).1 = [] then (0, [], 4) else ((sbBegin l).1, (sbAll ends l 9 [] 2).1, 0)
theorem sbAll_end {ends : Bool} {l : List UInt8} {a : List Wish} {at' : Int} (ha : a.length ≤ 8) (h : (l.length : Int) ≤ at') : sbAll ends l (9 - a.length) a at' = (a, 0) := by
  obtain ⟨n, hn⟩ : ∃ n, 9 - a.length = n + 1 := ⟨8 - a.length, by omega⟩
  rw [hn, sbAll, if_pos h]
theorem sbAll_full {ends : Bool} {l : List UInt8} {a : List Wish} {at' : Int} (ha : a.length = 8) (h : at' < (l.length : Int)) : sbAll ends l (9 - a.length) a at' = ([], 6) := by
  rw [ha, show 9 - 8 = 0 + 1 from rfl, sbAll, if_neg (by omega), if_pos (by omega)]
theorem sbAll_bad {ends : Bool} {l : List UInt8} {a : List Wish} {at' : Int} (ha : a.length < 8) (h : at' < (l.length : Int)) (he : (sbRead l at' ends).2.2 ≠ 0) : sbAll ends l (9 - a.length) a at' = ([], (sbRead l at' ends).2.2) := by
  obtain ⟨n, hn⟩ : ∃ n, 9 - a.length = n + 1 := ⟨8 - a.length, by omega⟩
  rw [hn, sbAll, if_neg (by omega), if_neg (by omega), if_pos he]
theorem sbAll_more {ends : Bool} {l : List UInt8} {a : List Wish} {at' : Int} (ha : a.length < 8) (h : at' < (l.length : Int)) (he : (sbRead l at' ends).2.2 = 0) :
    sbAll ends l (9 - a.length) a at' = sbAll ends l (9 - (a ++ [(sbRead l at' ends).1]).length) (a ++ [(sbRead l at' ends).1]) (sbRead l at' ends).2.1 := by
  obtain ⟨n, hn⟩ : ∃ n, 9 - a.length = n + 1 := ⟨8 - a.length, by omega⟩
  have hn2 : 9 - (a ++ [(sbRead l at' ends).1]).length = n := by rw [List.length_append]; simp; omega
  rw [hn2, hn, sbAll, if_neg (by omega), if_neg (by omega), if_neg (by simp [he])]

theorem OwnW.le {B B' : Nat} {w : World} {v : Value} {l : List Wish} (h : OwnW B w v l) (hB : B' ≤ B) : OwnW B' w v l := Owns.le h hB
def GivesW (w : World) (r : Int × List Wish × Int) (e : Ending) (w' : World) : Prop :=
  ∃ v, e = .returned (.tuple #[.int .i64 r.1, v, .int .i64 r.2.2]) ∧ OwnW w.heap.size w' v r.2.1 ∧ Below w.heap.size w w'
theorem GivesW.nil {w w' : World} {r : Int × List Wish × Int} (e : Int) (h : r = (0, [], e)) (hb : Below w.heap.size w w') : GivesW w r (.returned (.tuple #[.int .i64 0, .slice none 0 0, .int .i64 e])) w' := by
  subst h; exact ⟨_, rfl, OwnW.nil _ _, hb⟩

set_option maxRecDepth 100000 in
set_option maxHeartbeats 16000000 in
theorem refSubsOf_c (s : ByteArray) (ends : Bool) (w : World) (hs : s.size ≤ 140737488351232) :
    Calls Tryd.prog 117 #[.string s, .bool ends] w (GivesW w (sbOf (sB s) ends)) := by
  have hsl : Hd ((sB s).length = s.size) := sB_len s
  have hbr := @sbBegin_rng (sB s)
  have hof : sbOf (sB s) ends = sbOf (sB s) ends := rfl
  conv at hof => rhs; rw [sbOf]
  generalize sbOf (sB s) ends = R at hof ⊢
  have HO := hd hof; clear hof
  go_enter Tryd.func117, Tryd.ntmps117
  go_wp2_with fail
  refine (refBegin_c s _ hs).mono ?_
  generalize sbBegin (sB s) = g at hbr HO ⊢
  obtain ⟨id, e⟩ := g
  simp only at hbr HO ⊢
  rintro e' w1 ⟨rfl, hb⟩
  by_cases he : e = 0
  rotate_left
  · have heb : (e != 0) = true := by simpa using he
    go_wp2_with fail
    go_ret3
    exact GivesW.nil e (by rw [HO.out, if_pos he]) hb
  subst he
  have h2l := (hbr rfl).1
  clear hbr
  have HO2 := hd (HO.out.trans (if_neg (by simp))); clear HO
  go_wp2_with fail
  refine upon_bytes (by omega) fun d1 k1 w2 hs2 hb2 => ?_
  have hb12 : Below w.heap.size w w2 := Below.up hb hb2
  have hll : (sB s).length ≤ 140737488351232 := by rw [hsl.out]; exact hs
  clear hb hb2
  generalize sB s = l at *
  have HV := hd hs2; clear hs2 hsl
  have H2 := hd h2l; have HL := hd hll; clear h2l hll hs
  go_wp2_with fail
  go_loopw [10, 11] (fun o n w' => ∃ (k : Nat) (a : List Wish), n = .int .i64 k ∧ 2 ≤ k ∧ k ≤ l.length ∧ OwnW w2.heap.size w' o a ∧ Below w2.heap.size w2 w' ∧ a.length ≤ 8 ∧ sbAll ends l (9 - a.length) a k = sbAll ends l 9 [] 2) (fun o n _ => leftTo l.length n)
  case atStart => exact ⟨2, [], rfl, by omega, by have := H2.out; omega, OwnW.nil _ _, Below.refl _ _, by simp, rfl⟩
  case round =>
    obtain ⟨k, A, rfl, hk2, hk, hO, hB, hA, hF⟩ := hrel
    have hBs := hB.size
    have hbw : Below w.heap.size w wr := Below.up hb12 hB
    have hbs := hbw.size
    obtain ⟨aa, ac, rfl⟩ := hO.ws.slice
    by_cases hkl : k < l.length
    rotate_left
    · have hke : k = l.length := by omega
      subst hke
      rw [sbAll_end hA (by omega)] at hF
      have HO3 := HO2.out; clear HO2
      rw [← hF, if_neg (by simp)] at HO3
      simp only at HO3
      have HO4 := hd HO3; clear HO3
      by_cases hA0 : A = []
      · subst hA0
        go_wp2_with fail
        go_ret3
        exact GivesW.nil 4 (by rw [HO4.out]; simp) hbw
      · have hA0b : ((A.length : Int) == 0) = false := by simpa using hA0
        go_wp2_with fail
        go_ret3
        rw [HO4.out, if_neg hA0]
        exact ⟨_, rfl, hO.le hb12.size, hbw⟩
    by_cases hA8 : A.length = 8
    · rw [sbAll_full hA8 (by omega)] at hF
      have HO3 := HO2.out; clear HO2
      rw [← hF, if_pos (by simp)] at HO3
      have HO4 := hd HO3; clear HO3
      have hA8b : (8 : Int) ≤ (A.length : Int) := by omega
      go_wp2_with fail
      go_ret3
      exact GivesW.nil 6 HO4.out hbw
    have hA7 : A.length < 8 := by omega
    have hvr := HV.out.below' hB (Nat.le_refl _)
    have hrd : sbRead l k ends = sbRead l k ends := rfl
    conv at hrd => rhs; rw [sbRead]
    have hbad := @sbAll_bad ends l A k hA7 (by omega)
    have hmore := @sbAll_more ends l A k hA7 (by omega)
    have hrr := @sbRead_rng l k ends
    generalize sbRead l k ends = r at hrd hbad hmore hrr
    rw [hF] at hbad hmore
    have HRD := hd hrd; have HBAD := hd hbad; have HMORE := hd hmore; have HRR := hd hrr; clear hrd hbad hmore hrr hF
    have hrg := @uGet_rng l (k : Int)
    go_wp2_with fail
    refine (refGet_c _ l k _ hvr).mono ?_
    have hrd := HRD.out; clear HRD
    generalize uGet l (k : Int) = g at hrd hrg ⊢
    obtain ⟨T, n, e⟩ := g
    simp only at hrd hrg ⊢
    have HRD := hd hrd; clear hrd
    rintro e' w3 ⟨rfl, hb3⟩
    have hO3 : OwnW w2.heap.size w3 (.slice aa A.length ac) A := hO.kept hb3 (Nat.le_refl _)
    have hv3 := hvr.below' hb3 (Nat.le_refl _)
    have hB3 : Below w2.heap.size w2 w3 := hB.trans (hb3.mono hBs)
    have hbw3 : Below w.heap.size w w3 := Below.up hbw hb3
    have hbs3 := hbw3.size
    have hBs3 := hB3.size
    have hO4 : ∀ o, OwnW w2.heap.size (w3.alloc o) (.slice aa A.length ac) A := fun o => hO3.kept ((Below.refl w3.heap.size w3).alloc (Nat.le_refl _) _) (Nat.le_refl _)
    have hbs4 : ∀ o, w2.heap.size ≤ (w3.alloc o).heap.size := fun o => by simp; omega
    clear hvr hb3 hO hB hbw
    by_cases he : e = 0
    rotate_left
    · have heb : (e != 0) = true := by simpa using he
      have hr := HRD.out.trans (if_pos he)
      have hq := HBAD.out (by rw [hr]; exact he)
      rw [hr] at hq
      have HO3 := HO2.out; clear HO2
      rw [hq, if_pos he] at HO3
      have HO4 := hd HO3; clear HO3 hq hr hrg
      go_wp2_with fail
      go_ret3
      exact GivesW.nil e HO4.out hbw3
    subst he
    obtain ⟨g1, g2, g3⟩ := hrg rfl
    clear hrg
    have HR2 := hd (HRD.out.trans (if_neg (by simp))); clear HRD
    obtain ⟨m, rfl⟩ := Int.eq_ofNat_of_zero_le (show 0 ≤ n by omega)
    cases ends
    rotate_left
    · have hr : r = ((sOf T, 0), (m : Int), 0) := by rw [HR2.out]; simp
      have hq := HMORE.out (by rw [hr])
      rw [hr] at hq
      simp only at hq
      have HQ := hd hq; clear hq hr HR2
      go_wp2_with (at_builtin; refine wp_appW1 rfl _ _ rfl w2.heap.size _ A rfl (hO4 _) (sOf T) 0 (by rw [World.size_alloc]; rfl) (by omega) (hbs4 _) ?_; intro v4 w4 ho4 hb4)
      go_roundw
      case rel => exact ⟨m, A ++ [(sOf T, 0)], by congr 1, by omega, by omega, ho4, (hB3.alloc hB3.size _).trans hb4, by simp; omega, HQ.out.symm⟩
      case measure => simp [leftTo]; omega
    have HR3 := hd (HR2.out.trans (if_neg (by simp))); clear HR2
    rw [Int.toNat_natCast] at HR3
    by_cases hml : (l.length : Int) ≤ m
    · have hr := HR3.out.trans (if_pos hml)
      have hq := HBAD.out (by rw [hr]; simp)
      rw [hr] at hq
      have HO3 := HO2.out; clear HO2
      rw [hq, if_pos (by simp)] at HO3
      have HO4 := hd HO3; clear HO3 hq hr
      go_wp2_with fail
      go_ret3
      exact GivesW.nil 2 HO4.out (by go_grown)
    have hml2 : m < l.length := by omega
    have HR4 := hd (HR3.out.trans (if_neg hml)); clear HR3
    have hx0 : (0 : Int) ≤ (bN l m : Int) := by omega
    have hx1 : (bN l m : Int) ≤ 255 := by have := bN_lt l m; omega
    obtain ⟨bb, oo, rfl, hbb, hcell⟩ : ∃ bb oo, d1 = some ⟨bb, oo, none⟩ ∧ bb < w3.heap.size ∧ w3.cell? ⟨bb, oo + m, none⟩ = some (.int .u8 (bN l m)) := by
      rcases hv3.split with ⟨hn, _⟩ | ⟨_, b, o, c, hv, _, _, hlt, hcell⟩
      · rw [hn] at hml2; simp at hml2
      · simp only [Value.slice.injEq] at hv; exact ⟨b, o, hv.1, hlt, hcell m hml2⟩
    have hgt : (2 < bN l m) ↔ ((2 : Int) < (bN l m : Int)) := by omega
    have hll := HL.out
    clear hv3 hml
    generalize hx : (bN l m : Int) = x at *
    have Hx := hd hx; clear hx
    by_cases h2 : 2 < x
    · have hr := HR4.out.trans (if_pos (hgt.2 h2))
      have hq := HBAD.out (by rw [hr]; simp)
      rw [hr] at hq
      have HO3 := HO2.out; clear HO2
      rw [hq, if_pos (by simp)] at HO3
      have HO4 := hd HO3; clear HO3 hq hr hgt
      go_wp2_with fail
      go_ret3
      exact GivesW.nil 5 HO4.out (by go_grown)
    · have hr := HR4.out.trans (if_neg (fun h => h2 (hgt.1 h)))
      have hq := HMORE.out (by rw [hr])
      rw [hr] at hq
      simp only at hq
      have HQ := hd hq; clear hq hr HR4 hgt
      go_wp2_with (at_builtin; refine wp_appW1 rfl _ _ rfl w2.heap.size _ A rfl (hO4 _) (sOf T) x (by rw [World.size_alloc]; rfl) (by omega) (hbs4 _) ?_; intro v4 w4 ho4 hb4)
      go_roundw
      case rel => exact ⟨m + 1, A ++ [(sOf T, x)], by congr 1, by omega, by omega, ho4, (hB3.alloc hB3.size _).trans hb4, by simp; omega, HQ.out.symm⟩
      case measure => simp [leftTo]; omega
end Go.Proofs.YtclicjokgfiegaaDoor

/- Packets: plain laws: cleaned, laid, told. No program. -/
namespace Go.Proofs.YtclicjokgfiegaaDoor
open Go.RowKit
set_option linter.unusedVariables false
set_option linter.unusedSimpArgs false

/-- A packet. -/
structure Pac where
  k : Int
  id : Int
  dup : Bool
  tp : ByteArray
  tx : ByteArray
  q : Int
  rt : Bool
  c : Con
  pr : Bool
  code : Int
  fs : List Wish
  cs : List Int
def Pac.zero : Pac := ⟨0, 0, false, ⟨#[]⟩, ⟨#[]⟩, 0, false, Con.zero, false, 0, [], []⟩
def Pac.cells (p : Pac) (vf vc : Value) : List Value :=
  [.int .i64 p.k, .int .i64 p.id, .bool p.dup, .string p.tp, .string p.tx, .int .i64 p.q, .bool p.rt, .int .i64 p.c.level, .bool p.c.clean, .int .i64 p.c.keep, .string p.c.client, .bool p.c.hasWill, .string p.c.topic, .string p.c.text, .int .i64 p.c.qos, .bool p.c.retain, .bool p.c.hasUser, .string p.c.user, .bool p.c.hasPass, .string p.c.pass, .bool p.pr, .int .i64 p.code, vf, vc]
def Pac.sized (p : Pac) (n : Nat) : Prop := p.tp.size ≤ n ∧ p.tx.size ≤ n ∧ p.c.sized n ∧ ∀ f ∈ p.fs, f.1.size ≤ n

def paClean (p : Pac) : Pac :=
  if p.k = 1 then { Pac.zero with k := p.k, c := p.c }
  else if p.k = 2 then { Pac.zero with k := p.k, pr := p.pr, code := p.code }
  else if p.k = 3 then { Pac.zero with k := p.k, tp := p.tp, tx := p.tx, q := p.q, rt := p.rt, dup := p.dup, id := if p.q ≠ 0 then p.id else 0 }
  else if p.k = 4 ∨ p.k = 5 ∨ p.k = 6 ∨ p.k = 7 ∨ p.k = 11 then { Pac.zero with k := p.k, id := p.id }
  else if p.k = 8 then { Pac.zero with k := p.k, id := p.id, fs := p.fs }
  else if p.k = 10 then { Pac.zero with k := p.k, id := p.id, fs := p.fs.map fun f => (f.1, 0) }
  else if p.k = 9 then { Pac.zero with k := p.k, id := p.id, cs := p.cs }
  else { Pac.zero with k := p.k }

/-- flags, bytes, error: of a packet that is clean -/
def paBody (p : Pac) : Int × List UInt8 × Int :=
  if p.k = 1 then (0, cPutB p.c, cPutE p.c)
  else if p.k = 2 then (0, aPutB p.pr p.code, aPutE p.pr p.code)
  else if p.k = 3 then (hPub p.dup p.q p.rt, (if hPub p.dup p.q p.rt < 0 then [] else pPutB (sB p.tp) (sB p.tx) p.q p.id), (if hPub p.dup p.q p.rt < 0 then 10 else pPutE (sB p.tp) (sB p.tx) p.q p.id))
  else if p.k = 4 ∨ p.k = 5 ∨ p.k = 7 ∨ p.k = 11 then (0, pIdB p.id, pIdE p.id)
  else if p.k = 6 then (2, pIdB p.id, pIdE p.id)
  else if p.k = 8 then (2, sbPutB p.id p.fs false, sbPutE p.id p.fs false)
  else if p.k = 10 then (2, sbPutB p.id p.fs true, sbPutE p.id p.fs true)
  else if p.k = 9 then (0, sbAckB p.id p.cs, sbAckE p.id p.cs)
  else if p.k = 12 ∨ p.k = 13 ∨ p.k = 14 then (0, [], 0)
  else (0, [], 11)
def paPutE (p : Pac) : Int := if (paBody (paClean p)).2.2 ≠ 0 then (paBody (paClean p)).2.2 else hPutE p.k (paBody (paClean p)).1 (paBody (paClean p)).2.1.length
def paPutB (p : Pac) : List UInt8 := if paPutE p = 0 then hPutB p.k (paBody (paClean p)).1 (paBody (paClean p)).2.1.length ++ (paBody (paClean p)).2.1 else []

/-- the packet of flags and bytes, and the error -/
def paTold (k f : Int) (b : List UInt8) : Pac × Int :=
  if k = 1 then ({ Pac.zero with k := k, c := (cOf b).1 }, (cOf b).2)
  else if k = 2 then ({ Pac.zero with k := k, pr := (aOf b).1, code := (aOf b).2.1 }, (aOf b).2.2)
  else if k = 3 then ({ Pac.zero with k := k, tp := sOf (pOf b (hQos f)).1, tx := sOf (pOf b (hQos f)).2.1, q := pOfQ b (hQos f), rt := hRet f, dup := hDup f, id := (pOf b (hQos f)).2.2.1 }, (pOf b (hQos f)).2.2.2)
  else if k = 4 ∨ k = 5 ∨ k = 6 ∨ k = 7 ∨ k = 11 then ({ Pac.zero with k := k, id := (pOfId b).1 }, (pOfId b).2)
  else if k = 8 then ({ Pac.zero with k := k, id := (sbOf b false).1, fs := (sbOf b false).2.1 }, (sbOf b false).2.2)
  else if k = 10 then ({ Pac.zero with k := k, id := (sbOf b true).1, fs := (sbOf b true).2.1 }, (sbOf b true).2.2)
  else if k = 9 then ({ Pac.zero with k := k, id := (sbOfAck b).1, cs := (sbOfAck b).2.1 }, (sbOfAck b).2.2)
  else ({ Pac.zero with k := k }, if b.isEmpty then 0 else 4)
def paOf (k f n : Int) (b : List UInt8) : Pac × Int :=
  if hRight k f ≠ 0 then (Pac.zero, hRight k f)
  else if n ≠ b.length then (Pac.zero, 4)
  else if (paTold k f b).2 ≠ 0 then (Pac.zero, (paTold k f b).2)
  else ((paTold k f b).1, 0)
end Go.Proofs.YtclicjokgfiegaaDoor

/- Answers to wishes: what bytes tell: the walks of the program and of the reference (printed by wip/gen/suback2.py). -/
namespace Go.Proofs.YtclicjokgfiegaaDoor
open Go.RowKit
set_option linter.unusedVariables false
set_option linter.unusedSimpArgs false

/-- A number, numbers of one's own, an error. -/
def GivesI (w : World) (r : Int × List Int × Int) (e : Ending) (w' : World) : Prop :=
  ∃ v, e = .returned (.tuple #[.int .i64 r.1, v, .int .i64 r.2.2]) ∧ OwnI w.heap.size w' v r.2.1 ∧ Below w.heap.size w w'
theorem GivesI.nil {w w' : World} {r : Int × List Int × Int} (e : Int) (h : r = (0, [], e)) (hb : Below w.heap.size w w') : GivesI w r (.returned (.tuple #[.int .i64 0, .slice none 0 0, .int .i64 e])) w' := by
  subst h; exact ⟨_, rfl, OwnI.nil _ _, hb⟩
theorem sbCodes_at (a : List Int) {l : List UInt8} {k : Nat} (hk : k < l.length) :
    sbCodes a (l.drop k) = if sbCoded (bN l k : Int) = false then ([], 5) else sbCodes (a ++ [(bN l k : Int)]) (l.drop (k + 1)) := by
  have hb : (l[k]).toNat = bN l k := by unfold bN; rw [List.getD_eq_getElem?_getD, List.getElem?_eq_getElem hk]; rfl
  rw [List.drop_eq_getElem_cons hk, ← hb]
  rfl

set_option maxRecDepth 100000 in
set_option maxHeartbeats 8000000 in
theorem subOfAck_c (s : ByteArray) (w : World) (hs : s.size ≤ 140737488351232) :
    Calls Tryd.prog 153 #[.string s] w (GivesI w (sbOfAck (sB s))) := by
  have hsl : Hd ((sB s).length = s.size) := sB_len s
  have hbr := @sbBegin_rng (sB s)
  have hof : sbOfAck (sB s) = if (sbBegin (sB s)).2 ≠ 0 then (0, [], (sbBegin (sB s)).2) else if sbMany ((s.size : Int) - 2) ≠ 0 then (0, [], sbMany ((s.size : Int) - 2)) else if (sbCodes [] ((sB s).drop 2)).2 ≠ 0 then (0, [], (sbCodes [] ((sB s).drop 2)).2) else ((sbBegin (sB s)).1, (sbCodes [] ((sB s).drop 2)).1, 0) := by
    rw [sbOfAck, hsl.out]
  generalize sbOfAck (sB s) = R at hof ⊢
  have HO := hd hof; clear hof
  go_enter Tryd.func153, Tryd.ntmps153
  go_wp2_with fail
  refine (subBegin_c s _ hs).mono ?_
  generalize sbBegin (sB s) = g at hbr HO ⊢
  obtain ⟨id, e⟩ := g
  simp only at hbr HO ⊢
  rintro e' w1 ⟨rfl, hb⟩
  by_cases he : e = 0
  rotate_left
  · have heb : (e != 0) = true := by simpa using he
    go_wp2_with fail
    go_ret3
    exact GivesI.nil e (by rw [HO.out, if_pos he]) hb
  subst he
  have h2l := (hbr rfl).1
  rw [hsl.out] at h2l
  clear hbr
  go_wp2_with fail
  refine (many_c _ _).mono ?_
  by_cases h2 : sbMany ((s.size : Int) - 2) = 0
  rotate_left
  · have heb : (sbMany ((s.size : Int) - 2) != 0) = true := by simpa using h2
    rintro e w2 ⟨rfl, rfl⟩
    go_wp2_with fail
    go_ret3
    exact GivesI.nil _ (by rw [HO.out, if_neg (by simp), if_pos h2]) hb
  rw [h2]
  rintro e w2 ⟨rfl, rfl⟩
  have hl8 : 3 ≤ s.size ∧ s.size ≤ 10 := by
    unfold sbMany at h2
    split at h2
    · simp at h2
    · split at h2
      · simp at h2
      · omega
  have hm := h2
  have hR : R = if (sbCodes [] ((sB s).drop 2)).2 ≠ 0 then (0, [], (sbCodes [] ((sB s).drop 2)).2) else (id, (sbCodes [] ((sB s).drop 2)).1, 0) := by
    rw [HO.out, if_neg (by simp), if_neg (by simp [hm])]
  clear HO hm h2
  have HR := hd hR; clear hR
  go_wp2_with fail
  go_loopw [8, 9] (fun o n w' => ∃ (k : Nat) (a : List Int), n = .int .i64 k ∧ 2 ≤ k ∧ k ≤ s.size ∧ OwnI w.heap.size w' o a ∧ Below w.heap.size w w' ∧ a.length ≤ k ∧ sbCodes a ((sB s).drop k) = sbCodes [] ((sB s).drop 2)) (fun o n _ => leftTo s.size n)
  case atStart => exact ⟨2, [], rfl, by omega, by omega, OwnI.nil _ _, hb, by simp, rfl⟩
  case round =>
    obtain ⟨k, A, rfl, hk2, hk, hO, hB, hA, hF⟩ := hrel
    by_cases hkl : k < s.size
    · have hBs := hB.size
      have hst := sbCodes_at A (l := sB s) (k := k) (by rw [hsl.out]; exact hkl)
      have hat := run_at s (k : Int) k rfl hkl
      have hx0 : (0 : Int) ≤ (bN (sB s) k : Int) := by omega
      have hx1 : (bN (sB s) k : Int) ≤ 255 := by have := bN_lt (sB s) k; omega
      generalize (bN (sB s) k : Int) = x at *
      go_wp2_with fail
      refine (coded_c x _).mono ?_
      by_cases hcd : sbCoded x = false
      · rw [hcd]
        rintro e' w3 ⟨rfl, rfl⟩
        rw [if_pos hcd, hF] at hst
        go_wp2_with fail
        go_ret3
        exact GivesI.nil 5 (by rw [HR.out, hst]; rfl) (by go_grown)
      have hct : sbCoded x = true := by simpa using hcd
      rw [hct]
      rintro e' w3 ⟨rfl, rfl⟩
      rw [if_neg hcd, hF] at hst
      go_wp2_with (at_builtin; refine wp_appI1 rfl _ _ rfl w.heap.size _ A rfl hO x rfl (by omega) hBs ?_; intro v4 w4 ho4 hb4)
      go_roundw
      case rel => exact ⟨k + 1, A ++ [x], by congr 1, by omega, by omega, ho4, hB.trans hb4, by simp; omega, hst.symm⟩
      case measure => simp [leftTo]; omega
    · have hke : k = s.size := by omega
      subst hke
      rw [List.drop_of_length_le (by rw [hsl.out]; omega)] at hF
      have hF' : sbCodes [] ((sB s).drop 2) = (A, 0) := hF.symm
      rw [hF', if_neg (by simp)] at HR
      clear hF hF'
      go_wp2_with fail
      go_ret3
      rw [HR.out]
      exact ⟨_, rfl, hO, by go_grown⟩

set_option maxRecDepth 100000 in
set_option maxHeartbeats 8000000 in
theorem refOfAck15_c (s : ByteArray) (w : World) (hs : s.size ≤ 140737488351232) :
    Calls Tryd.prog 118 #[.string s] w (GivesI w (sbOfAck (sB s))) := by
  have hsl : Hd ((sB s).length = s.size) := sB_len s
  have hbr := @sbBegin_rng (sB s)
  have hof : sbOfAck (sB s) = if (sbBegin (sB s)).2 ≠ 0 then (0, [], (sbBegin (sB s)).2) else if sbMany ((s.size : Int) - 2) ≠ 0 then (0, [], sbMany ((s.size : Int) - 2)) else if (sbCodes [] ((sB s).drop 2)).2 ≠ 0 then (0, [], (sbCodes [] ((sB s).drop 2)).2) else ((sbBegin (sB s)).1, (sbCodes [] ((sB s).drop 2)).1, 0) := by
    rw [sbOfAck, hsl.out]
  generalize sbOfAck (sB s) = R at hof ⊢
  have HO := hd hof; clear hof
  go_enter Tryd.func118, Tryd.ntmps118
  go_wp2_with fail
  refine (refBegin_c s _ hs).mono ?_
  generalize sbBegin (sB s) = g at hbr HO ⊢
  obtain ⟨id, e⟩ := g
  simp only at hbr HO ⊢
  rintro e' w1 ⟨rfl, hb⟩
  by_cases he : e = 0
  rotate_left
  · have heb : (e != 0) = true := by simpa using he
    go_wp2_with fail
    go_ret3
    exact GivesI.nil e (by rw [HO.out, if_pos he]) hb
  subst he
  have h2l := (hbr rfl).1
  rw [hsl.out] at h2l
  clear hbr
  by_cases h2 : s.size = 2
  · have h2b : ((s.size : Int) == 2) = true := by simp; omega
    go_wp2_with fail
    go_ret3
    have hm : sbMany ((s.size : Int) - 2) = 4 := by unfold sbMany; rw [if_pos (by omega)]
    exact GivesI.nil 4 (by rw [HO.out, if_neg (by simp), hm]; rfl) hb
  have h2b : ((s.size : Int) == 2) = false := by simp; omega
  by_cases h3 : 8 < (s.size : Int) - 2
  · go_wp2_with fail
    go_ret3
    have hm : sbMany ((s.size : Int) - 2) = 6 := by unfold sbMany; rw [if_neg (by omega), if_pos (by omega)]
    exact GivesI.nil 6 (by rw [HO.out, if_neg (by simp), hm]; rfl) hb
  have hl8 : 3 ≤ s.size ∧ s.size ≤ 10 := by omega
  have hm : sbMany ((s.size : Int) - 2) = 0 := by unfold sbMany; rw [if_neg (by omega), if_neg (by omega)]
  have hR : R = if (sbCodes [] ((sB s).drop 2)).2 ≠ 0 then (0, [], (sbCodes [] ((sB s).drop 2)).2) else (id, (sbCodes [] ((sB s).drop 2)).1, 0) := by
    rw [HO.out, if_neg (by simp), if_neg (by simp [hm])]
  clear HO hm h2
  have HR := hd hR; clear hR
  go_wp2_with fail
  go_loopw [7, 8] (fun o n w' => ∃ (k : Nat) (a : List Int), n = .int .i64 k ∧ 2 ≤ k ∧ k ≤ s.size ∧ OwnI w.heap.size w' o a ∧ Below w.heap.size w w' ∧ a.length ≤ k ∧ sbCodes a ((sB s).drop k) = sbCodes [] ((sB s).drop 2)) (fun o n _ => leftTo s.size n)
  case atStart => exact ⟨2, [], rfl, by omega, by omega, OwnI.nil _ _, hb, by simp, rfl⟩
  case round =>
    obtain ⟨k, A, rfl, hk2, hk, hO, hB, hA, hF⟩ := hrel
    by_cases hkl : k < s.size
    · have hBs := hB.size
      have hst := sbCodes_at A (l := sB s) (k := k) (by rw [hsl.out]; exact hkl)
      have hat := run_at s (k : Int) k rfl hkl
      have hx0 : (0 : Int) ≤ (bN (sB s) k : Int) := by omega
      have hx1 : (bN (sB s) k : Int) ≤ 255 := by have := bN_lt (sB s) k; omega
      generalize (bN (sB s) k : Int) = x at *
      go_wp2_with fail
      refine (refCoded_c x _).mono ?_
      by_cases hcd : sbCoded x = false
      · rw [hcd]
        rintro e' w3 ⟨rfl, rfl⟩
        rw [if_pos hcd, hF] at hst
        go_wp2_with fail
        go_ret3
        exact GivesI.nil 5 (by rw [HR.out, hst]; rfl) (by go_grown)
      have hct : sbCoded x = true := by simpa using hcd
      rw [hct]
      rintro e' w3 ⟨rfl, rfl⟩
      rw [if_neg hcd, hF] at hst
      go_wp2_with (at_builtin; refine wp_appI1 rfl _ _ rfl w.heap.size _ A rfl hO x rfl (by omega) hBs ?_; intro v4 w4 ho4 hb4)
      go_roundw
      case rel => exact ⟨k + 1, A ++ [x], by congr 1, by omega, by omega, ho4, hB.trans hb4, by simp; omega, hst.symm⟩
      case measure => simp [leftTo]; omega
    · have hke : k = s.size := by omega
      subst hke
      rw [List.drop_of_length_le (by rw [hsl.out]; omega)] at hF
      have hF' : sbCodes [] ((sB s).drop 2) = (A, 0) := hF.symm
      rw [hF', if_neg (by simp)] at HR
      clear hF hF'
      go_wp2_with fail
      go_ret3
      rw [HR.out]
      exact ⟨_, rfl, hO, by go_grown⟩

theorem take_more {a b : List Int} {k : Nat} {x : Int} (h : a.take k = b.take k) (ha : a[k]? = some x) (hb : b[k]? = some x) : a.take (k + 1) = b.take (k + 1) := by
  rw [List.take_add_one, List.take_add_one, h, ha, hb]

end Go.Proofs.YtclicjokgfiegaaDoor

/- Packets: what lies in memory; rows cloned. -/
namespace Go.Proofs.YtclicjokgfiegaaDoor
open Go.RowKit
set_option linter.unusedVariables false
set_option linter.unusedSimpArgs false

/-- These cells lie in a block, from its start. -/
def At (w : World) (b : Nat) (l : List Value) : Prop := b < w.heap.size ∧ ∀ j u, l[j]? = some u → w.cell? ⟨b, j, none⟩ = some u
theorem At.lt {w : World} {b : Nat} {l : List Value} (h : At w b l) : b < w.heap.size := h.1
theorem At.at {w : World} {b : Nat} {l : List Value} (h : At w b l) (j : Nat) {u : Value} (hj : l[j]? = some u) : w.cell? ⟨b, j, none⟩ = some u := h.2 j u hj
theorem At.new (w : World) (t : TypeId) (l : List Value) : At (w.alloc (.cells l.toArray t)) w.heap.size l :=
  ⟨by simp, fun j u hu => by rw [World.cell?_alloc_new]; simpa using hu⟩
theorem At.keep {B : Nat} {w w' : World} {b : Nat} {l : List Value} (h : At w b l) (hb : Below B w w') (hB : b < B) : At w' b l :=
  ⟨Nat.lt_of_lt_of_le h.1 hb.size, fun j u hu => (bcell hb _ _ hB).trans (h.2 j u hu)⟩
theorem At.keeps {S : List Nat} {w w' : World} {b : Nat} {l : List Value} (h : At w b l) (hk : Keeps S w w') (hn : b ∉ S) : At w' b l :=
  ⟨Nat.lt_of_lt_of_le h.1 hk.size, fun j u hu => (hk.cell h.1 hn).trans (h.2 j u hu)⟩
theorem At.set {w : World} {b : Nat} {l : List Value} (h : At w b l) (i : Nat) (v : Value) (hi : i < l.length) : At (w.setCell ⟨b, i, none⟩ v) b (l.set i v) := by
  refine ⟨by simpa [go_sem] using h.1, fun j u hu => ?_⟩
  have hx := h.2 i _ (List.getElem?_eq_getElem hi)
  rw [List.getElem?_set] at hu
  by_cases e : i = j
  · subst e
    rw [if_pos rfl, if_pos hi] at hu
    obtain rfl := Option.some.inj hu
    simp [go_sem, hx]
  · rw [if_neg e] at hu
    have := h.2 j u hu
    have hne : j ≠ i := fun h => e h.symm
    simp [go_sem, this, hne]
theorem At.other {w : World} {b : Nat} {l : List Value} (h : At w b l) (c i : Nat) (v : Value) (hc : b ≠ c) : At (w.setCell ⟨c, i, none⟩ v) b l := by
  refine ⟨by simpa [go_sem] using h.1, fun j u hu => ?_⟩
  have := h.2 j u hu
  simp [go_sem, this, hc]
theorem At.drew {w : World} {b : Nat} {l : List Value} (h : At w b l) : At w.drew b l := ⟨h.1, fun j u hu => by have := h.2 j u hu; simpa [go_sem] using this⟩
theorem Free.drew {w : World} {b : Nat} (h : Free w b) : Free w.drew b := fun o => by have := h o; simpa [go_sem] using this
theorem Free.new (w : World) (t : TypeId) (l : List Value) : Free (w.alloc (.cells l.toArray t)) w.heap.size := fun o => by simp [go_sem]
theorem Free.keep {B : Nat} {w w' : World} {b : Nat} (h : Free w b) (hb : Below B w w') (hB : b < B) : Free w' b := fun o => (bfree hb _ _ hB).trans (h o)

theorem Owns.set {w : World} {B e size n : Nat} {v : Value} {xs : List Value} (h : w.ownsRow B e size v n xs) {p : Addr} (hp : p.block < B) (u : Value) : (w.setCell p u).ownsRow B e size v n xs := by
  refine ⟨h.1, ?_⟩
  rcases h.2 with h0 | ⟨g, cap, cur, rfl, h1, h2, h3⟩
  · exact .inl h0
  · exact .inr ⟨g, cap, cur, rfl, h1, by rw [Below.heap_setCell _ _ _ _ (by omega)]; exact h2, h3⟩
theorem Owns.keeps {S : List Nat} {w w' : World} {B e size n : Nat} {v : Value} {xs : List Value} (h : w.ownsRow B e size v n xs) (hk : Keeps S w w') (hS : ∀ k, k ∈ S → k < B) : w'.ownsRow B e size v n xs := by
  refine ⟨h.1, ?_⟩
  rcases h.2 with h0 | ⟨g, cap, cur, rfl, h1, h2, h3⟩
  · exact .inl h0
  · exact .inr ⟨g, cap, cur, rfl, h1, by rw [hk.block g (Array.getElem?_eq_some_iff.1 h2).1 (fun hm => by have := hS g hm; omega)]; exact h2, h3⟩

theorem isW_cells : ∀ l : List Wish, ∀ u ∈ wCells l, u.oneCell' = true
  | [], u, h => by simp [wCells] at h
  | f :: r, u, h => by
    simp only [wCells, Wish.cells, List.mem_append, List.mem_cons, List.not_mem_nil, or_false] at h
    rcases h with (rfl | rfl) | h
    · rfl
    · rfl
    · exact isW_cells r u h
set_option maxRecDepth 100000 in
set_option maxHeartbeats 1000000 in
theorem cloneW_c (v : Value) (l : List Wish) (w : World) (hv : Ws w v l) (hl : l.length * 24 ≤ 140737488351232) :
    Calls Tryd.prog 36 #[v] w fun e w' => ∃ v', e = .returned v' ∧ OwnW w.heap.size w' v' l ∧ Below w.heap.size w w' := by
  have hv0 := hv
  obtain ⟨a, c, rfl, h1, h2, h3, h4⟩ := hv
  have HV := hd hv0
  clear hv0
  cases a with
  | none =>
    obtain ⟨e1, e2, e3⟩ := h3 rfl
    have : l = [] := List.eq_nil_of_length_eq_zero e1
    subst this e2
    clear h1 h2 h3 h4 e1 e3
    rw [List.length_nil]
    have hnil : ∀ W, (binOp .eql 26 (.slice none 0 0) (.slice none 0 0)).run Tryd.prog W = .ok (.bool true) W := fun W => Lib.run_eql_slice_nil_nil W _ _ Tryd.underlying26
    go_enter Tryd.func36, Tryd.ntmps36
    go_wp2_with fail
    go_ret
    exact ⟨_, rfl, OwnW.nil _ _, Below.refl _ _⟩
  | some ad =>
    clear h3 h4
    obtain ⟨i0, hi, hz0, hz1, hz2⟩ := info_parts info_filter
    have hempty := owns_lit w.heap.size 58 w 2 0 [] w.heap.size rfl (Nat.le_refl _) (by unfold maxLen; simp) rfl
    have hal : Below w.heap.size w (w.alloc (.cells #[] 58)) := (Below.refl _ _).alloc (Nat.le_refl _) _
    have hlen : l.length ≤ maxLen := by unfold maxLen; omega
    have HE := hd hempty
    clear hempty
    have hnil : ∀ W, (binOp .eql 26 (.slice (some ad) l.length c) (.slice none 0 0)).run Tryd.prog W = .ok (.bool false) W := fun W => Lib.run_eql_slice_some_nil W _ _ _ Tryd.underlying26
    go_enter Tryd.func36, Tryd.ntmps36
    go_wp2_with (at_builtin; refine wp_app rfl _ _ 26 rfl w.heap.size 58 i0 (.agg #[.string ⟨#[]⟩, .int .i64 0]) 2 24 Tryd.underlying26 hi hz0 hz1 hz2 rfl (by decide) _ 0 [] rfl HE.out _ l.length (wCells l) rfl (Rd.below' HV.out hal (Nat.le_refl _)) (by rw [wCells_len]) (isW_cells l) (by omega) (by omega) (by simp [go_sem]) ?_; intro v4 w4 ho4 hb4 hn4)
    go_ret
    refine ⟨_, rfl, ?_, hal.trans hb4⟩
    unfold OwnW
    simpa using ho4

set_option maxRecDepth 100000 in
set_option maxHeartbeats 1000000 in
theorem cloneI_c (v : Value) (l : List Int) (w : World) (hv : Is w v l) (hl : l.length * 8 ≤ 140737488351232) :
    Calls Tryd.prog 38 #[v] w fun e w' => ∃ v', e = .returned v' ∧ OwnI w.heap.size w' v' l ∧ Below w.heap.size w w' := by
  have hv0 := hv
  obtain ⟨a, c, rfl, h1, h2, h3, h4⟩ := hv
  have HV := hd hv0
  clear hv0
  cases a with
  | none =>
    obtain ⟨e1, e2, e3⟩ := h3 rfl
    have : l = [] := List.eq_nil_of_length_eq_zero e1
    subst this e2
    clear h1 h2 h3 h4 e1 e3
    rw [List.length_nil]
    have hnil : ∀ W, (binOp .eql 27 (.slice none 0 0) (.slice none 0 0)).run Tryd.prog W = .ok (.bool true) W := fun W => Lib.run_eql_slice_nil_nil W _ _ Tryd.underlying27
    go_enter Tryd.func38, Tryd.ntmps38
    go_wp2_with fail
    go_ret
    exact ⟨_, rfl, OwnI.nil _ _, Below.refl _ _⟩
  | some ad =>
    clear h3 h4
    obtain ⟨i0, hi, hz0, hz1, hz2⟩ := info_parts info_i64
    have hempty := owns_lit w.heap.size 3 w 1 0 [] w.heap.size rfl (Nat.le_refl _) (by unfold maxLen; simp) rfl
    have hal : Below w.heap.size w (w.alloc (.cells #[] 3)) := (Below.refl _ _).alloc (Nat.le_refl _) _
    have hlen : l.length ≤ maxLen := by unfold maxLen; omega
    have HE := hd hempty
    clear hempty
    have hnil : ∀ W, (binOp .eql 27 (.slice (some ad) l.length c) (.slice none 0 0)).run Tryd.prog W = .ok (.bool false) W := fun W => Lib.run_eql_slice_some_nil W _ _ _ Tryd.underlying27
    go_enter Tryd.func38, Tryd.ntmps38
    go_wp2_with (at_builtin; refine wp_app rfl _ _ 27 rfl w.heap.size 3 i0 (.int .i64 0) 1 8 Tryd.underlying27 hi hz0 hz1 hz2 rfl (by decide) _ 0 [] rfl HE.out _ l.length (l.map iV) rfl (Rd.below' HV.out hal (Nat.le_refl _)) (by simp) (by intro u hu; obtain ⟨x, _, rfl⟩ := List.mem_map.1 hu; rfl) (by omega) (by omega) (by simp [go_sem]) ?_; intro v4 w4 ho4 hb4 hn4)
    go_ret
    refine ⟨_, rfl, ?_, hal.trans hb4⟩
    unfold OwnI
    simpa using ho4

/-- append(out, f) of one wish, to a row of whatever length: the walk has laid a block of its cells for it. -/
theorem wpo_appW1L {w : World} {o : Oper} {a : Act} {K : Act → World → Prop} {Q : Exit → Act → World → Prop} (s x : Operand)
    (ho : o.op = .call { callee := .builtin .append, args := #[s, x], argTypes := #[26, 26] })
    (B : Nat) (v : Value) (l : List Wish) (hv : a.eval s = v) (hown : OwnW B w v l) (T : ByteArray) (X : Int) (g : Nat) (hx : a.eval x = .slice (some ⟨g, 0, none⟩) 1 1) (hg : g = w.heap.size)
    (hlen : (l.length + 1) * 24 ≤ 140737488355328) (hbase : B ≤ w.heap.size)
    (h : ∀ v' w', OwnW B w' v' (l ++ [(T, X)]) → Below B w w' → K (a.put o.dst v') w') : Oper.wp Tryd.prog o a (w.alloc (.cells #[.string T, .int .i64 X] 58)) K Q := by
  subst hg
  obtain ⟨i0, hi, hz0, hz1, hz2⟩ := info_parts info_filter
  have hb : Below B w (w.alloc (.cells #[.string T, .int .i64 X] 58)) := (Below.refl B w).alloc hbase _
  have hb' : Below w.heap.size w (w.alloc (.cells #[.string T, .int .i64 X] 58)) := (Below.refl _ w).alloc (Nat.le_refl _) _
  have hone : Rd (w.alloc (.cells #[.string T, .int .i64 X] 58)) (.slice (some ⟨w.heap.size, 0, none⟩) 1 1) 1 [.string T, .int .i64 X] :=
    Owns.rd (owns_lit w.heap.size 58 w 2 1 [.string T, .int .i64 X] w.heap.size rfl (Nat.le_refl _) (by unfold maxLen; simp) rfl)
  obtain ⟨v', w', hr, h2, h3, h4⟩ := run_app (P := Tryd.prog) (w.alloc (.cells #[.string T, .int .i64 X] 58)) B 26 o.type 58 i0 (.agg #[.string ⟨#[]⟩, .int .i64 0]) 2 24 Tryd.underlying26 hi hz0 hz1 hz2 rfl (by decide) v l.length (wCells l) (hown.kept hb' (Nat.le_refl _)) _ 1 [.string T, .int .i64 X] hone rfl (by intro u hu; simp at hu; rcases hu with rfl | rfl <;> rfl) (by omega) (by unfold maxLen; omega) (by simp; omega)
  unfold Oper.wp execOp
  simp only [ho, resolve, invoke, builtin, Sem.run_bind, Sem.run_pure, Result.andThen_ok, List.map_toArray, List.map_cons, List.map_nil, hv, hx, hr]
  refine h v' w' ?_ (hb.trans h3)
  unfold OwnW
  rw [List.length_append, wCells_append]
  exact h2
theorem wp_appW1L {w : World} {ops : Array Oper} {rest : List Oper} {o : Oper} {a : Act} {Q : Exit → Act → World → Prop} (hgd : o.guard = none) (s x : Operand)
    (ho : o.op = .call { callee := .builtin .append, args := #[s, x], argTypes := #[26, 26] })
    (B : Nat) (v : Value) (l : List Wish) (hv : a.eval s = v) (hown : OwnW B w v l) (T : ByteArray) (X : Int) (g : Nat) (hx : a.eval x = .slice (some ⟨g, 0, none⟩) 1 1) (hg : g = w.heap.size)
    (hlen : (l.length + 1) * 24 ≤ 140737488355328) (hbase : B ≤ w.heap.size)
    (h : ∀ v' w', OwnW B w' v' (l ++ [(T, X)]) → Below B w w' → wpList Tryd.prog ops Q rest (a.put o.dst v') w') : wpList Tryd.prog ops Q (o :: rest) a (w.alloc (.cells #[.string T, .int .i64 X] 58)) :=
  wpList_plain hgd fun _ hK => wpo_appW1L s x ho B v l hv hown T X g hx hg hlen hbase fun v' w' h1 h2 => hK _ _ (h v' w' h1 h2)
set_option maxRecDepth 100000 in
set_option maxHeartbeats 4000000 in
theorem without_c (v : Value) (l : List Wish) (w : World) (hv : Ws w v l) (hl : l.length * 24 ≤ 140737488351232) :
    Calls Tryd.prog 37 #[v] w fun e w' => ∃ v', e = .returned v' ∧ OwnW w.heap.size w' v' (l.map fun f => (f.1, 0)) ∧ Below w.heap.size w w' := by
  have HV := hd hv
  obtain ⟨a, c, rfl, h1, h2, h3, h4⟩ := hv
  clear h3 h4
  obtain ⟨i0, hi, hz0, hz1, hz2⟩ := info_parts info_filter
  have hlen : l.length ≤ maxLen := by unfold maxLen; omega
  have hlm : l.length ≤ 9223372036854775000 := by omega
  go_enter Tryd.func37, Tryd.ntmps37
  go_wp2_with fail
  go_loopw [3, 8] (fun o i w' => ∃ k : Nat, i = .int .i64 k ∧ k ≤ l.length ∧ OwnW w.heap.size w' o ((l.take k).map fun f => (f.1, 0)) ∧ Below w.heap.size w w') (fun _ i _ => match i with | .int _ n => l.length - n.toNat | _ => 0)
  case atStart => exact ⟨0, rfl, by omega, OwnW.nil _ _, Below.refl _ _⟩
  case round =>
    obtain ⟨k, rfl, hk, hO, hB⟩ := hrel
    obtain ⟨oa, oc, rfl⟩ := Owns.slice hO
    by_cases hkl : k < l.length
    · obtain ⟨f, hf⟩ : ∃ f, l[k]? = some f := ⟨_, List.getElem?_eq_getElem hkl⟩
      obtain ⟨T, X⟩ := f
      have hW := HV.out.below' hB (Nat.le_refl _)
      obtain ⟨b, o, rfl, hbl, hc0, hc1⟩ := Ws.at hW hf
      have hfm := hd hf
      have hO' := OwnW.kept hO ((Below.refl _ wr).alloc (Nat.le_refl _) (.cells #[.string T, .int .i64 X] 58)) (Nat.le_refl _)
      have hll : ((l.take k).map fun f => (f.1, (0 : Int)) : List Wish).length = k := by simp; omega
      have hBs := hB.size
      have HO := hd hO'
      have HLL := hd hll
      clear hO' hll hO hW hf
      generalize hgm : ((l.take k).map fun f => (f.1, (0 : Int)) : List Wish) = m at *
      have HGM := hd hgm
      clear hgm
      go_wp2_with (at_builtin; refine wp_appW1L rfl _ _ rfl w.heap.size _ m rfl HO.out T 0 _ rfl (by simp [go_sem]) (by have := HLL.out; omega) (by simp [go_sem]; omega) ?_; intro v4 w4 ho4 hb4)
      go_roundw
      case rel =>
        refine ⟨k + 1, by congr 1, by omega, ?_, (hB.alloc hB.size _).trans hb4⟩
        rw [List.take_add_one, hfm.out, List.map_append, HGM.out]
        exact ho4
      case measure => simp; omega
    · have : k = l.length := by omega
      subst this
      rw [List.take_of_length_le (Nat.le_refl _)] at hO ⊢
      have HO := hd hO
      clear hO
      go_wp2_with fail
      go_ret
      exact ⟨_, rfl, HO.out, hB⟩
end Go.Proofs.YtclicjokgfiegaaDoor
