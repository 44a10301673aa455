/- Wishes: what lays them: the loops of the program and of the reference. -/
import Derived.Test.YtgafhnomkeiakaaDoorSubPut
namespace Go.Proofs.YtgafhnomkeiakaaDoor
open Go.RowKit
set_option linter.unusedVariables false
set_option linter.unusedSimpArgs false

/-- Wishes that a slice reads as. -/
def Ws (w : World) (v : Value) (l : List Wish) : Prop := Rd w v l.length (wCells l)
theorem Ws.slice {w : World} {v : Value} {l : List Wish} (h : Ws w v l) : ∃ a c, v = .slice a l.length c := by
  obtain ⟨a, c, rfl, _⟩ := h; exact ⟨a, c, rfl⟩
theorem Ws.below' {B : Nat} {w w' : World} {v : Value} {l : List Wish} (h : Ws w v l) (hb : Below B w w') (hB : w.heap.size ≤ B) : Ws w' v l := Rd.below' h hb hB
theorem Ws.len {w : World} {v : Value} {l : List Wish} (h : Ws w v l) : l.length ≤ maxLen := Rd.len h
/-- where the k-th lies -/
theorem Ws.at {w : World} {a : Option Addr} {n c : Nat} {l : List Wish} (h : Ws w (.slice a n c) l) {k : Nat} {f : Wish} (hk : l[k]? = some f) :
    ∃ b o, a = some ⟨b, o, none⟩ ∧ b < w.heap.size ∧ w.cell? ⟨b, o + k * 2, none⟩ = some (.string f.1) ∧ w.cell? ⟨b, o + k * 2 + 1, none⟩ = some (.int .i64 f.2) := by
  have hx := wCells_at l k f hk
  have hw := @Rd.split w (.slice a n c) l.length (wCells l) h
  rcases hw with ⟨hn, _⟩ | ⟨_, b, o, c', hv, _, _, hlt, hcell⟩
  · have : l = [] := by
      have := wCells_len l
      rw [hn] at this
      simp at this
      exact List.eq_nil_of_length_eq_zero (by omega)
    subst this
    simp at hk
  · simp only [Value.slice.injEq] at hv
    refine ⟨b, o, hv.1, hlt, hcell _ _ hx.1, ?_⟩
    have := hcell _ _ hx.2
    rwa [← Nat.add_assoc] at this

theorem sbFold_at (ends : Bool) (a : List UInt8) {l : List Wish} {k : Nat} {f : Wish} (hk : l[k]? = some f) :
    sbFold ends a (l.drop k) = if (sbWish ends f).2 ≠ 0 then ([], (sbWish ends f).2) else sbFold ends (a ++ (sbWish ends f).1) (l.drop (k + 1)) := by
  have hlt : k < l.length := (List.getElem?_eq_some_iff.1 hk).1
  have hf : l[k] = f := (List.getElem?_eq_some_iff.1 hk).2
  rw [List.drop_eq_getElem_cons hlt, hf]
  rfl
theorem sbWish_len (ends : Bool) (f : Wish) : (sbWish ends f).1.length ≤ 65538 := by
  have := uPutB_short (sB f.1)
  unfold sbWish
  split
  · simp
  · split
    · simp
    · cases ends <;> simp <;> omega
theorem pIdB_len (id : Int) : (pIdB id).length ≤ 2 := by
  unfold pIdB uPut2B
  repeat' split
  all_goals simp
def leftTo (n : Nat) : Value → Nat
  | .int _ k => ((n : Int) - k).toNat
  | _ => 0
theorem sbPut_bad {id : Int} {l : List Wish} {ends : Bool} {w w' : World} (e : Int) (he : sbPutE id l ends = e) (h0 : e ≠ 0) (hb : Below w.heap.size w w') :
    GivesB w (sbPutB id l ends) (sbPutE id l ends) (.returned (.tuple #[.slice none 0 0, .int .i64 e])) w' := by
  unfold sbPutB
  rw [he, if_neg h0]
  exact GivesB.nil hb

set_option maxRecDepth 100000 in
set_option maxHeartbeats 8000000 in
theorem subsPut_c (id : Int) (v : Value) (l : List Wish) (ends : Bool) (w : World) (hE : EnvU w) (hv : Ws w v l) (hs : ∀ f ∈ l, f.1.size ≤ 140737488351232) :
    Calls Tryd.prog 12 #[.int .i64 id, v, .bool ends] w (GivesB w (sbPutB id l ends) (sbPutE id l ends)) := by
  have HE := hd hE; clear hE
  obtain ⟨a, c, rfl⟩ := hv.slice
  have hmax := hv.len
  unfold maxLen at hmax
  have HV := hd hv; clear hv
  go_enter Tryd.func12, Tryd.ntmps12
  go_wp2_with fail
  refine (subNumbered_c id _).mono ?_
  by_cases h1 : pIdE id = 0
  rotate_left
  · have heb : (pIdE id != 0) = true := by simpa using h1
    rintro e w1 ⟨v1, rfl, ho, hb⟩
    go_wp2_with fail
    go_ret2
    exact sbPut_bad _ (by rw [sbPutE, if_pos h1]) h1 hb
  rw [h1]
  rintro e w1 ⟨v1, rfl, ho, hb⟩
  go_wp2_with fail
  refine (many_c _ _).mono ?_
  by_cases h2 : sbMany l.length = 0
  rotate_left
  · have heb : (sbMany l.length != 0) = true := by simpa using h2
    rintro e w2 ⟨rfl, rfl⟩
    go_wp2_with fail
    go_ret2
    exact sbPut_bad _ (by rw [sbPutE, if_neg (by simp [h1]), if_pos h2]) h2 hb
  rw [h2]
  rintro e w2 ⟨rfl, rfl⟩
  have hl8 : 1 ≤ l.length ∧ l.length ≤ 8 := by
    unfold sbMany at h2
    split at h2
    · simp at h2
    · split at h2
      · simp at h2
      · omega
  have hsp : sbPutE id l ends = if (sbFold ends (pIdB id) l).2 ≠ 0 then (sbFold ends (pIdB id) l).2 else if 4096 < (sbFold ends (pIdB id) l).1.length then 3 else 0 := by
    rw [sbPutE, if_neg (by simp [h1]), if_neg (by simp [h2])]
  have Hsp := hd hsp; clear hsp h1 h2 hmax
  go_wp2_with fail
  go_loopw [8, 31] (fun o n w' => ∃ (k : Nat) (a : List UInt8), n = .int .i64 k ∧ k ≤ l.length ∧ Owned w.heap.size w' o a ∧ Below w.heap.size w w' ∧ a.length ≤ 2 + k * 65538 ∧ sbFold ends a (l.drop k) = sbFold ends (pIdB id) l) (fun o n _ => leftTo l.length n)
  case atStart => exact ⟨0, pIdB id, rfl, by omega, ho, hb, by have := pIdB_len id; omega, rfl⟩
  case round =>
    obtain ⟨k, A, rfl, hk, hO, hB, hA, hF⟩ := hrel
    by_cases hkl : k < l.length
    · obtain ⟨f, hf⟩ : ∃ f, l[k]? = some f := ⟨_, List.getElem?_eq_getElem hkl⟩
      have hBs := hB.size
      obtain ⟨b, o, rfl, hbl, hc0, hc1⟩ := HV.out.at hf
      replace hc0 := (bcell hB _ _ hbl).trans hc0
      replace hc1 := (bcell hB _ _ hbl).trans hc1
      have hfs := hs f (List.mem_of_getElem? hf)
      have hst := sbFold_at ends A hf
      have hwl := sbWish_len ends f
      obtain ⟨s, q⟩ := f
      simp only at hc0 hc1 hfs
      go_wp2_with fail
      refine (wish_c s q ends _ (HE.out.below (by go_grown)) hfs).mono ?_
      generalize sbWish ends (s, q) = r at hst hwl ⊢
      obtain ⟨m, e⟩ := r
      simp only at hst hwl ⊢
      rintro e' w3 ⟨v3, rfl, ho3, hb3⟩
      by_cases he : e = 0
      rotate_left
      · have heb : (e != 0) = true := by simpa using he
        rw [if_pos he, hF] at hst
        go_wp2_with fail
        go_ret2
        exact sbPut_bad e (by rw [Hsp.out, hst]; simp [he]) he (Below.up (by go_grown) hb3)
      subst he
      rw [if_neg (by simp), hF] at hst
      have hbA : Below w.heap.size w w3 := Below.up (by go_grown) hb3
      have hO3 : Owned w.heap.size w3 u8 A := hO.kept (B' := wr.heap.size) (((Below.refl _ _).alloc (Nat.le_refl _) _).trans (hb3.mono (by simp))) (Nat.le_refl _)
      have hbsz := hbA.size
      go_wp2_with (at_builtin; refine wp_appB rfl _ _ rfl w.heap.size _ A rfl hO3 _ m rfl ho3.bs (by omega) hbsz ?_; intro v4 w4 ho4 hb4)
      go_roundw
      case rel => exact ⟨k + 1, A ++ m, by congr 1, by omega, ho4, hbA.trans hb4, by simp; omega, hst.symm⟩
      case measure => simp [leftTo]; omega
    · have hke : k = l.length := by omega
      subst hke
      rw [List.drop_length] at hF
      have hF' : sbFold ends (pIdB id) l = (A, 0) := hF.symm
      obtain ⟨aa, ca, rfl⟩ := hO.bs.slice
      rw [hF'] at Hsp
      by_cases hlong : 4096 < A.length
      · go_wp2_with fail
        go_ret2
        exact sbPut_bad 3 (by rw [Hsp.out]; simp [hlong]) (by decide) (by go_grown)
      · go_wp2_with fail
        go_ret2
        have hz : sbPutE id l ends = 0 := by rw [Hsp.out]; simp [hlong]
        have hBv : sbPutB id l ends = A := by rw [sbPutB, if_pos hz, hF']
        rw [hz, hBv]
        exact ⟨_, rfl, hO, by go_grown⟩

set_option maxRecDepth 100000 in
set_option maxHeartbeats 8000000 in
theorem refSubsPut_c (id : Int) (v : Value) (l : List Wish) (ends : Bool) (w : World) (hv : Ws w v l) (hs : ∀ f ∈ l, f.1.size ≤ 140737488351232) :
    Calls Tryd.prog 13 #[.int .i64 id, v, .bool ends] w (GivesB w (sbPutB id l ends) (sbPutE id l ends)) := by
  obtain ⟨a, c, rfl⟩ := hv.slice
  have hmax := hv.len
  unfold maxLen at hmax
  have hmx : l.length ≤ 9223372036854775807 := by omega
  have HV := hd hv; clear hv hmax
  go_enter Tryd.func13, Tryd.ntmps13
  go_wp2_with fail
  refine (refPutId_c id _).mono ?_
  by_cases h1 : pIdE id = 0
  rotate_left
  · have heb : (pIdE id != 0) = true := by simpa using h1
    rintro e w1 ⟨v1, rfl, ho, hb⟩
    go_wp2_with fail
    go_ret2
    exact sbPut_bad _ (by rw [sbPutE, if_pos h1]) h1 hb
  rw [h1]
  rintro e w1 ⟨v1, rfl, ho, hb⟩
  by_cases h2 : l.length = 0
  · have h2b : ((l.length : Int) == 0) = true := by simpa using h2
    clear hmx
    go_wp2_with fail
    go_ret2
    have hm : sbMany l.length = 4 := by unfold sbMany; rw [if_pos (by omega)]
    exact sbPut_bad 4 (by rw [sbPutE, if_neg (by simp [h1]), hm]; rfl) (by decide) hb
  have h2b : ((l.length : Int) == 0) = false := by simpa using h2
  by_cases h3 : 8 < l.length
  · clear hmx
    go_wp2_with fail
    go_ret2
    have hm : sbMany l.length = 6 := by unfold sbMany; rw [if_neg (by omega), if_pos (by omega)]
    exact sbPut_bad 6 (by rw [sbPutE, if_neg (by simp [h1]), hm]; rfl) (by decide) hb
  have hl8 : 1 ≤ l.length ∧ l.length ≤ 8 := by omega
  have hm : sbMany l.length = 0 := by unfold sbMany; rw [if_neg (by omega), if_neg (by omega)]
  have hsp : sbPutE id l ends = if (sbFold ends (pIdB id) l).2 ≠ 0 then (sbFold ends (pIdB id) l).2 else if 4096 < (sbFold ends (pIdB id) l).1.length then 3 else 0 := by
    rw [sbPutE, if_neg (by simp [h1]), if_neg (by simp [hm])]
  have Hsp := hd hsp; clear hsp h1 h2 hm hmx
  go_wp2_with fail
  go_loopw [8, 10] (fun o n w' => ∃ (k : Nat) (a : List UInt8), n = .int .i64 k ∧ k ≤ l.length ∧ Owned w.heap.size w' o a ∧ Below w.heap.size w w' ∧ a.length ≤ 2 + k * 65538 ∧ sbFold ends a (l.drop k) = sbFold ends (pIdB id) l) (fun o n _ => leftTo l.length n)
  case atStart => exact ⟨0, pIdB id, rfl, by omega, ho, hb, by have := pIdB_len id; omega, rfl⟩
  case round =>
    obtain ⟨k, A, rfl, hk, hO, hB, hA, hF⟩ := hrel
    by_cases hkl : k < l.length
    · obtain ⟨f, hf⟩ : ∃ f, l[k]? = some f := ⟨_, List.getElem?_eq_getElem hkl⟩
      have hBs := hB.size
      obtain ⟨b, o, rfl, hbl, hc0, hc1⟩ := HV.out.at hf
      replace hc0 := (bcell hB _ _ hbl).trans hc0
      replace hc1 := (bcell hB _ _ hbl).trans hc1
      have hfs := hs f (List.mem_of_getElem? hf)
      have hst := sbFold_at ends A hf
      have hwl := sbWish_len ends f
      obtain ⟨s, q⟩ := f
      simp only at hc0 hc1 hfs
      by_cases hr : ends = false ∧ (q < 0 ∨ 2 < q)
      · have hw5 : sbWish ends (s, q) = ([], 5) := by rw [sbWish, if_pos hr]
        rw [hw5, if_pos (by simp), hF] at hst
        obtain ⟨rfl, hq⟩ := hr
        rcases hq with hq | hq
        all_goals
          go_wp2_with fail
          go_ret2
          exact sbPut_bad 5 (by rw [Hsp.out, hst]; rfl) (by decide) (by go_grown)
      have hwe : sbWish ends (s, q) = if uPutE (sB s) ≠ 0 then ([], uPutE (sB s)) else (uPutB (sB s) ++ (if ends = true then [] else [B8 q.toNat]), 0) := by rw [sbWish, if_neg hr]
      have hq : ends = true ∨ (ends = false ∧ 0 ≤ q ∧ q ≤ 2) := by
        cases ends
        · right; rw [not_and] at hr; have := hr rfl; exact ⟨rfl, by omega, by omega⟩
        · left; rfl
      clear hr
      have hp := fun W => refPut_c s W (by omega)
      have hpl := uPutB_short (sB s)
      generalize uPutB (sB s) = L at *
      generalize uPutE (sB s) = E at *
      have HP := hd hp; clear hp
      have hB' := hB
      by_cases he : E = 0
      rotate_left
      · have heb : (E != 0) = true := by simpa using he
        rw [if_pos he] at hwe
        rw [hwe, if_pos he, hF] at hst
        clear hwe
        rcases hq with rfl | ⟨rfl, hq0, hq1⟩
        all_goals
          go_wp2_with fail
          refine (HP.out _).mono ?_
          rintro e' w3 ⟨v3, rfl, ho3, hb3⟩
          go_wp2_with fail
          go_ret2
          exact sbPut_bad E (by rw [Hsp.out, hst]; simp [he]) he (Below.up (by go_grown) hb3)
      subst he
      rw [if_neg (by simp)] at hwe
      rw [hwe] at hwl hst
      rw [if_neg (by simp), hF] at hst
      clear hwe
      rcases hq with rfl | ⟨rfl, hq0, hq1⟩
      · simp only [if_true, List.append_nil] at hst hwl
        go_wp2_with fail
        refine (HP.out _).mono ?_
        rintro e' w3 ⟨v3, rfl, ho3, hb3⟩
        have hbA : Below w.heap.size w w3 := Below.up (by go_grown) hb3
        have hO3 : Owned w.heap.size w3 u8 A := hO.kept (B' := wr.heap.size) hb3 (Nat.le_refl _)
        have hbsz := hbA.size
        go_wp2_with (at_builtin; refine wp_appB rfl _ _ rfl w.heap.size _ A rfl hO3 _ L rfl ho3.bs (by omega) hbsz ?_; intro v4 w4 ho4 hb4)
        go_roundw
        case rel => exact ⟨k + 1, A ++ L, by congr 1, by omega, ho4, hbA.trans hb4, by simp; omega, hst.symm⟩
        case measure => simp [leftTo]; omega
      · simp only [Bool.false_eq_true, if_false] at hst hwl
        have hq8 := u8_wrap (n := q) (by omega)
        have hbv := byteV_B8 (n := q.toNat) (by omega) (x := q) (by omega)
        go_wp2_with fail
        refine (HP.out _).mono ?_
        rintro e' w3 ⟨v3, rfl, ho3, hb3⟩
        have hbA : Below w.heap.size w w3 := Below.up (by go_grown) hb3
        have hO3 : Owned w.heap.size w3 u8 A := hO.kept (B' := wr.heap.size) hb3 (Nat.le_refl _)
        have hbsz := hbA.size
        have hc13 : w3.cell? ⟨b, o + k * 2 + 1, none⟩ = some (.int .i64 q) := (bcell hb3 _ _ (by omega)).trans hc1
        have tok1 : True := trivial
        clear hc0 hc1 hb3
        go_wp2_with (first
          | (at_builtin; have _t := tok1; refine wp_appB rfl _ _ rfl w.heap.size _ A rfl hO3 _ L rfl ho3.bs (by omega) hbsz ?_; intro v4 w4 ho4 hb4; clear tok1; have hbs4 := Nat.le_trans hbsz hb4.size; have hc14 := (bcell hb4 _ _ hbl).trans hc13)
          | (at_builtin; refine wp_appB1 rfl _ _ rfl w.heap.size _ (A ++ L) rfl ho4 q (B8 q.toNat) hbv.symm rfl (by simp; omega) hbs4 ?_; intro v5 w5 ho5 hb5))
        go_roundw
        case rel => exact ⟨k + 1, A ++ L ++ [B8 q.toNat], by congr 1, by omega, ho5, (hbA.trans hb4).trans hb5, by simp at hwl ⊢; omega, by rw [List.append_assoc]; exact hst.symm⟩
        case measure => simp [leftTo]; omega
    · have hke : k = l.length := by omega
      subst hke
      rw [List.drop_length] at hF
      have hF' : sbFold ends (pIdB id) l = (A, 0) := hF.symm
      obtain ⟨aa, ca, rfl⟩ := hO.bs.slice
      rw [hF'] at Hsp
      by_cases hlong : 4096 < A.length
      · go_wp2_with fail
        go_ret2
        exact sbPut_bad 3 (by rw [Hsp.out]; simp [hlong]) (by decide) (by go_grown)
      · go_wp2_with fail
        go_ret2
        have hz : sbPutE id l ends = 0 := by rw [Hsp.out]; simp [hlong]
        have hBv : sbPutB id l ends = A := by rw [sbPutB, if_pos hz, hF']
        rw [hz, hBv]
        exact ⟨_, rfl, hO, by go_grown⟩
end Go.Proofs.YtgafhnomkeiakaaDoor
