/- A bundle of texts (merged for the limit on files): SubPut, SubPut2, PubOf2. -/
import Derived.Test.YtclicjokgfiegaaDoorZa9
import Derived.Test.YtclicjokgfiegaaDoorZa4
import Derived.Test.YtclicjokgfiegaaDoorZa5
/- Wishes: what lays them: the walks of the program and of the reference. -/
namespace Go.Proofs.YtclicjokgfiegaaDoor
open Go.RowKit
set_option linter.unusedVariables false
set_option linter.unusedSimpArgs false

theorem u8_wrap {n : Int} (h : 0 ≤ n ∧ n ≤ 255) : IntKind.u8.wrap n = n := by
  have e : IntKind.u8.wrap n = n % 256 := by simp [IntKind.wrap, IntKind.signed, IntKind.bits]
  rw [e]; omega

set_option maxRecDepth 100000 in
set_option maxHeartbeats 1000000 in
theorem subNumbered_c (id : Int) (w : World) : Calls Tryd.prog 170 #[.int .i64 id] w (GivesB w (pIdB id) (pIdE id)) := by
  unfold pIdB pIdE
  by_cases h : 1 ≤ id ∧ id ≤ 65535
  · rw [if_pos h, if_pos h]
    obtain ⟨h1, h2⟩ := h
    go_enter Tryd.func170, Tryd.ntmps170
    go_wp2_with fail
    refine (Put2_c id _).mono ?_
    have hE : uPut2E id = 0 := by unfold uPut2E; rw [if_neg (by omega)]
    rw [hE]
    rintro e w2 ⟨v, rfl, ho, hb⟩
    go_wp2_with fail
    go_ret2
    exact ⟨_, rfl, ho, hb⟩
  · rw [if_neg h, if_neg h]
    have h' : id < 1 ∨ 65535 < id := by omega
    clear h
    rcases h' with h | h
    all_goals
      go_enter Tryd.func170, Tryd.ntmps170
      go_wp2_with fail
      go_ret2
      exact GivesB.nil (by go_grown)

set_option maxRecDepth 100000 in
theorem many_c (n : Int) (w : World) : Calls Tryd.prog 171 #[.int .i64 n] w fun e w' => e = .returned (.int .i64 (sbMany n)) ∧ w = w' := by
  unfold sbMany
  by_cases h1 : n < 1
  · rw [if_pos h1]
    go_enter Tryd.func171, Tryd.ntmps171
    go_wp2_with fail
    go_ret
    exact ⟨rfl, rfl⟩
  · rw [if_neg h1]
    by_cases h2 : 8 < n
    all_goals
      first | rw [if_pos h2] | rw [if_neg h2]
      go_enter Tryd.func171, Tryd.ntmps171
      go_wp2_with fail
      go_ret
      exact ⟨rfl, rfl⟩

set_option maxRecDepth 100000 in
set_option maxHeartbeats 2000000 in
theorem wish_c (s : ByteArray) (q : Int) (ends : Bool) (w : World) (hE : EnvU w) (hs : s.size ≤ 140737488351232) :
    Calls Tryd.prog 172 #[.agg #[.string s, .int .i64 q], .bool ends] w (GivesB w (sbWish ends (s, q)).1 (sbWish ends (s, q)).2) := by
  have HE := hd hE; clear hE
  by_cases h0 : ends = false ∧ (q < 0 ∨ 2 < q)
  · have hsp : sbWish ends (s, q) = ([], 5) := by rw [sbWish, if_pos h0]
    rw [hsp]
    obtain ⟨rfl, hq⟩ := h0
    rcases hq with hq | hq
    all_goals
      go_enter Tryd.func172, Tryd.ntmps172
      go_wp2_with fail
      go_ret2
      exact GivesB.nil (by go_grown)
  have hsp : sbWish ends (s, q) = if uPutE (sB s) ≠ 0 then ([], uPutE (sB s)) else (uPutB (sB s) ++ (if ends = true then [] else [B8 q.toNat]), 0) := by rw [sbWish, if_neg h0]
  have hll := uPutB_short (sB s)
  have hp := fun W hW => Put_c s W hW (by omega)
  generalize uPutB (sB s) = L at *
  generalize uPutE (sB s) = E at *
  have HP := hd hp; clear hp
  have Hsp := hd hsp; clear hsp
  have hq : ends = false → 0 ≤ q ∧ q ≤ 2 := fun h => by
    rw [not_and] at h0
    have := h0 h
    omega
  clear h0
  by_cases he : E = 0
  rotate_left
  · have heb : (E != 0) = true := by simpa using he
    cases ends
    all_goals
      first
        | (have hq2 := hq rfl; obtain ⟨q0, q1⟩ := hq2)
        | skip
      rw [Hsp.out, if_pos he]
      clear Hsp hq
      go_enter Tryd.func172, Tryd.ntmps172
      go_wp2_with fail
      refine (HP.out _ (HE.out.below (by go_grown))).mono ?_
      rintro e w1 ⟨v, rfl, ho, hb⟩
      go_wp2_with fail
      go_ret2
      exact GivesB.nil (Below.up (by go_grown) hb)
  subst he
  rw [Hsp.out, if_neg (by simp)]
  clear Hsp
  cases ends
  · obtain ⟨q0, q1⟩ := hq rfl
    clear hq
    rw [if_neg (by simp)]
    have hq8 := u8_wrap (n := q) (by omega)
    have hbv := byteV_B8 (n := q.toNat) (by omega) (x := q) (by omega)
    go_enter Tryd.func172, Tryd.ntmps172
    go_wp2_with fail
    refine (HP.out _ (HE.out.below (by go_grown))).mono ?_
    rintro e w1 ⟨v, rfl, ho, hb⟩
    have hc1 := bcell hb
    have hl1 : w.heap.size < w1.heap.size := by have := hb.size; simp at this; omega
    have hb' : Below w.heap.size w w1 := Below.up (by go_grown) hb
    replace ho := ho.le (B' := w.heap.size) (by simp)
    have hbs := hb'.size
    clear hb
    go_wp2_with (first
      | (at_builtin; refine wp_appB1 rfl _ _ rfl w.heap.size _ L rfl ho q (B8 q.toNat) hbv.symm rfl (by omega) hbs ?_; intro v2 w2 ho2 hb2))
    go_ret2
    exact ⟨_, rfl, ho2, hb'.trans hb2⟩
  · rw [if_pos rfl, List.append_nil]
    clear hq
    go_enter Tryd.func172, Tryd.ntmps172
    go_wp2_with fail
    refine (HP.out _ (HE.out.below (by go_grown))).mono ?_
    rintro e w1 ⟨v, rfl, ho, hb⟩
    have hb' : Below w.heap.size w w1 := Below.up (by go_grown) hb
    replace ho := ho.le (B' := w.heap.size) (by simp)
    clear hb
    go_wp2_with fail
    go_ret2
    exact ⟨_, rfl, ho, hb'⟩

end Go.Proofs.YtclicjokgfiegaaDoor

/- Wishes: what lays them: the loops of the program and of the reference. -/
namespace Go.Proofs.YtclicjokgfiegaaDoor
open Go.RowKit
set_option linter.unusedVariables false
set_option linter.unusedSimpArgs false

/-- Wishes that a slice reads as. -/
def Ws (w : World) (v : Value) (l : List Wish) : Prop := Rd w v l.length (wCells l)
theorem Ws.slice {w : World} {v : Value} {l : List Wish} (h : Ws w v l) : ∃ a c, v = .slice a l.length c := by
  obtain ⟨a, c, rfl, _⟩ := h; exact ⟨a, c, rfl⟩
theorem Ws.below' {B : Nat} {w w' : World} {v : Value} {l : List Wish} (h : Ws w v l) (hb : Below B w w') (hB : w.heap.size ≤ B) : Ws w' v l := Rd.below' h hb hB
theorem Ws.len {w : World} {v : Value} {l : List Wish} (h : Ws w v l) : l.length ≤ maxLen := Rd.len h
/-- where the k-th lies -/
theorem Ws.at {w : World} {a : Option Addr} {n c : Nat} {l : List Wish} (h : Ws w (.slice a n c) l) {k : Nat} {f : Wish} (hk : l[k]? = some f) :
    ∃ b o, a = some ⟨b, o, none⟩ ∧ b < w.heap.size ∧ w.cell? ⟨b, o + k * 2, none⟩ = some (.string f.1) ∧ w.cell? ⟨b, o + k * 2 + 1, none⟩ = some (.int .i64 f.2) := by
  have hx := wCells_at l k f hk
  have hw := @Rd.split w (.slice a n c) l.length (wCells l) h
  rcases hw with ⟨hn, _⟩ | ⟨_, b, o, c', hv, _, _, hlt, hcell⟩
  · have : l = [] := by
      have := wCells_len l
      rw [hn] at this
      simp at this
      exact List.eq_nil_of_length_eq_zero (by omega)
    subst this
    simp at hk
  · simp only [Value.slice.injEq] at hv
    refine ⟨b, o, hv.1, hlt, hcell _ _ hx.1, ?_⟩
    have := hcell _ _ hx.2
    rwa [← Nat.add_assoc] at this

theorem sbFold_at (ends : Bool) (a : List UInt8) {l : List Wish} {k : Nat} {f : Wish} (hk : l[k]? = some f) :
    sbFold ends a (l.drop k) = if (sbWish ends f).2 ≠ 0 then ([], (sbWish ends f).2) else sbFold ends (a ++ (sbWish ends f).1) (l.drop (k + 1)) := by
  have hlt : k < l.length := (List.getElem?_eq_some_iff.1 hk).1
  have hf : l[k] = f := (List.getElem?_eq_some_iff.1 hk).2
  rw [List.drop_eq_getElem_cons hlt, hf]
  rfl
theorem sbWish_len (ends : Bool) (f : Wish) : (sbWish ends f).1.length ≤ 65538 := by
  have := uPutB_short (sB f.1)
  unfold sbWish
  split
  · simp
  · split
    · simp
    · cases ends <;> simp <;> omega
theorem pIdB_len (id : Int) : (pIdB id).length ≤ 2 := by
  unfold pIdB uPut2B
  repeat' split
  all_goals simp
def leftTo (n : Nat) : Value → Nat
  | .int _ k => ((n : Int) - k).toNat
  | _ => 0
theorem sbPut_bad {id : Int} {l : List Wish} {ends : Bool} {w w' : World} (e : Int) (he : sbPutE id l ends = e) (h0 : e ≠ 0) (hb : Below w.heap.size w w') :
    GivesB w (sbPutB id l ends) (sbPutE id l ends) (.returned (.tuple #[.slice none 0 0, .int .i64 e])) w' := by
  unfold sbPutB
  rw [he, if_neg h0]
  exact GivesB.nil hb

set_option maxRecDepth 100000 in
set_option maxHeartbeats 8000000 in
theorem subsPut_c (id : Int) (v : Value) (l : List Wish) (ends : Bool) (w : World) (hE : EnvU w) (hv : Ws w v l) (hs : ∀ f ∈ l, f.1.size ≤ 140737488351232) :
    Calls Tryd.prog 126 #[.int .i64 id, v, .bool ends] w (GivesB w (sbPutB id l ends) (sbPutE id l ends)) := by
  have HE := hd hE; clear hE
  obtain ⟨a, c, rfl⟩ := hv.slice
  have hmax := hv.len
  unfold maxLen at hmax
  have HV := hd hv; clear hv
  go_enter Tryd.func126, Tryd.ntmps126
  go_wp2_with fail
  refine (subNumbered_c id _).mono ?_
  by_cases h1 : pIdE id = 0
  rotate_left
  · have heb : (pIdE id != 0) = true := by simpa using h1
    rintro e w1 ⟨v1, rfl, ho, hb⟩
    go_wp2_with fail
    go_ret2
    exact sbPut_bad _ (by rw [sbPutE, if_pos h1]) h1 hb
  rw [h1]
  rintro e w1 ⟨v1, rfl, ho, hb⟩
  go_wp2_with fail
  refine (many_c _ _).mono ?_
  by_cases h2 : sbMany l.length = 0
  rotate_left
  · have heb : (sbMany l.length != 0) = true := by simpa using h2
    rintro e w2 ⟨rfl, rfl⟩
    go_wp2_with fail
    go_ret2
    exact sbPut_bad _ (by rw [sbPutE, if_neg (by simp [h1]), if_pos h2]) h2 hb
  rw [h2]
  rintro e w2 ⟨rfl, rfl⟩
  have hl8 : 1 ≤ l.length ∧ l.length ≤ 8 := by
    unfold sbMany at h2
    split at h2
    · simp at h2
    · split at h2
      · simp at h2
      · omega
  have hsp : sbPutE id l ends = if (sbFold ends (pIdB id) l).2 ≠ 0 then (sbFold ends (pIdB id) l).2 else if 4096 < (sbFold ends (pIdB id) l).1.length then 3 else 0 := by
    rw [sbPutE, if_neg (by simp [h1]), if_neg (by simp [h2])]
  have Hsp := hd hsp; clear hsp h1 h2 hmax
  go_wp2_with fail
  go_loopw [8, 31] (fun o n w' => ∃ (k : Nat) (a : List UInt8), n = .int .i64 k ∧ k ≤ l.length ∧ Owned w.heap.size w' o a ∧ Below w.heap.size w w' ∧ a.length ≤ 2 + k * 65538 ∧ sbFold ends a (l.drop k) = sbFold ends (pIdB id) l) (fun o n _ => leftTo l.length n)
  case atStart => exact ⟨0, pIdB id, rfl, by omega, ho, hb, by have := pIdB_len id; omega, rfl⟩
  case round =>
    obtain ⟨k, A, rfl, hk, hO, hB, hA, hF⟩ := hrel
    by_cases hkl : k < l.length
    · obtain ⟨f, hf⟩ : ∃ f, l[k]? = some f := ⟨_, List.getElem?_eq_getElem hkl⟩
      have hBs := hB.size
      obtain ⟨b, o, rfl, hbl, hc0, hc1⟩ := HV.out.at hf
      replace hc0 := (bcell hB _ _ hbl).trans hc0
      replace hc1 := (bcell hB _ _ hbl).trans hc1
      have hfs := hs f (List.mem_of_getElem? hf)
      have hst := sbFold_at ends A hf
      have hwl := sbWish_len ends f
      obtain ⟨s, q⟩ := f
      simp only at hc0 hc1 hfs
      go_wp2_with fail
      refine (wish_c s q ends _ (HE.out.below (by go_grown)) hfs).mono ?_
      generalize sbWish ends (s, q) = r at hst hwl ⊢
      obtain ⟨m, e⟩ := r
      simp only at hst hwl ⊢
      rintro e' w3 ⟨v3, rfl, ho3, hb3⟩
      by_cases he : e = 0
      rotate_left
      · have heb : (e != 0) = true := by simpa using he
        rw [if_pos he, hF] at hst
        go_wp2_with fail
        go_ret2
        exact sbPut_bad e (by rw [Hsp.out, hst]; simp [he]) he (Below.up (by go_grown) hb3)
      subst he
      rw [if_neg (by simp), hF] at hst
      have hbA : Below w.heap.size w w3 := Below.up (by go_grown) hb3
      have hO3 : Owned w.heap.size w3 u8 A := hO.kept (B' := wr.heap.size) (((Below.refl _ _).alloc (Nat.le_refl _) _).trans (hb3.mono (by simp))) (Nat.le_refl _)
      have hbsz := hbA.size
      go_wp2_with (at_builtin; refine wp_appB rfl _ _ rfl w.heap.size _ A rfl hO3 _ m rfl ho3.bs (by omega) hbsz ?_; intro v4 w4 ho4 hb4)
      go_roundw
      case rel => exact ⟨k + 1, A ++ m, by congr 1, by omega, ho4, hbA.trans hb4, by simp; omega, hst.symm⟩
      case measure => simp [leftTo]; omega
    · have hke : k = l.length := by omega
      subst hke
      rw [List.drop_length] at hF
      have hF' : sbFold ends (pIdB id) l = (A, 0) := hF.symm
      obtain ⟨aa, ca, rfl⟩ := hO.bs.slice
      rw [hF'] at Hsp
      by_cases hlong : 4096 < A.length
      · go_wp2_with fail
        go_ret2
        exact sbPut_bad 3 (by rw [Hsp.out]; simp [hlong]) (by decide) (by go_grown)
      · go_wp2_with fail
        go_ret2
        have hz : sbPutE id l ends = 0 := by rw [Hsp.out]; simp [hlong]
        have hBv : sbPutB id l ends = A := by rw [sbPutB, if_pos hz, hF']
        rw [hz, hBv]
        exact ⟨_, rfl, hO, by go_grown⟩

set_option maxRecDepth 100000 in
set_option maxHeartbeats 8000000 in
theorem refSubsPut_c (id : Int) (v : Value) (l : List Wish) (ends : Bool) (w : World) (hv : Ws w v l) (hs : ∀ f ∈ l, f.1.size ≤ 140737488351232) :
    Calls Tryd.prog 81 #[.int .i64 id, v, .bool ends] w (GivesB w (sbPutB id l ends) (sbPutE id l ends)) := by
  obtain ⟨a, c, rfl⟩ := hv.slice
  have hmax := hv.len
  unfold maxLen at hmax
  have hmx : l.length ≤ 9223372036854775807 := by omega
  have HV := hd hv; clear hv hmax
  go_enter Tryd.func81, Tryd.ntmps81
  go_wp2_with fail
  refine (refPutId_c id _).mono ?_
  by_cases h1 : pIdE id = 0
  rotate_left
  · have heb : (pIdE id != 0) = true := by simpa using h1
    rintro e w1 ⟨v1, rfl, ho, hb⟩
    go_wp2_with fail
    go_ret2
    exact sbPut_bad _ (by rw [sbPutE, if_pos h1]) h1 hb
  rw [h1]
  rintro e w1 ⟨v1, rfl, ho, hb⟩
  by_cases h2 : l.length = 0
  · have h2b : ((l.length : Int) == 0) = true := by simpa using h2
    clear hmx
    go_wp2_with fail
    go_ret2
    have hm : sbMany l.length = 4 := by unfold sbMany; rw [if_pos (by omega)]
    exact sbPut_bad 4 (by rw [sbPutE, if_neg (by simp [h1]), hm]; rfl) (by decide) hb
  have h2b : ((l.length : Int) == 0) = false := by simpa using h2
  by_cases h3 : 8 < l.length
  · clear hmx
    go_wp2_with fail
    go_ret2
    have hm : sbMany l.length = 6 := by unfold sbMany; rw [if_neg (by omega), if_pos (by omega)]
    exact sbPut_bad 6 (by rw [sbPutE, if_neg (by simp [h1]), hm]; rfl) (by decide) hb
  have hl8 : 1 ≤ l.length ∧ l.length ≤ 8 := by omega
  have hm : sbMany l.length = 0 := by unfold sbMany; rw [if_neg (by omega), if_neg (by omega)]
  have hsp : sbPutE id l ends = if (sbFold ends (pIdB id) l).2 ≠ 0 then (sbFold ends (pIdB id) l).2 else if 4096 < (sbFold ends (pIdB id) l).1.length then 3 else 0 := by
    rw [sbPutE, if_neg (by simp [h1]), if_neg (by simp [hm])]
  have Hsp := hd hsp; clear hsp h1 h2 hm hmx
  go_wp2_with fail
  go_loopw [8, 10] (fun o n w' => ∃ (k : Nat) (a : List UInt8), n = .int .i64 k ∧ k ≤ l.length ∧ Owned w.heap.size w' o a ∧ Below w.heap.size w w' ∧ a.length ≤ 2 + k * 65538 ∧ sbFold ends a (l.drop k) = sbFold ends (pIdB id) l) (fun o n _ => leftTo l.length n)
  case atStart => exact ⟨0, pIdB id, rfl, by omega, ho, hb, by have := pIdB_len id; omega, rfl⟩
  case round =>
    obtain ⟨k, A, rfl, hk, hO, hB, hA, hF⟩ := hrel
    by_cases hkl : k < l.length
    · obtain ⟨f, hf⟩ : ∃ f, l[k]? = some f := ⟨_, List.getElem?_eq_getElem hkl⟩
      have hBs := hB.size
      obtain ⟨b, o, rfl, hbl, hc0, hc1⟩ := HV.out.at hf
      replace hc0 := (bcell hB _ _ hbl).trans hc0
      replace hc1 := (bcell hB _ _ hbl).trans hc1
      have hfs := hs f (List.mem_of_getElem? hf)
      have hst := sbFold_at ends A hf
      have hwl := sbWish_len ends f
      obtain ⟨s, q⟩ := f
      simp only at hc0 hc1 hfs
      by_cases hr : ends = false ∧ (q < 0 ∨ 2 < q)
      · have hw5 : sbWish ends (s, q) = ([], 5) := by rw [sbWish, if_pos hr]
        rw [hw5, if_pos (by simp), hF] at hst
        obtain ⟨rfl, hq⟩ := hr
        rcases hq with hq | hq
        all_goals
          go_wp2_with fail
          go_ret2
          exact sbPut_bad 5 (by rw [Hsp.out, hst]; rfl) (by decide) (by go_grown)
      have hwe : sbWish ends (s, q) = if uPutE (sB s) ≠ 0 then ([], uPutE (sB s)) else (uPutB (sB s) ++ (if ends = true then [] else [B8 q.toNat]), 0) := by rw [sbWish, if_neg hr]
      have hq : ends = true ∨ (ends = false ∧ 0 ≤ q ∧ q ≤ 2) := by
        cases ends
        · right; rw [not_and] at hr; have := hr rfl; exact ⟨rfl, by omega, by omega⟩
        · left; rfl
      clear hr
      have hp := fun W => refPut_c s W (by omega)
      have hpl := uPutB_short (sB s)
      generalize uPutB (sB s) = L at *
      generalize uPutE (sB s) = E at *
      have HP := hd hp; clear hp
      have hB' := hB
      by_cases he : E = 0
      rotate_left
      · have heb : (E != 0) = true := by simpa using he
        rw [if_pos he] at hwe
        rw [hwe, if_pos he, hF] at hst
        clear hwe
        rcases hq with rfl | ⟨rfl, hq0, hq1⟩
        all_goals
          go_wp2_with fail
          refine (HP.out _).mono ?_
          rintro e' w3 ⟨v3, rfl, ho3, hb3⟩
          go_wp2_with fail
          go_ret2
          exact sbPut_bad E (by rw [Hsp.out, hst]; simp [he]) he (Below.up (by go_grown) hb3)
      subst he
      rw [if_neg (by simp)] at hwe
      rw [hwe] at hwl hst
      rw [if_neg (by simp), hF] at hst
      clear hwe
      rcases hq with rfl | ⟨rfl, hq0, hq1⟩
      · simp only [if_true, List.append_nil] at hst hwl
        go_wp2_with fail
        refine (HP.out _).mono ?_
        rintro e' w3 ⟨v3, rfl, ho3, hb3⟩
        have hbA : Below w.heap.size w w3 := Below.up (by go_grown) hb3
        have hO3 : Owned w.heap.size w3 u8 A := hO.kept (B' := wr.heap.size) hb3 (Nat.le_refl _)
        have hbsz := hbA.size
        go_wp2_with (at_builtin; refine wp_appB rfl _ _ rfl w.heap.size _ A rfl hO3 _ L rfl ho3.bs (by omega) hbsz ?_; intro v4 w4 ho4 hb4)
        go_roundw
        case rel => exact ⟨k + 1, A ++ L, by congr 1, by omega, ho4, hbA.trans hb4, by simp; omega, hst.symm⟩
        case measure => simp [leftTo]; omega
      · simp only [Bool.false_eq_true, if_false] at hst hwl
        have hq8 := u8_wrap (n := q) (by omega)
        have hbv := byteV_B8 (n := q.toNat) (by omega) (x := q) (by omega)
        go_wp2_with fail
        refine (HP.out _).mono ?_
        rintro e' w3 ⟨v3, rfl, ho3, hb3⟩
        have hbA : Below w.heap.size w w3 := Below.up (by go_grown) hb3
        have hO3 : Owned w.heap.size w3 u8 A := hO.kept (B' := wr.heap.size) hb3 (Nat.le_refl _)
        have hbsz := hbA.size
        have hc13 : w3.cell? ⟨b, o + k * 2 + 1, none⟩ = some (.int .i64 q) := (bcell hb3 _ _ (by omega)).trans hc1
        have tok1 : True := trivial
        clear hc0 hc1 hb3
        go_wp2_with (first
          | (at_builtin; have _t := tok1; refine wp_appB rfl _ _ rfl w.heap.size _ A rfl hO3 _ L rfl ho3.bs (by omega) hbsz ?_; intro v4 w4 ho4 hb4; clear tok1; have hbs4 := Nat.le_trans hbsz hb4.size; have hc14 := (bcell hb4 _ _ hbl).trans hc13)
          | (at_builtin; refine wp_appB1 rfl _ _ rfl w.heap.size _ (A ++ L) rfl ho4 q (B8 q.toNat) hbv.symm rfl (by simp; omega) hbs4 ?_; intro v5 w5 ho5 hb5))
        go_roundw
        case rel => exact ⟨k + 1, A ++ L ++ [B8 q.toNat], by congr 1, by omega, ho5, (hbA.trans hb4).trans hb5, by simp at hwl ⊢; omega, by rw [List.append_assoc]; exact hst.symm⟩
        case measure => simp [leftTo]; omega
    · have hke : k = l.length := by omega
      subst hke
      rw [List.drop_length] at hF
      have hF' : sbFold ends (pIdB id) l = (A, 0) := hF.symm
      obtain ⟨aa, ca, rfl⟩ := hO.bs.slice
      rw [hF'] at Hsp
      by_cases hlong : 4096 < A.length
      · go_wp2_with fail
        go_ret2
        exact sbPut_bad 3 (by rw [Hsp.out]; simp [hlong]) (by decide) (by go_grown)
      · go_wp2_with fail
        go_ret2
        have hz : sbPutE id l ends = 0 := by rw [Hsp.out]; simp [hlong]
        have hBv : sbPutB id l ends = A := by rw [sbPutB, if_pos hz, hF']
        rw [hz, hBv]
        exact ⟨_, rfl, hO, by go_grown⟩
end Go.Proofs.YtclicjokgfiegaaDoor

/- Messages: what bytes tell, by the reference; the numbers of bytes. -/
namespace Go.Proofs.YtclicjokgfiegaaDoor
open Go.RowKit
set_option linter.unusedVariables false
set_option linter.unusedSimpArgs false

set_option maxRecDepth 100000 in
set_option maxHeartbeats 1000000 in
theorem refPubOf_c (b : ByteArray) (q : Int) (w : World) (hs : b.size ≤ 140737488351232) :
    Calls Tryd.prog 115 #[.string b, .int .i64 q] w (GivesM w (sB b) q) := by
  by_cases hq : q < 0 ∨ 2 < q
  · have hs : pOf (sB b) q = ([], [], 0, 10) := by rw [pOf, if_pos hq]
    rcases hq with hq | hq
    all_goals
      go_enter Tryd.func115, Tryd.ntmps115
      go_wp2_with fail
      exact bodyPost_ret (v := .tuple #[.agg #[.string ⟨#[]⟩, .string ⟨#[]⟩, .int .i64 0, .bool false], .int .i64 0, .int .i64 10]) (by simp [results, Tryd.results115, go_sem]) rfl (GivesM.nil 10 hs (by decide) (by go_grown))
  have hq1 : 0 ≤ q := by omega
  have hq2 : q ≤ 2 := by omega
  go_enter Tryd.func115, Tryd.ntmps115
  go_wp2_with fail
  refine upon_bytes (by omega) fun d1 k1 w1 hs1 hb1 => ?_
  have hc1 := bcell hb1
  have hf1 := bfree hb1
  have hl1 : w.heap.size < w1.heap.size := by have := hb1.size; simp at this; omega
  have hb : Below w.heap.size w w1 := Below.up (by go_grown) hb1
  go_wp2_with fail
  refine (refGet_c _ (sB b) 0 _ hs1).mono ?_
  rintro e w2 ⟨rfl, hb2⟩
  have hc2 := bcell hb2
  have hf2 := bfree hb2
  have hl2 : w.heap.size < w2.heap.size := by have := hb2.size; omega
  replace hb := Below.up hb hb2
  have hg := @uGet_rng (sB b) 0
  have hgl := uGet_len (sB b) 0
  have hof : pOf (sB b) q = pOf (sB b) q := rfl
  conv at hof => rhs; rw [pOf, if_neg hq]
  generalize uGet (sB b) 0 = g at hg hgl hof ⊢
  obtain ⟨T, k, e⟩ := g
  simp only at hg hgl hof ⊢
  have Hof := hd hof; clear hof
  by_cases he : e = 0
  rotate_left
  · have heb : (e != 0) = true := by simpa using he
    go_wp2_with fail
    exact bodyPost_ret (v := .tuple #[.agg #[.string ⟨#[]⟩, .string ⟨#[]⟩, .int .i64 0, .bool false], .int .i64 0, .int .i64 e]) (by simp [results, Tryd.results115, go_sem, hc1, hc2, hl1, hl2]) rfl (GivesM.nil e (by rw [Hof.out, if_pos he]) he (by go_grown))
  subst he
  have hrg := hg rfl; clear hg
  have hbl := sB_len b
  have hk0 : 0 ≤ k := by omega
  have hk1 : k ≤ ((sB b).length : Int) := by omega
  clear hbl
  go_wp2_with fail
  refine (refNamed_c (sOf T) _ (by rw [sOf_size]; omega)).mono ?_
  rw [sB_sOf]
  by_cases hn : pName T = false
  · rw [hn]
    rintro e w3 ⟨rfl, hb3⟩
    have hc3 := bcell hb3
    have hf3 := bfree hb3
    have hl3 : w.heap.size < w3.heap.size := by have := hb3.size; omega
    go_wp2_with fail
    exact bodyPost_ret (v := .tuple #[.agg #[.string ⟨#[]⟩, .string ⟨#[]⟩, .int .i64 0, .bool false], .int .i64 0, .int .i64 13]) (by simp [results, Tryd.results115, go_sem, hc1, hc2, hc3, hl1, hl2, hl3]) rfl (GivesM.nil 13 (by rw [Hof.out, if_neg (by decide), if_pos hn]) (by decide) (by have := Below.up hb hb3; go_grown))
  rw [show pName T = true from by simpa using hn]
  rintro e w3 ⟨rfl, hb3⟩
  have hc3 := bcell hb3
  have hf3 := bfree hb3
  have hl3 : w.heap.size < w3.heap.size := by have := hb3.size; omega
  have hs3 := hs1.below' (hb2.trans (hb3.mono hb2.size)) (Nat.le_refl _)
  replace hb := Below.up hb hb3
  clear hs1 hb1 hb2
  by_cases h : q = 0
  · subst h
    obtain ⟨a', c', hsl, hsb⟩ := run_from hs3 k k.toNat (by omega) (by omega)
    have hst := run_str hsb
    go_wp2_with fail
    refine bodyPost_ret (v := .tuple #[.agg #[.string (sOf T), .string (sOf ((sB b).drop k.toNat)), .int .i64 0, .bool false], .int .i64 0, .int .i64 0]) (by simp [results, Tryd.results115, go_sem, hc1, hc2, hc3, hl1, hl2, hl3, sOf]) rfl ?_
    have hr : pOf (sB b) 0 = (T, (sB b).drop k.toNat, 0, 0) := by rw [Hof.out, if_neg (by decide), if_neg hn, if_pos trivial]
    unfold GivesM pOfQ
    rw [hr]
    exact ⟨rfl, by go_grown⟩
  have hqz : (0 : Int) < q := by omega
  go_wp2_with fail
  refine (refGet2_c _ (sB b) k _ hs3).mono ?_
  rintro e w5 ⟨rfl, hb5⟩
  have hc5 := bcell hb5
  have hf5 := bfree hb5
  have hl5 : w.heap.size < w5.heap.size := by have := hb5.size; omega
  replace hb := Below.up hb hb5
  have hs5 := hs3.below' hb5 (Nat.le_refl _)
  have hof := Hof.out; clear Hof
  rw [if_neg (by decide), if_neg hn, if_neg h] at hof
  have hg2 := @uGet2_ok (sB b) k
  generalize uGet2 (sB b) k = g at hof hg2 ⊢
  obtain ⟨id, k2, e⟩ := g
  simp only at hof hg2 ⊢
  have Hof := hd hof; clear hof
  by_cases he : e = 0
  rotate_left
  · have heb : (e != 0) = true := by simpa using he
    go_wp2_with fail
    exact bodyPost_ret (v := .tuple #[.agg #[.string ⟨#[]⟩, .string ⟨#[]⟩, .int .i64 0, .bool false], .int .i64 0, .int .i64 e]) (by simp [results, Tryd.results115, go_sem, hc1, hc2, hc3, hc5, hl1, hl2, hl3, hl5]) rfl (GivesM.nil e (by rw [Hof.out, if_pos he]) he (by go_grown))
  subst he
  obtain ⟨g1, g2, rfl, g4, g5⟩ := hg2 rfl
  clear hg2
  by_cases hid : id = 0
  · subst hid
    go_wp2_with fail
    exact bodyPost_ret (v := .tuple #[.agg #[.string ⟨#[]⟩, .string ⟨#[]⟩, .int .i64 0, .bool false], .int .i64 0, .int .i64 1]) (by simp [results, Tryd.results115, go_sem, hc1, hc2, hc3, hc5, hl1, hl2, hl3, hl5]) rfl (GivesM.nil 1 (by rw [Hof.out, if_neg (by decide), if_pos trivial]) (by decide) (by go_grown))
  have hidb : (id == 0) = false := by simpa using hid
  obtain ⟨a', c', hsl, hsb⟩ := run_from hs5 (k + 2) (k + 2).toNat (by omega) (by omega)
  have hst := run_str hsb
  go_wp2_with fail
  refine bodyPost_ret (v := .tuple #[.agg #[.string (sOf T), .string (sOf ((sB b).drop (k + 2).toNat)), .int .i64 q, .bool false], .int .i64 id, .int .i64 0]) (by simp [results, Tryd.results115, go_sem, hc1, hc2, hc3, hc5, hl1, hl2, hl3, hl5, sOf]) rfl ?_
  have hr : pOf (sB b) q = (T, (sB b).drop (k + 2).toNat, id, 0) := by rw [Hof.out, if_neg (by decide), if_neg hid]
  unfold GivesM pOfQ
  rw [hr]
  exact ⟨rfl, by go_grown⟩

set_option maxRecDepth 100000 in
set_option maxHeartbeats 1000000 in
theorem OfId_c (b : ByteArray) (w : World) (hs : b.size ≤ 140737488351232) :
    Calls Tryd.prog 151 #[.string b] w fun e w' => e = .returned (.tuple #[.int .i64 (pOfId (sB b)).1, .int .i64 (pOfId (sB b)).2]) ∧ Below w.heap.size w w' := by
  by_cases hl : b.size = 2
  rotate_left
  · have hr : pOfId (sB b) = (0, 4) := by rw [pOfId, sB_len, if_pos hl]
    have hlb : (((b.size : Nat) : Int) != 2) = true := by simp; omega
    rw [hr]
    go_enter Tryd.func151, Tryd.ntmps151
    go_wp2_with fail
    go_ret2
    exact ⟨rfl, by go_grown⟩
  have hlb : (((b.size : Nat) : Int) != 2) = false := by simp; omega
  have hll : (sB b).length = 2 := by rw [sB_len]; exact hl
  obtain ⟨h2, h0, h1⟩ := uGet2_two hll
  obtain ⟨r, hr⟩ : ∃ r, pOfId (sB b) = r := ⟨_, rfl⟩
  rw [hr]
  rw [pOfId, if_neg (by omega)] at hr
  have HR := hd hr
  clear hll hl hr
  go_enter Tryd.func151, Tryd.ntmps151
  go_wp2_with fail
  refine upon_bytes (by omega) fun d1 k1 w1 hs1 hb1 => ?_
  go_wp2_with fail
  refine (Get2_c _ (sB b) 0 _ hs1).mono ?_
  rw [h2]
  have hr := HR.out; clear HR
  generalize (uGet2 (sB b) 0).1 = id at hr h0 h1 ⊢
  generalize (uGet2 (sB b) 0).2.1 = k
  have HR := hd hr
  clear h2 hr
  rintro e w2 ⟨rfl, hb2⟩
  have hb := Below.up hb1 hb2
  go_wp2_with fail
  refine (numbered_c id _).mono ?_
  by_cases hid : id = 0
  · rw [show (decide (1 ≤ id) && decide (id ≤ 65535)) = false from by rw [hid]; decide]
    rintro e w' ⟨rfl, rfl⟩
    go_wp2_with fail
    go_ret2
    rw [← HR.out, if_pos hid]
    exact ⟨rfl, hb⟩
  rw [show (decide (1 ≤ id) && decide (id ≤ 65535)) = true from by simp; omega]
  rintro e w' ⟨rfl, rfl⟩
  go_wp2_with fail
  go_ret2
  rw [← HR.out, if_neg hid]
  exact ⟨rfl, hb⟩

set_option maxRecDepth 100000 in
set_option maxHeartbeats 1000000 in
theorem refOfId_c (b : ByteArray) (w : World) (hs : b.size ≤ 140737488351232) :
    Calls Tryd.prog 116 #[.string b] w fun e w' => e = .returned (.tuple #[.int .i64 (pOfId (sB b)).1, .int .i64 (pOfId (sB b)).2]) ∧ Below w.heap.size w w' := by
  by_cases hl : b.size = 2
  rotate_left
  · have hr : pOfId (sB b) = (0, 4) := by rw [pOfId, sB_len, if_pos hl]
    have hlb : (((b.size : Nat) : Int) != 2) = true := by simp; omega
    rw [hr]
    go_enter Tryd.func116, Tryd.ntmps116
    go_wp2_with fail
    go_ret2
    exact ⟨rfl, by go_grown⟩
  have hlb : (((b.size : Nat) : Int) != 2) = false := by simp; omega
  have hll : (sB b).length = 2 := by rw [sB_len]; exact hl
  obtain ⟨h2, h0, h1⟩ := uGet2_two hll
  obtain ⟨r, hr⟩ : ∃ r, pOfId (sB b) = r := ⟨_, rfl⟩
  rw [hr]
  rw [pOfId, if_neg (by omega)] at hr
  have HR := hd hr
  clear hll hl hr
  go_enter Tryd.func116, Tryd.ntmps116
  go_wp2_with fail
  refine upon_bytes (by omega) fun d1 k1 w1 hs1 hb1 => ?_
  go_wp2_with fail
  refine (refGet2_c _ (sB b) 0 _ hs1).mono ?_
  rw [h2]
  have hr := HR.out; clear HR
  generalize (uGet2 (sB b) 0).1 = id at hr h0 h1 ⊢
  generalize (uGet2 (sB b) 0).2.1 = k
  have HR := hd hr
  clear h2 hr
  rintro e w2 ⟨rfl, hb2⟩
  have hb := Below.up hb1 hb2
  by_cases hid : id = 0
  · subst hid
    go_wp2_with fail
    go_ret2
    rw [← HR.out, if_pos trivial]
    exact ⟨rfl, hb⟩
  have hidb : (id == 0) = false := by simpa using hid
  go_wp2_with fail
  go_ret2
  rw [← HR.out, if_neg hid]
  exact ⟨rfl, hb⟩

end Go.Proofs.YtclicjokgfiegaaDoor
