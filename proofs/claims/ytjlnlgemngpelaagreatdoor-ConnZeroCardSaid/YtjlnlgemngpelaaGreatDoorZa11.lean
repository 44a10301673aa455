/- A bundle of texts (merged for the limit on files): SubPut2, PubOf2, SubAck, SubRead, SubRefOf, PacPlain. -/
import Derived.Test.YtjlnlgemngpelaaGreatDoorZa10
import Derived.Test.YtjlnlgemngpelaaGreatDoorZa4
import Derived.Test.YtjlnlgemngpelaaGreatDoorZa5
import Derived.Test.YtjlnlgemngpelaaGreatDoorZa6
/- Wishes: what lays them: the loops of the program and of the reference. -/
namespace Go.Proofs.YtjlnlgemngpelaaGreatDoor
open Go.RowKit
set_option linter.unusedVariables false
set_option linter.unusedSimpArgs false

/-- Wishes that a slice reads as. -/
def Ws (w : World) (v : Value) (l : List Wish) : Prop := Rd w v l.length (wCells l)
theorem Ws.slice {w : World} {v : Value} {l : List Wish} (h : Ws w v l) : ∃ a c, v = .slice a l.length c := by
  obtain ⟨a, c, rfl, _⟩ := h; exact ⟨a, c, rfl⟩
theorem Ws.below' {B : Nat} {w w' : World} {v : Value} {l : List Wish} (h : Ws w v l) (hb : Below B w w') (hB : w.heap.size ≤ B) : Ws w' v l := Rd.below' h hb hB
theorem Ws.len {w : World} {v : Value} {l : List Wish} (h : Ws w v l) : l.length ≤ maxLen := Rd.len h
/-- where the k-th lies -/
theorem Ws.at {w : World} {a : Option Addr} {n c : Nat} {l : List Wish} (h : Ws w (.slice a n c) l) {k : Nat} {f : Wish} (hk : l[k]? = some f) :
    ∃ b o, a = some ⟨b, o, none⟩ ∧ b < w.heap.size ∧ w.cell? ⟨b, o + k * 2, none⟩ = some (.string f.1) ∧ w.cell? ⟨b, o + k * 2 + 1, none⟩ = some (.int .i64 f.2) := by
  have hx := wCells_at l k f hk
  have hw := @Rd.split w (.slice a n c) l.length (wCells l) h
  rcases hw with ⟨hn, _⟩ | ⟨_, b, o, c', hv, _, _, hlt, hcell⟩
  · have : l = [] := by
      have := wCells_len l
      rw [hn] at this
      simp at this
      exact List.eq_nil_of_length_eq_zero (by omega)
    subst this
    simp at hk
  · simp only [Value.slice.injEq] at hv
    refine ⟨b, o, hv.1, hlt, hcell _ _ hx.1, ?_⟩
    have := hcell _ _ hx.2
    rwa [← Nat.add_assoc] at this

theorem sbFold_at (ends : Bool) (a : List UInt8) {l : List Wish} {k : Nat} {f : Wish} (hk : l[k]? = some f) :
    sbFold ends a (l.drop k) = if (sbWish ends f).2 ≠ 0 then ([], (sbWish ends f).2) else sbFold ends (a ++ (sbWish ends f).1) (l.drop (k + 1)) := by
  have hlt : k < l.length := (List.getElem?_eq_some_iff.1 hk).1
  have hf : l[k] = f := (List.getElem?_eq_some_iff.1 hk).2
  rw [List.drop_eq_getElem_cons hlt, hf]
  rfl
theorem sbWish_len (ends : Bool) (f : Wish) : (sbWish ends f).1.length ≤ 65538 := by
  have := uPutB_short (sB f.1)
  unfold sbWish
  split
  · simp
  · split
    · simp
    · cases ends <;> simp <;> omega
theorem pIdB_len (id : Int) : (pIdB id).length ≤ 2 := by
  unfold pIdB uPut2B
  repeat' split
  all_goals simp
def leftTo (n : Nat) : Value → Nat
  | .int _ k => ((n : Int) - k).toNat
  | _ => 0
theorem sbPut_bad {id : Int} {l : List Wish} {ends : Bool} {w w' : World} (e : Int) (he : sbPutE id l ends = e) (h0 : e ≠ 0) (hb : Below w.heap.size w w') :
    GivesB w (sbPutB id l ends) (sbPutE id l ends) (.returned (.tuple #[.slice none 0 0, .int .i64 e])) w' := by
  unfold sbPutB
  rw [he, if_neg h0]
  exact GivesB.nil hb

set_option maxRecDepth 100000 in
set_option maxHeartbeats 8000000 in
theorem subsPut_c (id : Int) (v : Value) (l : List Wish) (ends : Bool) (w : World) (hE : EnvU w) (hv : Ws w v l) (hs : ∀ f ∈ l, f.1.size ≤ 140737488351232) :
    Calls Tryz.prog 78 #[.int .i64 id, v, .bool ends] w (GivesB w (sbPutB id l ends) (sbPutE id l ends)) := by
  have HE := hd hE; clear hE
  obtain ⟨a, c, rfl⟩ := hv.slice
  have hmax := hv.len
  unfold maxLen at hmax
  have HV := hd hv; clear hv
  go_enter Tryz.func78, Tryz.ntmps78
  go_wp2_with fail
  refine (subNumbered_c id _).mono ?_
  by_cases h1 : pIdE id = 0
  rotate_left
  · have heb : (pIdE id != 0) = true := by simpa using h1
    rintro e w1 ⟨v1, rfl, ho, hb⟩
    go_wp2_with fail
    go_ret2
    exact sbPut_bad _ (by rw [sbPutE, if_pos h1]) h1 hb
  rw [h1]
  rintro e w1 ⟨v1, rfl, ho, hb⟩
  go_wp2_with fail
  refine (many_c _ _).mono ?_
  by_cases h2 : sbMany l.length = 0
  rotate_left
  · have heb : (sbMany l.length != 0) = true := by simpa using h2
    rintro e w2 ⟨rfl, rfl⟩
    go_wp2_with fail
    go_ret2
    exact sbPut_bad _ (by rw [sbPutE, if_neg (by simp [h1]), if_pos h2]) h2 hb
  rw [h2]
  rintro e w2 ⟨rfl, rfl⟩
  have hl8 : 1 ≤ l.length ∧ l.length ≤ 8 := by
    unfold sbMany at h2
    split at h2
    · simp at h2
    · split at h2
      · simp at h2
      · omega
  have hsp : sbPutE id l ends = if (sbFold ends (pIdB id) l).2 ≠ 0 then (sbFold ends (pIdB id) l).2 else if 4096 < (sbFold ends (pIdB id) l).1.length then 3 else 0 := by
    rw [sbPutE, if_neg (by simp [h1]), if_neg (by simp [h2])]
  have Hsp := hd hsp; clear hsp h1 h2 hmax
  go_wp2_with fail
  go_loopw [8, 31] (fun o n w' => ∃ (k : Nat) (a : List UInt8), n = .int .i64 k ∧ k ≤ l.length ∧ Owned w.heap.size w' o a ∧ Below w.heap.size w w' ∧ a.length ≤ 2 + k * 65538 ∧ sbFold ends a (l.drop k) = sbFold ends (pIdB id) l) (fun o n _ => leftTo l.length n)
  case atStart => exact ⟨0, pIdB id, rfl, by omega, ho, hb, by have := pIdB_len id; omega, rfl⟩
  case round =>
    obtain ⟨k, A, rfl, hk, hO, hB, hA, hF⟩ := hrel
    by_cases hkl : k < l.length
    · obtain ⟨f, hf⟩ : ∃ f, l[k]? = some f := ⟨_, List.getElem?_eq_getElem hkl⟩
      have hBs := hB.size
      obtain ⟨b, o, rfl, hbl, hc0, hc1⟩ := HV.out.at hf
      replace hc0 := (bcell hB _ _ hbl).trans hc0
      replace hc1 := (bcell hB _ _ hbl).trans hc1
      have hfs := hs f (List.mem_of_getElem? hf)
      have hst := sbFold_at ends A hf
      have hwl := sbWish_len ends f
      obtain ⟨s, q⟩ := f
      simp only at hc0 hc1 hfs
      go_wp2_with fail
      refine (wish_c s q ends _ (HE.out.below (by go_grown)) hfs).mono ?_
      generalize sbWish ends (s, q) = r at hst hwl ⊢
      obtain ⟨m, e⟩ := r
      simp only at hst hwl ⊢
      rintro e' w3 ⟨v3, rfl, ho3, hb3⟩
      by_cases he : e = 0
      rotate_left
      · have heb : (e != 0) = true := by simpa using he
        rw [if_pos he, hF] at hst
        go_wp2_with fail
        go_ret2
        exact sbPut_bad e (by rw [Hsp.out, hst]; simp [he]) he (Below.up (by go_grown) hb3)
      subst he
      rw [if_neg (by simp), hF] at hst
      have hbA : Below w.heap.size w w3 := Below.up (by go_grown) hb3
      have hO3 : Owned w.heap.size w3 u8 A := hO.kept (B' := wr.heap.size) (((Below.refl _ _).alloc (Nat.le_refl _) _).trans (hb3.mono (by simp))) (Nat.le_refl _)
      have hbsz := hbA.size
      go_wp2_with (at_builtin; refine wp_appB rfl _ _ rfl w.heap.size _ A rfl hO3 _ m rfl ho3.bs (by omega) hbsz ?_; intro v4 w4 ho4 hb4)
      go_roundw
      case rel => exact ⟨k + 1, A ++ m, by congr 1, by omega, ho4, hbA.trans hb4, by simp; omega, hst.symm⟩
      case measure => simp [leftTo]; omega
    · have hke : k = l.length := by omega
      subst hke
      rw [List.drop_length] at hF
      have hF' : sbFold ends (pIdB id) l = (A, 0) := hF.symm
      obtain ⟨aa, ca, rfl⟩ := hO.bs.slice
      rw [hF'] at Hsp
      by_cases hlong : 4096 < A.length
      · go_wp2_with fail
        go_ret2
        exact sbPut_bad 3 (by rw [Hsp.out]; simp [hlong]) (by decide) (by go_grown)
      · go_wp2_with fail
        go_ret2
        have hz : sbPutE id l ends = 0 := by rw [Hsp.out]; simp [hlong]
        have hBv : sbPutB id l ends = A := by rw [sbPutB, if_pos hz, hF']
        rw [hz, hBv]
        exact ⟨_, rfl, hO, by go_grown⟩

end Go.Proofs.YtjlnlgemngpelaaGreatDoor

/- Messages: what bytes tell, by the reference; the numbers of bytes. -/
namespace Go.Proofs.YtjlnlgemngpelaaGreatDoor
open Go.RowKit
set_option linter.unusedVariables false
set_option linter.unusedSimpArgs false

set_option maxRecDepth 100000 in
set_option maxHeartbeats 1000000 in
theorem refPubOf_c (b : ByteArray) (q : Int) (w : World) (hs : b.size ≤ 140737488351232) :
    Calls Tryz.prog 99 #[.string b, .int .i64 q] w (GivesM w (sB b) q) := by
  by_cases hq : q < 0 ∨ 2 < q
  · have hs : pOf (sB b) q = ([], [], 0, 10) := by rw [pOf, if_pos hq]
    rcases hq with hq | hq
    all_goals
      go_enter Tryz.func99, Tryz.ntmps99
      go_wp2_with fail
      exact bodyPost_ret (v := .tuple #[.agg #[.string ⟨#[]⟩, .string ⟨#[]⟩, .int .i64 0, .bool false], .int .i64 0, .int .i64 10]) (by simp [results, Tryz.results99, go_sem]) rfl (GivesM.nil 10 hs (by decide) (by go_grown))
  have hq1 : 0 ≤ q := by omega
  have hq2 : q ≤ 2 := by omega
  go_enter Tryz.func99, Tryz.ntmps99
  go_wp2_with fail
  refine upon_bytes (by omega) fun d1 k1 w1 hs1 hb1 => ?_
  have hc1 := bcell hb1
  have hf1 := bfree hb1
  have hl1 : w.heap.size < w1.heap.size := by have := hb1.size; simp at this; omega
  have hb : Below w.heap.size w w1 := Below.up (by go_grown) hb1
  go_wp2_with fail
  refine (refGet_c _ (sB b) 0 _ hs1).mono ?_
  rintro e w2 ⟨rfl, hb2⟩
  have hc2 := bcell hb2
  have hf2 := bfree hb2
  have hl2 : w.heap.size < w2.heap.size := by have := hb2.size; omega
  replace hb := Below.up hb hb2
  have hg := @uGet_rng (sB b) 0
  have hgl := uGet_len (sB b) 0
  have hof : pOf (sB b) q = pOf (sB b) q := rfl
  conv at hof => rhs; rw [pOf, if_neg hq]
  generalize uGet (sB b) 0 = g at hg hgl hof ⊢
  obtain ⟨T, k, e⟩ := g
  simp only at hg hgl hof ⊢
  have Hof := hd hof; clear hof
  by_cases he : e = 0
  rotate_left
  · have heb : (e != 0) = true := by simpa using he
    go_wp2_with fail
    exact bodyPost_ret (v := .tuple #[.agg #[.string ⟨#[]⟩, .string ⟨#[]⟩, .int .i64 0, .bool false], .int .i64 0, .int .i64 e]) (by simp [results, Tryz.results99, go_sem, hc1, hc2, hl1, hl2]) rfl (GivesM.nil e (by rw [Hof.out, if_pos he]) he (by go_grown))
  subst he
  have hrg := hg rfl; clear hg
  have hbl := sB_len b
  have hk0 : 0 ≤ k := by omega
  have hk1 : k ≤ ((sB b).length : Int) := by omega
  clear hbl
  go_wp2_with fail
  refine (refNamed_c (sOf T) _ (by rw [sOf_size]; omega)).mono ?_
  rw [sB_sOf]
  by_cases hn : pName T = false
  · rw [hn]
    rintro e w3 ⟨rfl, hb3⟩
    have hc3 := bcell hb3
    have hf3 := bfree hb3
    have hl3 : w.heap.size < w3.heap.size := by have := hb3.size; omega
    go_wp2_with fail
    exact bodyPost_ret (v := .tuple #[.agg #[.string ⟨#[]⟩, .string ⟨#[]⟩, .int .i64 0, .bool false], .int .i64 0, .int .i64 13]) (by simp [results, Tryz.results99, go_sem, hc1, hc2, hc3, hl1, hl2, hl3]) rfl (GivesM.nil 13 (by rw [Hof.out, if_neg (by decide), if_pos hn]) (by decide) (by have := Below.up hb hb3; go_grown))
  rw [show pName T = true from by simpa using hn]
  rintro e w3 ⟨rfl, hb3⟩
  have hc3 := bcell hb3
  have hf3 := bfree hb3
  have hl3 : w.heap.size < w3.heap.size := by have := hb3.size; omega
  have hs3 := hs1.below' (hb2.trans (hb3.mono hb2.size)) (Nat.le_refl _)
  replace hb := Below.up hb hb3
  clear hs1 hb1 hb2
  by_cases h : q = 0
  · subst h
    obtain ⟨a', c', hsl, hsb⟩ := run_from hs3 k k.toNat (by omega) (by omega)
    have hst := run_str hsb
    go_wp2_with fail
    refine bodyPost_ret (v := .tuple #[.agg #[.string (sOf T), .string (sOf ((sB b).drop k.toNat)), .int .i64 0, .bool false], .int .i64 0, .int .i64 0]) (by simp [results, Tryz.results99, go_sem, hc1, hc2, hc3, hl1, hl2, hl3, sOf]) rfl ?_
    have hr : pOf (sB b) 0 = (T, (sB b).drop k.toNat, 0, 0) := by rw [Hof.out, if_neg (by decide), if_neg hn, if_pos trivial]
    unfold GivesM pOfQ
    rw [hr]
    exact ⟨rfl, by go_grown⟩
  have hqz : (0 : Int) < q := by omega
  go_wp2_with fail
  refine (refGet2_c _ (sB b) k _ hs3).mono ?_
  rintro e w5 ⟨rfl, hb5⟩
  have hc5 := bcell hb5
  have hf5 := bfree hb5
  have hl5 : w.heap.size < w5.heap.size := by have := hb5.size; omega
  replace hb := Below.up hb hb5
  have hs5 := hs3.below' hb5 (Nat.le_refl _)
  have hof := Hof.out; clear Hof
  rw [if_neg (by decide), if_neg hn, if_neg h] at hof
  have hg2 := @uGet2_ok (sB b) k
  generalize uGet2 (sB b) k = g at hof hg2 ⊢
  obtain ⟨id, k2, e⟩ := g
  simp only at hof hg2 ⊢
  have Hof := hd hof; clear hof
  by_cases he : e = 0
  rotate_left
  · have heb : (e != 0) = true := by simpa using he
    go_wp2_with fail
    exact bodyPost_ret (v := .tuple #[.agg #[.string ⟨#[]⟩, .string ⟨#[]⟩, .int .i64 0, .bool false], .int .i64 0, .int .i64 e]) (by simp [results, Tryz.results99, go_sem, hc1, hc2, hc3, hc5, hl1, hl2, hl3, hl5]) rfl (GivesM.nil e (by rw [Hof.out, if_pos he]) he (by go_grown))
  subst he
  obtain ⟨g1, g2, rfl, g4, g5⟩ := hg2 rfl
  clear hg2
  by_cases hid : id = 0
  · subst hid
    go_wp2_with fail
    exact bodyPost_ret (v := .tuple #[.agg #[.string ⟨#[]⟩, .string ⟨#[]⟩, .int .i64 0, .bool false], .int .i64 0, .int .i64 1]) (by simp [results, Tryz.results99, go_sem, hc1, hc2, hc3, hc5, hl1, hl2, hl3, hl5]) rfl (GivesM.nil 1 (by rw [Hof.out, if_neg (by decide), if_pos trivial]) (by decide) (by go_grown))
  have hidb : (id == 0) = false := by simpa using hid
  obtain ⟨a', c', hsl, hsb⟩ := run_from hs5 (k + 2) (k + 2).toNat (by omega) (by omega)
  have hst := run_str hsb
  go_wp2_with fail
  refine bodyPost_ret (v := .tuple #[.agg #[.string (sOf T), .string (sOf ((sB b).drop (k + 2).toNat)), .int .i64 q, .bool false], .int .i64 id, .int .i64 0]) (by simp [results, Tryz.results99, go_sem, hc1, hc2, hc3, hc5, hl1, hl2, hl3, hl5, sOf]) rfl ?_
  have hr : pOf (sB b) q = (T, (sB b).drop (k + 2).toNat, id, 0) := by rw [Hof.out, if_neg (by decide), if_neg hid]
  unfold GivesM pOfQ
  rw [hr]
  exact ⟨rfl, by go_grown⟩

set_option maxRecDepth 100000 in
set_option maxHeartbeats 1000000 in
theorem OfId_c (b : ByteArray) (w : World) (hs : b.size ≤ 140737488351232) :
    Calls Tryz.prog 128 #[.string b] w fun e w' => e = .returned (.tuple #[.int .i64 (pOfId (sB b)).1, .int .i64 (pOfId (sB b)).2]) ∧ Below w.heap.size w w' := by
  by_cases hl : b.size = 2
  rotate_left
  · have hr : pOfId (sB b) = (0, 4) := by rw [pOfId, sB_len, if_pos hl]
    have hlb : (((b.size : Nat) : Int) != 2) = true := by simp; omega
    rw [hr]
    go_enter Tryz.func128, Tryz.ntmps128
    go_wp2_with fail
    go_ret2
    exact ⟨rfl, by go_grown⟩
  have hlb : (((b.size : Nat) : Int) != 2) = false := by simp; omega
  have hll : (sB b).length = 2 := by rw [sB_len]; exact hl
  obtain ⟨h2, h0, h1⟩ := uGet2_two hll
  obtain ⟨r, hr⟩ : ∃ r, pOfId (sB b) = r := ⟨_, rfl⟩
  rw [hr]
  rw [pOfId, if_neg (by omega)] at hr
  have HR := hd hr
  clear hll hl hr
  go_enter Tryz.func128, Tryz.ntmps128
  go_wp2_with fail
  refine upon_bytes (by omega) fun d1 k1 w1 hs1 hb1 => ?_
  go_wp2_with fail
  refine (Get2_c _ (sB b) 0 _ hs1).mono ?_
  rw [h2]
  have hr := HR.out; clear HR
  generalize (uGet2 (sB b) 0).1 = id at hr h0 h1 ⊢
  generalize (uGet2 (sB b) 0).2.1 = k
  have HR := hd hr
  clear h2 hr
  rintro e w2 ⟨rfl, hb2⟩
  have hb := Below.up hb1 hb2
  go_wp2_with fail
  refine (numbered_c id _).mono ?_
  by_cases hid : id = 0
  · rw [show (decide (1 ≤ id) && decide (id ≤ 65535)) = false from by rw [hid]; decide]
    rintro e w' ⟨rfl, rfl⟩
    go_wp2_with fail
    go_ret2
    rw [← HR.out, if_pos hid]
    exact ⟨rfl, hb⟩
  rw [show (decide (1 ≤ id) && decide (id ≤ 65535)) = true from by simp; omega]
  rintro e w' ⟨rfl, rfl⟩
  go_wp2_with fail
  go_ret2
  rw [← HR.out, if_neg hid]
  exact ⟨rfl, hb⟩

set_option maxRecDepth 100000 in
set_option maxHeartbeats 1000000 in
theorem refOfId_c (b : ByteArray) (w : World) (hs : b.size ≤ 140737488351232) :
    Calls Tryz.prog 100 #[.string b] w fun e w' => e = .returned (.tuple #[.int .i64 (pOfId (sB b)).1, .int .i64 (pOfId (sB b)).2]) ∧ Below w.heap.size w w' := by
  by_cases hl : b.size = 2
  rotate_left
  · have hr : pOfId (sB b) = (0, 4) := by rw [pOfId, sB_len, if_pos hl]
    have hlb : (((b.size : Nat) : Int) != 2) = true := by simp; omega
    rw [hr]
    go_enter Tryz.func100, Tryz.ntmps100
    go_wp2_with fail
    go_ret2
    exact ⟨rfl, by go_grown⟩
  have hlb : (((b.size : Nat) : Int) != 2) = false := by simp; omega
  have hll : (sB b).length = 2 := by rw [sB_len]; exact hl
  obtain ⟨h2, h0, h1⟩ := uGet2_two hll
  obtain ⟨r, hr⟩ : ∃ r, pOfId (sB b) = r := ⟨_, rfl⟩
  rw [hr]
  rw [pOfId, if_neg (by omega)] at hr
  have HR := hd hr
  clear hll hl hr
  go_enter Tryz.func100, Tryz.ntmps100
  go_wp2_with fail
  refine upon_bytes (by omega) fun d1 k1 w1 hs1 hb1 => ?_
  go_wp2_with fail
  refine (refGet2_c _ (sB b) 0 _ hs1).mono ?_
  rw [h2]
  have hr := HR.out; clear HR
  generalize (uGet2 (sB b) 0).1 = id at hr h0 h1 ⊢
  generalize (uGet2 (sB b) 0).2.1 = k
  have HR := hd hr
  clear h2 hr
  rintro e w2 ⟨rfl, hb2⟩
  have hb := Below.up hb1 hb2
  by_cases hid : id = 0
  · subst hid
    go_wp2_with fail
    go_ret2
    rw [← HR.out, if_pos trivial]
    exact ⟨rfl, hb⟩
  have hidb : (id == 0) = false := by simpa using hid
  go_wp2_with fail
  go_ret2
  rw [← HR.out, if_neg hid]
  exact ⟨rfl, hb⟩

end Go.Proofs.YtjlnlgemngpelaaGreatDoor

/- Answers to wishes: what is laid and told: the walks of the program and of the reference (printed by wip/gen/suback.py). -/
namespace Go.Proofs.YtjlnlgemngpelaaGreatDoor
open Go.RowKit
set_option linter.unusedVariables false
set_option linter.unusedSimpArgs false

/-! ### Rows of numbers -/
def iV (n : Int) : Value := .int .i64 n
def Is (w : World) (v : Value) (l : List Int) : Prop := Rd w v l.length (l.map iV)
def OwnI (B : Nat) (w : World) (v : Value) (l : List Int) : Prop := w.ownsRow B 3 1 v l.length (l.map iV)
theorem OwnI.is {B : Nat} {w : World} {v : Value} {l : List Int} (h : OwnI B w v l) : Is w v l := Owns.rd h
theorem OwnI.kept {B B' : Nat} {w w' : World} {v : Value} {l : List Int} (h : OwnI B w v l) (hb : Below B' w w') (hB : w.heap.size ≤ B') : OwnI B w' v l := Owns.kept h hb hB
theorem OwnI.nil (B : Nat) (w : World) : OwnI B w (.slice none 0 0) [] := ⟨rfl, .inl ⟨rfl, rfl⟩⟩
theorem Is.slice {w : World} {v : Value} {l : List Int} (h : Is w v l) : ∃ a c, v = .slice a l.length c := by obtain ⟨a, c, rfl, _⟩ := h; exact ⟨a, c, rfl⟩
theorem Is.below' {B : Nat} {w w' : World} {v : Value} {l : List Int} (h : Is w v l) (hb : Below B w w') (hB : w.heap.size ≤ B) : Is w' v l := Rd.below' h hb hB
theorem Is.len {w : World} {v : Value} {l : List Int} (h : Is w v l) : l.length ≤ maxLen := Rd.len h
theorem Is.at {w : World} {a : Option Addr} {n c : Nat} {l : List Int} (h : Is w (.slice a n c) l) {k : Nat} {x : Int} (hk : l[k]? = some x) :
    ∃ b o, a = some ⟨b, o, none⟩ ∧ b < w.heap.size ∧ w.cell? ⟨b, o + k, none⟩ = some (.int .i64 x) := by
  have hw := @Rd.split w (.slice a n c) l.length (l.map iV) h
  rcases hw with ⟨hn, _⟩ | ⟨_, b, o, c', hv, _, _, hlt, hcell⟩
  · have : l = [] := by simpa using hn
    subst this
    simp at hk
  · simp only [Value.slice.injEq] at hv
    exact ⟨b, o, hv.1, hlt, hcell _ _ (by simp [hk, iV])⟩
theorem info_i64 : (Tryz.prog.info? 3).map (fun i => (i.zero, i.size, i.bytes)) = some (some (.int .i64 0), 1, 8) := by kernel_rfl

/-- append(out, x) of one number: the walk has laid a block of one cell for it. -/
theorem wp_appI1 {w : World} {ops : Array Oper} {rest : List Oper} {o : Oper} {a : Act} {Q : Exit → Act → World → Prop} (hgd : o.guard = none) (s x : Operand)
    (ho : o.op = .call { callee := .builtin .append, args := #[s, x], argTypes := #[34, 34] })
    (B : Nat) (v : Value) (l : List Int) (hv : a.eval s = v) (hown : OwnI B w v l) (X : Int) (hx : a.eval x = .slice (some ⟨w.heap.size, 0, none⟩) 1 1)
    (hlen : l.length < 1000000) (hbase : B ≤ w.heap.size)
    (h : ∀ v' w', OwnI B w' v' (l ++ [X]) → Below B w w' → wpList Tryz.prog ops Q rest (a.put o.dst v') w') : wpList Tryz.prog ops Q (o :: rest) a (w.alloc (.cells #[.int .i64 X] 3)) := by
  obtain ⟨i0, hi, hz0, hz1, hz2⟩ := info_parts info_i64
  have hb : Below B w (w.alloc (.cells #[.int .i64 X] 3)) := (Below.refl B w).alloc hbase _
  have hb' : Below w.heap.size w (w.alloc (.cells #[.int .i64 X] 3)) := (Below.refl _ w).alloc (Nat.le_refl _) _
  have hone : Rd (w.alloc (.cells #[.int .i64 X] 3)) (.slice (some ⟨w.heap.size, 0, none⟩) 1 1) 1 [.int .i64 X] :=
    Owns.rd (owns_lit w.heap.size 3 w 1 1 [.int .i64 X] w.heap.size rfl (Nat.le_refl _) (by unfold maxLen; simp) rfl)
  refine wp_app hgd s x 34 ho B 3 i0 (.int .i64 0) 1 8 Tryz.underlying34 hi hz0 hz1 hz2 rfl (by decide) v l.length (l.map iV) hv (hown.kept hb' (Nat.le_refl _)) _ 1 [.int .i64 X] hx hone rfl (by intro u hu; simp at hu; subst hu; rfl) (by omega) (by unfold maxLen; omega) (by simp; omega) ?_
  intro v' w' h1 h2 _
  refine h v' w' ?_ (hb.trans h2)
  unfold OwnI
  rw [List.length_append, List.map_append]
  exact h1

theorem sbCoded_iff (n : Int) : sbCoded n = true ↔ (0 ≤ n ∧ n ≤ 2) ∨ n = 128 := by unfold sbCoded; simp

set_option maxRecDepth 100000 in
theorem coded_c (n : Int) (w : World) : Calls Tryz.prog 119 #[.int .i64 n] w fun e w' => e = .returned (.bool (sbCoded n)) ∧ w = w' := by
  have hi := sbCoded_iff n
  by_cases h0 : n = 128
  · subst h0
    have hc := hd (show sbCoded 128 = true by decide)
    clear hi
    go_enter Tryz.func119, Tryz.ntmps119
    go_wp2_with fail
    go_ret
    exact ⟨ret_bool hc.out.symm, rfl⟩
  have h0b : (n == 128) = false := by simpa using h0
  by_cases h1 : 0 ≤ n
  · by_cases h2 : n ≤ 2
    · have hc := hd (hi.2 (.inl ⟨h1, h2⟩))
      clear hi
      go_enter Tryz.func119, Tryz.ntmps119
      go_wp2_with fail
      go_ret
      exact ⟨ret_bool hc.out.symm, rfl⟩
    · have hc := hd (show sbCoded n = false by rw [← Bool.not_eq_true, hi]; omega)
      clear hi
      go_enter Tryz.func119, Tryz.ntmps119
      go_wp2_with fail
      go_ret
      exact ⟨ret_bool hc.out.symm, rfl⟩
  · have hc := hd (show sbCoded n = false by rw [← Bool.not_eq_true, hi]; omega)
    clear hi
    go_enter Tryz.func119, Tryz.ntmps119
    go_wp2_with fail
    go_ret
    exact ⟨ret_bool hc.out.symm, rfl⟩

set_option maxRecDepth 100000 in
theorem refCoded_c (n : Int) (w : World) : Calls Tryz.prog 138 #[.int .i64 n] w fun e w' => e = .returned (.bool (sbCoded n)) ∧ w = w' := by
  have hi := sbCoded_iff n
  by_cases h0 : n = 128
  · subst h0
    have hc := hd (show sbCoded 128 = true by decide)
    clear hi
    go_enter Tryz.func138, Tryz.ntmps138
    go_wp2_with fail
    go_ret
    exact ⟨ret_bool hc.out.symm, rfl⟩
  have h0b : (n == 128) = false := by simpa using h0
  by_cases h1 : 0 ≤ n
  · by_cases h2 : n ≤ 2
    · have hc := hd (hi.2 (.inl ⟨h1, h2⟩))
      clear hi
      go_enter Tryz.func138, Tryz.ntmps138
      go_wp2_with fail
      go_ret
      exact ⟨ret_bool hc.out.symm, rfl⟩
    · have hc := hd (show sbCoded n = false by rw [← Bool.not_eq_true, hi]; omega)
      clear hi
      go_enter Tryz.func138, Tryz.ntmps138
      go_wp2_with fail
      go_ret
      exact ⟨ret_bool hc.out.symm, rfl⟩
  · have hc := hd (show sbCoded n = false by rw [← Bool.not_eq_true, hi]; omega)
    clear hi
    go_enter Tryz.func138, Tryz.ntmps138
    go_wp2_with fail
    go_ret
    exact ⟨ret_bool hc.out.symm, rfl⟩

theorem sbAckFold_at (a : List UInt8) {l : List Int} {k : Nat} {x : Int} (hk : l[k]? = some x) :
    sbAckFold a (l.drop k) = if sbCoded x = false then ([], 5) else sbAckFold (a ++ [B8 x.toNat]) (l.drop (k + 1)) := by
  have hlt : k < l.length := (List.getElem?_eq_some_iff.1 hk).1
  have hf : l[k] = x := (List.getElem?_eq_some_iff.1 hk).2
  rw [List.drop_eq_getElem_cons hlt, hf]
  rfl
theorem sbAck_bad {id : Int} {l : List Int} {w w' : World} (e : Int) (he : sbAckE id l = e) (h0 : e ≠ 0) (hb : Below w.heap.size w w') :
    GivesB w (sbAckB id l) (sbAckE id l) (.returned (.tuple #[.slice none 0 0, .int .i64 e])) w' := by
  unfold sbAckB
  rw [he, if_neg h0]
  exact GivesB.nil hb

set_option maxRecDepth 100000 in
set_option maxHeartbeats 8000000 in
theorem subPutAck_c (id : Int) (v : Value) (l : List Int) (w : World) (hv : Is w v l) :
    Calls Tryz.prog 79 #[.int .i64 id, v] w (GivesB w (sbAckB id l) (sbAckE id l)) := by
  obtain ⟨a, c, rfl⟩ := hv.slice
  have hmax := hv.len
  unfold maxLen at hmax
  have hmx : l.length ≤ 9223372036854775807 := by omega
  have HV := hd hv; clear hv hmax
  go_enter Tryz.func79, Tryz.ntmps79
  go_wp2_with fail
  refine (subNumbered_c id _).mono ?_
  by_cases h1 : pIdE id = 0
  rotate_left
  · have heb : (pIdE id != 0) = true := by simpa using h1
    rintro e w1 ⟨v1, rfl, ho, hb⟩
    go_wp2_with fail
    go_ret2
    exact sbAck_bad _ (by rw [sbAckE, if_pos h1]) h1 hb
  rw [h1]
  rintro e w1 ⟨v1, rfl, ho, hb⟩
  go_wp2_with fail
  refine (many_c _ _).mono ?_
  by_cases h2 : sbMany l.length = 0
  rotate_left
  · have heb : (sbMany l.length != 0) = true := by simpa using h2
    rintro e w2 ⟨rfl, rfl⟩
    go_wp2_with fail
    go_ret2
    exact sbAck_bad _ (by rw [sbAckE, if_neg (by simp [h1]), if_pos h2]) h2 hb
  rw [h2]
  rintro e w2 ⟨rfl, rfl⟩
  have hl8 : 1 ≤ l.length ∧ l.length ≤ 8 := by
    unfold sbMany at h2
    split at h2
    · simp at h2
    · split at h2
      · simp at h2
      · omega
  have hm := h2
  have hsp : sbAckE id l = (sbAckFold (pIdB id) l).2 := by
    rw [sbAckE, if_neg (by simp [h1]), if_neg (by simp [hm])]
  have Hsp := hd hsp; clear hsp h1 h2 hm hmx
  go_wp2_with fail
  go_loopw [6, 27] (fun o n w' => ∃ (k : Nat) (a : List UInt8), n = .int .i64 k ∧ k ≤ l.length ∧ Owned w.heap.size w' o a ∧ Below w.heap.size w w' ∧ a.length ≤ 2 + k ∧ sbAckFold a (l.drop k) = sbAckFold (pIdB id) l) (fun o n _ => leftTo l.length n)
  case atStart => exact ⟨0, pIdB id, rfl, by omega, ho, hb, by have := pIdB_len id; omega, rfl⟩
  case round =>
    obtain ⟨k, A, rfl, hk, hO, hB, hA, hF⟩ := hrel
    by_cases hkl : k < l.length
    · obtain ⟨x, hf⟩ : ∃ x, l[k]? = some x := ⟨_, List.getElem?_eq_getElem hkl⟩
      have hBs := hB.size
      obtain ⟨b, o, rfl, hbl, hc0⟩ := HV.out.at hf
      replace hc0 := (bcell hB _ _ hbl).trans hc0
      have hst := sbAckFold_at A hf
      have hbA := hd hB
      go_wp2_with fail
      refine (coded_c x _).mono ?_
      by_cases hcd : sbCoded x = false
      · rw [hcd]
        rintro e' w3 ⟨rfl, rfl⟩
        rw [if_pos hcd, hF] at hst
        go_wp2_with fail
        go_ret2
        exact sbAck_bad 5 (by rw [Hsp.out, hst]) (by decide) (by go_grown)
      have hct : sbCoded x = true := by simpa using hcd
      have hxr := (sbCoded_iff x).1 hct
      have hx0 : 0 ≤ x := by omega
      have hx1 : x ≤ 255 := by omega
      rw [hct]
      rintro e' w3 ⟨rfl, rfl⟩
      rw [if_neg hcd, hF] at hst
      have hq8 := u8_wrap (n := x) (by omega)
      have hbv := byteV_B8 (n := x.toNat) (by omega) (x := x) (by omega)
      go_wp2_with (at_builtin; refine wp_appB1 rfl _ _ rfl w.heap.size _ A rfl hO x (B8 x.toNat) hbv.symm rfl (by omega) hBs ?_; intro v4 w4 ho4 hb4)
      go_roundw
      case rel => exact ⟨k + 1, A ++ [B8 x.toNat], by congr 1, by omega, ho4, hB.trans hb4, by simp; omega, hst.symm⟩
      case measure => simp [leftTo]; omega
    · have hke : k = l.length := by omega
      subst hke
      rw [List.drop_length] at hF
      have hF' : sbAckFold (pIdB id) l = (A, 0) := hF.symm
      have hz : sbAckE id l = 0 := by rw [Hsp.out, hF']
      have hBv : sbAckB id l = A := by rw [sbAckB, if_pos hz, hF']
      have Hz := hd hz; have HBv := hd hBv
      clear hz hBv hF hF' Hsp
      go_wp2_with fail
      go_ret2
      rw [Hz.out, HBv.out]
      exact ⟨_, rfl, hO, by go_grown⟩

theorem extract_to (s : ByteArray) (n : Nat) : s.extract 0 n = sOf ((sB s).take n) := by
  have h : sB (s.extract 0 n) = (sB s).take n := by simp [sB]
  have e : ∀ t : ByteArray, sOf (sB t) = t := fun t => by cases t; simp [sOf, sB]
  rw [← e (s.extract 0 n), h]
theorem uGet2_zero {l : List UInt8} (h : 2 ≤ l.length) : uGet2 l 0 = (256 * (bN l 0 : Int) + bN l 1, 2, 0) := by
  unfold uGet2; rw [if_neg (by omega), if_neg (by omega)]; rfl
theorem sbBegin_rng {l : List UInt8} (h : (sbBegin l).2 = 0) : 2 ≤ l.length ∧ 1 ≤ (sbBegin l).1 ∧ (sbBegin l).1 ≤ 65535 := by
  have b0 := bN_lt l 0; have b1 := bN_lt l 1
  unfold sbBegin at h ⊢
  by_cases h1 : l.length < 2
  · rw [if_pos h1] at h; simp at h
  rw [if_neg h1] at h ⊢
  by_cases h2 : (256 * (bN l 0 : Int) + bN l 1) = 0
  · rw [if_pos h2] at h; simp at h
  rw [if_neg h2]; simp only; omega
theorem sbBegin_two (l : List UInt8) (h : 2 ≤ l.length) : sbBegin l = pOfId (l.take 2) := by
  have e : (l.take 2).length = 2 := by simp; omega
  have b0 : bN (l.take 2) 0 = bN l 0 := by unfold bN; rw [List.getD_eq_getElem?_getD, List.getD_eq_getElem?_getD, List.getElem?_take]; simp
  have b1 : bN (l.take 2) 1 = bN l 1 := by unfold bN; rw [List.getD_eq_getElem?_getD, List.getD_eq_getElem?_getD, List.getElem?_take]; simp
  unfold sbBegin pOfId
  rw [if_neg (by omega), if_neg (show ¬ (l.take 2).length ≠ 2 by rw [e]; simp), uGet2_zero (by omega), b0, b1]

set_option maxRecDepth 100000 in
set_option maxHeartbeats 2000000 in
theorem subBegin_c (s : ByteArray) (w : World) (hs : s.size ≤ 140737488351232) :
    Calls Tryz.prog 150 #[.string s] w fun e w' => e = .returned (.tuple #[.int .i64 (sbBegin (sB s)).1, .int .i64 (sbBegin (sB s)).2]) ∧ Below w.heap.size w w' := by
  have hsl : Hd ((sB s).length = s.size) := sB_len s
  by_cases hl : s.size < 2
  · have hr : sbBegin (sB s) = (0, 2) := by rw [sbBegin, sB_len, if_pos hl]
    rw [hr]
    go_enter Tryz.func150, Tryz.ntmps150
    go_wp2_with fail
    go_ret2
    exact ⟨rfl, by go_grown⟩
  have hg := uGet2_zero (l := sB s) (by have := hsl.out; omega)
  have hr : sbBegin (sB s) = if (256 * (bN (sB s) 0 : Int) + bN (sB s) 1) = 0 then (0, 1) else (256 * (bN (sB s) 0 : Int) + bN (sB s) 1, 0) := by rw [sbBegin, sB_len, if_neg hl]
  generalize (256 * (bN (sB s) 0 : Int) + bN (sB s) 1) = id at hg hr
  have HG := hd hg; clear hg
  by_cases hid : id = 0
  · subst hid
    rw [hr, if_pos rfl]
    clear hr
    go_enter Tryz.func150, Tryz.ntmps150
    go_wp2_with fail
    refine upon_bytes (by omega) fun d1 k1 w1 hs1 hb1 => ?_
    go_wp2_with fail
    refine (Get2_c _ (sB s) 0 _ hs1).mono ?_
    rw [HG.out]
    rintro e w2 ⟨rfl, hb2⟩
    have hb := Below.up hb1 hb2
    go_wp2_with fail
    go_ret2
    exact ⟨rfl, hb⟩
  · have hidb : (id == 0) = false := by simpa using hid
    rw [hr, if_neg hid]
    clear hr hid
    go_enter Tryz.func150, Tryz.ntmps150
    go_wp2_with fail
    refine upon_bytes (by omega) fun d1 k1 w1 hs1 hb1 => ?_
    go_wp2_with fail
    refine (Get2_c _ (sB s) 0 _ hs1).mono ?_
    rw [HG.out]
    rintro e w2 ⟨rfl, hb2⟩
    have hb := Below.up hb1 hb2
    go_wp2_with fail
    go_ret2
    exact ⟨rfl, hb⟩

set_option maxRecDepth 100000 in
set_option maxHeartbeats 2000000 in
theorem refBegin_c (s : ByteArray) (w : World) (hs : s.size ≤ 140737488351232) :
    Calls Tryz.prog 137 #[.string s] w fun e w' => e = .returned (.tuple #[.int .i64 (sbBegin (sB s)).1, .int .i64 (sbBegin (sB s)).2]) ∧ Below w.heap.size w w' := by
  by_cases hl : s.size < 2
  · have hr : sbBegin (sB s) = (0, 2) := by rw [sbBegin, sB_len, if_pos hl]
    rw [hr]
    go_enter Tryz.func137, Tryz.ntmps137
    go_wp2_with fail
    go_ret2
    exact ⟨rfl, by go_grown⟩
  have hr : sbBegin (sB s) = pOfId ((sB s).take 2) := sbBegin_two _ (by rw [sB_len]; omega)
  rw [hr]
  clear hr
  have hsl : ∀ W : World, (Instr.slice 9 (.string s) none (some (.int .i64 2)) none).run Tryz.prog W = .ok (.string (sOf ((sB s).take 2))) W := by
    intro W
    rw [run_slice_string_h W 9 s Tryz.underlying9 .i64 2 (by omega) (by omega)]
    exact congrArg (fun x => Result.ok (Value.string x) W) (extract_to s 2)
  go_enter Tryz.func137, Tryz.ntmps137
  go_wp2_with fail
  refine (refOfId_c (sOf ((sB s).take 2)) _ (by rw [sOf_size]; simp; omega)).mono ?_
  rw [sB_sOf]
  rintro e w2 ⟨rfl, hb2⟩
  go_wp2_with fail
  go_ret2
  exact ⟨rfl, hb2⟩

end Go.Proofs.YtjlnlgemngpelaaGreatDoor

/- Wishes: what bytes tell: a filter read; lists of filters compared; the reference's Of. -/
namespace Go.Proofs.YtjlnlgemngpelaaGreatDoor
open Go.RowKit
set_option linter.unusedVariables false
set_option linter.unusedSimpArgs false

/-! ### Rows of wishes of one's own -/
def OwnW (B : Nat) (w : World) (v : Value) (l : List Wish) : Prop := w.ownsRow B 76 2 v l.length (wCells l)
theorem OwnW.ws {B : Nat} {w : World} {v : Value} {l : List Wish} (h : OwnW B w v l) : Ws w v l := Owns.rd h
theorem OwnW.kept {B B' : Nat} {w w' : World} {v : Value} {l : List Wish} (h : OwnW B w v l) (hb : Below B' w w') (hB : w.heap.size ≤ B') : OwnW B w' v l := Owns.kept h hb hB
theorem OwnW.nil (B : Nat) (w : World) : OwnW B w (.slice none 0 0) [] := ⟨rfl, .inl ⟨rfl, rfl⟩⟩
theorem info_filter : (Tryz.prog.info? 76).map (fun i => (i.zero, i.size, i.bytes)) = some (some (.agg #[.string ⟨#[]⟩, .int .i64 0]), 2, 24) := by kernel_rfl
/-- append(out, f) of one wish: the walk has laid a block of its cells for it. -/
theorem wp_appW1 {w : World} {ops : Array Oper} {rest : List Oper} {o : Oper} {a : Act} {Q : Exit → Act → World → Prop} (hgd : o.guard = none) (s x : Operand)
    (ho : o.op = .call { callee := .builtin .append, args := #[s, x], argTypes := #[33, 33] })
    (B : Nat) (v : Value) (l : List Wish) (hv : a.eval s = v) (hown : OwnW B w v l) (T : ByteArray) (X : Int) (hx : a.eval x = .slice (some ⟨w.heap.size, 0, none⟩) 1 1)
    (hlen : l.length < 1000000) (hbase : B ≤ w.heap.size)
    (h : ∀ v' w', OwnW B w' v' (l ++ [(T, X)]) → Below B w w' → wpList Tryz.prog ops Q rest (a.put o.dst v') w') : wpList Tryz.prog ops Q (o :: rest) a (w.alloc (.cells #[.string T, .int .i64 X] 76)) := by
  obtain ⟨i0, hi, hz0, hz1, hz2⟩ := info_parts info_filter
  have hb : Below B w (w.alloc (.cells #[.string T, .int .i64 X] 76)) := (Below.refl B w).alloc hbase _
  have hb' : Below w.heap.size w (w.alloc (.cells #[.string T, .int .i64 X] 76)) := (Below.refl _ w).alloc (Nat.le_refl _) _
  have hone : Rd (w.alloc (.cells #[.string T, .int .i64 X] 76)) (.slice (some ⟨w.heap.size, 0, none⟩) 1 1) 1 [.string T, .int .i64 X] :=
    Owns.rd (owns_lit w.heap.size 76 w 2 1 [.string T, .int .i64 X] w.heap.size rfl (Nat.le_refl _) (by unfold maxLen; simp) rfl)
  refine wp_app hgd s x 33 ho B 76 i0 (.agg #[.string ⟨#[]⟩, .int .i64 0]) 2 24 Tryz.underlying33 hi hz0 hz1 hz2 rfl (by decide) v l.length (wCells l) hv (hown.kept hb' (Nat.le_refl _)) _ 1 [.string T, .int .i64 X] hx hone rfl (by intro u hu; simp at hu; rcases hu with rfl | rfl <;> rfl) (by omega) (by unfold maxLen; omega) (by simp; omega) ?_
  intro v' w' h1 h2 _
  refine h v' w' ?_ (hb.trans h2)
  unfold OwnW
  rw [List.length_append, wCells_append]
  exact h1

/-! ### Lists of wishes compared -/
theorem take_moreW {a b : List Wish} {k : Nat} {x : Wish} (h : a.take k = b.take k) (ha : a[k]? = some x) (hb : b[k]? = some x) : a.take (k + 1) = b.take (k + 1) := by
  rw [List.take_add_one, List.take_add_one, h, ha, hb]
instance : DecidableEq ByteArray := fun a b => decidable_of_iff (a.data = b.data) ⟨fun h => by cases a; cases b; simp_all, fun h => by rw [h]⟩

def GivesRd (w : World) (r : Wish × Int × Int) (e : Ending) (w' : World) : Prop :=
  e = .returned (.tuple #[.agg #[.string r.1.1, .int .i64 r.1.2], .int .i64 r.2.1, .int .i64 r.2.2]) ∧ Below w.heap.size w w'
theorem GivesRd.mk {w w' : World} {r : Wish × Int × Int} {T : ByteArray} {q t e : Int} (h : r = ((T, q), t, e)) (hb : Below w.heap.size w w') : GivesRd w r (.returned (.tuple #[.agg #[.string T, .int .i64 q], .int .i64 t, .int .i64 e])) w' := by
  subst h; exact ⟨rfl, hb⟩

set_option maxRecDepth 100000 in
set_option maxHeartbeats 4000000 in
theorem read_c (v : Value) (l : List UInt8) (at' : Int) (ends : Bool) (w : World) (hE : EnvU w) (hv : Bs w v l) (hlm : l.length ≤ 140737488355328) :
    Calls Tryz.prog 162 #[v, .int .i64 at', .bool ends] w (GivesRd w (sbRead l at' ends)) := by
  have HE := hd hE; clear hE
  obtain ⟨a, c, rfl⟩ := hv.slice
  have hsp : sbRead l at' ends = sbRead l at' ends := rfl
  conv at hsp => rhs; rw [sbRead]
  have hrg := @uGet_rng l at'
  generalize sbRead l at' ends = R at hsp ⊢
  have Hsp := hd hsp; clear hsp
  go_enter Tryz.func162, Tryz.ntmps162
  go_wp2_with fail
  refine (Get_c _ l at' _ (HE.out.below (by go_grown)) (hv.below' ((Below.refl _ w).alloc (Nat.le_refl _) _) (Nat.le_refl _))).mono ?_
  have hsp := Hsp.out; clear Hsp
  generalize uGet l at' = g at hsp hrg ⊢
  obtain ⟨T, n, e⟩ := g
  simp only at hsp hrg ⊢
  have Hsp := hd hsp; clear hsp
  rintro e' w1 ⟨rfl, hb1⟩
  have hc1 := bcell hb1
  have hf1 := bfree hb1
  have hl1 : w.heap.size < w1.heap.size := by have := hb1.size; simp at this; omega
  have hb : Below w.heap.size w w1 := Below.up (by go_grown) hb1
  have hv1 := hv.below' hb (Nat.le_refl _)
  clear hb1 hv
  by_cases he : e = 0
  rotate_left
  · have heb : (e != 0) = true := by simpa using he
    clear hrg
    go_wp2_with fail
    exact bodyPost_ret (v := .tuple #[.agg #[.string ⟨#[]⟩, .int .i64 0], .int .i64 0, .int .i64 e]) (by simp [results, Tryz.results162, go_sem, hc1, hl1]) rfl (GivesRd.mk (by rw [Hsp.out, if_pos he]) (by go_grown))
  subst he
  obtain ⟨g1, g2, g3⟩ := hrg rfl
  clear hrg
  have Hsp2 := hd (Hsp.out.trans (if_neg (by simp))); clear Hsp
  cases ends
  rotate_left
  · clear g1 g2 g3 hlm
    go_wp2_with fail
    exact bodyPost_ret (v := .tuple #[.agg #[.string (sOf T), .int .i64 0], .int .i64 n, .int .i64 0]) (by simp [results, Tryz.results162, go_sem, hc1, hl1]) rfl (GivesRd.mk (by rw [Hsp2.out]; simp) (by go_grown))
  have Hsp3 := hd (Hsp2.out.trans (if_neg (by simp))); clear Hsp2
  obtain ⟨k, rfl⟩ := Int.eq_ofNat_of_zero_le (show 0 ≤ n by omega)
  rw [Int.toNat_natCast] at Hsp3
  by_cases hk : (l.length : Int) ≤ k
  · clear g1 g2 g3 hlm
    go_wp2_with fail
    exact bodyPost_ret (v := .tuple #[.agg #[.string ⟨#[]⟩, .int .i64 0], .int .i64 0, .int .i64 2]) (by simp [results, Tryz.results162, go_sem, hc1, hl1]) rfl (GivesRd.mk (by rw [Hsp3.out, if_pos hk]) (by go_grown))
  have hkl : k < l.length := by omega
  have Hsp4 := hd (Hsp3.out.trans (if_neg hk)); clear Hsp3
  have hx0 : (0 : Int) ≤ (bN l k : Int) := by omega
  have hx1 : (bN l k : Int) ≤ 255 := by have := bN_lt l k; omega
  obtain ⟨bb, oo, rfl, hcell⟩ : ∃ bb oo, a = some ⟨bb, oo, none⟩ ∧ w1.cell? ⟨bb, oo + k, none⟩ = some (.int .u8 (bN l k)) := by
    rcases hv1.split with ⟨hn, _⟩ | ⟨_, b, o, c, hv, _, _, _, hcell⟩
    · rw [hn] at hkl; simp at hkl
    · simp only [Value.slice.injEq] at hv; exact ⟨b, o, hv.1, hcell k hkl⟩
  have hgt : (2 < bN l k) ↔ ((2 : Int) < (bN l k : Int)) := by omega
  clear hv1 g1 g2 g3 hk
  generalize hx : (bN l k : Int) = x at *
  have Hx := hd hx; clear hx
  by_cases h2 : 2 < x
  · have Hsp5 := hd (Hsp4.out.trans (if_pos (hgt.2 h2))); clear Hsp4 hgt
    go_wp2_with fail
    exact bodyPost_ret (v := .tuple #[.agg #[.string ⟨#[]⟩, .int .i64 0], .int .i64 0, .int .i64 5]) (by simp [results, Tryz.results162, go_sem, hc1, hl1]) rfl (GivesRd.mk Hsp5.out (by go_grown))
  · have Hsp5 := hd (Hsp4.out.trans (if_neg (fun h => h2 (hgt.1 h)))); clear Hsp4 hgt
    go_wp2_with fail
    exact bodyPost_ret (v := .tuple #[.agg #[.string (sOf T), .int .i64 x], .int .i64 (k + 1), .int .i64 0]) (by simp [results, Tryz.results162, go_sem, hc1, hl1]) rfl (GivesRd.mk Hsp5.out (by go_grown))
end Go.Proofs.YtjlnlgemngpelaaGreatDoor

/- Wishes: what bytes tell, by the reference: the walk of its Of. -/
namespace Go.Proofs.YtjlnlgemngpelaaGreatDoor
open Go.RowKit
set_option linter.unusedVariables false
set_option linter.unusedSimpArgs false

/-- filters one behind another: those that came, the error -/
def sbAll (ends : Bool) (l : List UInt8) : Nat → List Wish → Int → List Wish × Int
  | 0, a, _ => (a, 0)
  | n + 1, a, at' =>
    if (l.length : Int) ≤ at' then (a, 0) else if 8 ≤ a.length then ([], 6)
    else if (sbRead l at' ends).2.2 ≠ 0 then ([], (sbRead l at' ends).2.2) else sbAll ends l n (a ++ [(sbRead l at' ends).1]) (sbRead l at' ends).2.1
def sbOf (l : List UInt8) (ends : Bool) : Int × List Wish × Int :=
  if (sbBegin l).2 ≠ 0 then (0, [], (sbBegin l).2)
  else if (sbAll ends l 9 [] 2).2 ≠ 0 then (0, [], (sbAll ends l 9 [] 2).2)
  else if (sbAll ends l 9 [] 2).1 = [] then (0, [], 4) else ((sbBegin l).1, (sbAll ends l 9 [] 2).1, 0)
theorem sbAll_end {ends : Bool} {l : List UInt8} {a : List Wish} {at' : Int} (ha : a.length ≤ 8) (h : (l.length : Int) ≤ at') : sbAll ends l (9 - a.length) a at' = (a, 0) := by
  obtain ⟨n, hn⟩ : ∃ n, 9 - a.length = n + 1 := ⟨8 - a.length, by omega⟩
  rw [hn, sbAll, if_pos h]
theorem sbAll_full {ends : Bool} {l : List UInt8} {a : List Wish} {at' : Int} (ha : a.length = 8) (h : at' < (l.length : Int)) : sbAll ends l (9 - a.length) a at' = ([], 6) := by
  rw [ha, show 9 - 8 = 0 + 1 from rfl, sbAll, if_neg (by omega), if_pos (by omega)]
theorem sbAll_bad {ends : Bool} {l : List UInt8} {a : List Wish} {at' : Int} (ha : a.length < 8) (h : at' < (l.length : Int)) (he : (sbRead l at' ends).2.2 ≠ 0) : sbAll ends l (9 - a.length) a at' = ([], (sbRead l at' ends).2.2) := by
  obtain ⟨n, hn⟩ : ∃ n, 9 - a.length = n + 1 := ⟨8 - a.length, by omega⟩
  rw [hn, sbAll, if_neg (by omega), if_neg (by omega), if_pos he]
theorem sbAll_more {ends : Bool} {l : List UInt8} {a : List Wish} {at' : Int} (ha : a.length < 8) (h : at' < (l.length : Int)) (he : (sbRead l at' ends).2.2 = 0) :
    sbAll ends l (9 - a.length) a at' = sbAll ends l (9 - (a ++ [(sbRead l at' ends).1]).length) (a ++ [(sbRead l at' ends).1]) (sbRead l at' ends).2.1 := by
  obtain ⟨n, hn⟩ : ∃ n, 9 - a.length = n + 1 := ⟨8 - a.length, by omega⟩
  have hn2 : 9 - (a ++ [(sbRead l at' ends).1]).length = n := by rw [List.length_append]; simp; omega
  rw [hn2, hn, sbAll, if_neg (by omega), if_neg (by omega), if_neg (by simp [he])]

theorem OwnW.le {B B' : Nat} {w : World} {v : Value} {l : List Wish} (h : OwnW B w v l) (hB : B' ≤ B) : OwnW B' w v l := Owns.le h hB
def GivesW (w : World) (r : Int × List Wish × Int) (e : Ending) (w' : World) : Prop :=
  ∃ v, e = .returned (.tuple #[.int .i64 r.1, v, .int .i64 r.2.2]) ∧ OwnW w.heap.size w' v r.2.1 ∧ Below w.heap.size w w'
theorem GivesW.nil {w w' : World} {r : Int × List Wish × Int} (e : Int) (h : r = (0, [], e)) (hb : Below w.heap.size w w') : GivesW w r (.returned (.tuple #[.int .i64 0, .slice none 0 0, .int .i64 e])) w' := by
  subst h; exact ⟨_, rfl, OwnW.nil _ _, hb⟩

set_option maxRecDepth 100000 in
set_option maxHeartbeats 16000000 in
theorem refSubsOf_c (s : ByteArray) (ends : Bool) (w : World) (hs : s.size ≤ 140737488351232) :
    Calls Tryz.prog 101 #[.string s, .bool ends] w (GivesW w (sbOf (sB s) ends)) := by
  have hsl : Hd ((sB s).length = s.size) := sB_len s
  have hbr := @sbBegin_rng (sB s)
  have hof : sbOf (sB s) ends = sbOf (sB s) ends := rfl
  conv at hof => rhs; rw [sbOf]
  generalize sbOf (sB s) ends = R at hof ⊢
  have HO := hd hof; clear hof
  go_enter Tryz.func101, Tryz.ntmps101
  go_wp2_with fail
  refine (refBegin_c s _ hs).mono ?_
  generalize sbBegin (sB s) = g at hbr HO ⊢
  obtain ⟨id, e⟩ := g
  simp only at hbr HO ⊢
  rintro e' w1 ⟨rfl, hb⟩
  by_cases he : e = 0
  rotate_left
  · have heb : (e != 0) = true := by simpa using he
    go_wp2_with fail
    go_ret3
    exact GivesW.nil e (by rw [HO.out, if_pos he]) hb
  subst he
  have h2l := (hbr rfl).1
  clear hbr
  have HO2 := hd (HO.out.trans (if_neg (by simp))); clear HO
  go_wp2_with fail
  refine upon_bytes (by omega) fun d1 k1 w2 hs2 hb2 => ?_
  have hb12 : Below w.heap.size w w2 := Below.up hb hb2
  have hll : (sB s).length ≤ 140737488351232 := by rw [hsl.out]; exact hs
  clear hb hb2
  generalize sB s = l at *
  have HV := hd hs2; clear hs2 hsl
  have H2 := hd h2l; have HL := hd hll; clear h2l hll hs
  go_wp2_with fail
  go_loopw [10, 11] (fun o n w' => ∃ (k : Nat) (a : List Wish), n = .int .i64 k ∧ 2 ≤ k ∧ k ≤ l.length ∧ OwnW w2.heap.size w' o a ∧ Below w2.heap.size w2 w' ∧ a.length ≤ 8 ∧ sbAll ends l (9 - a.length) a k = sbAll ends l 9 [] 2) (fun o n _ => leftTo l.length n)
  case atStart => exact ⟨2, [], rfl, by omega, by have := H2.out; omega, OwnW.nil _ _, Below.refl _ _, by simp, rfl⟩
  case round =>
    obtain ⟨k, A, rfl, hk2, hk, hO, hB, hA, hF⟩ := hrel
    have hBs := hB.size
    have hbw : Below w.heap.size w wr := Below.up hb12 hB
    have hbs := hbw.size
    obtain ⟨aa, ac, rfl⟩ := hO.ws.slice
    by_cases hkl : k < l.length
    rotate_left
    · have hke : k = l.length := by omega
      subst hke
      rw [sbAll_end hA (by omega)] at hF
      have HO3 := HO2.out; clear HO2
      rw [← hF, if_neg (by simp)] at HO3
      simp only at HO3
      have HO4 := hd HO3; clear HO3
      by_cases hA0 : A = []
      · subst hA0
        go_wp2_with fail
        go_ret3
        exact GivesW.nil 4 (by rw [HO4.out]; simp) hbw
      · have hA0b : ((A.length : Int) == 0) = false := by simpa using hA0
        go_wp2_with fail
        go_ret3
        rw [HO4.out, if_neg hA0]
        exact ⟨_, rfl, hO.le hb12.size, hbw⟩
    by_cases hA8 : A.length = 8
    · rw [sbAll_full hA8 (by omega)] at hF
      have HO3 := HO2.out; clear HO2
      rw [← hF, if_pos (by simp)] at HO3
      have HO4 := hd HO3; clear HO3
      have hA8b : (8 : Int) ≤ (A.length : Int) := by omega
      go_wp2_with fail
      go_ret3
      exact GivesW.nil 6 HO4.out hbw
    have hA7 : A.length < 8 := by omega
    have hvr := HV.out.below' hB (Nat.le_refl _)
    have hrd : sbRead l k ends = sbRead l k ends := rfl
    conv at hrd => rhs; rw [sbRead]
    have hbad := @sbAll_bad ends l A k hA7 (by omega)
    have hmore := @sbAll_more ends l A k hA7 (by omega)
    have hrr := @sbRead_rng l k ends
    generalize sbRead l k ends = r at hrd hbad hmore hrr
    rw [hF] at hbad hmore
    have HRD := hd hrd; have HBAD := hd hbad; have HMORE := hd hmore; have HRR := hd hrr; clear hrd hbad hmore hrr hF
    have hrg := @uGet_rng l (k : Int)
    go_wp2_with fail
    refine (refGet_c _ l k _ hvr).mono ?_
    have hrd := HRD.out; clear HRD
    generalize uGet l (k : Int) = g at hrd hrg ⊢
    obtain ⟨T, n, e⟩ := g
    simp only at hrd hrg ⊢
    have HRD := hd hrd; clear hrd
    rintro e' w3 ⟨rfl, hb3⟩
    have hO3 : OwnW w2.heap.size w3 (.slice aa A.length ac) A := hO.kept hb3 (Nat.le_refl _)
    have hv3 := hvr.below' hb3 (Nat.le_refl _)
    have hB3 : Below w2.heap.size w2 w3 := hB.trans (hb3.mono hBs)
    have hbw3 : Below w.heap.size w w3 := Below.up hbw hb3
    have hbs3 := hbw3.size
    have hBs3 := hB3.size
    have hO4 : ∀ o, OwnW w2.heap.size (w3.alloc o) (.slice aa A.length ac) A := fun o => hO3.kept ((Below.refl w3.heap.size w3).alloc (Nat.le_refl _) _) (Nat.le_refl _)
    have hbs4 : ∀ o, w2.heap.size ≤ (w3.alloc o).heap.size := fun o => by simp; omega
    clear hvr hb3 hO hB hbw
    by_cases he : e = 0
    rotate_left
    · have heb : (e != 0) = true := by simpa using he
      have hr := HRD.out.trans (if_pos he)
      have hq := HBAD.out (by rw [hr]; exact he)
      rw [hr] at hq
      have HO3 := HO2.out; clear HO2
      rw [hq, if_pos he] at HO3
      have HO4 := hd HO3; clear HO3 hq hr hrg
      go_wp2_with fail
      go_ret3
      exact GivesW.nil e HO4.out hbw3
    subst he
    obtain ⟨g1, g2, g3⟩ := hrg rfl
    clear hrg
    have HR2 := hd (HRD.out.trans (if_neg (by simp))); clear HRD
    obtain ⟨m, rfl⟩ := Int.eq_ofNat_of_zero_le (show 0 ≤ n by omega)
    cases ends
    rotate_left
    · have hr : r = ((sOf T, 0), (m : Int), 0) := by rw [HR2.out]; simp
      have hq := HMORE.out (by rw [hr])
      rw [hr] at hq
      simp only at hq
      have HQ := hd hq; clear hq hr HR2
      go_wp2_with (at_builtin; refine wp_appW1 rfl _ _ rfl w2.heap.size _ A rfl (hO4 _) (sOf T) 0 (by rw [World.size_alloc]; rfl) (by omega) (hbs4 _) ?_; intro v4 w4 ho4 hb4)
      go_roundw
      case rel => exact ⟨m, A ++ [(sOf T, 0)], by congr 1, by omega, by omega, ho4, (hB3.alloc hB3.size _).trans hb4, by simp; omega, HQ.out.symm⟩
      case measure => simp [leftTo]; omega
    have HR3 := hd (HR2.out.trans (if_neg (by simp))); clear HR2
    rw [Int.toNat_natCast] at HR3
    by_cases hml : (l.length : Int) ≤ m
    · have hr := HR3.out.trans (if_pos hml)
      have hq := HBAD.out (by rw [hr]; simp)
      rw [hr] at hq
      have HO3 := HO2.out; clear HO2
      rw [hq, if_pos (by simp)] at HO3
      have HO4 := hd HO3; clear HO3 hq hr
      go_wp2_with fail
      go_ret3
      exact GivesW.nil 2 HO4.out (by go_grown)
    have hml2 : m < l.length := by omega
    have HR4 := hd (HR3.out.trans (if_neg hml)); clear HR3
    have hx0 : (0 : Int) ≤ (bN l m : Int) := by omega
    have hx1 : (bN l m : Int) ≤ 255 := by have := bN_lt l m; omega
    obtain ⟨bb, oo, rfl, hbb, hcell⟩ : ∃ bb oo, d1 = some ⟨bb, oo, none⟩ ∧ bb < w3.heap.size ∧ w3.cell? ⟨bb, oo + m, none⟩ = some (.int .u8 (bN l m)) := by
      rcases hv3.split with ⟨hn, _⟩ | ⟨_, b, o, c, hv, _, _, hlt, hcell⟩
      · rw [hn] at hml2; simp at hml2
      · simp only [Value.slice.injEq] at hv; exact ⟨b, o, hv.1, hlt, hcell m hml2⟩
    have hgt : (2 < bN l m) ↔ ((2 : Int) < (bN l m : Int)) := by omega
    have hll := HL.out
    clear hv3 hml
    generalize hx : (bN l m : Int) = x at *
    have Hx := hd hx; clear hx
    by_cases h2 : 2 < x
    · have hr := HR4.out.trans (if_pos (hgt.2 h2))
      have hq := HBAD.out (by rw [hr]; simp)
      rw [hr] at hq
      have HO3 := HO2.out; clear HO2
      rw [hq, if_pos (by simp)] at HO3
      have HO4 := hd HO3; clear HO3 hq hr hgt
      go_wp2_with fail
      go_ret3
      exact GivesW.nil 5 HO4.out (by go_grown)
    · have hr := HR4.out.trans (if_neg (fun h => h2 (hgt.1 h)))
      have hq := HMORE.out (by rw [hr])
      rw [hr] at hq
      simp only at hq
      have HQ := hd hq; clear hq hr HR4 hgt
      go_wp2_with (at_builtin; refine wp_appW1 rfl _ _ rfl w2.heap.size _ A rfl (hO4 _) (sOf T) x (by rw [World.size_alloc]; rfl) (by omega) (hbs4 _) ?_; intro v4 w4 ho4 hb4)
      go_roundw
      case rel => exact ⟨m + 1, A ++ [(sOf T, x)], by congr 1, by omega, by omega, ho4, (hB3.alloc hB3.size _).trans hb4, by simp; omega, HQ.out.symm⟩
      case measure => simp [leftTo]; omega
end Go.Proofs.YtjlnlgemngpelaaGreatDoor

/- Packets: plain laws: cleaned, laid, told. No program. -/
namespace Go.Proofs.YtjlnlgemngpelaaGreatDoor
open Go.RowKit
set_option linter.unusedVariables false
set_option linter.unusedSimpArgs false

/-- A packet. -/
structure Pac where
  k : Int
  id : Int
  dup : Bool
  tp : ByteArray
  tx : ByteArray
  q : Int
  rt : Bool
  c : Con
  pr : Bool
  code : Int
  fs : List Wish
  cs : List Int
def Pac.zero : Pac := ⟨0, 0, false, ⟨#[]⟩, ⟨#[]⟩, 0, false, Con.zero, false, 0, [], []⟩
def Pac.cells (p : Pac) (vf vc : Value) : List Value :=
  [.int .i64 p.k, .int .i64 p.id, .bool p.dup, .string p.tp, .string p.tx, .int .i64 p.q, .bool p.rt, .int .i64 p.c.level, .bool p.c.clean, .int .i64 p.c.keep, .string p.c.client, .bool p.c.hasWill, .string p.c.topic, .string p.c.text, .int .i64 p.c.qos, .bool p.c.retain, .bool p.c.hasUser, .string p.c.user, .bool p.c.hasPass, .string p.c.pass, .bool p.pr, .int .i64 p.code, vf, vc]
def Pac.sized (p : Pac) (n : Nat) : Prop := p.tp.size ≤ n ∧ p.tx.size ≤ n ∧ p.c.sized n ∧ ∀ f ∈ p.fs, f.1.size ≤ n

def paClean (p : Pac) : Pac :=
  if p.k = 1 then { Pac.zero with k := p.k, c := p.c }
  else if p.k = 2 then { Pac.zero with k := p.k, pr := p.pr, code := p.code }
  else if p.k = 3 then { Pac.zero with k := p.k, tp := p.tp, tx := p.tx, q := p.q, rt := p.rt, dup := p.dup, id := if p.q ≠ 0 then p.id else 0 }
  else if p.k = 4 ∨ p.k = 5 ∨ p.k = 6 ∨ p.k = 7 ∨ p.k = 11 then { Pac.zero with k := p.k, id := p.id }
  else if p.k = 8 then { Pac.zero with k := p.k, id := p.id, fs := p.fs }
  else if p.k = 10 then { Pac.zero with k := p.k, id := p.id, fs := p.fs.map fun f => (f.1, 0) }
  else if p.k = 9 then { Pac.zero with k := p.k, id := p.id, cs := p.cs }
  else { Pac.zero with k := p.k }

/-- flags, bytes, error: of a packet that is clean -/
def paBody (p : Pac) : Int × List UInt8 × Int :=
  if p.k = 1 then (0, cPutB p.c, cPutE p.c)
  else if p.k = 2 then (0, aPutB p.pr p.code, aPutE p.pr p.code)
  else if p.k = 3 then (hPub p.dup p.q p.rt, (if hPub p.dup p.q p.rt < 0 then [] else pPutB (sB p.tp) (sB p.tx) p.q p.id), (if hPub p.dup p.q p.rt < 0 then 10 else pPutE (sB p.tp) (sB p.tx) p.q p.id))
  else if p.k = 4 ∨ p.k = 5 ∨ p.k = 7 ∨ p.k = 11 then (0, pIdB p.id, pIdE p.id)
  else if p.k = 6 then (2, pIdB p.id, pIdE p.id)
  else if p.k = 8 then (2, sbPutB p.id p.fs false, sbPutE p.id p.fs false)
  else if p.k = 10 then (2, sbPutB p.id p.fs true, sbPutE p.id p.fs true)
  else if p.k = 9 then (0, sbAckB p.id p.cs, sbAckE p.id p.cs)
  else if p.k = 12 ∨ p.k = 13 ∨ p.k = 14 then (0, [], 0)
  else (0, [], 11)
def paPutE (p : Pac) : Int := if (paBody (paClean p)).2.2 ≠ 0 then (paBody (paClean p)).2.2 else hPutE p.k (paBody (paClean p)).1 (paBody (paClean p)).2.1.length
def paPutB (p : Pac) : List UInt8 := if paPutE p = 0 then hPutB p.k (paBody (paClean p)).1 (paBody (paClean p)).2.1.length ++ (paBody (paClean p)).2.1 else []

/-- the packet of flags and bytes, and the error -/
def paTold (k f : Int) (b : List UInt8) : Pac × Int :=
  if k = 1 then ({ Pac.zero with k := k, c := (cOf b).1 }, (cOf b).2)
  else if k = 2 then ({ Pac.zero with k := k, pr := (aOf b).1, code := (aOf b).2.1 }, (aOf b).2.2)
  else if k = 3 then ({ Pac.zero with k := k, tp := sOf (pOf b (hQos f)).1, tx := sOf (pOf b (hQos f)).2.1, q := pOfQ b (hQos f), rt := hRet f, dup := hDup f, id := (pOf b (hQos f)).2.2.1 }, (pOf b (hQos f)).2.2.2)
  else if k = 4 ∨ k = 5 ∨ k = 6 ∨ k = 7 ∨ k = 11 then ({ Pac.zero with k := k, id := (pOfId b).1 }, (pOfId b).2)
  else if k = 8 then ({ Pac.zero with k := k, id := (sbOf b false).1, fs := (sbOf b false).2.1 }, (sbOf b false).2.2)
  else if k = 10 then ({ Pac.zero with k := k, id := (sbOf b true).1, fs := (sbOf b true).2.1 }, (sbOf b true).2.2)
  else if k = 9 then ({ Pac.zero with k := k, id := (sbOfAck b).1, cs := (sbOfAck b).2.1 }, (sbOfAck b).2.2)
  else ({ Pac.zero with k := k }, if b.isEmpty then 0 else 4)
def paOf (k f n : Int) (b : List UInt8) : Pac × Int :=
  if hRight k f ≠ 0 then (Pac.zero, hRight k f)
  else if n ≠ b.length then (Pac.zero, 4)
  else if (paTold k f b).2 ≠ 0 then (Pac.zero, (paTold k f b).2)
  else ((paTold k f b).1, 0)
end Go.Proofs.YtjlnlgemngpelaaGreatDoor
