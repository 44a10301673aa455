/- Wishes: what bytes tell, by the reference: the walk of its Of. -/
import Derived.Test.YtgafhnomkeiakaaDoorSubRead
namespace Go.Proofs.YtgafhnomkeiakaaDoor
open Go.RowKit
set_option linter.unusedVariables false
set_option linter.unusedSimpArgs false

/-- filters one behind another: those that came, the error -/
def sbAll (ends : Bool) (l : List UInt8) : Nat → List Wish → Int → List Wish × Int
  | 0, a, _ => (a, 0)
  | n + 1, a, at' =>
    if (l.length : Int) ≤ at' then (a, 0) else if 8 ≤ a.length then ([], 6)
    else if (sbRead l at' ends).2.2 ≠ 0 then ([], (sbRead l at' ends).2.2) else sbAll ends l n (a ++ [(sbRead l at' ends).1]) (sbRead l at' ends).2.1
def sbOf (l : List UInt8) (ends : Bool) : Int × List Wish × Int :=
  if (sbBegin l).2 ≠ 0 then (0, [], (sbBegin l).2)
  else if (sbAll ends l 9 [] 2).2 ≠ 0 then (0, [], (sbAll ends l 9 [] 2).2)
  else if (sbAll ends l 9 [] 2).1 = [] then (0, [], 4) else ((sbBegin l).1, (sbAll ends l 9 [] 2).1, 0)
theorem sbAll_end {ends : Bool} {l : List UInt8} {a : List Wish} {at' : Int} (ha : a.length ≤ 8) (h : (l.length : Int) ≤ at') : sbAll ends l (9 - a.length) a at' = (a, 0) := by
  obtain ⟨n, hn⟩ : ∃ n, 9 - a.length = n + 1 := ⟨8 - a.length, by omega⟩
  rw [hn, sbAll, if_pos h]
theorem sbAll_full {ends : Bool} {l : List UInt8} {a : List Wish} {at' : Int} (ha : a.length = 8) (h : at' < (l.length : Int)) : sbAll ends l (9 - a.length) a at' = ([], 6) := by
  rw [ha, show 9 - 8 = 0 + 1 from rfl, sbAll, if_neg (by omega), if_pos (by omega)]
theorem sbAll_bad {ends : Bool} {l : List UInt8} {a : List Wish} {at' : Int} (ha : a.length < 8) (h : at' < (l.length : Int)) (he : (sbRead l at' ends).2.2 ≠ 0) : sbAll ends l (9 - a.length) a at' = ([], (sbRead l at' ends).2.2) := by
  obtain ⟨n, hn⟩ : ∃ n, 9 - a.length = n + 1 := ⟨8 - a.length, by omega⟩
  rw [hn, sbAll, if_neg (by omega), if_neg (by omega), if_pos he]
theorem sbAll_more {ends : Bool} {l : List UInt8} {a : List Wish} {at' : Int} (ha : a.length < 8) (h : at' < (l.length : Int)) (he : (sbRead l at' ends).2.2 = 0) :
    sbAll ends l (9 - a.length) a at' = sbAll ends l (9 - (a ++ [(sbRead l at' ends).1]).length) (a ++ [(sbRead l at' ends).1]) (sbRead l at' ends).2.1 := by
  obtain ⟨n, hn⟩ : ∃ n, 9 - a.length = n + 1 := ⟨8 - a.length, by omega⟩
  have hn2 : 9 - (a ++ [(sbRead l at' ends).1]).length = n := by rw [List.length_append]; simp; omega
  rw [hn2, hn, sbAll, if_neg (by omega), if_neg (by omega), if_neg (by simp [he])]

theorem OwnW.le {B B' : Nat} {w : World} {v : Value} {l : List Wish} (h : OwnW B w v l) (hB : B' ≤ B) : OwnW B' w v l := Owns.le h hB
def GivesW (w : World) (r : Int × List Wish × Int) (e : Ending) (w' : World) : Prop :=
  ∃ v, e = .returned (.tuple #[.int .i64 r.1, v, .int .i64 r.2.2]) ∧ OwnW w.heap.size w' v r.2.1 ∧ Below w.heap.size w w'
theorem GivesW.nil {w w' : World} {r : Int × List Wish × Int} (e : Int) (h : r = (0, [], e)) (hb : Below w.heap.size w w') : GivesW w r (.returned (.tuple #[.int .i64 0, .slice none 0 0, .int .i64 e])) w' := by
  subst h; exact ⟨_, rfl, OwnW.nil _ _, hb⟩

set_option maxRecDepth 100000 in
set_option maxHeartbeats 16000000 in
theorem refSubsOf_c (s : ByteArray) (ends : Bool) (w : World) (hs : s.size ≤ 140737488351232) :
    Calls Tryd.prog 21 #[.string s, .bool ends] w (GivesW w (sbOf (sB s) ends)) := by
  have hsl : Hd ((sB s).length = s.size) := sB_len s
  have hbr := @sbBegin_rng (sB s)
  have hof : sbOf (sB s) ends = sbOf (sB s) ends := rfl
  conv at hof => rhs; rw [sbOf]
  generalize sbOf (sB s) ends = R at hof ⊢
  have HO := hd hof; clear hof
  go_enter Tryd.func21, Tryd.ntmps21
  go_wp2_with fail
  refine (refBegin_c s _ hs).mono ?_
  generalize sbBegin (sB s) = g at hbr HO ⊢
  obtain ⟨id, e⟩ := g
  simp only at hbr HO ⊢
  rintro e' w1 ⟨rfl, hb⟩
  by_cases he : e = 0
  rotate_left
  · have heb : (e != 0) = true := by simpa using he
    go_wp2_with fail
    go_ret3
    exact GivesW.nil e (by rw [HO.out, if_pos he]) hb
  subst he
  have h2l := (hbr rfl).1
  clear hbr
  have HO2 := hd (HO.out.trans (if_neg (by simp))); clear HO
  go_wp2_with fail
  refine upon_bytes (by omega) fun d1 k1 w2 hs2 hb2 => ?_
  have hb12 : Below w.heap.size w w2 := Below.up hb hb2
  have hll : (sB s).length ≤ 140737488351232 := by rw [hsl.out]; exact hs
  clear hb hb2
  generalize sB s = l at *
  have HV := hd hs2; clear hs2 hsl
  have H2 := hd h2l; have HL := hd hll; clear h2l hll hs
  go_wp2_with fail
  go_loopw [10, 11] (fun o n w' => ∃ (k : Nat) (a : List Wish), n = .int .i64 k ∧ 2 ≤ k ∧ k ≤ l.length ∧ OwnW w2.heap.size w' o a ∧ Below w2.heap.size w2 w' ∧ a.length ≤ 8 ∧ sbAll ends l (9 - a.length) a k = sbAll ends l 9 [] 2) (fun o n _ => leftTo l.length n)
  case atStart => exact ⟨2, [], rfl, by omega, by have := H2.out; omega, OwnW.nil _ _, Below.refl _ _, by simp, rfl⟩
  case round =>
    obtain ⟨k, A, rfl, hk2, hk, hO, hB, hA, hF⟩ := hrel
    have hBs := hB.size
    have hbw : Below w.heap.size w wr := Below.up hb12 hB
    have hbs := hbw.size
    obtain ⟨aa, ac, rfl⟩ := hO.ws.slice
    by_cases hkl : k < l.length
    rotate_left
    · have hke : k = l.length := by omega
      subst hke
      rw [sbAll_end hA (by omega)] at hF
      have HO3 := HO2.out; clear HO2
      rw [← hF, if_neg (by simp)] at HO3
      simp only at HO3
      have HO4 := hd HO3; clear HO3
      by_cases hA0 : A = []
      · subst hA0
        go_wp2_with fail
        go_ret3
        exact GivesW.nil 4 (by rw [HO4.out]; simp) hbw
      · have hA0b : ((A.length : Int) == 0) = false := by simpa using hA0
        go_wp2_with fail
        go_ret3
        rw [HO4.out, if_neg hA0]
        exact ⟨_, rfl, hO.le hb12.size, hbw⟩
    by_cases hA8 : A.length = 8
    · rw [sbAll_full hA8 (by omega)] at hF
      have HO3 := HO2.out; clear HO2
      rw [← hF, if_pos (by simp)] at HO3
      have HO4 := hd HO3; clear HO3
      have hA8b : (8 : Int) ≤ (A.length : Int) := by omega
      go_wp2_with fail
      go_ret3
      exact GivesW.nil 6 HO4.out hbw
    have hA7 : A.length < 8 := by omega
    have hvr := HV.out.below' hB (Nat.le_refl _)
    have hrd : sbRead l k ends = sbRead l k ends := rfl
    conv at hrd => rhs; rw [sbRead]
    have hbad := @sbAll_bad ends l A k hA7 (by omega)
    have hmore := @sbAll_more ends l A k hA7 (by omega)
    have hrr := @sbRead_rng l k ends
    generalize sbRead l k ends = r at hrd hbad hmore hrr
    rw [hF] at hbad hmore
    have HRD := hd hrd; have HBAD := hd hbad; have HMORE := hd hmore; have HRR := hd hrr; clear hrd hbad hmore hrr hF
    have hrg := @uGet_rng l (k : Int)
    go_wp2_with fail
    refine (refGet_c _ l k _ hvr).mono ?_
    have hrd := HRD.out; clear HRD
    generalize uGet l (k : Int) = g at hrd hrg ⊢
    obtain ⟨T, n, e⟩ := g
    simp only at hrd hrg ⊢
    have HRD := hd hrd; clear hrd
    rintro e' w3 ⟨rfl, hb3⟩
    have hO3 : OwnW w2.heap.size w3 (.slice aa A.length ac) A := hO.kept hb3 (Nat.le_refl _)
    have hv3 := hvr.below' hb3 (Nat.le_refl _)
    have hB3 : Below w2.heap.size w2 w3 := hB.trans (hb3.mono hBs)
    have hbw3 : Below w.heap.size w w3 := Below.up hbw hb3
    have hbs3 := hbw3.size
    have hBs3 := hB3.size
    have hO4 : ∀ o, OwnW w2.heap.size (w3.alloc o) (.slice aa A.length ac) A := fun o => hO3.kept ((Below.refl w3.heap.size w3).alloc (Nat.le_refl _) _) (Nat.le_refl _)
    have hbs4 : ∀ o, w2.heap.size ≤ (w3.alloc o).heap.size := fun o => by simp; omega
    clear hvr hb3 hO hB hbw
    by_cases he : e = 0
    rotate_left
    · have heb : (e != 0) = true := by simpa using he
      have hr := HRD.out.trans (if_pos he)
      have hq := HBAD.out (by rw [hr]; exact he)
      rw [hr] at hq
      have HO3 := HO2.out; clear HO2
      rw [hq, if_pos he] at HO3
      have HO4 := hd HO3; clear HO3 hq hr hrg
      go_wp2_with fail
      go_ret3
      exact GivesW.nil e HO4.out hbw3
    subst he
    obtain ⟨g1, g2, g3⟩ := hrg rfl
    clear hrg
    have HR2 := hd (HRD.out.trans (if_neg (by simp))); clear HRD
    obtain ⟨m, rfl⟩ := Int.eq_ofNat_of_zero_le (show 0 ≤ n by omega)
    cases ends
    rotate_left
    · have hr : r = ((sOf T, 0), (m : Int), 0) := by rw [HR2.out]; simp
      have hq := HMORE.out (by rw [hr])
      rw [hr] at hq
      simp only at hq
      have HQ := hd hq; clear hq hr HR2
      go_wp2_with (at_builtin; refine wp_appW1 rfl _ _ rfl w2.heap.size _ A rfl (hO4 _) (sOf T) 0 (by rw [World.size_alloc]; rfl) (by omega) (hbs4 _) ?_; intro v4 w4 ho4 hb4)
      go_roundw
      case rel => exact ⟨m, A ++ [(sOf T, 0)], by congr 1, by omega, by omega, ho4, (hB3.alloc hB3.size _).trans hb4, by simp; omega, HQ.out.symm⟩
      case measure => simp [leftTo]; omega
    have HR3 := hd (HR2.out.trans (if_neg (by simp))); clear HR2
    rw [Int.toNat_natCast] at HR3
    by_cases hml : (l.length : Int) ≤ m
    · have hr := HR3.out.trans (if_pos hml)
      have hq := HBAD.out (by rw [hr]; simp)
      rw [hr] at hq
      have HO3 := HO2.out; clear HO2
      rw [hq, if_pos (by simp)] at HO3
      have HO4 := hd HO3; clear HO3 hq hr
      go_wp2_with fail
      go_ret3
      exact GivesW.nil 2 HO4.out (by go_grown)
    have hml2 : m < l.length := by omega
    have HR4 := hd (HR3.out.trans (if_neg hml)); clear HR3
    have hx0 : (0 : Int) ≤ (bN l m : Int) := by omega
    have hx1 : (bN l m : Int) ≤ 255 := by have := bN_lt l m; omega
    obtain ⟨bb, oo, rfl, hbb, hcell⟩ : ∃ bb oo, d1 = some ⟨bb, oo, none⟩ ∧ bb < w3.heap.size ∧ w3.cell? ⟨bb, oo + m, none⟩ = some (.int .u8 (bN l m)) := by
      rcases hv3.split with ⟨hn, _⟩ | ⟨_, b, o, c, hv, _, _, hlt, hcell⟩
      · rw [hn] at hml2; simp at hml2
      · simp only [Value.slice.injEq] at hv; exact ⟨b, o, hv.1, hlt, hcell m hml2⟩
    have hgt : (2 < bN l m) ↔ ((2 : Int) < (bN l m : Int)) := by omega
    have hll := HL.out
    clear hv3 hml
    generalize hx : (bN l m : Int) = x at *
    have Hx := hd hx; clear hx
    by_cases h2 : 2 < x
    · have hr := HR4.out.trans (if_pos (hgt.2 h2))
      have hq := HBAD.out (by rw [hr]; simp)
      rw [hr] at hq
      have HO3 := HO2.out; clear HO2
      rw [hq, if_pos (by simp)] at HO3
      have HO4 := hd HO3; clear HO3 hq hr hgt
      go_wp2_with fail
      go_ret3
      exact GivesW.nil 5 HO4.out (by go_grown)
    · have hr := HR4.out.trans (if_neg (fun h => h2 (hgt.1 h)))
      have hq := HMORE.out (by rw [hr])
      rw [hr] at hq
      simp only at hq
      have HQ := hd hq; clear hq hr HR4 hgt
      go_wp2_with (at_builtin; refine wp_appW1 rfl _ _ rfl w2.heap.size _ A rfl (hO4 _) (sOf T) x (by rw [World.size_alloc]; rfl) (by omega) (hbs4 _) ?_; intro v4 w4 ho4 hb4)
      go_roundw
      case rel => exact ⟨m + 1, A ++ [(sOf T, x)], by congr 1, by omega, by omega, ho4, (hB3.alloc hB3.size _).trans hb4, by simp; omega, HQ.out.symm⟩
      case measure => simp [leftTo]; omega
end Go.Proofs.YtgafhnomkeiakaaDoor
