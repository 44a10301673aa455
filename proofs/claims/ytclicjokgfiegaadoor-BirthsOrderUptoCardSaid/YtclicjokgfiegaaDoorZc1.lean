/- A bundle of texts (merged for the limit on files): Bir10, Bir11. -/
import Derived.Test.YtclicjokgfiegaaDoorZb12
import Derived.Test.YtclicjokgfiegaaDoorZb7
/- Births: what is told, what filters want: the walks. -/
namespace Go.Proofs.YtclicjokgfiegaaDoor
open Go.RowKit
set_option linter.unusedVariables false
set_option linter.unusedSimpArgs false

abbrev BTold := List UInt8 × ByteArray
def toldV (x : BTold) : List Value := [.string (sOf x.1), .string x.2]
theorem toldRead {w' : World} {gr : Nat} {tmps : Array Value} {x : BTold} (h2 : tmps[2]?.getD undef = .pointer (some ⟨gr, 0, none⟩)) (c0 : w'.cell? ⟨gr, 0, none⟩ = some (.string (sOf x.1))) (c1 : w'.cell? ⟨gr, 1, none⟩ = some (.string x.2)) :
    (results Tryd.f97 tmps).run Tryd.prog w' = .ok (.agg (toldV x).toArray) w' := by
  simp [results, Tryd.results97, go_sem, h2, c0, c1, toldV]
set_option maxRecDepth 100000 in
set_option maxHeartbeats 2000000 in
theorem told_c (x : Bir) (w : World) : Calls Tryd.prog 97 #[.agg #[.string (sOf x.1.1), .string (sOf x.1.2), .string x.2]] w fun e w' => e = .returned (.agg #[.string (sOf (bTopic x.1)), .string x.2]) ∧ Below w.heap.size w w' := by
  obtain ⟨k, t⟩ := x
  have hw := fun W => whole_c k W
  have HT := hd (show bTopic k = if k.2 = [] then k.1 else k.2 from rfl)
  simp only
  cases hk : (k.2 == [])
  all_goals
    simp only [hk] at hw
    have HW := hd hw
    unfold rkV at HW
    clear hw
    go_enter Tryd.func97, Tryd.ntmps97
    go_wp2_with fail
    have b0 : Below w.heap.size w ((w.alloc (.cells #[.string (sOf k.1), .string (sOf k.2), .string t] 111)).alloc (.cells #[.string ⟨#[]⟩, .string ⟨#[]⟩] 60)) := by go_grown
    have hx0 : BxIn ((w.alloc (.cells #[.string (sOf k.1), .string (sOf k.2), .string t] 111)).alloc (.cells #[.string ⟨#[]⟩, .string ⟨#[]⟩] 60)) w.heap.size (k, t) := by
      refine ⟨?_, ?_, ?_, ?_⟩ <;> simp [go_sem]
    have r0 : ((w.alloc (.cells #[.string (sOf k.1), .string (sOf k.2), .string t] 111)).alloc (.cells #[.string ⟨#[]⟩, .string ⟨#[]⟩] 60)).cell? ⟨w.heap.size + 1, 0, none⟩ = some (.string ⟨#[]⟩) := by simp [go_sem]
    have r1 : ((w.alloc (.cells #[.string (sOf k.1), .string (sOf k.2), .string t] 111)).alloc (.cells #[.string ⟨#[]⟩, .string ⟨#[]⟩] 60)).cell? ⟨w.heap.size + 1, 1, none⟩ = some (.string ⟨#[]⟩) := by simp [go_sem]
    have f0 : ((w.alloc (.cells #[.string (sOf k.1), .string (sOf k.2), .string t] 111)).alloc (.cells #[.string ⟨#[]⟩, .string ⟨#[]⟩] 60)).frozen? ⟨w.heap.size + 1, 0, none⟩ = false := by simp [go_sem]
    have f1 : ((w.alloc (.cells #[.string (sOf k.1), .string (sOf k.2), .string t] 111)).alloc (.cells #[.string ⟨#[]⟩, .string ⟨#[]⟩] 60)).frozen? ⟨w.heap.size + 1, 1, none⟩ = false := by simp [go_sem]
    have hlt : w.heap.size + 1 < ((w.alloc (.cells #[.string (sOf k.1), .string (sOf k.2), .string t] 111)).alloc (.cells #[.string ⟨#[]⟩, .string ⟨#[]⟩] 60)).heap.size := by simp [go_sem]
    generalize ((w.alloc (.cells #[.string (sOf k.1), .string (sOf k.2), .string t] 111)).alloc (.cells #[.string ⟨#[]⟩, .string ⟨#[]⟩] 60)) = w1 at *
    refine (HW.out _).mono ?_
    rintro e w2 ⟨rfl, hb⟩
    obtain ⟨x0, x1, x2, x3⟩ := hx0.below hb hx0.1
    replace r0 := (bcell hb _ _ hlt).trans r0
    replace r1 := (bcell hb _ _ hlt).trans r1
    replace f0 := (bfree hb _ _ hlt).trans f0
    replace f1 := (bfree hb _ _ hlt).trans f1
    have hB := Below.up b0 hb
    replace hlt := Nat.lt_of_lt_of_le hlt hb.size
    clear hx0 hb b0
    simp only at x1 x2 x3
    go_wp2_with fail
  · refine bodyPost_ret (v := .agg (toldV (k.2, t)).toArray) (toldRead (by rfl) (by simp [go_sem, *]) (by simp [go_sem, *])) rfl ⟨?_, by go_grown⟩
    rw [HT.out, if_neg (by simpa using hk)]; rfl
  · refine bodyPost_ret (v := .agg (toldV (k.1, t)).toArray) (toldRead (by rfl) (by simp [go_sem, *]) (by simp [go_sem, *])) rfl ⟨?_, by go_grown⟩
    rw [HT.out, if_pos (by simpa using hk)]; rfl

/-! ### What filters want -/
def StrIn (w : World) (b : Nat) (t : List UInt8) : Prop := b < w.heap.size ∧ w.cell? ⟨b, 0, none⟩ = some (.string (sOf t))
theorem StrIn.below {B : Nat} {w w' : World} {b : Nat} {t : List UInt8} (h : StrIn w b t) (hb : Below B w w') (hB : b < B) : StrIn w' b t := ⟨Nat.lt_of_lt_of_le h.1 hb.size, (bcell hb _ _ hB).trans h.2⟩
set_option maxRecDepth 100000 in
set_option maxHeartbeats 2000000 in
theorem want1_c (f : BFlt) (t : List UInt8) (b : Nat) (w : World) (hE : EnvU w) (hb : StrIn w b t) (hf : f.1.length ≤ 1048576) (ht : t.length ≤ 1048576) :
    Calls Tryd.prog 54 #[.agg #[.string (sOf f.1), .int .i64 f.2], .pointer (some ⟨b, 0, none⟩)] w fun e w' => e = .returned (.bool (mMatch f.1 t)) ∧ Below w.heap.size w w' := by
  have hm := fun W h => Match_c f.1 t W h (by omega) (by omega)
  generalize mMatch f.1 t = r at *
  have HM := hd hm; have HE := hd hE
  obtain ⟨hbl, hbc⟩ := hb
  clear hm hE
  go_enter Tryd.func54, Tryd.ntmps54
  go_wp2_with fail
  have b0 : Below w.heap.size w (w.alloc (.cells #[.string (sOf f.1), .int .i64 f.2] 58)) := by go_grown
  refine (HM.out _ (HE.out.below b0)).mono ?_
  rintro e w1 ⟨rfl, hb1⟩
  go_wp2_with fail
  go_ret
  exact ⟨rfl, Below.up b0 hb1⟩
def wIdx (t : List UInt8) : List BFlt → Nat → Int
  | [], _ => -1
  | f :: r, j => if mMatch f.1 t then j else wIdx t r (j + 1)
theorem wIdx_any (t : List UInt8) : ∀ (l : List BFlt) (j : Nat), (decide (0 ≤ wIdx t l j)) = l.any fun f => mMatch f.1 t
  | [], j => rfl
  | f :: r, j => by
    rw [wIdx, List.any_cons]
    cases h : mMatch f.1 t
    · rw [if_neg (by simp), wIdx_any t r (j + 1)]; simp
    · rw [if_pos rfl]; simp
set_option maxRecDepth 100000 in
set_option maxHeartbeats 4000000 in
theorem indexW_c (t : List UInt8) (l : List BFlt) (v : Value) (c : Nat) (w : World) (hE : EnvU w) (hv : Flts w v l) (hl : ∀ f ∈ l, f.1.length ≤ 1048576) (hc : StrIn w c t) (ht : t.length ≤ 1048576) :
    Calls Tryd.prog 98 #[v, .func (.func 54) #[] #[.pointer (some ⟨c, 0, none⟩)]] w fun e w' => e = .returned (.int .i64 (wIdx t l 0)) ∧ Below w.heap.size w w' := by
  obtain ⟨a, cp, rfl⟩ := hv.slice
  have hm := hv.len
  unfold maxLen at hm
  have HV := hd hv; have HC := hd hc; have HL := hd hl; have HE := hd hE
  clear hv hc hl hE
  obtain ⟨r, hr⟩ : ∃ r, wIdx t l 0 = r := ⟨_, rfl⟩
  rw [hr]
  go_enter Tryd.func98, Tryd.ntmps98
  go_wp2_with fail
  go_loopw [8] (fun i w' => ∃ j : Nat, i = .int .i64 j ∧ j ≤ l.length ∧ wIdx t (l.drop j) j = r ∧ Below w.heap.size w w') (fun i _ => leftB l.length i)
  case atStart => exact ⟨0, rfl, by omega, by simpa using hr, Below.refl _ _⟩
  case round =>
    obtain ⟨j, rfl, hj, hf, hB⟩ := hrel
    by_cases hjl : j < l.length
    · obtain ⟨x, hx⟩ : ∃ x, l[j]? = some x := ⟨_, List.getElem?_eq_getElem hjl⟩
      obtain ⟨b, o, rfl, hl1, p1, q1⟩ := HV.out.at hx
      replace p1 := (bcell hB _ _ hl1).trans p1
      replace q1 := (bcell hB _ _ hl1).trans q1
      have hdr : l.drop j = x :: l.drop (j + 1) := by
        obtain ⟨hj', rfl⟩ := List.getElem?_eq_some_iff.1 hx
        exact List.drop_eq_getElem_cons hj'
      rw [hdr, wIdx] at hf
      have hcl := want1_c x t c wr (HE.out.below hB) (HC.out.below hB HC.out.1) (HL.out x (List.mem_of_getElem? hx)) ht
      cases hcv : mMatch x.1 t
      · rw [hcv, if_neg (by simp)] at hf
        rw [hcv] at hcl
        have HF := hd hf; have HCL := hd hcl
        clear hf hcl hr
        go_wp2_with (first | (go_at_call 54; refine HCL.out.mono ?_; rintro e w1 ⟨rfl, hb⟩))
        go_roundw
        case rel => exact ⟨j + 1, by congr 1, by omega, HF.out, hB.trans (hb.mono hB.size)⟩
        case measure => simp [leftB]; omega
      · rw [hcv, if_pos rfl] at hf
        rw [hcv] at hcl
        have HF := hd hf; have HCL := hd hcl
        clear hf hcl hr
        go_wp2_with (first | (go_at_call 54; refine HCL.out.mono ?_; rintro e w1 ⟨rfl, hb⟩))
        go_ret
        exact ⟨ret_int HF.out, hB.trans (hb.mono hB.size)⟩
    · have hke : j = l.length := by omega
      subst hke
      rw [List.drop_of_length_le (Nat.le_refl _), wIdx] at hf
      have HF := hd hf
      clear hf hr
      go_wp2_with fail
      go_ret
      exact ⟨ret_int HF.out, hB⟩
/-- What the filters want. -/
def bWant (l : List BFlt) (t : List UInt8) : Bool := l.any fun f => mMatch f.1 t
set_option maxRecDepth 100000 in
set_option maxHeartbeats 2000000 in
theorem containsW_c (t : List UInt8) (l : List BFlt) (v : Value) (c : Nat) (w : World) (hE : EnvU w) (hv : Flts w v l) (hl : ∀ f ∈ l, f.1.length ≤ 1048576) (hc : StrIn w c t) (ht : t.length ≤ 1048576) :
    Calls Tryd.prog 53 #[v, .func (.func 54) #[] #[.pointer (some ⟨c, 0, none⟩)]] w fun e w' => e = .returned (.bool (bWant l t)) ∧ Below w.heap.size w w' := by
  have hix := indexW_c t l v c w hE hv hl hc ht
  have ha := wIdx_any t l 0
  unfold bWant
  generalize (l.any fun f => mMatch f.1 t) = r at *
  generalize wIdx t l 0 = i at *
  have HI := hd hix; have HA := hd ha
  clear hix ha hE hv hl hc
  go_enter Tryd.func53, Tryd.ntmps53
  go_wp2_with fail
  refine HI.out.mono ?_
  rintro e w1 ⟨rfl, hb⟩
  go_wp2_with fail
  go_ret
  exact ⟨ret_bool HA.out, hb⟩
/-- A closure that holds filters. -/
def FltIn (w : World) (b : Nat) (v : Value) (l : List BFlt) : Prop := b < w.heap.size ∧ w.cell? ⟨b, 0, none⟩ = some v ∧ Flts w v l
theorem FltIn.below {B : Nat} {w w' : World} {b : Nat} {v : Value} {l : List BFlt} (h : FltIn w b v l) (hb : Below B w w') (hB : w.heap.size ≤ B) : FltIn w' b v l := ⟨Nat.lt_of_lt_of_le h.1 hb.size, (bcell hb _ _ (Nat.lt_of_lt_of_le h.1 hB)).trans h.2.1, Rd.below' h.2.2 hb hB⟩
set_option maxRecDepth 100000 in
set_option maxHeartbeats 2000000 in
theorem want_c (t : List UInt8) (l : List BFlt) (v : Value) (c : Nat) (w : World) (hE : EnvU w) (hv : FltIn w c v l) (hl : ∀ f ∈ l, f.1.length ≤ 1048576) (ht : t.length ≤ 1048576) :
    Calls Tryd.prog 52 #[.string (sOf t), .pointer (some ⟨c, 0, none⟩)] w fun e w' => e = .returned (.bool (bWant l t)) ∧ Below w.heap.size w w' := by
  obtain ⟨a, cp, rfl⟩ := hv.2.2.slice
  have hcn := fun W b h1 h2 h3 => containsW_c t l (.slice a l.length cp) b W h1 h2 hl h3 ht
  generalize bWant l t = r at *
  have HC := hd hcn; have HE := hd hE; have HV := hd hv
  obtain ⟨h1, h2, h3⟩ := hv
  clear hcn hE h3 hl
  go_enter Tryd.func52, Tryd.ntmps52
  go_wp2_with fail
  have b0 : Below w.heap.size w (w.alloc (.cells #[.string (sOf t)] 9)) := by go_grown
  refine (HC.out _ _ (HE.out.below b0) (Rd.below' HV.out.2.2 b0 (Nat.le_refl _)) ⟨by simp [go_sem], by simp [go_sem]⟩).mono ?_
  rintro e w1 ⟨rfl, hb⟩
  go_wp2_with fail
  go_ret
  exact ⟨rfl, Below.up b0 hb⟩
end Go.Proofs.YtclicjokgfiegaaDoor

/- Births: those that filters want, in their order: BirthsOrder: the walks. -/
namespace Go.Proofs.YtclicjokgfiegaaDoor
open Go.RowKit
set_option linter.unusedVariables false
set_option linter.unusedSimpArgs false

def thoseL (l : List Bir) (p : List UInt8 → Bool) : List BTold := (l.map bTold).filter fun x => p x.1
theorem those_snoc {l : List Bir} {j : Nat} {x : Bir} (p : List UInt8 → Bool) (h : l[j]? = some x) : thoseL (l.take (j + 1)) p = thoseL (l.take j) p ++ if p (bTopic x.1) = true then [bTold x] else [] := by
  unfold thoseL
  rw [take_snocB h, List.map_append, List.filter_append]
  congr 1
  cases hp : p (bTopic x.1) <;> simp [bTold, hp]
theorem those_len (l : List Bir) (p : List UInt8 → Bool) : (thoseL l p).length ≤ l.length := by
  have := List.length_filter_le (fun x : BTold => p x.1) (l.map bTold)
  unfold thoseL; simpa using this
def OwnT (B : Nat) (w : World) (v : Value) (m : List BTold) : Prop := w.ownsRow B 60 2 v m.length (m.flatMap toldV)
theorem OwnT.nil (B : Nat) (w : World) : OwnT B w (.slice none 0 0) [] := ⟨rfl, .inl ⟨rfl, rfl⟩⟩
theorem OwnT.slice {B : Nat} {w : World} {v : Value} {m : List BTold} (h : OwnT B w v m) : ∃ a c, v = .slice a m.length c := Owns.slice h
theorem OwnT.kept {B B' : Nat} {w w' : World} {v : Value} {m : List BTold} (h : OwnT B w v m) (hb : Below B' w w') (hB : w.heap.size ≤ B') : OwnT B w' v m := Owns.kept h hb hB
theorem OwnT.at {B : Nat} {w : World} {a : Option Addr} {n c : Nat} {m : List BTold} (h : OwnT B w (.slice a n c) m) {k : Nat} {x : BTold} (hk : m[k]? = some x) :
    ∃ b o, a = some ⟨b, o, none⟩ ∧ b < w.heap.size ∧ w.cell? ⟨b, o + k * 2, none⟩ = some (.string (sOf x.1)) ∧ w.cell? ⟨b, o + k * 2 + 1, none⟩ = some (.string x.2) := by
  have hr : Rd w (.slice a n c) m.length (m.flatMap toldV) := Owns.rd h
  obtain ⟨b, o, h1, h2, h3⟩ := rowC_at toldV 2 (by decide) (fun _ => rfl) hr hk
  exact ⟨b, o, h1, h2, h3 0 _ rfl, h3 1 _ rfl⟩
theorem info_tol : (Tryd.prog.info? 60).map (fun i => (i.zero, i.size, i.bytes)) = some (some (.agg #[.string ⟨#[]⟩, .string ⟨#[]⟩]), 2, 32) := by kernel_rfl
theorem toldV_one (x : BTold) : ∀ v ∈ toldV x, v.oneCell' = true := by
  intro v hv
  have : (toldV x).all (·.oneCell') = true := rfl
  exact (List.all_eq_true.1 this) v hv
theorem rank_len {t : List UInt8} {k : Rk} (h : bRank t = some k) : t.length ≤ 96 := by
  have hk : (sTell t).k ≠ 0 := by
    intro h0
    rw [bRank_other (by rw [h0]; decide) (by rw [h0]; decide)] at h
    cases h
  have h1 := (tell_ne hk).1
  have := put_len (sTell t)
  rw [h1] at this
  exact this
/-- append(l, x) of one that is told: its block has been laid. -/
theorem wp_appT {w : World} {ops : Array Oper} {rest : List Oper} {o : Oper} {a : Act} {Q : Exit → Act → World → Prop} (hgd : o.guard = none) (s x : Operand)
    (ho : o.op = .call { callee := .builtin .append, args := #[s, x], argTypes := #[54, 54] })
    (B : Nat) (v : Value) (m : List BTold) (hv : a.eval s = v) (hown : OwnT B w v m) (y : BTold) (hx : a.eval x = .slice (some ⟨w.heap.size, 0, none⟩) 1 1) (hlen : m.length < 1000000) (hB : B ≤ w.heap.size)
    (h : ∀ v' w', OwnT B w' v' (m ++ [y]) → Below B w w' → wpList Tryd.prog ops Q rest (a.put o.dst v') w') : wpList Tryd.prog ops Q (o :: rest) a (w.alloc (.cells (toldV y).toArray 60)) := by
  obtain ⟨i0, hi, hz0, hz1, hz2⟩ := info_parts info_tol
  have hb : Below B w (w.alloc (.cells (toldV y).toArray 60)) := (Below.refl B w).alloc hB _
  have hb' : Below w.heap.size w (w.alloc (.cells (toldV y).toArray 60)) := (Below.refl _ w).alloc (Nat.le_refl _) _
  have hs : Rd (w.alloc (.cells (toldV y).toArray 60)) (.slice (some ⟨w.heap.size, 0, none⟩) 1 1) 1 (toldV y) :=
    ⟨_, _, rfl, Nat.le_refl _, by unfold maxLen; decide, (fun e => by cases e), fun ad had j u hu => by
      cases had
      rw [Addr.add_mid, Nat.zero_add, World.cell?_alloc_at (w := w) _ _ w.heap.size j rfl]
      simpa using hu⟩
  refine wp_app hgd s x 54 ho B 60 i0 _ 2 32 Tryd.underlying54 hi hz0 hz1 hz2 rfl (by decide) v m.length (m.flatMap toldV) hv (Owns.kept hown hb' (Nat.le_refl _)) _ 1 (toldV y) hx hs rfl (toldV_one y) (by omega) (by unfold maxLen; omega) (by have := hb.size; omega) ?_
  intro v' w' h1 h2 _
  refine h v' w' ?_ (hb.trans h2)
  unfold OwnT
  rw [List.length_append, List.flatMap_append]
  simpa using h1
set_option maxRecDepth 100000 in
set_option maxHeartbeats 4000000 in
theorem thoseW_c (g : Nat) (v : Value) (l : List Bir) (fl : List BFlt) (fv : Value) (c : Nat) (w : World) (hE : EnvU w) (h : BsAt w g v l) (hgd : Good l) (hc : FltIn w c fv fl) (hfl : ∀ f ∈ fl, f.1.length ≤ 1048576) (hm : l.length ≤ 1000) :
    Calls Tryd.prog 51 #[.pointer (some ⟨g, 0, none⟩), .func (.func 52) #[] #[.pointer (some ⟨c, 0, none⟩)]] w
      fun e w' => ∃ v', e = .returned v' ∧ OwnT w.heap.size w' v' (thoseL l (bWant fl)) ∧ Below w.heap.size w w' := by
  obtain ⟨a, cp, rfl⟩ := h.own.slice
  have c0 := h.c0; have c1 := h.c1
  have HR := hd h.own.rd; have HE := hd hE; have HC := hd hc; have HF := hd hfl; have HG := hd hgd
  clear hE hc hfl hgd h
  go_enter Tryd.func51, Tryd.ntmps51
  go_wp2_with (first | (go_at_call 46; refine (bnone_c _ _ c1).mono ?_; rintro e w' ⟨rfl, rfl⟩))
  have I0 : OwnT w.heap.size w (.slice none 0 0) (thoseL (l.take 0) (bWant fl)) := by simpa [thoseL] using OwnT.nil w.heap.size w
  go_loopw [5, 16] (fun vo i w' => ∃ j : Nat, i = .int .i64 j ∧ j ≤ l.length ∧ OwnT w.heap.size w' vo (thoseL (l.take j) (bWant fl)) ∧ Below w.heap.size w w') (fun _ i _ => leftB l.length i)
  case atStart => exact ⟨0, rfl, by omega, I0, Below.refl _ _⟩
  case round =>
    obtain ⟨j, rfl, hj, ho, hB⟩ := hrel
    clear I0
    by_cases hjl : j < l.length
    · obtain ⟨x, hx⟩ : ∃ x, l[j]? = some x := ⟨_, List.getElem?_eq_getElem hjl⟩
      have hsn := those_snoc (bWant fl) hx
      have htl := rank_len (HG.out.2 x (List.mem_of_getElem? hx))
      have hml := those_len (l.take j) (bWant fl)
      rw [List.length_take] at hml
      obtain ⟨b, o, rfl, hgx⟩ := HR.out.gx hx
      obtain ⟨g0, g1, g2, g3⟩ := hgx.below hB hgx.1
      have htc := fun W => told_c x W
      have hwc := fun W c h1 h2 => want_c (bTopic x.1) fl fv c W h1 h2 HF.out (by omega)
      generalize hT : bTopic x.1 = T at *
      generalize hM : thoseL (l.take j) (bWant fl) = M at *
      have hB' := hd hB
      have HO := hd ho; have HTC := hd htc; have HWC := hd hwc; have HSN := hd hsn
      clear ho htc hwc hsn hx hgx
      go_wp2_with fail
      refine (HTC.out _).mono ?_
      rintro e w2 ⟨rfl, hb2⟩
      have b2r : Below wr.heap.size wr w2 := Below.up (by go_grown) hb2
      have B2 : Below w.heap.size w w2 := Below.up hB b2r
      clear hb2 g0 g1 g2 g3 hB HTC
      go_wp2_with fail
      have b3 : Below w2.heap.size w2 (w2.alloc (.cells #[.string (sOf T), .string x.2] 60)) := by go_grown
      have B3 := Below.up B2 b3
      refine (HWC.out _ _ (HE.out.below B3) (HC.out.below B3 (Nat.le_refl _))).mono ?_
      rintro e w3 ⟨rfl, hb3⟩
      have d0 := bcell hb3 w2.heap.size 0 (by simp [go_sem])
      have d1 := bcell hb3 w2.heap.size 1 (by simp [go_sem])
      simp [go_sem] at d0 d1
      have B4 := Below.up B3 hb3
      have HO3 := hd (HO.out.kept ((b2r.mono (Nat.le_refl _)).trans ((b3.trans (hb3.mono b3.size)).mono b2r.size)) (Nat.le_refl _))
      have HBT := hd (show bTold x = (T, x.2) by unfold bTold; rw [hT])
      cases hw : bWant fl T
      · have hsn := HSN.out
        rw [hw, if_neg (by simp), List.append_nil] at hsn
        have HSN2 := hd hsn
        clear hsn HSN HC HWC b2r b3 hb3
        go_wp2_with fail
        go_roundw
        case rel => exact ⟨j + 1, by congr 1, by omega, by rw [HSN2.out]; exact HO3.out, B4⟩
        case measure => simp [leftB]; omega
      · have hsn := HSN.out
        rw [hw, if_pos rfl] at hsn
        have HSN2 := hd hsn
        clear hsn HSN HC HWC b2r b3 hb3
        go_wp2_with (first | (at_builtin; refine wp_appT rfl _ _ rfl w.heap.size u5 M rfl HO3.out (T, x.2) rfl (by omega) B4.size ?_; intro v6 w6 ho6 hb6))
        have HO6 := hd ho6
        clear ho6
        go_roundw
        case rel => exact ⟨j + 1, by congr 1, by omega, by rw [HSN2.out, HBT.out]; exact HO6.out, B4.trans hb6⟩
        case measure => simp [leftB]; omega
    · have hke : j = l.length := by omega
      subst hke
      rw [List.take_length] at ho
      have HO := hd ho
      clear ho
      go_wp2_with fail
      go_ret
      exact ⟨_, rfl, HO.out, hB⟩
set_option maxRecDepth 100000 in
set_option maxHeartbeats 2000000 in
theorem bFind_c (g : Nat) (v : Value) (l : List Bir) (fl : List BFlt) (fv : Value) (w : World) (hE : EnvU w) (h : BsAt w g v l) (hgd : Good l) (hv : Flts w fv fl) (hfl : ∀ f ∈ fl, f.1.length ≤ 1048576) (hm : l.length ≤ 1000) :
    Calls Tryd.prog 23 #[.pointer (some ⟨g, 0, none⟩), fv] w fun e w' => ∃ v', e = .returned v' ∧ OwnT w.heap.size w' v' (thoseL l (bWant fl)) ∧ Below w.heap.size w w' := by
  obtain ⟨a, cp, rfl⟩ := hv.slice
  have b0 : Below w.heap.size w (w.alloc (.cells #[.slice a fl.length cp] 26)) := by go_grown
  have hth := thoseW_c g v l fl (.slice a fl.length cp) w.heap.size (w.alloc (.cells #[.slice a fl.length cp] 26)) (hE.below b0) (h.below b0) hgd ⟨by simp [go_sem], by simp [go_sem], Rd.below' hv b0 (Nat.le_refl _)⟩ hfl hm
  have hsz : w.heap.size ≤ (w.alloc (.cells #[.slice a fl.length cp] 26)).heap.size := b0.size
  have HT := hd hth
  clear hth hE h hgd hv hfl
  go_enter Tryd.func23, Tryd.ntmps23
  go_wp2_with fail
  refine HT.out.mono ?_
  rintro e w1 ⟨v', rfl, ho, hb⟩
  obtain ⟨a', c', rfl⟩ := ho.slice
  have HO := hd (Owns.le ho hsz)
  clear ho
  go_wp2_with fail
  go_ret
  exact ⟨_, rfl, HO.out, Below.up b0 hb⟩

/-! ### BirthsOrder -/
theorem putL_good {l : List Bir} (h : Good l) (t : List UInt8) (u : ByteArray) : Good (bPutL l t u) := by
  unfold bPutL
  split
  · exact h
  · rename_i k hk
    split
    · exact h
    · exact put_good h hk u
def wantL (l : List Bir) (fl : List BFlt) : List Bir := l.filter fun x => bWant fl (bTopic x.1)
theorem those_want (l : List Bir) (fl : List BFlt) : thoseL l (bWant fl) = (wantL l fl).map bTold := by
  unfold thoseL wantL
  rw [List.filter_map]; rfl
theorem want_good {l : List Bir} (h : Good l) (fl : List BFlt) : Good (wantL l fl) := ⟨List.Pairwise.filter _ h.1, fun x hx => h.2 x (List.mem_filter.1 hx).1⟩
def lastN (L : List Bir) : Nat → List UInt8
  | 0 => []
  | j + 1 => ((L[j]?).map (·.1.1)).getD []
structure OrdX (L : List Bir) (j : Nat) (x : Bir) : Prop where
  ne : x.1.1 ≠ []
  lt : ¬ x.1.1 < lastN L j
  dev : 0 < j → x.1.1 = lastN L j → x.1.2 ≠ [] ∧ ∃ y, L[j - 1]? = some y ∧ (sTell (bTopic y.1)).d < (sTell (bTopic x.1)).d
theorem ord_at {L : List Bir} (h : Good L) {j : Nat} {x : Bir} (hx : L[j]? = some x) : OrdX L j x := by
  have hr := h.2 x (List.mem_of_getElem? hx)
  refine ⟨(bRank_node hr).2.1, ?_, ?_⟩
  · cases j with
    | zero => exact l_nil
    | succ j =>
      have hj : j < L.length := by have := (List.getElem?_eq_some_iff.1 hx).1; omega
      have hy := List.getElem?_eq_getElem hj
      have hlt := sorted_at h.1 (Nat.lt_succ_self j) hy hx
      show ¬ x.1.1 < ((L[j]?).map (·.1.1)).getD []
      rw [hy]
      show ¬ x.1.1 < L[j].1.1
      rcases hlt with h1 | ⟨h1, h2⟩
      · exact fun h3 => l_irr _ (l_tr h1 h3)
      · rw [h1]; exact l_irr _
  · intro hj0 he
    cases j with
    | zero => omega
    | succ j =>
      have hj : j < L.length := by have := (List.getElem?_eq_some_iff.1 hx).1; omega
      have hy := List.getElem?_eq_getElem hj
      have hlt := sorted_at h.1 (Nat.lt_succ_self j) hy hx
      have he2 : x.1.1 = L[j].1.1 := by
        have he3 : x.1.1 = ((L[j]?).map (·.1.1)).getD [] := he
        rw [hy] at he3
        exact he3
      have hry := h.2 L[j] (List.getElem_mem hj)
      rcases hlt with h1 | ⟨h1, h2⟩
      · rw [he2] at h1; exact absurd h1 (l_irr _)
      · refine ⟨fun h3 => by rw [h3] at h2; exact l_nil h2, L[j], by simp, ?_⟩
        have e1 : bRank (bTopic L[j].1) = some (x.1.1, L[j].1.2) := by rw [hry, he2]
        have e2 : bRank (bTopic x.1) = some (x.1.1, x.1.2) := hr
        exact dev_lt e1 e2 h2
set_option maxRecDepth 100000 in
set_option maxHeartbeats 4000000 in
theorem BirthsOrder_s (va vf : Value) (acts : List BAct) (fl : List BFlt) (w : World) (hE : EnvU w) (hW : EnvW w) (hva : Acts w va acts) (hac : ∀ a ∈ acts, a.2.1.length ≤ 1048576) (hvf : Flts w vf fl) (hfl : ∀ f ∈ fl, f.1.length ≤ 1048576) :
    Calls Tryd.prog 6 #[va, vf] w fun e w' => e = .returned (.bool true) ∧ Below w.heap.size w w' := by
  obtain ⟨a, ca, rfl⟩ := hva.slice
  obtain ⟨fa, fc, rfl⟩ := hvf.slice
  have hm := hva.len
  have hmf := hvf.len
  unfold maxLen at hm hmf
  have HE := hd hE; have HW := hd hW; have HVA := hd hva; have HAC := hd hac; have HVF := hd hvf; have HFL := hd hfl
  clear hE hW hva hac hvf hfl
  go_enter Tryd.func6, Tryd.ntmps6
  go_wp2_with fail
  refine (bNew_c _).mono ?_
  rintro e w3 ⟨rfl, hat, hb3⟩
  have I0 : PutI w w.heap.size 0 [] (.slice none 0 0) w3 := ⟨hat, List.Pairwise.nil, by simp, Nat.le_refl _, by simp [blk, Value.ownBlock], hb3⟩
  have G0 : Good [] := ⟨List.Pairwise.nil, by simp⟩
  obtain ⟨gb, hgb⟩ : ∃ gb, w.heap.size = gb := ⟨_, rfl⟩
  have hgs : w.heap.size ≤ gb := by omega
  rw [hgb] at I0 ⊢
  clear hat hb3
  go_wp2_with fail
  go_loopw [6] (fun i w' => ∃ (j : Nat) (l : List Bir) (v : Value), i = .int .i64 j ∧ j ≤ 60 ∧ j ≤ acts.length ∧ PutI w gb j l v w' ∧ Good l) (fun i _ => leftB 60 i)
  case atStart => exact ⟨0, [], _, rfl, by omega, by omega, I0, G0⟩
  case round =>
    obtain ⟨j, l, v, rfl, hj, hja, I, hgd⟩ := hrel
    clear I0 G0
    have HI := hd I; have HG := hd hgd
    clear I hgd
    by_cases hgo : j < acts.length ∧ j < 60
    · obtain ⟨hj1, hj2⟩ := hgo
      obtain ⟨x, hx⟩ : ∃ x, acts[j]? = some x := ⟨_, List.getElem?_eq_getElem hj1⟩
      obtain ⟨b, o, rfl, hbl, x0, x1, x2⟩ := HVA.out.at hx
      have hxt := HAC.out x (List.mem_of_getElem? hx)
      have hbw := HI.out.below
      replace x1 := (bcell hbw.drew _ _ hbl).trans x1
      replace x2 := (bcell hbw.drew _ _ hbl).trans x2
      have hbd := hbw.drew
      have HI2 := hd (HI.out.on ((Below.refl wr.heap.size wr).drew))
      clear x0 hx HI hbw
      obtain ⟨xk, xt, xu⟩ := x
      simp only at x1 x2 hxt
      have hj3 : (j : Int) < 60 := by omega
      go_wp2_with fail
      refine wp_region_M (fun W => W.cell? ⟨b, o + j * 3 + 1, none⟩ = some (.string (sOf xt)) ∧ W.cell? ⟨b, o + j * 3 + 2, none⟩ = some (.string xu)) 11 [(0, false), (1, false), (2, false), (3, false), (4, false), (5, false), (6, false), (7, false), (8, false), (9, false), (10, false), (11, true)] (by kernel_rfl) (by kernel_rfl) (fun _ _ _ _ h => h) ⟨x1, x2⟩ ?_
      generalize wr.drew = w4 at *
      apply wpM_still (by rfl) (by rfl)
      · intro W hC
        obtain ⟨g1, g2⟩ := hC
        go_simp
        rfl
      go_simp
      apply wpM_still (by rfl) (by rfl)
      · intro W hC
        obtain ⟨g1, g2⟩ := hC
        go_simp
        rfl
      go_simp
      apply wpM_still (by rfl) (by rfl)
      · intro W hC
        obtain ⟨g1, g2⟩ := hC
        go_simp
        rfl
      go_simp
      apply wpM_still (by rfl) (by rfl)
      · intro W hC
        obtain ⟨g1, g2⟩ := hC
        go_simp
        rfl
      go_simp
      apply wpM_still (by rfl) (by rfl)
      · intro W hC
        obtain ⟨g1, g2⟩ := hC
        go_simp
        rfl
      go_simp
      apply wpM_still (by rfl) (by rfl)
      · intro W hC
        obtain ⟨g1, g2⟩ := hC
        go_simp
        rfl
      go_simp
      apply wpM_still (by rfl) (by rfl)
      · intro W hC
        obtain ⟨g1, g2⟩ := hC
        go_simp
        rfl
      go_simp
      apply wpM_still (by rfl) (by rfl)
      · intro W hC
        obtain ⟨g1, g2⟩ := hC
        go_simp
        rfl
      go_simp
      apply wpM_still (by rfl) (by rfl)
      · intro W hC
        obtain ⟨g1, g2⟩ := hC
        go_simp
        rfl
      go_simp
      apply wpM_still (by rfl) (by rfl)
      · intro W hC
        obtain ⟨g1, g2⟩ := hC
        go_simp
        rfl
      go_simp
      apply wpM_still (by rfl) (by rfl)
      · intro W hC
        obtain ⟨g1, g2⟩ := hC
        go_simp
        rfl
      go_simp
      apply wpM_move (by rfl) (by rfl)
      intro K hK
      go_simp
      refine (bPut_c gb _ l xt xu w4 (HE.out.below hbd) (HW.out.below hbd (Nat.le_refl _)) (by omega) HI2.out.at' HI2.out.sorted (by have := HI2.out.len; omega)).mono ?_
      rintro e w5 ⟨rfl, v', hbd5⟩
      go_simp
      have HI5 := hd (HI2.out.put hbd5)
      have HG5 := hd (putL_good HG.out xt xu)
      clear HI2 hbd5
      refine hK _ _ (fun h => absurd h (by decide)) ?_
      clear hK K
      refine wpM_nil ?_
      have hw1 : IntKind.i64.wrap ((j : Int) + 1) = (j : Int) + 1 := IntWalk.i64_in _ (by omega)
      go_wp2_with fail
      go_roundw
      case rel => exact ⟨j + 1, _, v', rfl, by omega, by omega, HI5.out, HG5.out⟩
      case measure => simp [leftB]; omega
    · have hl60 : l.length ≤ 60 := by have := HI.out.len; omega
      have hor : (acts.length : Int) ≤ (j : Int) ∨ ((j : Int) = 60 ∧ (60 : Int) < (acts.length : Int)) := by omega
      have hbw := HI.out.below
      have hF := bFind_c gb v l fl _ wr (HE.out.below hbw) HI.out.at' HG.out (Rd.below' HVF.out hbw (Nat.le_refl _)) HFL.out (by omega)
      have hwt := those_want l fl
      have hwg := want_good HG.out fl
      have hwl : (wantL l fl).length ≤ l.length := List.length_filter_le _ _
      have hwm : ∀ x ∈ wantL l fl, bWant fl (bTopic x.1) = true := fun x hx => (List.mem_filter.1 hx).2
      rw [hwt] at hF
      generalize hL : wantL l fl = L at *
      have HF := hd hF; have HWG := hd hwg; have HWM := hd hwm
      clear hF hwt hwg hwm hL hgo
      obtain ⟨w0, rfl⟩ : ∃ w0, w0 = wr := ⟨_, rfl⟩
      rcases hor with hor | ⟨hor, hor2⟩
      all_goals
        go_wp2_with fail
        refine HF.out.mono ?_
        rintro e w6 ⟨v6, rfl, ho6, hb6⟩
        obtain ⟨a6, c6, rfl⟩ := ho6.slice
        rw [List.length_map]
        have HO6 := hd ho6
        have HI6 := hd (HI.out.on hb6)
        clear ho6 HF HI
        go_wp2_with fail
        have hLm : L.length ≤ 60 := by omega
        have hbw6 := HI6.out.below
        have HL := hd hwl
        clear hwl hbw hbw6
        go_loopw [8, 9] (fun la i w' => ∃ q : Nat, i = .int .i64 q ∧ q ≤ L.length ∧ la = .string (sOf (lastN L q)) ∧ Below w6.heap.size w6 w') (fun _ i _ => leftB L.length i)
        case atStart => exact ⟨0, rfl, by omega, rfl, Below.refl _ _⟩
        case round =>
          obtain ⟨q, rfl, hq, rfl, hb7⟩ := hrel
          obtain ⟨w7, rfl⟩ : ∃ w7, w7 = wr := ⟨_, rfl⟩
          by_cases hqL : q < L.length
          · obtain ⟨x, hx⟩ : ∃ x, L[q]? = some x := ⟨_, List.getElem?_eq_getElem hqL⟩
            have hox := ord_at HWG.out hx
            have hwx := HWM.out x (List.mem_of_getElem? hx)
            have hrx := HWG.out.2 x (List.mem_of_getElem? hx)
            have htl := rank_len hrx
            have hbs := births_rank hrx
            have hmx : (L.map bTold)[q]? = some (bTopic x.1, x.2) := by rw [List.getElem?_map, hx]; rfl
            obtain ⟨b, o, rfl, hbl, m0, m1⟩ := HO6.out.at hmx
            replace m0 := (bcell hb7 _ _ hbl).trans m0
            have hbl7 : b < w7.heap.size := Nat.lt_of_lt_of_le hbl hb7.size
            have HX := hd hx; have HOX := hd hox; have HRX := hd hrx; have HBS := hd hbs
            have hB7 : Below w.heap.size w w7 := Below.up HI6.out.below hb7
            clear hx hox hrx hbs hmx m1
            simp only at m0
            generalize hT : bTopic x.1 = T at *
            unfold bWant at hwx
            have HWX := hd hwx
            clear hwx
            go_wp2_with fail
            go_loopw [10, 11] (fun wa k w' => ∃ z : Nat, k = .int .i64 z ∧ z ≤ fl.length ∧ wa = .bool ((fl.take z).any fun f => mMatch f.1 T) ∧ Below w7.heap.size w7 w') (fun _ k _ => leftB fl.length k)
            case atStart => exact ⟨0, rfl, by omega, by simp, Below.refl _ _⟩
            case round =>
              obtain ⟨z, rfl, hz, rfl, hb8⟩ := hrel
              have m8 := (bcell hb8 _ _ hbl7).trans m0
              have hB8 := Below.up hB7 hb8
              by_cases hzl : z < fl.length
              · obtain ⟨f, hf⟩ : ∃ f, fl[z]? = some f := ⟨_, List.getElem?_eq_getElem hzl⟩
                obtain ⟨b2, o2, rfl, hbl2, n0, n1⟩ := HVF.out.at hf
                have n8 := (bcell hB8.drew _ _ hbl2).trans n0
                have m9 := (bcell (Below.refl wr.heap.size wr).drew _ _ (Nat.lt_of_lt_of_le hbl7 hb8.size)).trans m8
                have hfl1 := HFL.out f (List.mem_of_getElem? hf)
                have hsn : (fl.take (z + 1)).any (fun f => mMatch f.1 T) = ((fl.take z).any (fun f => mMatch f.1 T) || mMatch f.1 T) := by
                  rw [List.take_add_one, hf, List.any_append]; simp
                have hmt := fun W h => Match_c f.1 T W h (by omega) (by omega)
                have HSN := hd hsn; have HMT := hd hmt
                have hw1 : IntKind.i64.wrap ((z : Int) + 1) = (z : Int) + 1 := IntWalk.i64_in _ (by omega)
                clear hsn hmt hf n0 n1 m8
                cases hany : (fl.take z).any fun f => mMatch f.1 T
                · have hsn2 : (fl.take (z + 1)).any (fun f => mMatch f.1 T) = mMatch f.1 T := by rw [HSN.out, hany]; rfl
                  have HSN2 := hd hsn2
                  clear hsn2 HSN hany
                  go_wp2_with fail
                  refine wp_region_M (fun W => W.cell? ⟨b2, o2 + z * 2, none⟩ = some (.string (sOf f.1)) ∧ W.cell? ⟨b, o + q * 2, none⟩ = some (.string (sOf T))) 14 [(0, false), (1, false), (2, false), (3, false), (4, false), (5, false), (6, false), (7, false), (8, false), (9, false), (10, false), (11, false), (12, true), (13, false), (14, true)] (by kernel_rfl) (by kernel_rfl) (fun _ _ _ _ h => h) ⟨n8, m9⟩ ?_
                  have hbl9 : b < wr.drew.heap.size := Nat.lt_of_lt_of_le hbl7 hb8.size
                  have hbl29 : b2 < wr.drew.heap.size := Nat.lt_of_lt_of_le hbl2 hB8.size
                  have hB9 := hB8.drew
                  have hb9 := hb8.drew
                  generalize wr.drew = w9 at *
                  apply wpM_still (by rfl) (by rfl)
                  · intro W hC
                    obtain ⟨g1, g2⟩ := hC
                    go_simp
                    rfl
                  go_simp
                  apply wpM_still (by rfl) (by rfl)
                  · intro W hC
                    obtain ⟨g1, g2⟩ := hC
                    go_simp
                    rfl
                  go_simp
                  apply wpM_still (by rfl) (by rfl)
                  · intro W hC
                    obtain ⟨g1, g2⟩ := hC
                    go_simp
                    rfl
                  go_simp
                  apply wpM_still (by rfl) (by rfl)
                  · intro W hC
                    obtain ⟨g1, g2⟩ := hC
                    go_simp
                    rfl
                  go_simp
                  apply wpM_still (by rfl) (by rfl)
                  · intro W hC
                    obtain ⟨g1, g2⟩ := hC
                    go_simp
                    rfl
                  go_simp
                  apply wpM_still (by rfl) (by rfl)
                  · intro W hC
                    obtain ⟨g1, g2⟩ := hC
                    go_simp
                    rfl
                  go_simp
                  apply wpM_still (by rfl) (by rfl)
                  · intro W hC
                    obtain ⟨g1, g2⟩ := hC
                    go_simp
                    rfl
                  go_simp
                  apply wpM_still (by rfl) (by rfl)
                  · intro W hC
                    obtain ⟨g1, g2⟩ := hC
                    go_simp
                    rfl
                  go_simp
                  apply wpM_still (by rfl) (by rfl)
                  · intro W hC
                    obtain ⟨g1, g2⟩ := hC
                    go_simp
                    rfl
                  go_simp
                  apply wpM_still (by rfl) (by rfl)
                  · intro W hC
                    obtain ⟨g1, g2⟩ := hC
                    go_simp
                    rfl
                  go_simp
                  apply wpM_still (by rfl) (by rfl)
                  · intro W hC
                    obtain ⟨g1, g2⟩ := hC
                    go_simp
                    rfl
                  go_simp
                  apply wpM_still (by rfl) (by rfl)
                  · intro W hC
                    obtain ⟨g1, g2⟩ := hC
                    go_simp
                    rfl
                  go_simp
                  apply wpM_move (by rfl) (by rfl)
                  intro K hK
                  go_simp
                  refine (HMT.out _ (HE.out.below hB9)).mono ?_
                  rintro e w10 ⟨rfl, hb10⟩
                  go_simp
                  refine hK _ _ (fun _ => ⟨(bcell hb10 _ _ hbl29).trans n8, (bcell hb10 _ _ hbl9).trans m9⟩) ?_
                  clear hK K
                  have hb11 := hb9.trans (hb10.mono hb9.size)
                  apply wpM_still (by rfl) (by rfl)
                  · intro W hC
                    go_simp
                    rfl
                  go_simp
                  apply wpM_move (by rfl) (by rfl)
                  intro K hK
                  go_simp
                  refine hK _ _ (fun h => absurd h (by decide)) ?_
                  clear hK K
                  refine wpM_nil ?_
                  go_wp2_with fail
                  go_roundw
                  case rel => exact ⟨z + 1, by congr 1, by omega, by rw [HSN2.out], hb11⟩
                  case measure => simp [leftB]; omega
                · have hsn2 : (fl.take (z + 1)).any (fun f => mMatch f.1 T) = true := by rw [HSN.out, hany]; rfl
                  have HSN2 := hd hsn2
                  clear hsn2 HSN hany
                  go_wp2_with fail
                  refine wp_region_M (fun _ => True) 14 [(0, false), (1, false), (2, false), (3, false), (4, false), (5, false), (6, false), (7, false), (8, false), (9, false), (10, false), (11, false), (12, true), (13, false), (14, true)] (by kernel_rfl) (by kernel_rfl) (fun _ _ _ _ h => h) trivial ?_
                  have hb9 := hb8.drew
                  generalize wr.drew = w9 at *
                  apply wpM_still (by rfl) (by rfl)
                  · intro W hC
                    go_simp
                    rfl
                  go_simp
                  apply wpM_still (by rfl) (by rfl)
                  · intro W hC
                    go_simp
                    rfl
                  go_simp
                  apply wpM_skip (by rfl) (by rfl)
                  go_simp
                  apply wpM_skip (by rfl) (by rfl)
                  go_simp
                  apply wpM_skip (by rfl) (by rfl)
                  go_simp
                  apply wpM_skip (by rfl) (by rfl)
                  go_simp
                  apply wpM_skip (by rfl) (by rfl)
                  go_simp
                  apply wpM_skip (by rfl) (by rfl)
                  go_simp
                  apply wpM_skip (by rfl) (by rfl)
                  go_simp
                  apply wpM_skip (by rfl) (by rfl)
                  go_simp
                  apply wpM_skip (by rfl) (by rfl)
                  go_simp
                  apply wpM_skip (by rfl) (by rfl)
                  go_simp
                  refine wpM_skipM (by rfl) (by rfl) trivial ?_
                  go_simp
                  apply wpM_still (by rfl) (by rfl)
                  · intro W hC
                    go_simp
                    rfl
                  go_simp
                  apply wpM_move (by rfl) (by rfl)
                  intro K hK
                  go_simp
                  refine hK _ _ (fun h => absurd h (by decide)) ?_
                  clear hK K
                  refine wpM_nil ?_
                  go_wp2_with fail
                  go_roundw
                  case rel => exact ⟨z + 1, by congr 1, by omega, by rw [HSN2.out], hb9⟩
                  case measure => simp [leftB]; omega
              · have hze : z = fl.length := by omega
                subst hze
                rw [List.take_length, HWX.out]
                have HOX2 := HOX.out
                have hbt := fun W h1 h2 => Of_c T W h1 h2 (by omega)
                have hzz : (sTell T).g.length ≤ 9223372036854775000 ∧ (sTell T).n.length ≤ 9223372036854775000 ∧ (sTell T).d.length ≤ 9223372036854775000 := by
                  have := guess_len (M := T.length) (p := lSplit T) (fun x hx => (lSplit_parts T x hx).2)
                  unfold sTell
                  split
                  · simp [SpS.zero]
                  · omega
                have hbi := fun W h1 h2 => Births_c (sTell T) W h1 h2 hzz.1 hzz.2.1 hzz.2.2
                rw [HBS.out] at hbi
                obtain ⟨hN0, hNlt, hdev⟩ := HOX2
                have hdv : 0 < q → x.1.1 = lastN L q → x.1.2 ≠ [] ∧ ∃ y, L[q - 1]? = some y ∧ (sTell (bTopic y.1)).d < (sTell T).d := by rw [← hT]; exact hdev
                have hln : lastN L (q + 1) = x.1.1 := by show ((L[q]?).map (·.1.1)).getD [] = x.1.1; rw [HX.out]; rfl
                obtain ⟨⟨N, D⟩, u⟩ := x
                simp only at hbi hN0 hNlt hdv hln
                obtain ⟨sT, hsT⟩ : ∃ sT, sTell T = sT := ⟨_, rfl⟩
                have hof := hbt
                rw [hsT] at hbi hdv hof
                obtain ⟨kT, gT, nT, dT⟩ := sT
                unfold spV at hbi hof
                simp only at hbi hdv hof
                have HBI := hd hbi; have HOF := hd hof; have HDV := hd hdv; have HLN := hd hln
                clear hbt hzz hbi hof hdv hln hdev HOX HBS HRX hsT
                have hw1 : IntKind.i64.wrap ((q : Int) + 1) = (q : Int) + 1 := IntWalk.i64_in _ (by omega)
                go_wp2_with fail
                refine (HOF.out _ (HE.out.below hB8) (HW.out.below hB8 (Nat.le_refl _))).mono ?_
                rintro e w10 ⟨rfl, hb10⟩
                have hB10 := Below.up hB8 hb10
                go_wp2_with fail
                refine (HBI.out _ (HE.out.below hB10) (HW.out.below hB10 (Nat.le_refl _))).mono ?_
                rintro e w11 ⟨rfl, hb11⟩
                have hB11 := Below.up hB10 hb11
                have hbE : Below w6.heap.size w6 w11 := Below.up hb7 (Below.up hb8 (Below.up hb10 hb11))
                have HB7E := hd (Below.up hb8 (Below.up hb10 hb11))
                clear hb10 hb11 hB10 HBI
                have htN := toList_sOf N; have htD := toList_sOf D
                have hNe : N.isEmpty = false := by cases N with | nil => exact absurd rfl hN0 | cons => rfl
                have hNb : (N == []) = false := by simpa using hN0
                generalize hLA : lastN L q = LA at *
                have htA := toList_sOf LA
                have hNl : Op.bytesLess N LA = false := by rw [Go.Proofs.bytesLess_eq]; simpa using hNlt
                clear hN0 hNlt
                cases q with
                | zero =>
                  have hq0 : ¬ (0 : Int) < ((0 : Nat) : Int) := by decide
                  clear HDV
                  go_wp2_with fail
                  refine wp_region_M (fun _ => True) 41 [(0, false), (1, false), (2, false), (3, false), (4, false), (5, false), (6, false), (7, false), (8, false), (9, false), (10, false), (11, false), (12, false), (13, false), (14, false), (15, false), (16, false), (17, false), (18, false), (19, false), (20, false), (21, false), (22, false), (23, false), (24, false), (25, false), (26, false), (27, false), (28, false), (31, false), (32, false), (33, false), (34, false), (35, false), (29, true), (30, false), (36, true), (37, false), (38, false), (39, false), (40, false), (41, true)] (by kernel_rfl) (by kernel_rfl) (fun _ _ _ _ h => h) trivial ?_
                  have hbF := hbE.drew
                  generalize w11.drew = w12 at *
                  apply wpM_still (by rfl) (by rfl)
                  · intro W hC
                    go_simp
                    rfl
                  go_simp
                  apply wpM_still (by rfl) (by rfl)
                  · intro W hC
                    go_simp
                    rfl
                  go_simp
                  apply wpM_still (by rfl) (by rfl)
                  · intro W hC
                    go_simp
                    rfl
                  go_simp
                  apply wpM_still (by rfl) (by rfl)
                  · intro W hC
                    go_simp
                    rfl
                  go_simp
                  apply wpM_still (by rfl) (by rfl)
                  · intro W hC
                    go_simp
                    rfl
                  go_simp
                  apply wpM_still (by rfl) (by rfl)
                  · intro W hC
                    go_simp
                    rfl
                  go_simp
                  apply wpM_still (by rfl) (by rfl)
                  · intro W hC
                    go_simp
                    rfl
                  go_simp
                  apply wpM_still (by rfl) (by rfl)
                  · intro W hC
                    go_simp
                    rfl
                  go_simp
                  apply wpM_still (by rfl) (by rfl)
                  · intro W hC
                    go_simp
                    rfl
                  go_simp
                  apply wpM_still (by rfl) (by rfl)
                  · intro W hC
                    go_simp
                    rfl
                  go_simp
                  apply wpM_still (by rfl) (by rfl)
                  · intro W hC
                    go_simp
                    rfl
                  go_simp
                  apply wpM_still (by rfl) (by rfl)
                  · intro W hC
                    go_simp
                    rfl
                  go_simp
                  apply wpM_still (by rfl) (by rfl)
                  · intro W hC
                    go_simp
                    rfl
                  go_simp
                  apply wpM_still (by rfl) (by rfl)
                  · intro W hC
                    go_simp
                    rfl
                  go_simp
                  apply wpM_still (by rfl) (by rfl)
                  · intro W hC
                    go_simp
                    rfl
                  go_simp
                  apply wpM_skip (by rfl) (by rfl)
                  go_simp
                  apply wpM_skip (by rfl) (by rfl)
                  go_simp
                  apply wpM_skip (by rfl) (by rfl)
                  go_simp
                  apply wpM_still (by rfl) (by rfl)
                  · intro W hC
                    go_simp
                    rfl
                  go_simp
                  apply wpM_still (by rfl) (by rfl)
                  · intro W hC
                    go_simp
                    rfl
                  go_simp
                  apply wpM_skip (by rfl) (by rfl)
                  go_simp
                  apply wpM_skip (by rfl) (by rfl)
                  go_simp
                  apply wpM_skip (by rfl) (by rfl)
                  go_simp
                  apply wpM_skip (by rfl) (by rfl)
                  go_simp
                  apply wpM_skip (by rfl) (by rfl)
                  go_simp
                  apply wpM_skip (by rfl) (by rfl)
                  go_simp
                  apply wpM_skip (by rfl) (by rfl)
                  go_simp
                  apply wpM_skip (by rfl) (by rfl)
                  go_simp
                  apply wpM_skip (by rfl) (by rfl)
                  go_simp
                  apply wpM_skip (by rfl) (by rfl)
                  go_simp
                  apply wpM_skip (by rfl) (by rfl)
                  go_simp
                  apply wpM_skip (by rfl) (by rfl)
                  go_simp
                  apply wpM_skip (by rfl) (by rfl)
                  go_simp
                  apply wpM_skip (by rfl) (by rfl)
                  go_simp
                  refine wpM_skipM (by rfl) (by rfl) trivial ?_
                  go_simp
                  apply wpM_skip (by rfl) (by rfl)
                  go_simp
                  refine wpM_skipM (by rfl) (by rfl) trivial ?_
                  go_simp
                  apply wpM_skip (by rfl) (by rfl)
                  go_simp
                  apply wpM_skip (by rfl) (by rfl)
                  go_simp
                  apply wpM_skip (by rfl) (by rfl)
                  go_simp
                  apply wpM_still (by rfl) (by rfl)
                  · intro W hC
                    go_simp
                    rfl
                  go_simp
                  apply wpM_move (by rfl) (by rfl)
                  intro K hK
                  go_simp
                  refine hK _ _ (fun h => absurd h (by decide)) ?_
                  clear hK K
                  refine wpM_nil ?_
                  go_wp2_with fail
                  go_roundw
                  case rel => exact ⟨1, by first | rfl | simp, by omega, by rw [HLN.out], hbF⟩
                  case measure => simp [leftB]; omega
                | succ p =>
                  have hqp : (0 : Int) < ((p + 1 : Nat) : Int) := by omega
                  have hqp2 : (0 : Int) < (p : Int) + 1 := by omega
                  by_cases hNA : N = LA
                  · obtain ⟨hD0, y, hy, hdl⟩ := HDV.out (by omega) hNA
                    subst hNA
                    have hNAb : (N == N) = true := by simp
                    clear htA
                    simp only [Nat.add_sub_cancel] at hy
                    have hDe : D.isEmpty = false := by cases D with | nil => exact absurd rfl hD0 | cons => rfl
                    have hDb : (D == []) = false := by simpa using hD0
                    have hry := HWG.out.2 y (List.mem_of_getElem? hy)
                    have hyl := rank_len hry
                    have hmy : (L.map bTold)[p]? = some (bTopic y.1, y.2) := by rw [List.getElem?_map, hy]; rfl
                    obtain ⟨b', o', hbo, hbl', y0, y1⟩ := HO6.out.at hmy
                    obtain ⟨rfl, rfl⟩ : b = b' ∧ o = o' := by
                      have := Option.some.inj hbo; simp only [Addr.mk.injEq, and_true] at this; exact ⟨this.1, this.2⟩
                    have y9 := (bcell hbE.drew _ _ hbl).trans y0
                    have hB7E : Below w7.heap.size w7 w11 := HB7E.out
                    have m9 := (bcell hB7E.drew _ _ hbl7).trans m0
                    have hbl11 : b < w11.drew.heap.size := Nat.lt_of_lt_of_le hbl7 hB7E.size
                    have hofy := fun W h1 h2 => Of_c (bTopic y.1) W h1 h2 (by omega)
                    obtain ⟨sY, hsY⟩ : ∃ sY, sTell (bTopic y.1) = sY := ⟨_, rfl⟩
                    rw [hsY] at hofy hdl
                    obtain ⟨kY, gY, nY, dY⟩ := sY
                    unfold spV at hofy
                    simp only at hofy hdl
                    have hgeq : Op.bytesLess dY dT = true := by rw [Go.Proofs.bytesLess_eq]; simpa using hdl
                    have htdY := toList_sOf dY; have htdT := toList_sOf dT
                    generalize bTopic y.1 = TY at *
                    have HOY := hd hofy
                    clear hofy hsY hdl hy hry hmy hbo y0 y1 hD0 HDV
                    have hwq : IntKind.i64.wrap (((p + 1 : Nat) : Int) - 1) = (p : Int) := by rw [IntWalk.i64_in _ (by omega)]; omega
                    have hwq2 : IntKind.i64.wrap ((p : Int) + 1 - 1) = (p : Int) := by rw [IntWalk.i64_in _ (by omega)]; omega
                    have hwp : IntKind.i64.wrap (p : Int) = (p : Int) := IntWalk.i64_in _ (by omega)
                    have hp0 : (0 : Int) ≤ (p : Int) := by omega
                    have hpL : p < L.length := by omega
                    have hpi : (p : Int) < (L.length : Int) := by omega
                    have hqi : (p : Int) + 1 < (L.length : Int) := by omega
                    have hB11d := hB11.drew
                    have hbF := hbE.drew
                    go_wp2_with fail
                    refine wp_region_M (fun W => W.cell? ⟨b, o + p * 2, none⟩ = some (.string (sOf TY)) ∧ W.cell? ⟨b, o + (p + 1) * 2, none⟩ = some (.string (sOf T))) 41 [(0, false), (1, false), (2, false), (3, false), (4, false), (5, false), (6, false), (7, false), (8, false), (9, false), (10, false), (11, false), (12, false), (13, false), (14, false), (15, false), (16, false), (17, false), (18, false), (19, false), (20, false), (21, false), (22, false), (23, false), (24, false), (25, false), (26, false), (27, false), (28, false), (31, false), (32, false), (33, false), (34, false), (35, false), (29, true), (30, false), (36, true), (37, false), (38, false), (39, false), (40, false), (41, true)] (by kernel_rfl) (by kernel_rfl) (fun _ _ _ _ h => h) ⟨y9, m9⟩ ?_
                    generalize w11.drew = w12 at *
                    apply wpM_still (by rfl) (by rfl)
                    · intro W hC
                      obtain ⟨g1, g2⟩ := hC
                      go_simp
                      rfl
                    go_simp
                    apply wpM_still (by rfl) (by rfl)
                    · intro W hC
                      obtain ⟨g1, g2⟩ := hC
                      go_simp
                      rfl
                    go_simp
                    apply wpM_still (by rfl) (by rfl)
                    · intro W hC
                      obtain ⟨g1, g2⟩ := hC
                      go_simp
                      rfl
                    go_simp
                    apply wpM_still (by rfl) (by rfl)
                    · intro W hC
                      obtain ⟨g1, g2⟩ := hC
                      go_simp
                      rfl
                    go_simp
                    apply wpM_still (by rfl) (by rfl)
                    · intro W hC
                      obtain ⟨g1, g2⟩ := hC
                      go_simp
                      rfl
                    go_simp
                    apply wpM_still (by rfl) (by rfl)
                    · intro W hC
                      obtain ⟨g1, g2⟩ := hC
                      go_simp
                      rfl
                    go_simp
                    apply wpM_still (by rfl) (by rfl)
                    · intro W hC
                      obtain ⟨g1, g2⟩ := hC
                      go_simp
                      rfl
                    go_simp
                    apply wpM_still (by rfl) (by rfl)
                    · intro W hC
                      obtain ⟨g1, g2⟩ := hC
                      go_simp
                      rfl
                    go_simp
                    apply wpM_still (by rfl) (by rfl)
                    · intro W hC
                      obtain ⟨g1, g2⟩ := hC
                      go_simp
                      rfl
                    go_simp
                    apply wpM_still (by rfl) (by rfl)
                    · intro W hC
                      obtain ⟨g1, g2⟩ := hC
                      go_simp
                      rfl
                    go_simp
                    apply wpM_still (by rfl) (by rfl)
                    · intro W hC
                      obtain ⟨g1, g2⟩ := hC
                      go_simp
                      rfl
                    go_simp
                    apply wpM_still (by rfl) (by rfl)
                    · intro W hC
                      obtain ⟨g1, g2⟩ := hC
                      go_simp
                      rfl
                    go_simp
                    apply wpM_still (by rfl) (by rfl)
                    · intro W hC
                      obtain ⟨g1, g2⟩ := hC
                      go_simp
                      rfl
                    go_simp
                    apply wpM_still (by rfl) (by rfl)
                    · intro W hC
                      obtain ⟨g1, g2⟩ := hC
                      go_simp
                      rfl
                    go_simp
                    apply wpM_still (by rfl) (by rfl)
                    · intro W hC
                      obtain ⟨g1, g2⟩ := hC
                      go_simp
                      rfl
                    go_simp
                    apply wpM_still (by rfl) (by rfl)
                    · intro W hC
                      obtain ⟨g1, g2⟩ := hC
                      go_simp
                      rfl
                    go_simp
                    apply wpM_still (by rfl) (by rfl)
                    · intro W hC
                      obtain ⟨g1, g2⟩ := hC
                      go_simp
                      rfl
                    go_simp
                    apply wpM_still (by rfl) (by rfl)
                    · intro W hC
                      obtain ⟨g1, g2⟩ := hC
                      go_simp
                      rfl
                    go_simp
                    apply wpM_still (by rfl) (by rfl)
                    · intro W hC
                      obtain ⟨g1, g2⟩ := hC
                      go_simp
                      rfl
                    go_simp
                    apply wpM_still (by rfl) (by rfl)
                    · intro W hC
                      obtain ⟨g1, g2⟩ := hC
                      go_simp
                      rfl
                    go_simp
                    apply wpM_still (by rfl) (by rfl)
                    · intro W hC
                      obtain ⟨g1, g2⟩ := hC
                      go_simp
                      rfl
                    go_simp
                    apply wpM_still (by rfl) (by rfl)
                    · intro W hC
                      obtain ⟨g1, g2⟩ := hC
                      go_simp
                      rfl
                    go_simp
                    apply wpM_still (by rfl) (by rfl)
                    · intro W hC
                      obtain ⟨g1, g2⟩ := hC
                      go_simp
                      rfl
                    go_simp
                    apply wpM_still (by rfl) (by rfl)
                    · intro W hC
                      obtain ⟨g1, g2⟩ := hC
                      go_simp
                      rfl
                    go_simp
                    apply wpM_still (by rfl) (by rfl)
                    · intro W hC
                      obtain ⟨g1, g2⟩ := hC
                      go_simp
                      rfl
                    go_simp
                    apply wpM_still (by rfl) (by rfl)
                    · intro W hC
                      obtain ⟨g1, g2⟩ := hC
                      go_simp
                      rfl
                    go_simp
                    apply wpM_still (by rfl) (by rfl)
                    · intro W hC
                      obtain ⟨g1, g2⟩ := hC
                      go_simp
                      rfl
                    go_simp
                    apply wpM_still (by rfl) (by rfl)
                    · intro W hC
                      obtain ⟨g1, g2⟩ := hC
                      go_simp
                      rfl
                    go_simp
                    apply wpM_still (by rfl) (by rfl)
                    · intro W hC
                      obtain ⟨g1, g2⟩ := hC
                      go_simp
                      rfl
                    go_simp
                    apply wpM_still (by rfl) (by rfl)
                    · intro W hC
                      obtain ⟨g1, g2⟩ := hC
                      go_simp
                      rfl
                    go_simp
                    apply wpM_still (by rfl) (by rfl)
                    · intro W hC
                      obtain ⟨g1, g2⟩ := hC
                      go_simp
                      rfl
                    go_simp
                    apply wpM_still (by rfl) (by rfl)
                    · intro W hC
                      obtain ⟨g1, g2⟩ := hC
                      go_simp
                      rfl
                    go_simp
                    apply wpM_still (by rfl) (by rfl)
                    · intro W hC
                      obtain ⟨g1, g2⟩ := hC
                      go_simp
                      rfl
                    go_simp
                    apply wpM_still (by rfl) (by rfl)
                    · intro W hC
                      obtain ⟨g1, g2⟩ := hC
                      go_simp
                      rfl
                    go_simp
                    apply wpM_move (by rfl) (by rfl)
                    intro K hK
                    go_simp
                    refine (HOY.out _ (HE.out.below hB11d) (HW.out.below hB11d (Nat.le_refl _))).mono ?_
                    rintro e w13 ⟨rfl, hb13⟩
                    go_simp
                    have y13 := (bcell hb13 _ _ hbl11).trans y9
                    have m13 := (bcell hb13 _ _ hbl11).trans m9
                    refine hK _ _ (fun _ => ⟨y13, m13⟩) ?_
                    clear hK K
                    have hB13 := Below.up hB11d hb13
                    have hbl13 := Nat.lt_of_lt_of_le hbl11 hb13.size
                    have hbG := Below.up hbF hb13
                    apply wpM_still (by rfl) (by rfl)
                    · intro W hC
                      go_simp
                      rfl
                    go_simp
                    apply wpM_move (by rfl) (by rfl)
                    intro K hK
                    go_simp
                    refine (HOF.out _ (HE.out.below hB13) (HW.out.below hB13 (Nat.le_refl _))).mono ?_
                    rintro e w14 ⟨rfl, hb14⟩
                    go_simp
                    refine hK _ _ (fun _ => ⟨(bcell hb14 _ _ hbl13).trans y13, (bcell hb14 _ _ hbl13).trans m13⟩) ?_
                    clear hK K
                    have hbH := Below.up hbG hb14
                    apply wpM_still (by rfl) (by rfl)
                    · intro W hC
                      go_simp
                      rfl
                    go_simp
                    apply wpM_still (by rfl) (by rfl)
                    · intro W hC
                      go_simp
                      rfl
                    go_simp
                    apply wpM_still (by rfl) (by rfl)
                    · intro W hC
                      go_simp
                      rfl
                    go_simp
                    apply wpM_still (by rfl) (by rfl)
                    · intro W hC
                      go_simp
                      rfl
                    go_simp
                    apply wpM_move (by rfl) (by rfl)
                    intro K hK
                    go_simp
                    refine hK _ _ (fun h => absurd h (by decide)) ?_
                    clear hK K
                    refine wpM_nil ?_
                    go_wp2_with fail
                    go_roundw
                    case rel => exact ⟨p + 1 + 1, by first | rfl | (congr 1) | simp, by omega, by rw [HLN.out], hbH⟩
                    case measure => simp [leftB]; omega
                  · have hNAb : (N == LA) = false := by simpa using hNA
                    clear HDV
                    go_wp2_with fail
                    refine wp_region_M (fun _ => True) 41 [(0, false), (1, false), (2, false), (3, false), (4, false), (5, false), (6, false), (7, false), (8, false), (9, false), (10, false), (11, false), (12, false), (13, false), (14, false), (15, false), (16, false), (17, false), (18, false), (19, false), (20, false), (21, false), (22, false), (23, false), (24, false), (25, false), (26, false), (27, false), (28, false), (31, false), (32, false), (33, false), (34, false), (35, false), (29, true), (30, false), (36, true), (37, false), (38, false), (39, false), (40, false), (41, true)] (by kernel_rfl) (by kernel_rfl) (fun _ _ _ _ h => h) trivial ?_
                    have hbF := hbE.drew
                    generalize w11.drew = w12 at *
                    apply wpM_still (by rfl) (by rfl)
                    · intro W hC
                      go_simp
                      rfl
                    go_simp
                    apply wpM_still (by rfl) (by rfl)
                    · intro W hC
                      go_simp
                      rfl
                    go_simp
                    apply wpM_still (by rfl) (by rfl)
                    · intro W hC
                      go_simp
                      rfl
                    go_simp
                    apply wpM_still (by rfl) (by rfl)
                    · intro W hC
                      go_simp
                      rfl
                    go_simp
                    apply wpM_still (by rfl) (by rfl)
                    · intro W hC
                      go_simp
                      rfl
                    go_simp
                    apply wpM_still (by rfl) (by rfl)
                    · intro W hC
                      go_simp
                      rfl
                    go_simp
                    apply wpM_still (by rfl) (by rfl)
                    · intro W hC
                      go_simp
                      rfl
                    go_simp
                    apply wpM_still (by rfl) (by rfl)
                    · intro W hC
                      go_simp
                      rfl
                    go_simp
                    apply wpM_still (by rfl) (by rfl)
                    · intro W hC
                      go_simp
                      rfl
                    go_simp
                    apply wpM_still (by rfl) (by rfl)
                    · intro W hC
                      go_simp
                      rfl
                    go_simp
                    apply wpM_still (by rfl) (by rfl)
                    · intro W hC
                      go_simp
                      rfl
                    go_simp
                    apply wpM_still (by rfl) (by rfl)
                    · intro W hC
                      go_simp
                      rfl
                    go_simp
                    apply wpM_still (by rfl) (by rfl)
                    · intro W hC
                      go_simp
                      rfl
                    go_simp
                    apply wpM_still (by rfl) (by rfl)
                    · intro W hC
                      go_simp
                      rfl
                    go_simp
                    apply wpM_still (by rfl) (by rfl)
                    · intro W hC
                      go_simp
                      rfl
                    go_simp
                    apply wpM_still (by rfl) (by rfl)
                    · intro W hC
                      go_simp
                      rfl
                    go_simp
                    apply wpM_still (by rfl) (by rfl)
                    · intro W hC
                      go_simp
                      rfl
                    go_simp
                    apply wpM_still (by rfl) (by rfl)
                    · intro W hC
                      go_simp
                      rfl
                    go_simp
                    apply wpM_still (by rfl) (by rfl)
                    · intro W hC
                      go_simp
                      rfl
                    go_simp
                    apply wpM_still (by rfl) (by rfl)
                    · intro W hC
                      go_simp
                      rfl
                    go_simp
                    apply wpM_skip (by rfl) (by rfl)
                    go_simp
                    apply wpM_skip (by rfl) (by rfl)
                    go_simp
                    apply wpM_skip (by rfl) (by rfl)
                    go_simp
                    apply wpM_skip (by rfl) (by rfl)
                    go_simp
                    apply wpM_skip (by rfl) (by rfl)
                    go_simp
                    apply wpM_skip (by rfl) (by rfl)
                    go_simp
                    apply wpM_skip (by rfl) (by rfl)
                    go_simp
                    apply wpM_skip (by rfl) (by rfl)
                    go_simp
                    apply wpM_skip (by rfl) (by rfl)
                    go_simp
                    apply wpM_skip (by rfl) (by rfl)
                    go_simp
                    apply wpM_skip (by rfl) (by rfl)
                    go_simp
                    apply wpM_skip (by rfl) (by rfl)
                    go_simp
                    apply wpM_skip (by rfl) (by rfl)
                    go_simp
                    apply wpM_skip (by rfl) (by rfl)
                    go_simp
                    refine wpM_skipM (by rfl) (by rfl) trivial ?_
                    go_simp
                    apply wpM_skip (by rfl) (by rfl)
                    go_simp
                    refine wpM_skipM (by rfl) (by rfl) trivial ?_
                    go_simp
                    apply wpM_skip (by rfl) (by rfl)
                    go_simp
                    apply wpM_skip (by rfl) (by rfl)
                    go_simp
                    apply wpM_skip (by rfl) (by rfl)
                    go_simp
                    apply wpM_still (by rfl) (by rfl)
                    · intro W hC
                      go_simp
                      rfl
                    go_simp
                    apply wpM_move (by rfl) (by rfl)
                    intro K hK
                    go_simp
                    refine hK _ _ (fun h => absurd h (by decide)) ?_
                    clear hK K
                    refine wpM_nil ?_
                    go_wp2_with fail
                    go_roundw
                    case rel => exact ⟨p + 1 + 1, by first | rfl | (congr 1) | simp, by omega, by rw [HLN.out], hbF⟩
                    case measure => simp [leftB]; omega
          · have hqe : q = L.length := by omega
            subst hqe
            have hB7 : Below w.heap.size w w7 := Below.up HI6.out.below hb7
            have hI7 := HI6.out.on hb7
            have hle := HL.out
            have hleb : (L.length : Int) ≤ (l.length : Int) := by omega
            go_wp2_with fail
            refine (bLen_c gb v l w7 hI7.at').mono ?_
            rintro e w8 ⟨rfl, rfl⟩
            go_wp2_with fail
            refine (awake36_c _ (HE.out.below hB7) (HW.out.below hB7 (Nat.le_refl _))).mono ?_
            rintro e w9 ⟨rfl, hb9⟩
            go_wp2_with fail
            go_ret
            exact ⟨rfl, Below.up hB7 hb9⟩
end Go.Proofs.YtclicjokgfiegaaDoor
