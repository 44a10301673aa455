/- A bundle of texts (merged for the limit on files): ConOf, SubPlain, SubPut. -/
import Derived.Test.YtjlnlgemngpelaaGreatDoorZa9
import Derived.Defers
import Derived.Test.YtjlnlgemngpelaaGreatDoorZa4
import Derived.Test.YtjlnlgemngpelaaGreatDoorZa3
/- Who comes: what bytes tell: the walk of the program's Of. -/
namespace Go.Proofs.YtjlnlgemngpelaaGreatDoor
open Go.RowKit
set_option linter.unusedVariables false
set_option linter.unusedSimpArgs false

theorem conZero_cells : Con.zero.cells = [.int .i64 0, .bool false, .int .i64 0, .string ⟨#[]⟩, .bool false, .string ⟨#[]⟩, .string ⟨#[]⟩, .int .i64 0, .bool false, .bool false, .string ⟨#[]⟩, .bool false, .string ⟨#[]⟩] := rfl

set_option maxRecDepth 100000 in
set_option maxHeartbeats 2000000 in
theorem ofClose_c (gr ge gc g : Nat) (v : Value) (l : List UInt8) (st : Int × Int) (c : Con) (x : Int) (w : World) (hr : w.cell? ⟨gr, 0, none⟩ = some (.pointer (some ⟨g, 0, none⟩))) (hR : RdAt w g v l st) (he : w.cell? ⟨ge, 0, none⟩ = some (.int .i64 x)) (hz : w.frozen? ⟨ge, 0, none⟩ = false)
    (hcon : ConAt w gc c) (hfr : Free w gc) (n1 : ge ≠ gc) (n2 : ge ≠ g) (n3 : ge ≠ gr) :
    CallsD Tryz.prog 143 #[.pointer (some ⟨gr, 0, none⟩), .pointer (some ⟨ge, 0, none⟩), .pointer (some ⟨gc, 0, none⟩)] .returning w fun e u' w' =>
      u' = .returning ∧ e = .returned (.tuple #[]) ∧ w'.cell? ⟨ge, 0, none⟩ = some (.int .i64 st.2) ∧ ConAt w' gc (if st.2 = 0 then c else Con.zero) ∧ Keeps [ge, gc] w w' := by
  obtain ⟨r0, r1, r2, r3, r4, r5, r6, r7⟩ := hR
  by_cases h : st.2 = 0
  · rw [h] at r3
    have hk : Keeps [ge, gc] w (w.setCell ⟨ge, 0, none⟩ (.int .i64 0)) := (Keeps.refl _ _).setCell (.inl (by simp)) _
    have hk1 : Keeps [ge] w (w.setCell ⟨ge, 0, none⟩ (.int .i64 0)) := (Keeps.refl _ _).setCell (.inl (by simp)) _
    have hcon' := hcon.keeps hk1 (by simp; omega)
    have HC := hd hcon'; clear hcon' hcon hfr
    rw [if_pos h, h]
    clear h
    go_enter_d Tryz.func143, Tryz.ntmps143
    go_wp2_with fail
    go_end0
    exact ⟨rfl, by simp [go_sem, he], HC.out, hk⟩
  · have hb : (st.2 != 0) = true := by simpa using h
    rw [if_neg h]
    have hk1 : Keeps [ge] w (w.setCell ⟨ge, 0, none⟩ (.int .i64 st.2)) := (Keeps.refl _ _).setCell (.inl (by simp)) _
    have hcon' := hcon.keeps hk1 (by simp; omega)
    have hfr' := hfr.set ⟨ge, 0, none⟩ (.int .i64 st.2)
    have HC := hd hcon'
    simp only [ConAt] at hcon'
    obtain ⟨d0, d1, d2, d3, d4, d5, d6, d7, d8, d9, d10, d11, d12, dl⟩ := hcon'
    have z0 := hfr' 0; have z1 := hfr' 1; have z2 := hfr' 2; have z3 := hfr' 3; have z4 := hfr' 4; have z5 := hfr' 5; have z6 := hfr' 6; have z7 := hfr' 7; have z8 := hfr' 8; have z9 := hfr' 9; have z10 := hfr' 10; have z11 := hfr' 11; have z12 := hfr' 12
    clear hcon hfr hfr' h
    go_enter_d Tryz.func143, Tryz.ntmps143
    go_wp2_with fail
    go_end0
    refine ⟨rfl, ?_, (((((((((((((HC.out.set0 0).set1 false).set2 0).set3 ⟨#[]⟩).set4 false).set5 ⟨#[]⟩).set6 ⟨#[]⟩).set7 0).set8 false).set9 false).set10 ⟨#[]⟩).set11 false).set12 ⟨#[]⟩), ?_⟩
    · simp [go_sem, he, n1, Ne.symm n1]
    · iterate 14 refine Keeps.setCell ?_ (.inl (by simp)) _
      exact Keeps.refl _ _

/-- []byte(s): where the new bytes lie. -/
theorem run_bytes2 (s : ByteArray) (hs : s.size ≤ 140737488355327) (w : World) : ∃ c W', (convert 9 23 (.string s)).run Tryz.prog w = .ok (.slice (some ⟨w.heap.size, 0, none⟩) (sB s).length c) W' ∧ Bs W' (.slice (some ⟨w.heap.size, 0, none⟩) (sB s).length c) (sB s) ∧ Below w.heap.size w W' ∧ w.heap.size < W'.heap.size := by
  obtain ⟨c, W', hr, hB, hb⟩ := run_bytes s hs w
  refine ⟨c, W', hr, hB, hb, ?_⟩
  have h2 := Lib.run_convert_string_bytes w 9 23 5 s Tryz.underlying9 Tryz.underlying23 Tryz.underlying5
  rw [hr] at h2
  simp only [Result.ok.injEq] at h2
  rw [h2.2, Lib.bytesWorld_size]
  omega
set_option maxRecDepth 100000 in
theorem upon_bytes2 {o : Oper} {a : Act} {K : Act → World → Prop} {Q : Exit → Act → World → Prop} {W : World} {s : ByteArray} {f : Value → World → Result Next} (hs : s.size ≤ 140737488355327)
    (h : ∀ ad c W', Bs W' (.slice (some ad) (sB s).length c) (sB s) → Below W.heap.size W W' → W.heap.size ≤ ad.block → ad.block < W'.heap.size → Oper.upon Tryz.prog o a K Q ((Result.ok (.slice (some ad) (sB s).length c) W').andThen f)) :
    Oper.upon Tryz.prog o a K Q ((Sem.run Tryz.prog (convert 9 23 (.string s)) W).andThen f) := by
  obtain ⟨c, W', hr, hB, hb, hl⟩ := run_bytes2 s hs W
  rw [hr]
  exact h _ c W' hB hb (Nat.le_refl _) hl

def cFin (c : Con) (st : Int × Int) : Con × Int := if st.2 = 0 then (c, 0) else (Con.zero, st.2)
def cT0 (l : List UInt8) : Int × Int := rTextS (uGet l 0) true (0, 0)
def cNm (l : List UInt8) : List UInt8 := rTextV (uGet l 0) true (0, 0)
def cT1 (l : List UInt8) : Int × Int := rOneS l (cT0 l)
def cLv (l : List UInt8) : Int := rOneV l (cT0 l)
/-- who comes, by bytes -/
def cOf (l : List UInt8) : Con × Int :=
  if cNm l ≠ [77, 81, 84, 84] then cFin Con.zero (rFail (cT0 l) 15)
  else if cLv l = 4 then cFin (kCon 4 l (cT1 l)) (k9 l (cT1 l))
  else cFin { Con.zero with level := cLv l } (cT1 l)
def GivesC (w : World) (l : List UInt8) (e : Ending) (w' : World) : Prop :=
  e = .returned (.tuple #[.agg (cOf l).1.cells.toArray, .int .i64 (cOf l).2]) ∧ Below w.heap.size w w'

/-- The state of Of, in the world W. -/
structure OS (w W : World) (gc ge g gr : Nat) (v : Value) (l : List UInt8) (st : Int × Int) (c : Con) : Prop where
  rd : RdAt W g v l st
  con : ConAt W gc c
  fr : Free W gc
  e0 : W.cell? ⟨ge, 0, none⟩ = some (.int .i64 0)
  ez : W.frozen? ⟨ge, 0, none⟩ = false
  el : ge < W.heap.size
  rv : W.cell? ⟨gr, 0, none⟩ = some (.pointer (some ⟨g, 0, none⟩))
  rl : gr < W.heap.size
  b : Below w.heap.size w W
theorem OS.step {w W W' : World} {gc ge g gr : Nat} {v : Value} {l : List UInt8} {st st' : Int × Int} {c c' : Con} (h : OS w W gc ge g gr v l st c) (hR : RdAt W' g v l st') (hc : ConAt W' gc c') (hf : Free W' gc) (hk : Keeps [gc, g] W W')
    (n1 : ge ∉ [gc, g]) (n2 : gr ∉ [gc, g]) (n3 : w.heap.size ≤ gc) (n4 : w.heap.size ≤ g) : OS w W' gc ge g gr v l st' c' :=
  ⟨hR, hc, hf, (hk.cell h.el n1).trans h.e0, (hk.free h.el n1).trans h.ez, Nat.lt_of_lt_of_le h.el hk.size, (hk.cell h.rl n2).trans h.rv, Nat.lt_of_lt_of_le h.rl hk.size,
    h.b.trans (hk.toBelow h.b.size (fun k hk => by simp at hk; omega))⟩
theorem OS.call {w W W' : World} {gc ge g gr : Nat} {v : Value} {l : List UInt8} {st st' : Int × Int} {c : Con} (h : OS w W gc ge g gr v l st c) (hR : RdAt W' g v l st') (hk : Keeps [g] W W')
    (n0 : gc ≠ g) (n1 : ge ∉ [gc, g]) (n2 : gr ∉ [gc, g]) (n3 : w.heap.size ≤ gc) (n4 : w.heap.size ≤ g) : OS w W' gc ge g gr v l st' c :=
  h.step hR (h.con.keeps hk (by simp [n0])) (h.fr.keeps hk h.con.lt (by simp [n0])) (hk.mono (fun k h => by simp at h; simp [h])) n1 n2 n3 n4

theorem uGet_bad {l : List UInt8} {k : Int} (h : (uGet l k).2.2 ≠ 0) : (uGet l k).1 = [] := by
  unfold uGet at h ⊢
  by_cases h1 : (uGetRaw l k).2.2 = 0
  · rw [if_neg (by omega)] at h ⊢
    by_cases h2 : uRight (uGetRaw l k).1 = false
    · rw [if_pos h2]
    · rw [if_neg h2] at h; exact absurd h1 h
  · rw [if_pos h1]
theorem cNm_ok {l : List UInt8} (h : cNm l = [77, 81, 84, 84]) : (cT0 l).2 = 0 ∧ 2 ≤ (cT0 l).1 ∧ (cT0 l).1 ≤ l.length := by
  have e1 : cNm l = (uGet l 0).1 := rfl
  have e2 : cT0 l = ((uGet l 0).2.1, (uGet l 0).2.2) := rfl
  rw [e2]
  by_cases h0 : (uGet l 0).2.2 = 0
  · have := uGet_rng h0; simp only; omega
  · rw [e1, uGet_bad h0] at h; cases h
theorem rOneS_rng (l : List UInt8) (s : Int × Int) : s.1 ≤ (rOneS l s).1 ∧ (rOneS l s).1 ≤ max s.1 l.length := by
  unfold rOneS
  by_cases h1 : s.2 ≠ 0
  · rw [if_pos h1]; omega
  · rw [if_neg h1]
    by_cases h2 : (l.length : Int) ≤ s.1
    · rw [if_pos h2]; simp only; omega
    · rw [if_neg h2]; simp only; omega

theorem sOf_toList (l : List UInt8) : (sOf l).toList = l := by rw [ByteArray.toList_eq]; rfl
theorem ofDone {w w' : World} {l : List UInt8} {c : Con} {st : Int × Int} {gc ge : Nat} (hsp : cOf l = cFin c st) (he : w'.cell? ⟨ge, 0, none⟩ = some (.int .i64 st.2)) (hc : ConAt w' gc (if st.2 = 0 then c else Con.zero)) (hb : Below w.heap.size w w') :
    GivesC w l (.returned (.tuple #[.agg (if st.2 = 0 then c else Con.zero).cells.toArray, .int .i64 st.2])) w' := by
  unfold GivesC
  rw [hsp, cFin]
  by_cases h : st.2 = 0
  · rw [if_pos h, if_pos h, h]; exact ⟨rfl, hb⟩
  · rw [if_neg h, if_neg h]; exact ⟨rfl, hb⟩

theorem ofRead {w' : World} {gc ge : Nat} {tmps : Array Value} {C : Con} {x : Int} (h2 : tmps[2]?.getD undef = .pointer (some ⟨gc, 0, none⟩)) (h3 : tmps[3]?.getD undef = .pointer (some ⟨ge, 0, none⟩)) (he : w'.cell? ⟨ge, 0, none⟩ = some (.int .i64 x)) (hc : ConAt w' gc C) :
    (results Tryz.f124 tmps).run Tryz.prog w' = .ok (.tuple #[.agg C.cells.toArray, .int .i64 x]) w' := by
  simp only [ConAt] at hc
  obtain ⟨d0, d1, d2, d3, d4, d5, d6, d7, d8, d9, d10, d11, d12, dl⟩ := hc
  simp [results, Tryz.results124, go_sem, h2, h3, he, d0, d1, d2, d3, d4, d5, d6, d7, d8, d9, d10, d11, d12, Con.cells]

set_option maxRecDepth 100000 in
set_option maxHeartbeats 8000000 in
theorem conOf_c (b : ByteArray) (w : World) (hE : EnvU w) (hs : b.size ≤ 140737488351232) :
    Calls Tryz.prog 124 #[.string b] w (GivesC w (sB b)) := by
  have HE := hd hE; clear hE
  have hmf : ∀ (fn : Fn) (first cap : Array Value) (w : World), (Instr.makeFunc fn first cap).run Tryz.prog w = .ok (.func fn first cap) w := fun _ _ _ _ => rfl
  go_enter_defers Tryz.func124, Tryz.ntmps124
  go_wp2_with fail
  refine upon_bytes2 (by omega) fun d1 k1 w1 hs1 hb1 hd0 hd1 => ?_
  have hcon0 : ConAt w1 w.heap.size Con.zero := ConAt.keep (ConAt.keep (ConAt.new w Con.zero) ((Below.refl _ _).alloc (Nat.le_refl _) _) (by simp)) hb1 (by simp; omega)
  have hfr0 : Free w1 w.heap.size := fun o => (bfree hb1 _ _ (by simp; omega)).trans (by simp [go_sem])
  have he0 : w1.cell? ⟨w.heap.size + 1, 0, none⟩ = some (.int .i64 0) := (bcell hb1 _ _ (by simp)).trans (by simp [go_sem])
  have hez : w1.frozen? ⟨w.heap.size + 1, 0, none⟩ = false := (bfree hb1 _ _ (by simp)).trans (by simp [go_sem])
  have hsz : w.heap.size + 2 ≤ w1.heap.size := by have := hb1.size; simp at this; omega
  have hb : Below w.heap.size w w1 := Below.up (by go_grown) hb1
  simp at hd0
  clear hb1
  have hOS : OS w ((w1.alloc (Obj.cells #[.slice (some d1) (sB b).length k1, .int .i64 0, .int .i64 0] 219)).alloc (Obj.cells #[.pointer (some ⟨w1.heap.size, 0, none⟩)] 217)) w.heap.size (w.heap.size + 1) w1.heap.size (w1.heap.size + 1) (.slice (some d1) (sB b).length k1) (sB b) (0, 0) Con.zero := by
    have hk2 : Keeps [] w1 ((w1.alloc (Obj.cells #[.slice (some d1) (sB b).length k1, .int .i64 0, .int .i64 0] 219)).alloc (Obj.cells #[.pointer (some ⟨w1.heap.size, 0, none⟩)] 217)) := ((Keeps.refl _ _).alloc _).alloc _
    refine ⟨⟨?_, hs1.keeps hk2 (OutOf.nil _), ?_, ?_, ?_, ?_, ?_, ?_⟩, hcon0.keeps hk2 (by simp), hfr0.keeps hk2 hcon0.lt (by simp), (hk2.cell (by omega) (by simp)).trans he0, (hk2.free (by omega) (by simp)).trans hez, ?_, ?_, ?_, (hb.box).box⟩
    all_goals try simp [go_sem]
    · intro a n c e
      cases e
      simp
      omega
    all_goals omega
  have hdx : w.heap.size < d1.block := by omega
  clear hs1 hd1 hcon0 hfr0 he0 hez hb hd0
  go_wp2_with fail
  generalize ((w1.alloc (Obj.cells #[.slice (some d1) (sB b).length k1, .int .i64 0, .int .i64 0] 219)).alloc (Obj.cells #[.pointer (some ⟨w1.heap.size, 0, none⟩)] 217)) = W2 at *
  refine (textT_c true _ _ _ (0, 0) _ (HE.out.below hOS.b) hOS.rd).mono ?_
  rintro r w2 ⟨rfl, hR, hk⟩
  replace hOS := hOS.call hR hk (by omega) (by simp; omega) (by simp; omega) (by omega) (by omega)
  clear hR hk
  have hnm : rTextV (uGet (sB b) 0) true (0, 0) = cNm (sB b) := rfl
  have ht0 : rTextS (uGet (sB b) 0) true (0, 0) = cT0 (sB b) := rfl
  simp only [] at hOS ⊢
  rw [ht0] at hOS
  rw [hnm]
  clear hnm ht0
  by_cases hn : cNm (sB b) = [77, 81, 84, 84]
  rotate_left
  · have hrv := hOS.rv
    have hx : (!(sOf (cNm (sB b))).toList == [77, 81, 84, 84]) = true := by rw [sOf_toList]; simpa using hn
    have hsp : cOf (sB b) = cFin Con.zero (rFail (cT0 (sB b)) 15) := by rw [cOf, if_pos hn]
    have Hsp := hd hsp; clear hsp hn
    go_wp2_with fail
    refine (fail_c 15 _ _ _ _ _ hOS.rd).mono ?_
    rintro r w3 ⟨rfl, hR, hk⟩
    replace hOS := hOS.call hR hk (by omega) (by simp; omega) (by simp; omega) (by omega) (by omega)
    clear hR hk hrv
    go_wp2_with fail
    refine leaves_cons (f := 143) (args := #[.pointer (some ⟨w1.heap.size + 1, 0, none⟩), .pointer (some ⟨w.heap.size + 1, 0, none⟩), .pointer (some ⟨w.heap.size, 0, none⟩)]) (by simp) (by simp [go_sem]) ?_
    refine (ofClose_c _ _ _ _ _ _ _ _ 0 _ hOS.rv hOS.rd hOS.e0 hOS.ez hOS.con hOS.fr (by omega) (by omega) (by omega)).mono ?_
    rintro e u' w'' ⟨rfl, rfl, he', hc', hk'⟩
    have hbb : Below w.heap.size w w'' := hOS.b.trans (hk'.toBelow hOS.b.size (fun k hk => by simp at hk; omega))
    exact ⟨_, ofRead rfl rfl he' hc', ofDone Hsp.out he' hc' hbb⟩
  have hx : (!(sOf [77, 81, 84, 84]).toList == [77, 81, 84, 84]) = false := by rw [sOf_toList]; rfl
  obtain ⟨ht2, htl, hth⟩ := cNm_ok hn
  have hsl : (sB b).length = b.size := sB_len b
  have hsp : cOf (sB b) = if cLv (sB b) = 4 then cFin (kCon 4 (sB b) (cT1 (sB b))) (k9 (sB b) (cT1 (sB b))) else cFin { Con.zero with level := cLv (sB b) } (cT1 (sB b)) := by rw [cOf, if_neg (by simp [hn])]
  have hp : 0 ≤ (cT0 (sB b)).1 ∧ (cT0 (sB b)).1 ≤ 140737488355328 := by omega
  have hp1 : 0 ≤ (cT1 (sB b)).1 ∧ (cT1 (sB b)).1 ≤ 140737488355328 := by
    have := rOneS_rng (sB b) (cT0 (sB b))
    rw [show cT1 (sB b) = rOneS (sB b) (cT0 (sB b)) from rfl]
    omega
  rw [hn]
  have hrv := hOS.rv
  have HP1 := hd hp1; have Hsp := hd hsp
  clear hp1 hsp ht2 htl hth hn
  go_wp2_with fail
  refine (one_c _ _ (sB b) _ _ hOS.rd hp).mono ?_
  rintro r w3 ⟨rfl, hR, hk⟩
  replace hOS := hOS.call hR hk (by omega) (by simp; omega) (by simp; omega) (by omega) (by omega)
  rw [show rOneS (sB b) (cT0 (sB b)) = cT1 (sB b) from rfl] at hOS
  rw [show rOneV (sB b) (cT0 (sB b)) = cLv (sB b) from rfl]
  clear hR hk hp hrv hx
  have hc0 : w3.cell? ⟨w.heap.size, 0, none⟩ = some (.int .i64 0) := hOS.con.1
  have hf0 := hOS.fr 0
  have hrv := hOS.rv
  by_cases hlv : cLv (sB b) = 4
  · rw [hlv]
    have hsp2 : cOf (sB b) = cFin (kCon 4 (sB b) (cT1 (sB b))) (k9 (sB b) (cT1 (sB b))) := by rw [Hsp.out, if_pos hlv]
    replace Hsp := hd hsp2
    clear hsp2 hlv
    go_wp2_with fail
    have ho : OutOf (.slice (some d1) (sB b).length k1) [w.heap.size] := fun a n c e => by
      cases e
      simp
      omega
    have hkx : Keeps [w.heap.size] w3 (w3.setCell ⟨w.heap.size, 0, none⟩ (.int .i64 4)) := (Keeps.refl _ _).setCell (.inl (by simp)) _
    replace hOS := hOS.step (hOS.rd.keeps hkx (by simp; omega) ho) (hOS.con.set0 4) (hOS.fr.set _ _) (hkx.mono (by simp)) (by simp; omega) (by simp; omega) (by omega) (by omega)
    clear hc0 hf0 hkx
    have hne0 : w.heap.size ≠ w1.heap.size := by omega
    refine (rest_c w.heap.size w1.heap.size _ (sB b) (cT1 (sB b)) _ _ hne0 hOS.rd hOS.con hOS.fr ho HP1.out ?low).mono ?_
    case low => exact fun W hk => HE.out.below (hOS.b.trans (hk.toBelow hOS.b.size (fun k hk => by simp at hk; omega)))
    rintro r w4 ⟨rfl, hR, hc, hf, hk⟩
    replace hOS := hOS.step hR hc hf hk (by simp; omega) (by simp; omega) (by omega) (by omega)
    clear hR hc hf hk ho hrv
    go_wp2_with fail
    refine leaves_cons (f := 143) (args := #[.pointer (some ⟨w1.heap.size + 1, 0, none⟩), .pointer (some ⟨w.heap.size + 1, 0, none⟩), .pointer (some ⟨w.heap.size, 0, none⟩)]) (by simp) (by simp [go_sem]) ?_
    refine (ofClose_c _ _ _ _ _ _ _ _ 0 _ hOS.rv hOS.rd hOS.e0 hOS.ez hOS.con hOS.fr (by omega) (by omega) (by omega)).mono ?_
    rintro e u' w'' ⟨rfl, rfl, he', hc', hk'⟩
    have hbb : Below w.heap.size w w'' := hOS.b.trans (hk'.toBelow hOS.b.size (fun k hk => by simp at hk; omega))
    exact ⟨_, ofRead rfl rfl he' hc', ofDone Hsp.out he' hc' hbb⟩
  · have hlb : (cLv (sB b) == 4) = false := by simpa using hlv
    have hsp2 : cOf (sB b) = cFin { Con.zero with level := cLv (sB b) } (cT1 (sB b)) := by rw [Hsp.out, if_neg hlv]
    replace Hsp := hd hsp2
    clear hsp2 hlv
    generalize hL : cLv (sB b) = L at *
    clear hL
    go_wp2_with fail
    have ho : OutOf (.slice (some d1) (sB b).length k1) [w.heap.size] := fun a n c e => by
      cases e
      simp
      omega
    have hkx : Keeps [w.heap.size] w3 (w3.setCell ⟨w.heap.size, 0, none⟩ (.int .i64 L)) := (Keeps.refl _ _).setCell (.inl (by simp)) _
    replace hOS := hOS.step (hOS.rd.keeps hkx (by simp; omega) ho) (hOS.con.set0 L) (hOS.fr.set _ _) (hkx.mono (by simp)) (by simp; omega) (by simp; omega) (by omega) (by omega)
    clear hc0 hf0 hkx
    refine leaves_cons (f := 143) (args := #[.pointer (some ⟨w1.heap.size + 1, 0, none⟩), .pointer (some ⟨w.heap.size + 1, 0, none⟩), .pointer (some ⟨w.heap.size, 0, none⟩)]) (by simp) (by simp [go_sem]) ?_
    refine (ofClose_c _ _ _ _ _ _ _ _ 0 _ hOS.rv hOS.rd hOS.e0 hOS.ez hOS.con hOS.fr (by omega) (by omega) (by omega)).mono ?_
    rintro e u' w'' ⟨rfl, rfl, he', hc', hk'⟩
    have hbb : Below w.heap.size w w'' := hOS.b.trans (hk'.toBelow hOS.b.size (fun k hk => by simp at hk; omega))
    exact ⟨_, ofRead rfl rfl he' hc', ofDone Hsp.out he' hc' hbb⟩
end Go.Proofs.YtjlnlgemngpelaaGreatDoor

/- Wishes: plain laws: what is laid and told. No program. -/
namespace Go.Proofs.YtjlnlgemngpelaaGreatDoor
open Go.RowKit
set_option linter.unusedVariables false

theorem uPutB_short (l : List UInt8) : (uPutB l).length ≤ 65537 := by
  unfold uPutB
  split
  · rename_i h
    have := uRight_len h
    rw [uPutRawB_len this]; omega
  · simp

/-- a filter: its text, its QoS -/
abbrev Wish := ByteArray × Int
def Wish.cells (f : Wish) : List Value := [.string f.1, .int .i64 f.2]
def wCells : List Wish → List Value
  | [] => []
  | f :: t => Wish.cells f ++ wCells t
theorem wCells_len : ∀ l : List Wish, (wCells l).length = l.length * 2
  | [] => rfl
  | f :: t => by simp [wCells, Wish.cells, wCells_len t]; omega
theorem wCells_append : ∀ a b : List Wish, wCells (a ++ b) = wCells a ++ wCells b
  | [], b => rfl
  | f :: t, b => by simp [wCells, wCells_append t b]
theorem wCells_at : ∀ (l : List Wish) (k : Nat) (f : Wish), l[k]? = some f → (wCells l)[k * 2]? = some (.string f.1) ∧ (wCells l)[k * 2 + 1]? = some (.int .i64 f.2)
  | [], k, f, h => by simp at h
  | g :: t, 0, f, h => by simp at h; subst h; simp [wCells, Wish.cells]
  | g :: t, k + 1, f, h => by
    have ih := wCells_at t k f (by simpa using h)
    have e : (k + 1) * 2 = k * 2 + 2 := by omega
    rw [e]
    simpa [wCells, Wish.cells] using ih

/-- a number's two bytes -/
def sbMany (n : Int) : Int := if n < 1 then 4 else if 8 < n then 6 else 0
def sbWish (ends : Bool) (f : Wish) : List UInt8 × Int :=
  if ends = false ∧ (f.2 < 0 ∨ 2 < f.2) then ([], 5)
  else if uPutE (sB f.1) ≠ 0 then ([], uPutE (sB f.1))
  else (uPutB (sB f.1) ++ (if ends = true then [] else [B8 f.2.toNat]), 0)
def sbFold (ends : Bool) : List UInt8 → List Wish → List UInt8 × Int
  | a, [] => (a, 0)
  | a, f :: t => if (sbWish ends f).2 ≠ 0 then ([], (sbWish ends f).2) else sbFold ends (a ++ (sbWish ends f).1) t
def sbPutE (id : Int) (l : List Wish) (ends : Bool) : Int :=
  if pIdE id ≠ 0 then pIdE id else if sbMany l.length ≠ 0 then sbMany l.length
  else if (sbFold ends (pIdB id) l).2 ≠ 0 then (sbFold ends (pIdB id) l).2
  else if 4096 < (sbFold ends (pIdB id) l).1.length then 3 else 0
def sbPutB (id : Int) (l : List Wish) (ends : Bool) : List UInt8 := if sbPutE id l ends = 0 then (sbFold ends (pIdB id) l).1 else []

def sbCoded (n : Int) : Bool := (decide (0 ≤ n) && decide (n ≤ 2)) || decide (n = 128)
def sbAckFold : List UInt8 → List Int → List UInt8 × Int
  | a, [] => (a, 0)
  | a, n :: t => if sbCoded n = false then ([], 5) else sbAckFold (a ++ [B8 n.toNat]) t
def sbAckE (id : Int) (l : List Int) : Int :=
  if pIdE id ≠ 0 then pIdE id else if sbMany l.length ≠ 0 then sbMany l.length else (sbAckFold (pIdB id) l).2
def sbAckB (id : Int) (l : List Int) : List UInt8 := if sbAckE id l = 0 then (sbAckFold (pIdB id) l).1 else []

/-- the number at the beginning -/
def sbBegin (l : List UInt8) : Int × Int :=
  if l.length < 2 then (0, 2) else if (256 * (bN l 0 : Int) + bN l 1) = 0 then (0, 1) else (256 * (bN l 0 : Int) + bN l 1, 0)
/-- codes, byte by byte: those that came, the error -/
def sbCodes : List Int → List UInt8 → List Int × Int
  | a, [] => (a, 0)
  | a, b :: t => if sbCoded (b.toNat : Int) = false then ([], 5) else sbCodes (a ++ [(b.toNat : Int)]) t
def sbOfAck (l : List UInt8) : Int × List Int × Int :=
  if (sbBegin l).2 ≠ 0 then (0, [], (sbBegin l).2)
  else if sbMany ((l.length : Int) - 2) ≠ 0 then (0, [], sbMany ((l.length : Int) - 2))
  else if (sbCodes [] (l.drop 2)).2 ≠ 0 then (0, [], (sbCodes [] (l.drop 2)).2) else ((sbBegin l).1, (sbCodes [] (l.drop 2)).1, 0)

/-- a filter at a place: what it is, the place behind it, the error -/
def sbRead (l : List UInt8) (at' : Int) (ends : Bool) : Wish × Int × Int :=
  if (uGet l at').2.2 ≠ 0 then ((⟨#[]⟩, 0), 0, (uGet l at').2.2)
  else if ends = true then ((sOf (uGet l at').1, 0), (uGet l at').2.1, 0)
  else if (l.length : Int) ≤ (uGet l at').2.1 then ((⟨#[]⟩, 0), 0, 2)
  else if 2 < bN l (uGet l at').2.1.toNat then ((⟨#[]⟩, 0), 0, 5)
  else ((sOf (uGet l at').1, (bN l (uGet l at').2.1.toNat : Int)), (uGet l at').2.1 + 1, 0)
theorem sbRead_rng {l : List UInt8} {at' : Int} {ends : Bool} (h : (sbRead l at' ends).2.2 = 0) : 0 ≤ at' ∧ at' + 2 ≤ (sbRead l at' ends).2.1 ∧ (sbRead l at' ends).2.1 ≤ l.length := by
  unfold sbRead at h ⊢
  by_cases h1 : (uGet l at').2.2 = 0
  · have hr := uGet_rng h1
    rw [if_neg (by simp [h1])] at h ⊢
    by_cases h2 : ends = true
    · rw [if_pos h2]; simp only; omega
    rw [if_neg h2] at h ⊢
    by_cases h3 : (l.length : Int) ≤ (uGet l at').2.1
    · rw [if_pos h3] at h; simp at h
    rw [if_neg h3] at h ⊢
    by_cases h4 : 2 < bN l (uGet l at').2.1.toNat
    · rw [if_pos h4] at h; simp at h
    rw [if_neg h4]; simp only; omega
  · rw [if_pos h1] at h; exact absurd h h1
end Go.Proofs.YtjlnlgemngpelaaGreatDoor

/- Wishes: what lays them: the walks of the program and of the reference. -/
namespace Go.Proofs.YtjlnlgemngpelaaGreatDoor
open Go.RowKit
set_option linter.unusedVariables false
set_option linter.unusedSimpArgs false

theorem u8_wrap {n : Int} (h : 0 ≤ n ∧ n ≤ 255) : IntKind.u8.wrap n = n := by
  have e : IntKind.u8.wrap n = n % 256 := by simp [IntKind.wrap, IntKind.signed, IntKind.bits]
  rw [e]; omega

set_option maxRecDepth 100000 in
set_option maxHeartbeats 1000000 in
theorem subNumbered_c (id : Int) (w : World) : Calls Tryz.prog 116 #[.int .i64 id] w (GivesB w (pIdB id) (pIdE id)) := by
  unfold pIdB pIdE
  by_cases h : 1 ≤ id ∧ id ≤ 65535
  · rw [if_pos h, if_pos h]
    obtain ⟨h1, h2⟩ := h
    go_enter Tryz.func116, Tryz.ntmps116
    go_wp2_with fail
    refine (Put2_c id _).mono ?_
    have hE : uPut2E id = 0 := by unfold uPut2E; rw [if_neg (by omega)]
    rw [hE]
    rintro e w2 ⟨v, rfl, ho, hb⟩
    go_wp2_with fail
    go_ret2
    exact ⟨_, rfl, ho, hb⟩
  · rw [if_neg h, if_neg h]
    have h' : id < 1 ∨ 65535 < id := by omega
    clear h
    rcases h' with h | h
    all_goals
      go_enter Tryz.func116, Tryz.ntmps116
      go_wp2_with fail
      go_ret2
      exact GivesB.nil (by go_grown)

set_option maxRecDepth 100000 in
theorem many_c (n : Int) (w : World) : Calls Tryz.prog 117 #[.int .i64 n] w fun e w' => e = .returned (.int .i64 (sbMany n)) ∧ w = w' := by
  unfold sbMany
  by_cases h1 : n < 1
  · rw [if_pos h1]
    go_enter Tryz.func117, Tryz.ntmps117
    go_wp2_with fail
    go_ret
    exact ⟨rfl, rfl⟩
  · rw [if_neg h1]
    by_cases h2 : 8 < n
    all_goals
      first | rw [if_pos h2] | rw [if_neg h2]
      go_enter Tryz.func117, Tryz.ntmps117
      go_wp2_with fail
      go_ret
      exact ⟨rfl, rfl⟩

set_option maxRecDepth 100000 in
set_option maxHeartbeats 2000000 in
theorem wish_c (s : ByteArray) (q : Int) (ends : Bool) (w : World) (hE : EnvU w) (hs : s.size ≤ 140737488351232) :
    Calls Tryz.prog 118 #[.agg #[.string s, .int .i64 q], .bool ends] w (GivesB w (sbWish ends (s, q)).1 (sbWish ends (s, q)).2) := by
  have HE := hd hE; clear hE
  by_cases h0 : ends = false ∧ (q < 0 ∨ 2 < q)
  · have hsp : sbWish ends (s, q) = ([], 5) := by rw [sbWish, if_pos h0]
    rw [hsp]
    obtain ⟨rfl, hq⟩ := h0
    rcases hq with hq | hq
    all_goals
      go_enter Tryz.func118, Tryz.ntmps118
      go_wp2_with fail
      go_ret2
      exact GivesB.nil (by go_grown)
  have hsp : sbWish ends (s, q) = if uPutE (sB s) ≠ 0 then ([], uPutE (sB s)) else (uPutB (sB s) ++ (if ends = true then [] else [B8 q.toNat]), 0) := by rw [sbWish, if_neg h0]
  have hll := uPutB_short (sB s)
  have hp := fun W hW => Put_c s W hW (by omega)
  generalize uPutB (sB s) = L at *
  generalize uPutE (sB s) = E at *
  have HP := hd hp; clear hp
  have Hsp := hd hsp; clear hsp
  have hq : ends = false → 0 ≤ q ∧ q ≤ 2 := fun h => by
    rw [not_and] at h0
    have := h0 h
    omega
  clear h0
  by_cases he : E = 0
  rotate_left
  · have heb : (E != 0) = true := by simpa using he
    cases ends
    all_goals
      first
        | (have hq2 := hq rfl; obtain ⟨q0, q1⟩ := hq2)
        | skip
      rw [Hsp.out, if_pos he]
      clear Hsp hq
      go_enter Tryz.func118, Tryz.ntmps118
      go_wp2_with fail
      refine (HP.out _ (HE.out.below (by go_grown))).mono ?_
      rintro e w1 ⟨v, rfl, ho, hb⟩
      go_wp2_with fail
      go_ret2
      exact GivesB.nil (Below.up (by go_grown) hb)
  subst he
  rw [Hsp.out, if_neg (by simp)]
  clear Hsp
  cases ends
  · obtain ⟨q0, q1⟩ := hq rfl
    clear hq
    rw [if_neg (by simp)]
    have hq8 := u8_wrap (n := q) (by omega)
    have hbv := byteV_B8 (n := q.toNat) (by omega) (x := q) (by omega)
    go_enter Tryz.func118, Tryz.ntmps118
    go_wp2_with fail
    refine (HP.out _ (HE.out.below (by go_grown))).mono ?_
    rintro e w1 ⟨v, rfl, ho, hb⟩
    have hc1 := bcell hb
    have hl1 : w.heap.size < w1.heap.size := by have := hb.size; simp at this; omega
    have hb' : Below w.heap.size w w1 := Below.up (by go_grown) hb
    replace ho := ho.le (B' := w.heap.size) (by simp)
    have hbs := hb'.size
    clear hb
    go_wp2_with (first
      | (at_builtin; refine wp_appB1 rfl _ _ rfl w.heap.size _ L rfl ho q (B8 q.toNat) hbv.symm rfl (by omega) hbs ?_; intro v2 w2 ho2 hb2))
    go_ret2
    exact ⟨_, rfl, ho2, hb'.trans hb2⟩
  · rw [if_pos rfl, List.append_nil]
    clear hq
    go_enter Tryz.func118, Tryz.ntmps118
    go_wp2_with fail
    refine (HP.out _ (HE.out.below (by go_grown))).mono ?_
    rintro e w1 ⟨v, rfl, ho, hb⟩
    have hb' : Below w.heap.size w w1 := Below.up (by go_grown) hb
    replace ho := ho.le (B' := w.heap.size) (by simp)
    clear hb
    go_wp2_with fail
    go_ret2
    exact ⟨_, rfl, ho, hb'⟩

end Go.Proofs.YtjlnlgemngpelaaGreatDoor
