/- Packets out of chunks: rows of packets; all and same of the law: the walks. -/
import Derived.Test.YtgafhnomkeiakaaDoorFrLaws
namespace Go.Proofs.YtgafhnomkeiakaaDoor
open Go.RowKit
set_option linter.unusedVariables false
set_option linter.unusedSimpArgs false

/-! ### Rows that may grow: which block they lie in -/
def blk (v : Value) : List Nat := v.ownBlock.toList
theorem Keeps.next {S T : List Nat} {a b c : World} (h : Keeps S a b) (k : Keeps T b c) (hT : ∀ i, i ∈ T → i ∈ S ∨ a.heap.size ≤ i) : Keeps S a c :=
  ⟨k.os.trans h.os, k.tape.trans h.tape, k.output.trans h.output, Nat.le_trans h.size k.size, fun i hi hn => (k.block i (Nat.lt_of_lt_of_le hi h.size) (fun hm => by
    rcases hT i hm with h1 | h1
    · exact hn h1
    · omega)).trans (h.block i hi hn)⟩
theorem Keeps.row {S : List Nat} {w w' : World} {e size n : Nat} {v : Value} {xs : List Value} (hk : Keeps S w w') (h : w.ownsRow 0 e size v n xs) (ho : ∀ k, k ∈ blk v → k ∉ S) : w'.ownsRow 0 e size v n xs := by
  refine ⟨h.1, ?_⟩
  rcases h.2 with h0 | ⟨g, cap, cur, rfl, h1, h2, h3⟩
  · exact .inl h0
  · exact .inr ⟨g, cap, cur, rfl, h1, by rw [hk.block g (Array.getElem?_eq_some_iff.1 h2).1 (ho g (by simp [blk, Value.ownBlock]))]; exact h2, h3⟩
theorem blk_lt {w : World} {B e size n : Nat} {v : Value} {xs : List Value} (h : w.ownsRow B e size v n xs) {k : Nat} (hk : k ∈ blk v) : k < w.heap.size := (h.lt k (by simpa [blk] using hk)).2

theorem app_block {P : Program} (w : World) (t ty e : TypeId) (i : TypeInfo) (z : Value) (size bytes : Nat) (ht : P.underlying t = some (.slice e)) (hi : P.info? e = some i) (hz : i.zero = some z)
    (hsize : i.size = size) (hby : i.bytes = bytes) (hzs : z.cells.size = size) (hsz : 0 < size)
    (v : Value) (n : Nat) (xs : List Value) (hown : w.ownsRow 0 e size v n xs)
    (a : Addr) (m c : Nat) (news : List Value) (hl : news.length = m * size) (hnews : ∀ j u, news[j]? = some u → w.cell? (a.add j) = some u) (h1 : ∀ u ∈ news, u.oneCell' = true)
    (h63 : n + m ≤ maxLen) (hbytes : (n + m) * bytes ≤ 140737488355328) :
    ∃ v' w', (Builtin.append_ #[t, t] ty #[v, .slice (some a) m c]).run P w = .ok v' w' ∧ w'.ownsRow 0 e size v' (n + m) (xs ++ news) ∧ Keeps (blk v) w w' ∧ (∀ k, k ∈ blk v' → k ∈ blk v ∨ w.heap.size ≤ k) := by
  obtain ⟨v', w', hr, h2, h3, -⟩ := run_append_own (P := P) w 0 t ty e i z size bytes ht hi hz hsize hby hzs hsz v n xs hown a m c news hl hnews h1 h63 hbytes (Nat.zero_le _)
  refine ⟨v', w', hr, h2, ⟨h3.os, h3.tape, h3.output, h3.size, fun k hk hn => h3.block k hk (fun e => hn (by unfold blk; rw [← e]; simp))⟩, ?_⟩
  intro k hk
  have hk' : v'.ownBlock = some k := by simpa [blk] using hk
  rcases hown.2 with ⟨rfl, rfl⟩ | ⟨g, cap, cur, rfl, hbg, hg, hnc, hcm, hcs, htake⟩
  · right
    have hx : xs = [] := List.eq_nil_of_length_eq_zero (by simpa using hown.1)
    subst hx
    obtain ⟨v2, w2, hr2, h22, -⟩ := run_append_own (P := P) w w.heap.size t ty e i z size bytes ht hi hz hsize hby hzs hsz (.slice none 0 0) 0 [] (World.ownsRow_nil _ _ _ _) a m c news hl hnews h1 h63 hbytes (Nat.le_refl _)
    rw [hr] at hr2
    cases hr2
    exact (h22.lt k hk').1
  · subst hsize
    have hsmall : n + m ≤ 9223372036854775807 := by simp only [maxLen] at h63; omega
    by_cases hroom : n + m ≤ cap
    · left
      have hfit : n * i.size + news.length ≤ cur.size := by rw [hl, hcs, ← Nat.add_mul]; exact Nat.mul_le_mul_right _ hroom
      have hr2 := run_append_room (P := P) w t ty e i ht hi g n cap cur hg a m c news hl hnews h1 hroom hfit
      rw [hr] at hr2
      cases hr2
      simpa [blk, Value.ownBlock] using hk'.symm
    · right
      have holds : ∀ j u, xs[j]? = some u → w.cell? ((⟨g, 0, none⟩ : Addr).add j) = some u := hown.cells (g := g) rfl
      subst hby
      have hr2 := run_append_grow (P := P) w t ty e i z ht hi hz ⟨g, 0, none⟩ n cap xs hown.1 holds a m c news hl hnews (by omega) (by omega) (growslice_fits (by omega) hbytes)
      rw [hr] at hr2
      cases hr2
      simp only [Value.ownBlock, Option.some.injEq] at hk'
      omega

/-! ### Rows of packets -/
def pkCells (x : Pk) : List Value := [.int .i64 x.1.1, .int .i64 x.1.2.1, .int .i64 x.1.2.2, .string (sOf x.2)]
def pCells : List Pk → List Value
  | [] => []
  | x :: t => pkCells x ++ pCells t
theorem pCells_len : ∀ l : List Pk, (pCells l).length = l.length * 4
  | [] => rfl
  | x :: t => by simp [pCells, pkCells, pCells_len t]; omega
theorem pCells_append : ∀ a b : List Pk, pCells (a ++ b) = pCells a ++ pCells b
  | [], b => rfl
  | x :: t, b => by simp [pCells, pCells_append t b]
theorem pCells_at : ∀ (l : List Pk) (k : Nat) (x : Pk), l[k]? = some x → (pCells l)[k * 4]? = some (.int .i64 x.1.1) ∧ (pCells l)[k * 4 + 1]? = some (.int .i64 x.1.2.1) ∧ (pCells l)[k * 4 + 2]? = some (.int .i64 x.1.2.2) ∧ (pCells l)[k * 4 + 3]? = some (.string (sOf x.2))
  | [], k, x, h => by simp at h
  | y :: t, 0, x, h => by simp at h; subst h; simp [pCells, pkCells]
  | y :: t, k + 1, x, h => by
    have ih := pCells_at t k x (by simpa using h)
    have e : (k + 1) * 4 = k * 4 + 4 := by omega
    rw [e]
    simpa [pCells, pkCells] using ih

/-- Packets that a slice reads as. -/
def Ps (w : World) (v : Value) (l : List Pk) : Prop := Rd w v l.length (pCells l)
theorem Ps.slice {w : World} {v : Value} {l : List Pk} (h : Ps w v l) : ∃ a c, v = .slice a l.length c := by
  obtain ⟨a, c, rfl, _⟩ := h; exact ⟨a, c, rfl⟩
theorem Ps.below' {B : Nat} {w w' : World} {v : Value} {l : List Pk} (h : Ps w v l) (hb : Below B w w') (hB : w.heap.size ≤ B) : Ps w' v l := Rd.below' h hb hB
theorem Ps.len {w : World} {v : Value} {l : List Pk} (h : Ps w v l) : l.length ≤ maxLen := Rd.len h
theorem Ps.at {w : World} {a : Option Addr} {n c : Nat} {l : List Pk} (h : Ps w (.slice a n c) l) {k : Nat} {x : Pk} (hk : l[k]? = some x) :
    ∃ b o, a = some ⟨b, o, none⟩ ∧ b < w.heap.size ∧ w.cell? ⟨b, o + k * 4, none⟩ = some (.int .i64 x.1.1) ∧ w.cell? ⟨b, o + k * 4 + 1, none⟩ = some (.int .i64 x.1.2.1) ∧ w.cell? ⟨b, o + k * 4 + 2, none⟩ = some (.int .i64 x.1.2.2) ∧ w.cell? ⟨b, o + k * 4 + 3, none⟩ = some (.string (sOf x.2)) := by
  obtain ⟨h0, h1, h2, h3⟩ := pCells_at l k x hk
  have hw := @Rd.split w (.slice a n c) l.length (pCells l) h
  rcases hw with ⟨hn, _⟩ | ⟨_, b, o, c', hv, _, _, hlt, hcell⟩
  · have : l = [] := by
      have := pCells_len l
      rw [hn] at this
      simp at this
      exact List.eq_nil_of_length_eq_zero (by omega)
    subst this
    simp at hk
  · simp only [Value.slice.injEq] at hv
    refine ⟨b, o, hv.1, hlt, hcell _ _ h0, ?_, ?_, ?_⟩
    · have := hcell _ _ h1; rwa [← Nat.add_assoc] at this
    · have := hcell _ _ h2; rwa [← Nat.add_assoc] at this
    · have := hcell _ _ h3; rwa [← Nat.add_assoc] at this
def OwnP (w : World) (v : Value) (l : List Pk) : Prop := w.ownsRow 0 54 4 v l.length (pCells l)
theorem OwnP.ps {w : World} {v : Value} {l : List Pk} (h : OwnP w v l) : Ps w v l := Owns.rd h
theorem OwnP.keeps {S : List Nat} {w w' : World} {v : Value} {l : List Pk} (h : OwnP w v l) (hk : Keeps S w w') (ho : ∀ k, k ∈ blk v → k ∉ S) : OwnP w' v l := hk.row h ho
theorem OwnP.nil (w : World) : OwnP w (.slice none 0 0) [] := ⟨rfl, .inl ⟨rfl, rfl⟩⟩
theorem OwnP.lt {w : World} {v : Value} {l : List Pk} (h : OwnP w v l) {k : Nat} (hk : k ∈ blk v) : k < w.heap.size := blk_lt h hk
theorem info_raw : (Tryd.prog.info? 54).map (fun i => (i.zero, i.size, i.bytes)) = some (some (.agg #[.int .i64 0, .int .i64 0, .int .i64 0, .string ⟨#[]⟩]), 4, 40) := by kernel_rfl
/-- append(out, x) of one packet: the walk has laid a block of its cells for it. -/
theorem wp_appP {w : World} {ops : Array Oper} {rest : List Oper} {o : Oper} {a : Act} {Q : Exit → Act → World → Prop} (hgd : o.guard = none) (s x : Operand)
    (ho : o.op = .call { callee := .builtin .append, args := #[s, x], argTypes := #[48, 48] })
    (v : Value) (l : List Pk) (hv : a.eval s = v) (hown : OwnP w v l) (p : Pk) (cs : Array Value) (hcs : cs = (pkCells p).toArray) (hx : a.eval x = .slice (some ⟨w.heap.size, 0, none⟩) 1 1)
    (hlen : l.length < 1000000)
    (h : ∀ v' w', OwnP w' v' (l ++ [p]) → Keeps (blk v) w w' → (∀ k, k ∈ blk v' → k ∈ blk v ∨ w.heap.size ≤ k) → wpList Tryd.prog ops Q rest (a.put o.dst v') w') : wpList Tryd.prog ops Q (o :: rest) a (w.alloc (.cells cs 54)) := by
  subst hcs
  obtain ⟨i0, hi, hz0, hz1, hz2⟩ := info_parts info_raw
  have hk0 : Keeps (blk v) w (w.alloc (.cells (pkCells p).toArray 54)) := (Keeps.refl _ w).alloc _
  have hone : (w.alloc (.cells (pkCells p).toArray 54)).ownsRow 0 54 4 (.slice (some ⟨w.heap.size, 0, none⟩) 1 1) 1 (pkCells p) :=
    owns_lit 0 54 w 4 1 (pkCells p) w.heap.size rfl (Nat.zero_le _) (by unfold maxLen; simp) rfl
  obtain ⟨v', w', hr, h2, h3, h4⟩ := app_block (P := Tryd.prog) (w.alloc (.cells (pkCells p).toArray 54)) 48 o.type 54 i0 (.agg #[.int .i64 0, .int .i64 0, .int .i64 0, .string ⟨#[]⟩]) 4 40 Tryd.underlying48 hi hz0 hz1 hz2 rfl (by decide) v l.length (pCells l)
    (World.ownsRow.alloc hown _) ⟨w.heap.size, 0, none⟩ 1 1 (pkCells p) rfl (hone.cells rfl) (by intro u hu; simp [pkCells] at hu; rcases hu with rfl | rfl | rfl | rfl <;> rfl) (by unfold maxLen; omega) (by omega)
  refine wpList_plain hgd fun K hK => ?_
  unfold Oper.wp execOp
  simp only [ho, resolve, invoke, builtin, Sem.run_bind, Sem.run_pure, Result.andThen_ok, List.map_toArray, List.map_cons, List.map_nil, hv, hx, hr]
  refine hK _ _ (h v' w' ?_ (hk0.trans h3) (fun k hk => ?_))
  · unfold OwnP
    rw [List.length_append, pCells_append]
    simpa [pCells] using h2
  · rcases h4 k hk with h5 | h5
    · exact .inl h5
    · right; simp at h5; omega

/-! ### All packets that are taken -/
def frAll : Nat → FrS → List Pk × Int × FrS
  | 0, s => ([], 0, s)
  | n + 1, s => if (frNext s).1.2.1 = true then ((frNext s).1.1 :: (frAll n (frNext s).2).1, (frAll n (frNext s).2).2) else ([], (frNext s).1.2.2, (frNext s).2)
theorem frNext_rng (s : FrS) : (frNext s).2.1.length ≤ s.1.length ∧ s.2.1 ≤ (frNext s).2.2.1 ∧ (frNext s).2.2.1 ≤ s.2.1 + 1 := by
  unfold frNext
  repeat' split
  all_goals (simp; try omega)
def GivesAll (w : World) (g : Nat) (S : List Nat) (r : List Pk × Int × FrS) (e : Ending) (w' : World) : Prop :=
  ∃ v, e = .returned (.tuple #[v, .int .i64 r.2.1]) ∧ OwnP w' v r.1 ∧ FrAt w' g r.2.2.1 r.2.2.2.1 r.2.2.2.2 (blk v ++ S) ∧ Keeps [g] w w' ∧ ∀ k, k ∈ blk v → w.heap.size ≤ k
structure AllI (w : World) (g : Nat) (S : List Nat) (s : FrS) (n k : Nat) (p : List Pk) (s' : FrS) (v : Value) (w' : World) : Prop where
  own : OwnP w' v p
  new : ∀ k, k ∈ blk v → w.heap.size ≤ k
  len : p.length = k
  fr : FrAt w' g s'.1 s'.2.1 s'.2.2 (blk v ++ S)
  eq : frAll n s = (p ++ (frAll (n - k) s').1, (frAll (n - k) s').2)
  keeps : Keeps [g] w w'
  bl : s'.1.length ≤ 140737488355328
  bt : 0 ≤ s'.2.1 ∧ s'.2.1 ≤ 1000000 + k
def leftN (n : Nat) : Value → Nat
  | .int _ k => ((n : Int) - k).toNat
  | _ => 0

set_option maxRecDepth 100000 in
set_option maxHeartbeats 4000000 in
theorem all_c (g : Nat) (s : FrS) (n : Nat) (S : List Nat) (w : World) (hgS : g ∉ S) (hE : ∀ w', Keeps [g] w w' → EnvF w') (h : FrAt w g s.1 s.2.1 s.2.2 S) (hlm : s.1.length ≤ 140737488355328) (ht : 0 ≤ s.2.1 ∧ s.2.1 ≤ 1000000) (hn : n ≤ 1000000) :
    Calls Tryd.prog 26 #[.pointer (some ⟨g, 0, none⟩), .int .i64 n] w (GivesAll w g S (frAll n s)) := by
  have HE := hd hE; clear hE
  have hlt := h.lt
  have I0 : AllI w g S s n 0 [] s (.slice none 0 0) w := ⟨OwnP.nil w, by simp [blk, Value.ownBlock], rfl, by simpa [blk, Value.ownBlock] using h, by simp, Keeps.refl _ _, hlm, by omega⟩
  clear h hlm ht
  go_enter Tryd.func26, Tryd.ntmps26
  go_wp2_with fail
  go_loopw [6, 7] (fun v i w' => ∃ (k : Nat) (p : List Pk) (s' : FrS), i = .int .i64 k ∧ k ≤ n ∧ AllI w g S s n k p s' v w') (fun _ i _ => leftN n i)
  case atStart => exact ⟨0, [], s, rfl, Nat.zero_le _, I0⟩
  case round =>
    obtain ⟨k, p, s', rfl, hk, I⟩ := hrel
    clear I0
    have hst := I.own.ps.slice
    obtain ⟨sa, sc, rfl⟩ := hst
    by_cases hkn : k < n
    · have hgw := I.fr.lt
      have hr := frNext_rng s'
      have hsp : frAll (n - k) s' = if (frNext s').1.2.1 = true then ((frNext s').1.1 :: (frAll (n - (k + 1)) (frNext s').2).1, (frAll (n - (k + 1)) (frNext s').2).2) else ([], (frNext s').1.2.2, (frNext s').2) := by
        rw [show n - k = (n - (k + 1)) + 1 by omega]; rfl
      have hbt := I.bt
      have Hsp := hd hsp; have Hr := hd hr; clear hsp hr
      go_wp2_with fail
      refine (next_c g s' _ (HE.out _ I.keeps) I.fr I.bl (by omega)).mono ?_
      generalize frNext s' = N at *
      obtain ⟨⟨⟨⟨K, F, L⟩, B⟩, ok, e⟩, s1⟩ := N
      have hsp := Hsp.out; have hr := Hr.out; clear Hsp Hr
      simp only [GivesNext, pkV]
      rintro e' w1 ⟨rfl, hf1, hk1⟩
      have hl1 : wr.heap.size ≤ w1.heap.size := hk1.size
      cases ok
      · rw [if_neg (by simp)] at hsp
        have Hsp := hd hsp; have Hr := hd hr; clear hsp hr hbt
        go_wp2_with fail
        refine bodyPost_ret (v := .tuple #[.slice sa p.length sc, .int .i64 e]) (by simp [results, Tryd.results26, go_sem]) rfl ?_
        have hgb : ∀ i, i ∈ blk (.slice sa p.length sc) → i ∉ [g] := fun i hi => by have := I.new i hi; simp; omega
        unfold GivesAll
        rw [I.eq, Hsp.out]
        simp only [List.append_nil]
        exact ⟨_, rfl, I.own.keeps (hk1.alloc _) hgb, hf1.below ((Below.refl _ _).alloc (Nat.le_refl _) _), I.keeps.trans (hk1.alloc _), I.new⟩
      · rw [if_pos rfl] at hsp
        have Hsp := hd hsp; have Hr := hd hr; clear hsp hr
        have hgb : ∀ i, i ∈ blk (.slice sa p.length sc) → i ∉ [g] := fun i hi => by have := I.new i hi; simp; omega
        have hO := I.own.keeps hk1 hgb
        have hO2 : OwnP (w1.alloc (.cells #[.int .i64 K, .int .i64 F, .int .i64 L, .string (sOf B)] 54)) (.slice sa p.length sc) p := World.ownsRow.alloc hO _
        have hpl := hd I.len
        have HI := hd I; clear I
        have HF := hd hf1; clear hf1
        have hOO := hd hO; clear hO
        go_wp2_with (at_builtin; refine wp_appP rfl _ _ rfl _ p rfl hO2 ((K, F, L), B) _ rfl (by rw [World.size_alloc]; rfl) (by have := hpl.out; omega) ?_; intro v4 w4 ho4 hk4 hn4)
        go_roundw
        case rel =>
          have I := HI.out
          have hk2 : Keeps (blk (.slice sa p.length sc)) w1 w4 := ((Keeps.refl _ w1).alloc _).trans hk4
          have hs4 := hk4.size
          simp at hs4
          have hs1 := I.keeps.size
          refine ⟨k + 1, p ++ [((K, F, L), B)], s1, by congr 1, by omega, ho4, fun i hi => ?_, by simp [hpl.out], ?_, ?_, ?_, ?_, ?_⟩
          · rcases hn4 i hi with h5 | h5
            · exact I.new i h5
            · simp at h5; omega
          · refine HF.out.after (hk2.mono (fun i hi => by simp [hi])) ?_ (fun i hi => ?_) (fun i hi => ?_)
            · intro hm
              rcases List.mem_append.1 hm with h5 | h5
              · exact hgb g h5 (by simp)
              · exact hgS h5
            · rcases List.mem_append.1 hi with h5 | h5
              · rcases hn4 i h5 with h6 | h6
                · exact .inl (List.mem_append.2 (.inl h6))
                · right; simp at h6; omega
              · exact .inl (List.mem_append.2 (.inr h5))
            · rcases List.mem_append.1 hi with h5 | h5
              · exact ho4.lt h5
              · have := HF.out.ltS i (List.mem_append.2 (.inr h5)); omega
          · rw [I.eq, Hsp.out]; simp
          · exact (I.keeps.trans hk1).next hk2 (fun i hi => .inr (I.new i hi))
          · have := Hr.out; have := I.bl; omega
          · have := Hr.out; have := I.bt; push_cast; omega
        case measure => simp [leftN]; omega
    · have hke : k = n := by omega
      subst hke
      go_wp2_with fail
      exact bodyPost_ret (v := .tuple #[.slice sa p.length sc, .int .i64 0]) (by simp [results, Tryd.results26, go_sem]) rfl ⟨.slice sa p.length sc, by rw [I.eq, Nat.sub_self]; rfl, by rw [I.eq, Nat.sub_self]; simpa [frAll] using I.own, by rw [I.eq, Nat.sub_self]; exact I.fr, I.keeps, I.new⟩

/-! ### Are two lists of packets one? -/
set_option maxRecDepth 100000 in
set_option maxHeartbeats 4000000 in
theorem same12_c (v1 v2 : Value) (a : List Pk) (w : World) (h1 : Ps w v1 a) (h2 : Ps w v2 a) :
    Calls Tryd.prog 27 #[v1, v2] w fun e w' => e = .returned (.bool true) ∧ Below w.heap.size w w' := by
  obtain ⟨a1, c1, rfl⟩ := h1.slice
  obtain ⟨a2, c2, rfl⟩ := h2.slice
  have hm1 := h1.len
  unfold maxLen at hm1
  have hmx : a.length ≤ 9223372036854775807 := by omega
  clear hm1
  have HV1 := hd h1; have HV2 := hd h2; clear h1 h2
  have hlb : ((a.length : Int) != (a.length : Int)) = false := by simp
  go_enter Tryd.func27, Tryd.ntmps27
  go_wp2_with fail
  go_loopw [5] (fun n w' => ∃ k : Nat, n = .int .i64 k ∧ k ≤ a.length ∧ Below w.heap.size w w') (fun n _ => leftN a.length n)
  case atStart => exact ⟨0, rfl, by omega, by go_grown⟩
  case round =>
    obtain ⟨k, rfl, hk, hB⟩ := hrel
    by_cases hkl : k < a.length
    · obtain ⟨x, hx⟩ : ∃ x, a[k]? = some x := ⟨_, List.getElem?_eq_getElem hkl⟩
      obtain ⟨b1, o1, rfl, hl1, p1, q1, r1, s1⟩ := HV1.out.at hx
      obtain ⟨b2, o2, rfl, hl2, p2, q2, r2, s2⟩ := HV2.out.at hx
      replace p1 := (bcell hB _ _ hl1).trans p1
      replace q1 := (bcell hB _ _ hl1).trans q1
      replace r1 := (bcell hB _ _ hl1).trans r1
      replace s1 := (bcell hB _ _ hl1).trans s1
      replace p2 := (bcell hB _ _ hl2).trans p2
      replace q2 := (bcell hB _ _ hl2).trans q2
      replace r2 := (bcell hB _ _ hl2).trans r2
      replace s2 := (bcell hB _ _ hl2).trans s2
      obtain ⟨⟨K, F, L⟩, B⟩ := x
      simp only at p1 q1 r1 s1 p2 q2 r2 s2
      go_wp2_with fail
      go_quiet (fail)
      go_wp2_with fail
      go_roundw
      case rel => exact ⟨k + 1, by congr 1, by omega, ⟨hB.os, hB.tape, hB.output, hB.size, hB.block⟩⟩
      case measure => simp [leftN]; omega
    · have hke : k = a.length := by omega
      subst hke
      go_wp2_with fail
      go_ret
      exact ⟨rfl, by go_grown⟩
end Go.Proofs.YtgafhnomkeiakaaDoor
