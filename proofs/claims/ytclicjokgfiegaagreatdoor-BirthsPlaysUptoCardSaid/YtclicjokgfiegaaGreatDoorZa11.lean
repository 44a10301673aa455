/- A bundle of texts (merged for the limit on files): PubRef, PubOf, Keeps, Blk, RowGen, BirMem, Bir. -/
import Derived.Test.YtclicjokgfiegaaGreatDoorZa10
import Derived.WalkSpells
import Derived.Deep.MidRow
import Derived.Lib.AppendZerosOnto
import Derived.Lib.Overlaps
import Derived.Test.YtclicjokgfiegaaGreatDoorZa3
import Derived.Sort.Walk0
import Derived.Test.YtclicjokgfiegaaGreatDoorZa6
import Derived.Test.YtclicjokgfiegaaGreatDoorZa4
/- Messages: the reference's walks; what bytes tell; the numbers. -/
namespace Go.Proofs.YtclicjokgfiegaaGreatDoor
open Go.RowKit
set_option linter.unusedVariables false

end Go.Proofs.YtclicjokgfiegaaGreatDoor

/- Messages: what bytes tell: the walks. -/
namespace Go.Proofs.YtclicjokgfiegaaGreatDoor
open Go.RowKit
set_option linter.unusedVariables false
set_option linter.unusedSimpArgs false

set_option maxRecDepth 100000 in
/-- []byte(s), where the walk stands at it. -/
theorem upon_bytes {o : Oper} {a : Act} {K : Act → World → Prop} {Q : Exit → Act → World → Prop} {W : World} {s : ByteArray} {f : Value → World → Result Next} (hs : s.size ≤ 140737488355327)
    (h : ∀ ad c W', Bs W' (.slice ad (sB s).length c) (sB s) → Below W.heap.size W W' → Oper.upon Tryz.prog o a K Q ((Result.ok (.slice ad (sB s).length c) W').andThen f)) :
    Oper.upon Tryz.prog o a K Q ((Sem.run Tryz.prog (convert 9 79 (.string s)) W).andThen f) := by
  obtain ⟨c, W', hr, hB, hb⟩ := run_bytes s hs W
  rw [hr]
  exact h _ c W' hB hb

/-- The message that bytes tell. -/
def GivesM (w : World) (l : List UInt8) (q : Int) (e : Ending) (w' : World) : Prop :=
  e = .returned (.tuple #[.agg #[.string (sOf (pOf l q).1), .string (sOf (pOf l q).2.1), .int .i64 (pOfQ l q), .bool false], .int .i64 (pOf l q).2.2.1, .int .i64 (pOf l q).2.2.2]) ∧ Below w.heap.size w w'
theorem GivesM.nil {w w' : World} {l : List UInt8} {q : Int} (e : Int) (h : pOf l q = ([], [], 0, e)) (h0 : e ≠ 0) (hb : Below w.heap.size w w') :
    GivesM w l q (.returned (.tuple #[.agg #[.string ⟨#[]⟩, .string ⟨#[]⟩, .int .i64 0, .bool false], .int .i64 0, .int .i64 e])) w' := by
  unfold GivesM pOfQ
  rw [h]
  simp only
  rw [if_neg h0]
  exact ⟨rfl, hb⟩

theorem uGet_len (l : List UInt8) (k : Int) : (uGet l k).1.length ≤ 65535 := by
  unfold uGet
  have := uGetRaw_len l k
  repeat' split
  all_goals (first | exact this | simp)

theorem extract_drop (b : ByteArray) (n : Nat) : b.extract n b.size = sOf ((sB b).drop n) := by
  apply ByteArray.ext
  rw [ByteArray.data_extract]
  show b.data.extract n b.size = ((b.data.toList).drop n).toArray
  apply Array.toList_inj.1
  rw [Array.toList_extract]
  show ((b.data.toList).drop n).take (b.size - n) = (b.data.toList).drop n
  have : b.data.toList.length = b.size := Array.length_toList
  exact List.take_of_length_le (by rw [List.length_drop]; omega)

set_option maxRecDepth 100000 in
set_option maxHeartbeats 1000000 in
theorem pubOf_c (b : ByteArray) (q : Int) (w : World) (hE : EnvU w) (hs : b.size ≤ 140737488351232) :
    Calls Tryz.prog 158 #[.string b, .int .i64 q] w (GivesM w (sB b) q) := by
  have HE := hd hE; clear hE
  go_enter Tryz.func158, Tryz.ntmps158
  go_wp2_with fail
  refine (leveled_c q _).mono ?_
  by_cases hq : q < 0 ∨ 2 < q
  · rw [show (decide (0 ≤ q) && decide (q ≤ 2)) = false from by simp; omega]
    rintro e w' ⟨rfl, rfl⟩
    go_wp2_with fail
    exact bodyPost_ret (v := .tuple #[.agg #[.string ⟨#[]⟩, .string ⟨#[]⟩, .int .i64 0, .bool false], .int .i64 0, .int .i64 10]) (by simp [results, Tryz.results158, go_sem]) rfl (GivesM.nil 10 (by rw [pOf, if_pos hq]) (by decide) (by go_grown))
  rw [show (decide (0 ≤ q) && decide (q ≤ 2)) = true from by simp; omega]
  rintro e w' ⟨rfl, rfl⟩
  go_wp2_with fail
  refine upon_bytes (by omega) fun d1 k1 w1 hs1 hb1 => ?_
  have hc1 := bcell hb1
  have hf1 := bfree hb1
  have hl1 : w.heap.size < w1.heap.size := by have := hb1.size; simp at this; omega
  have hb : Below w.heap.size w w1 := Below.up (by go_grown) hb1
  go_wp2_with fail
  refine (Get_c _ (sB b) 0 _ (HE.out.below hb) hs1).mono ?_
  rintro e w2 ⟨rfl, hb2⟩
  have hc2 := bcell hb2
  have hf2 := bfree hb2
  have hl2 : w.heap.size < w2.heap.size := by have := hb2.size; omega
  replace hb := Below.up hb hb2
  have hg := @uGet_rng (sB b) 0
  have hgl := uGet_len (sB b) 0
  have hof : pOf (sB b) q = pOf (sB b) q := rfl
  conv at hof => rhs; rw [pOf, if_neg hq]
  generalize uGet (sB b) 0 = g at hg hgl hof ⊢
  obtain ⟨T, k, e⟩ := g
  simp only at hg hgl hof ⊢
  have Hof := hd hof; clear hof
  by_cases he : e = 0
  rotate_left
  · have heb : (e != 0) = true := by simpa using he
    go_wp2_with fail
    exact bodyPost_ret (v := .tuple #[.agg #[.string ⟨#[]⟩, .string ⟨#[]⟩, .int .i64 0, .bool false], .int .i64 0, .int .i64 e]) (by simp [results, Tryz.results158, go_sem, hc1, hc2, hl1, hl2]) rfl (GivesM.nil e (by rw [Hof.out, if_pos he]) he (by go_grown))
  subst he
  have hrg := hg rfl; clear hg
  have hbl := sB_len b
  have hk0 : 0 ≤ k := by omega
  have hk1 : k ≤ (b.size : Int) := by omega
  clear hbl
  go_wp2_with fail
  refine (named_c (sOf T) _ (by rw [sOf_size]; omega)).mono ?_
  rw [sB_sOf]
  have hl1' := hl1
  by_cases hn : pName T = false
  · rw [hn]
    rintro e w3 ⟨rfl, hb3⟩
    have hc3 := bcell hb3
    have hf3 := bfree hb3
    have hl3 : w.heap.size < w3.heap.size := by have := hb3.size; omega
    go_wp2_with fail
    exact bodyPost_ret (v := .tuple #[.agg #[.string ⟨#[]⟩, .string ⟨#[]⟩, .int .i64 0, .bool false], .int .i64 0, .int .i64 13]) (by simp [results, Tryz.results158, go_sem, hc1, hc2, hc3, hl1, hl2, hl3]) rfl (GivesM.nil 13 (by rw [Hof.out, if_neg (by decide), if_pos hn]) (by decide) (by have := Below.up hb hb3; go_grown))
  rw [show pName T = true from by simpa using hn]
  rintro e w3 ⟨rfl, hb3⟩
  have hc3 := bcell hb3
  have hf3 := bfree hb3
  have hl3 : w.heap.size < w3.heap.size := by have := hb3.size; omega
  have hs3 := hs1.below' (hb2.trans (hb3.mono hb2.size)) (Nat.le_refl _)
  replace hb := Below.up hb hb3
  clear hs1 hb1 hb2
  by_cases h : q = 0
  · subst h
    go_wp2_with fail
    refine bodyPost_ret (v := .tuple #[.agg #[.string (sOf T), .string (b.extract k.toNat b.size), .int .i64 0, .bool false], .int .i64 0, .int .i64 0]) (by simp [results, Tryz.results158, go_sem, hc1, hc2, hc3, hl1, hl2, hl3]) rfl ?_
    have hr : pOf (sB b) 0 = (T, (sB b).drop k.toNat, 0, 0) := by rw [Hof.out, if_neg (by decide), if_neg hn, if_pos trivial]
    unfold GivesM pOfQ
    rw [hr]
    exact ⟨by rw [extract_drop]; rfl, by go_grown⟩
  have hqz : (0 : Int) < q := by omega
  go_wp2_with fail
  refine upon_bytes (by omega) fun d4 k4 w4 hs4 hb4 => ?_
  have hc4 := bcell hb4
  have hf4 := bfree hb4
  have hl4 : w.heap.size < w4.heap.size := by have := hb4.size; omega
  replace hb := Below.up hb hb4
  go_wp2_with fail
  refine (Get2_c _ (sB b) k _ hs4).mono ?_
  rintro e w5 ⟨rfl, hb5⟩
  have hc5 := bcell hb5
  have hf5 := bfree hb5
  have hl5 : w.heap.size < w5.heap.size := by have := hb5.size; omega
  replace hb := Below.up hb hb5
  have hof := Hof.out; clear Hof
  rw [if_neg (by decide), if_neg hn, if_neg h] at hof
  have hg2 := @uGet2_ok (sB b) k
  generalize uGet2 (sB b) k = g at hof hg2 ⊢
  obtain ⟨id, k2, e⟩ := g
  simp only at hof hg2 ⊢
  have Hof := hd hof; clear hof
  by_cases he : e = 0
  rotate_left
  · have heb : (e != 0) = true := by simpa using he
    go_wp2_with fail
    exact bodyPost_ret (v := .tuple #[.agg #[.string ⟨#[]⟩, .string ⟨#[]⟩, .int .i64 0, .bool false], .int .i64 0, .int .i64 e]) (by simp [results, Tryz.results158, go_sem, hc1, hc2, hc3, hc4, hc5, hl1, hl2, hl3, hl4]) rfl (GivesM.nil e (by rw [Hof.out, if_pos he]) he (by go_grown))
  subst he
  obtain ⟨g1, g2, rfl, g4, g5⟩ := hg2 rfl
  clear hg2
  go_wp2_with fail
  refine (numbered_c id _).mono ?_
  by_cases hid : id = 0
  · rw [show (decide (1 ≤ id) && decide (id ≤ 65535)) = false from by rw [hid]; decide]
    rintro e w' ⟨rfl, rfl⟩
    go_wp2_with fail
    exact bodyPost_ret (v := .tuple #[.agg #[.string ⟨#[]⟩, .string ⟨#[]⟩, .int .i64 0, .bool false], .int .i64 0, .int .i64 1]) (by simp [results, Tryz.results158, go_sem, hc1, hc2, hc3, hc4, hc5, hl1, hl2, hl3, hl4]) rfl (GivesM.nil 1 (by rw [Hof.out, if_neg (by decide), if_pos hid]) (by decide) (by go_grown))
  rw [show (decide (1 ≤ id) && decide (id ≤ 65535)) = true from by simp; omega]
  rintro e w' ⟨rfl, rfl⟩
  have hk20 : 0 ≤ k + 2 := by omega
  have hk21 : k + 2 ≤ (b.size : Int) := by have := sB_len b; omega
  go_wp2_with fail
  refine bodyPost_ret (v := .tuple #[.agg #[.string (sOf T), .string (b.extract (k + 2).toNat b.size), .int .i64 q, .bool false], .int .i64 id, .int .i64 0]) (by simp [results, Tryz.results158, go_sem, hc1, hc2, hc3, hc4, hc5, hl1, hl2, hl3, hl4]) rfl ?_
  have hr : pOf (sB b) q = (T, (sB b).drop (k + 2).toNat, id, 0) := by rw [Hof.out, if_neg (by decide), if_neg hid]
  unfold GivesM pOfQ
  rw [hr]
  exact ⟨by rw [extract_drop]; rfl, by go_grown⟩
end Go.Proofs.YtclicjokgfiegaaGreatDoor

/- A frame: of what was there only the blocks of a list, and new ones, have turned. Of no function of the program. -/
namespace Go.Proofs.YtclicjokgfiegaaGreatDoor
open Go.RowKit
set_option linter.unusedVariables false

structure Keeps (S : List Nat) (w w' : World) : Prop where
  os : w'.os = w.os
  tape : w'.tape = w.tape
  output : w'.output = w.output
  size : w.heap.size ≤ w'.heap.size
  block : ∀ k, k < w.heap.size → k ∉ S → w'.heap[k]? = w.heap[k]?

theorem Keeps.refl (S : List Nat) (w : World) : Keeps S w w := ⟨rfl, rfl, rfl, Nat.le_refl _, fun _ _ _ => rfl⟩
theorem Keeps.trans {S : List Nat} {a b c : World} (h : Keeps S a b) (k : Keeps S b c) : Keeps S a c :=
  ⟨k.os.trans h.os, k.tape.trans h.tape, k.output.trans h.output, Nat.le_trans h.size k.size, fun i hi hn => (k.block i (Nat.lt_of_lt_of_le hi h.size) hn).trans (h.block i hi hn)⟩
theorem Keeps.mono {S S' : List Nat} {w w' : World} (h : Keeps S w w') (hs : ∀ k, k ∈ S → k ∈ S') : Keeps S' w w' :=
  ⟨h.os, h.tape, h.output, h.size, fun k hk hn => h.block k hk (fun hm => hn (hs k hm))⟩
theorem Keeps.below {S : List Nat} {w w' : World} (h : Below w.heap.size w w') : Keeps S w w' := ⟨h.os, h.tape, h.output, h.size, fun k hk _ => h.block k hk⟩
theorem Keeps.alloc {S : List Nat} {a w : World} (h : Keeps S a w) (o : Obj) : Keeps S a (w.alloc o) :=
  h.trans ⟨rfl, rfl, rfl, by simp, fun k hk _ => Below.heap_alloc _ _ _ hk⟩
theorem Keeps.setCell {S : List Nat} {a w : World} (h : Keeps S a w) {p : Addr} (hp : p.block ∈ S ∨ a.heap.size ≤ p.block) (u : Value) : Keeps S a (w.setCell p u) :=
  ⟨h.os, h.tape, h.output, by simpa [World.setCell] using h.size, fun k hk hn => (Below.heap_setCell _ _ _ _ (fun e => by
    rcases hp with hp | hp
    · exact hn (e ▸ hp)
    · omega)).trans (h.block k hk hn)⟩
theorem Keeps.drewN {S : List Nat} {a w : World} (h : Keeps S a w) (n : Nat) : Keeps S a (w.drewN n) := ⟨h.os, h.tape, h.output, h.size, h.block⟩
theorem Keeps.drew {S : List Nat} {a w : World} (h : Keeps S a w) : Keeps S a w.drew := ⟨h.os, h.tape, h.output, h.size, h.block⟩
theorem Keeps.cell {S : List Nat} {w w' : World} (h : Keeps S w w') {b o : Nat} (hb : b < w.heap.size) (hn : b ∉ S) : w'.cell? ⟨b, o, none⟩ = w.cell? ⟨b, o, none⟩ := World.cell?_of_block (w := w) (h.block b hb hn)
theorem Keeps.free {S : List Nat} {w w' : World} (h : Keeps S w w') {b o : Nat} (hb : b < w.heap.size) (hn : b ∉ S) : w'.frozen? ⟨b, o, none⟩ = w.frozen? ⟨b, o, none⟩ := World.frozen?_of_block (w := w) (h.block b hb hn)
/-- What a call that makes nothing turn below its own start leaves of it all. -/
theorem Keeps.toBelow {S : List Nat} {B : Nat} {w w' : World} (h : Keeps S w w') (hB : B ≤ w.heap.size) (hS : ∀ k, k ∈ S → B ≤ k) : Below B w w' :=
  ⟨h.os, h.tape, h.output, h.size, fun k hk => h.block k (by omega) (fun hm => by have := hS k hm; omega)⟩

/-- A slice that points into none of these blocks. -/
def OutOf (v : Value) (S : List Nat) : Prop := ∀ a n c, v = .slice (some a) n c → a.block ∉ S
theorem Rd.keeps {S : List Nat} {w w' : World} {v : Value} {n : Nat} {xs : List Value} (h : Rd w v n xs) (hk : Keeps S w w') (ho : OutOf v S) : Rd w' v n xs := by
  by_cases hx : xs = []
  · subst hx
    obtain ⟨a, c, rfl, h1, h2, h3, h4⟩ := h
    exact ⟨a, c, rfl, h1, h2, h3, fun ad _ j u hu => by simp at hu⟩
  · have hblk := h.block hx
    obtain ⟨a, c, rfl, h1, h2, h3, h4⟩ := h
    refine ⟨a, c, rfl, h1, h2, h3, fun ad had j u hu => ?_⟩
    subst had
    have hlt := hblk ad _ _ rfl
    have hno := ho ad _ _ rfl
    have e : w'.cell? (ad.add j) = w.cell? (ad.add j) := World.cell?_of_block (w := w) (by
      have : (ad.add j).block = ad.block := by unfold Addr.add; split <;> rfl
      rw [this]
      exact hk.block _ hlt hno)
    rw [e]
    exact h4 ad rfl j u hu
theorem Bs.keeps {S : List Nat} {w w' : World} {v : Value} {l : List UInt8} (h : Bs w v l) (hk : Keeps S w w') (ho : OutOf v S) : Bs w' v l := Rd.keeps h hk ho
end Go.Proofs.YtclicjokgfiegaaGreatDoor

/- Rows that may grow: which block they lie in. Of no function of the program. -/
namespace Go.Proofs.YtclicjokgfiegaaGreatDoor
open Go.RowKit
set_option linter.unusedVariables false
set_option linter.unusedSimpArgs false

/-! ### Rows that may grow: which block they lie in -/
def blk (v : Value) : List Nat := v.ownBlock.toList
theorem Keeps.next {S T : List Nat} {a b c : World} (h : Keeps S a b) (k : Keeps T b c) (hT : ∀ i, i ∈ T → i ∈ S ∨ a.heap.size ≤ i) : Keeps S a c :=
  ⟨k.os.trans h.os, k.tape.trans h.tape, k.output.trans h.output, Nat.le_trans h.size k.size, fun i hi hn => (k.block i (Nat.lt_of_lt_of_le hi h.size) (fun hm => by
    rcases hT i hm with h1 | h1
    · exact hn h1
    · omega)).trans (h.block i hi hn)⟩
theorem Keeps.row {S : List Nat} {w w' : World} {e size n : Nat} {v : Value} {xs : List Value} (hk : Keeps S w w') (h : w.ownsRow 0 e size v n xs) (ho : ∀ k, k ∈ blk v → k ∉ S) : w'.ownsRow 0 e size v n xs := by
  refine ⟨h.1, ?_⟩
  rcases h.2 with h0 | ⟨g, cap, cur, rfl, h1, h2, h3⟩
  · exact .inl h0
  · exact .inr ⟨g, cap, cur, rfl, h1, by rw [hk.block g (Array.getElem?_eq_some_iff.1 h2).1 (ho g (by simp [blk, Value.ownBlock]))]; exact h2, h3⟩
theorem blk_lt {w : World} {B e size n : Nat} {v : Value} {xs : List Value} (h : w.ownsRow B e size v n xs) {k : Nat} (hk : k ∈ blk v) : k < w.heap.size := (h.lt k (by simpa [blk] using hk)).2

theorem app_block {P : Program} (w : World) (t ty e : TypeId) (i : TypeInfo) (z : Value) (size bytes : Nat) (ht : P.underlying t = some (.slice e)) (hi : P.info? e = some i) (hz : i.zero = some z)
    (hsize : i.size = size) (hby : i.bytes = bytes) (hzs : z.cells.size = size) (hsz : 0 < size)
    (v : Value) (n : Nat) (xs : List Value) (hown : w.ownsRow 0 e size v n xs)
    (a : Addr) (m c : Nat) (news : List Value) (hl : news.length = m * size) (hnews : ∀ j u, news[j]? = some u → w.cell? (a.add j) = some u) (h1 : ∀ u ∈ news, u.oneCell' = true)
    (h63 : n + m ≤ maxLen) (hbytes : (n + m) * bytes ≤ 140737488355328) :
    ∃ v' w', (Builtin.append_ #[t, t] ty #[v, .slice (some a) m c]).run P w = .ok v' w' ∧ w'.ownsRow 0 e size v' (n + m) (xs ++ news) ∧ Keeps (blk v) w w' ∧ (∀ k, k ∈ blk v' → k ∈ blk v ∨ w.heap.size ≤ k) := by
  obtain ⟨v', w', hr, h2, h3, -⟩ := run_append_own (P := P) w 0 t ty e i z size bytes ht hi hz hsize hby hzs hsz v n xs hown a m c news hl hnews h1 h63 hbytes (Nat.zero_le _)
  refine ⟨v', w', hr, h2, ⟨h3.os, h3.tape, h3.output, h3.size, fun k hk hn => h3.block k hk (fun e => hn (by unfold blk; rw [← e]; simp))⟩, ?_⟩
  intro k hk
  have hk' : v'.ownBlock = some k := by simpa [blk] using hk
  rcases hown.2 with ⟨rfl, rfl⟩ | ⟨g, cap, cur, rfl, hbg, hg, hnc, hcm, hcs, htake⟩
  · right
    have hx : xs = [] := List.eq_nil_of_length_eq_zero (by simpa using hown.1)
    subst hx
    obtain ⟨v2, w2, hr2, h22, -⟩ := run_append_own (P := P) w w.heap.size t ty e i z size bytes ht hi hz hsize hby hzs hsz (.slice none 0 0) 0 [] (World.ownsRow_nil _ _ _ _) a m c news hl hnews h1 h63 hbytes (Nat.le_refl _)
    rw [hr] at hr2
    cases hr2
    exact (h22.lt k hk').1
  · subst hsize
    have hsmall : n + m ≤ 9223372036854775807 := by simp only [maxLen] at h63; omega
    by_cases hroom : n + m ≤ cap
    · left
      have hfit : n * i.size + news.length ≤ cur.size := by rw [hl, hcs, ← Nat.add_mul]; exact Nat.mul_le_mul_right _ hroom
      have hr2 := run_append_room (P := P) w t ty e i ht hi g n cap cur hg a m c news hl hnews h1 hroom hfit
      rw [hr] at hr2
      cases hr2
      simpa [blk, Value.ownBlock] using hk'.symm
    · right
      have holds : ∀ j u, xs[j]? = some u → w.cell? ((⟨g, 0, none⟩ : Addr).add j) = some u := hown.cells (g := g) rfl
      subst hby
      have hr2 := run_append_grow (P := P) w t ty e i z ht hi hz ⟨g, 0, none⟩ n cap xs hown.1 holds a m c news hl hnews (by omega) (by omega) (growslice_fits (by omega) hbytes)
      rw [hr] at hr2
      cases hr2
      simp only [Value.ownBlock, Option.some.injEq] at hk'
      omega
end Go.Proofs.YtclicjokgfiegaaGreatDoor

/- Rows of structs that lie whole in a block: what stores, copies, clears make of them. Of no function of the program. -/
namespace Go.Proofs.YtclicjokgfiegaaGreatDoor
open Go.RowKit
set_option linter.unusedVariables false
set_option linter.unusedSimpArgs false

/-- A block of so many cells of a type, none of them frozen. -/
def RowIn (w : World) (g : Nat) (e : TypeId) (tot : Nat) : Prop := ∃ cur, w.heap[g]? = some (.cells cur e (0, 0)) ∧ cur.size = tot
theorem RowIn.lt {w : World} {g : Nat} {e : TypeId} {tot : Nat} (h : RowIn w g e tot) : g < w.heap.size := by
  obtain ⟨cur, h1, _⟩ := h; exact (Array.getElem?_eq_some_iff.1 h1).1
theorem RowIn.shape {w : World} {g : Nat} {e : TypeId} {tot : Nat} (h : RowIn w g e tot) : w.shape? g = some (e, tot) := by
  obtain ⟨cur, h1, rfl⟩ := h; simp [World.shape?, h1]
theorem RowIn.frozen {w : World} {g : Nat} {e : TypeId} {tot : Nat} (h : RowIn w g e tot) (o : Nat) : w.frozen? ⟨g, o, none⟩ = false := by
  obtain ⟨cur, h1, rfl⟩ := h; simp [World.frozen?, h1]
theorem RowIn.there {w : World} {g : Nat} {e : TypeId} {tot : Nat} (h : RowIn w g e tot) {o n : Nat} (hn : o + n ≤ tot) : w.there g o n := fun j hj => by
  refine ⟨?_, h.frozen _⟩
  obtain ⟨cur, h1, rfl⟩ := h
  have : o + j < cur.size := by omega
  simp [World.cell?, h1, this]
theorem RowIn.setCell {w : World} {g : Nat} {e : TypeId} {tot : Nat} (h : RowIn w g e tot) (p : Addr) (v : Value) : RowIn (w.setCell p v) g e tot := by
  obtain ⟨cur, h1, rfl⟩ := h
  by_cases hp : p.block = g
  · subst hp
    refine ⟨if p.spot.isSome then cur else cur.setIfInBounds p.off v, ?_, by split <;> simp⟩
    simp [World.setCell, Array.getElem?_modify, h1]
  · exact ⟨cur, by rw [Below.heap_setCell _ _ _ _ (fun e => hp e.symm)]; exact h1, rfl⟩
theorem RowIn.setCells {g : Nat} {e : TypeId} {tot : Nat} (b : Nat) : ∀ (vs : List Value) (o : Nat) {w : World}, RowIn w g e tot → RowIn (w.setCells b o vs) g e tot
  | [], _, _, h => h
  | v :: r, o, w, h => by rw [World.setCells]; exact RowIn.setCells b r _ (h.setCell _ v)
theorem RowIn.keeps {S : List Nat} {w w' : World} {g : Nat} {e : TypeId} {tot : Nat} (h : RowIn w g e tot) (hk : Keeps S w w') (hn : g ∉ S) : RowIn w' g e tot := by
  have hl := h.lt
  obtain ⟨cur, h1, h2⟩ := h
  exact ⟨cur, by rw [hk.block g hl hn]; exact h1, h2⟩
theorem RowIn.below {B : Nat} {w w' : World} {g : Nat} {e : TypeId} {tot : Nat} (h : RowIn w g e tot) (hb : Below B w w') (hB : g < B) : RowIn w' g e tot := by
  obtain ⟨cur, h1, h2⟩ := h
  exact ⟨cur, by rw [hb.block g hB]; exact h1, h2⟩
theorem RowIn.drewN {w : World} {g : Nat} {e : TypeId} {tot : Nat} (h : RowIn w g e tot) (n : Nat) : RowIn (w.drewN n) g e tot := h
theorem RowIn.drew {w : World} {g : Nat} {e : TypeId} {tot : Nat} (h : RowIn w g e tot) : RowIn w.drew g e tot := h
theorem RowIn.new (w : World) (cs : Array Value) (e : TypeId) : RowIn (w.alloc (.cells cs e)) w.heap.size e cs.size := ⟨cs, heap_alloc_new w _, rfl⟩
theorem owns_in {w : World} {B e size n g cap : Nat} {o : Nat} {xs : List Value} (h : w.ownsRow B e size (.slice (some ⟨g, o, none⟩) n cap) n xs) :
    o = 0 ∧ RowIn w g e (cap * size) ∧ w.rangeAt g 0 xs ∧ n ≤ cap ∧ cap ≤ maxLen ∧ B ≤ g ∧ xs.length = n * size := by
  have hl := h.1
  rcases h.2 with ⟨h0, _⟩ | ⟨g', cap', cur, hv, hb, hg, hn, hm, hs, ht⟩
  · cases h0
  · cases hv
    refine ⟨rfl, ⟨cur, hg, hs⟩, fun j v hv => ?_, hn, hm, hb, hl⟩
    have := World.ownsRow.cells h rfl j v hv
    rw [Addr.add_mid] at this
    exact this
theorem in_owns {w : World} {B e size n g cap : Nat} {xs : List Value} (h : RowIn w g e (cap * size)) (hr : w.rangeAt g 0 xs) (hl : xs.length = n * size) (hn : n ≤ cap) (hm : cap ≤ maxLen) (hB : B ≤ g) :
    w.ownsRow B e size (.slice (some ⟨g, 0, none⟩) n cap) n xs := by
  obtain ⟨cur, h1, h2⟩ := h
  refine ⟨hl, .inr ⟨g, cap, cur, rfl, hB, h1, hn, hm, h2, ?_⟩⟩
  apply List.ext_getElem?
  intro j
  by_cases hj : j < n * size
  · have hx : xs[j]? = some (xs[j]'(by omega)) := List.getElem?_eq_getElem _
    have := hr j _ hx
    rw [Nat.zero_add] at this
    simp only [World.cell?, h1] at this
    rw [List.getElem?_take_of_lt hj, hx]
    simpa using this
  · rw [List.getElem?_eq_none (by simp; omega), List.getElem?_eq_none (by omega)]

theorem scells_size (b : Nat) : ∀ (vs : List Value) (o : Nat) (w : World), (w.setCells b o vs).heap.size = w.heap.size
  | [], _, _ => rfl
  | v :: r, o, w => by rw [World.setCells, scells_size b r]; simp [go_sem]
theorem keeps_scells (b : Nat) : ∀ (vs : List Value) (o : Nat) (w a : World), Keeps [b] a w → Keeps [b] a (w.setCells b o vs)
  | [], _, _, _, h => h
  | v :: r, o, w, a, h => by rw [World.setCells]; exact keeps_scells b r _ _ a (h.setCell (.inl (by simp)) v)
theorem keeps_scells1 (b o : Nat) (vs : List Value) (w : World) : Keeps [b] w (w.setCells b o vs) := keeps_scells b vs o w w (Keeps.refl _ _)

/-- copy(d, s), elements of whatever size, both in memory: all is read before anything is written. -/
theorem run_copyK {P : Program} (w : World) (dT sT ty elem : TypeId) (K b o dLen dCap : Nat) (a : Addr) (sLen sCap : Nat) (cs : List Value)
    (hu : P.underlying dT = some (.slice elem)) (hs : (P.info? elem).map (·.size) = some K) (hn : cs.length = Nat.min sLen dLen * K)
    (hsrc : ∀ j v, cs[j]? = some v → w.cell? (a.add j) = some v) (ht : w.there b o cs.length) (h1 : ∀ v ∈ cs, v.oneCell' = true) :
    (Builtin.copy_ #[dT, sT] ty #[.slice (some ⟨b, o, none⟩) dLen dCap, .slice (some a) sLen sCap]).run P w = .ok (goInt (Nat.min sLen dLen)) (w.setCells b o cs) := by
  have hl := run_loadCells_list (P := P) w a cs hsrc
  have hst := run_storeCells_cells (P := P) b o cs 0 w (by intro j hj; simpa using (ht j hj).1) (by intro j hj; simpa using (ht j hj).2) h1
  rw [hn] at hl
  cases hq : P.info? elem with
  | none => simp [hq] at hs
  | some i =>
    have hi : i.size = K := by simpa [hq] using hs
    simp [Builtin.copy_, run_underlying hu, Builtin.lenOf, Builtin.firstCells, sizeOf, typeInfo, hq, hi, hl, hst]

def zeros (z : List Value) : Nat → List Value
  | 0 => []
  | n + 1 => z ++ zeros z n
theorem zeros_len (z : List Value) : ∀ n, (zeros z n).length = n * z.length
  | 0 => by simp [zeros]
  | n + 1 => by simp [zeros, zeros_len z n, Nat.add_mul]; omega
/-- clear(s): nothing of a slice's memory is known behind it but that it is there. -/
theorem run_clearK {P : Program} (w : World) (t e ty : TypeId) (z : Value) (ht : P.underlying t = some (.slice e)) (hv : ∀ w, (zeroValue e).run P w = .ok z w) (K : Nat) (hz : z.cells.size = K) (h1 : ∀ v ∈ z.cells.toList, v.oneCell' = true) (b o n c : Nat)
    (hth : w.there b o (n * K)) : ∃ zs : List Value, zs.length = n * K ∧ (Builtin.clear_ #[t] ty #[.slice (some ⟨b, o, none⟩) n c]).run P w = .ok (.tuple #[]) (w.setCells b o zs) := by
  cases n with
  | zero => exact ⟨[], by simp, by simp [Builtin.clear_, run_underlying ht, World.setCells]⟩
  | succ n =>
    refine ⟨(Builtin.zeroCells z.cells (n + 1)).toList, by simp [Builtin.zeroCells, hz], ?_⟩
    have hone : ∀ v ∈ (Builtin.zeroCells z.cells (n + 1)).toList, v.oneCell' = true := by
      intro v hv
      simp only [Builtin.zeroCells, Array.toList_map, List.mem_map, Array.toList_range, List.mem_range] at hv
      obtain ⟨i, hi, rfl⟩ := hv
      have hK : 0 < z.cells.size := by
        rcases Nat.eq_zero_or_pos z.cells.size with h0 | h0
        · rw [h0] at hi; omega
        · exact h0
      have hlt : i % z.cells.size < z.cells.size := Nat.mod_lt _ hK
      refine h1 _ ?_
      simp [hlt]
    have hst := run_storeCells_cells (P := P) b o (Builtin.zeroCells z.cells (n + 1)).toList 0 w (by intro j hj; simpa using (hth j (by simpa [Builtin.zeroCells, hz] using hj)).1) (by intro j hj; simpa using (hth j (by simpa [Builtin.zeroCells, hz] using hj)).2) hone
    simp only [Nat.add_zero] at hst
    simp [Builtin.clear_, run_underlying ht, hv, hst]
/-- copy and clear whose runs are known. -/
theorem wpl_copy {P : Program} {w : World} {ops : Array Oper} {rest : List Oper} {o : Oper} {a : Act} {Q : Exit → Act → World → Prop} (hgd : o.guard = none) (d s : Operand) (t t' : TypeId)
    (ho : o.op = .call { callee := .builtin .copy, args := #[d, s], argTypes := #[t, t'] }) (v u : Value) (hd : a.eval d = v) (hs : a.eval s = u) {v' : Value} {w' : World}
    (hr : (Builtin.copy_ #[t, t'] o.type #[v, u]).run P w = .ok v' w') (h : wpList P ops Q rest (a.put o.dst v') w') : wpList P ops Q (o :: rest) a w := by
  refine wpList_plain hgd fun K hK => ?_
  unfold Oper.wp execOp
  simp only [ho, resolve, invoke, builtin, Sem.run_bind, Sem.run_pure, Result.andThen_ok, List.map_toArray, List.map_cons, List.map_nil, hd, hs, hr]
  exact hK _ _ h
theorem wpl_clear {P : Program} {w : World} {ops : Array Oper} {rest : List Oper} {o : Oper} {a : Act} {Q : Exit → Act → World → Prop} (hgd : o.guard = none) (s : Operand) (t : TypeId)
    (ho : o.op = .call { callee := .builtin .clear, args := #[s], argTypes := #[t] }) (u : Value) (hs : a.eval s = u) {v' : Value} {w' : World}
    (hr : (Builtin.clear_ #[t] o.type #[u]).run P w = .ok v' w') (h : wpList P ops Q rest (a.put o.dst v') w') : wpList P ops Q (o :: rest) a w := by
  refine wpList_plain hgd fun K hK => ?_
  unfold Oper.wp execOp
  simp only [ho, resolve, invoke, builtin, Sem.run_bind, Sem.run_pure, Result.andThen_ok, List.map_toArray, List.map_cons, List.map_nil, hs, hr]
  exact hK _ _ h
end Go.Proofs.YtclicjokgfiegaaGreatDoor

/- Births: how they lie in memory. -/
namespace Go.Proofs.YtclicjokgfiegaaGreatDoor
open Go.RowKit
set_option linter.unusedVariables false
set_option linter.unusedSimpArgs false

def birV (x : Bir) : List Value := [.string (sOf x.1.1), .string (sOf x.1.2), .string x.2]
def rkC (k : Rk) : List Value := [.string (sOf k.1), .string (sOf k.2)]
def rkV (k : Rk) : Value := .agg #[.string (sOf k.1), .string (sOf k.2)]
def birs (l : List Bir) : List Value := l.flatMap birV
theorem birV_len (x : Bir) : (birV x).length = 3 := rfl
theorem birs_cons (x : Bir) (l : List Bir) : birs (x :: l) = birV x ++ birs l := by simp [birs]
theorem birs_append (a b : List Bir) : birs (a ++ b) = birs a ++ birs b := by simp [birs]
theorem birs_len : ∀ l : List Bir, (birs l).length = l.length * 3
  | [] => rfl
  | x :: t => by rw [birs_cons, List.length_append, birV_len, birs_len t, List.length_cons]; omega
theorem birV_one (x : Bir) : ∀ v ∈ birV x, v.oneCell' = true := by
  intro v hv
  have : (birV x).all (·.oneCell') = true := rfl
  exact (List.all_eq_true.1 this) v hv
theorem birs_one : ∀ l : List Bir, ∀ v ∈ birs l, v.oneCell' = true
  | [], v, h => by simp [birs] at h
  | x :: t, v, h => by
    rw [birs_cons, List.mem_append] at h
    rcases h with h | h
    · exact birV_one x v h
    · exact birs_one t v h
theorem birs_at : ∀ (l : List Bir) (k : Nat) (x : Bir), l[k]? = some x → ∀ j v, (birV x)[j]? = some v → (birs l)[k * 3 + j]? = some v
  | [], k, x, h => by simp at h
  | y :: t, 0, x, h => by
    intro j v hv
    simp only [List.getElem?_cons_zero, Option.some.injEq] at h
    subst h
    rw [birs_cons, Nat.zero_mul, Nat.zero_add, List.getElem?_append_left (List.getElem?_eq_some_iff.1 hv).1]
    exact hv
  | y :: t, k + 1, x, h => by
    intro j v hv
    rw [List.getElem?_cons_succ] at h
    have := birs_at t k x h j v hv
    rw [birs_cons, List.getElem?_append_right (by rw [birV_len]; omega), birV_len, show (k + 1) * 3 + j - 3 = k * 3 + j by omega]
    exact this
theorem birs_drop (l : List Bir) (k : Nat) : birs (l.drop k) = (birs l).drop (k * 3) := by
  induction l generalizing k with
  | nil => simp [birs]
  | cons x t ih =>
    cases k with
    | zero => simp
    | succ k =>
      rw [List.drop_succ_cons, ih, birs_cons, show (k + 1) * 3 = 3 + k * 3 by omega, ← List.drop_drop]
      rfl
theorem birs_take (l : List Bir) (k : Nat) : birs (l.take k) = (birs l).take (k * 3) := by
  induction l generalizing k with
  | nil => simp [birs]
  | cons x t ih =>
    cases k with
    | zero => simp [birs]
    | succ k =>
      rw [List.take_succ_cons, birs_cons, ih, birs_cons, show (k + 1) * 3 = 3 + k * 3 by omega, List.take_add]
      rfl
/-- The cells of the birth at a place. -/
theorem bir_cells {w : World} {g o : Nat} {l : List Bir} (h : w.rangeAt g o (birs l)) {k : Nat} {x : Bir} (hk : l[k]? = some x) :
    w.cell? ⟨g, o + k * 3, none⟩ = some (.string (sOf x.1.1)) ∧ w.cell? ⟨g, o + k * 3 + 1, none⟩ = some (.string (sOf x.1.2)) ∧ w.cell? ⟨g, o + k * 3 + 2, none⟩ = some (.string x.2) := by
  have hb := birs_at l k x hk
  refine ⟨?_, ?_, ?_⟩
  · have := h _ _ (hb 0 _ rfl); rwa [Nat.add_zero] at this
  · have := h _ _ (hb 1 _ rfl); rwa [← Nat.add_assoc] at this
  · have := h _ _ (hb 2 _ rfl); rwa [← Nat.add_assoc] at this
theorem bir_range {w : World} {g o : Nat} {l : List Bir} (h : w.rangeAt g o (birs l)) {k : Nat} {x : Bir} (hk : l[k]? = some x) : w.rangeAt g (o + k * 3) (birV x) := fun j v hv => by
  have := h _ _ (birs_at l k x hk j v hv); rwa [← Nat.add_assoc] at this
theorem range_drop {w : World} {g o : Nat} {l : List Bir} (h : w.rangeAt g o (birs l)) (k : Nat) : w.rangeAt g (o + k * 3) (birs (l.drop k)) := fun j v hv => by
  rw [birs_drop, List.getElem?_drop] at hv
  have := h _ _ hv
  rwa [← Nat.add_assoc] at this
theorem range_take {w : World} {g o : Nat} {l : List Bir} (h : w.rangeAt g o (birs l)) (k : Nat) : w.rangeAt g o (birs (l.take k)) := fun j v hv => by
  rw [birs_take, List.getElem?_take] at hv
  split at hv
  · exact h _ _ hv
  · cases hv
theorem range_snoc {w : World} {g o : Nat} {l : List Bir} {x : Bir} (h : w.rangeAt g o (birs l)) (hx : w.rangeAt g (o + l.length * 3) (birV x)) : w.rangeAt g o (birs (l ++ [x])) := fun j v hv => by
  rw [birs_append] at hv
  by_cases hj : j < (birs l).length
  · rw [List.getElem?_append_left hj] at hv
    exact h _ _ hv
  · rw [List.getElem?_append_right (by omega)] at hv
    have hv2 : (birV x)[j - (birs l).length]? = some v := by simpa [birs] using hv
    have := hx _ _ hv2
    rw [birs_len] at this hj
    rwa [show o + l.length * 3 + (j - l.length * 3) = o + j by omega] at this
theorem range_cat {w : World} {g o : Nat} {a b : List Bir} (h : w.rangeAt g o (birs a)) (hx : w.rangeAt g (o + a.length * 3) (birs b)) : w.rangeAt g o (birs (a ++ b)) := fun j v hv => by
  rw [birs_append] at hv
  by_cases hj : j < (birs a).length
  · rw [List.getElem?_append_left hj] at hv
    exact h _ _ hv
  · rw [List.getElem?_append_right (by omega)] at hv
    have := hx _ _ hv
    rw [birs_len] at this hj
    rwa [show o + a.length * 3 + (j - a.length * 3) = o + j by omega] at this
theorem rangeK {S : List Nat} {w w' : World} {b o : Nat} {l : List Value} (h : w.rangeAt b o l) (hk : Keeps S w w') (hlt : b < w.heap.size) (hn : b ∉ S) : w'.rangeAt b o l := fun j v hv => (hk.cell hlt hn).trans (h j v hv)
theorem rangeB {B : Nat} {w w' : World} {b o : Nat} {l : List Value} (h : w.rangeAt b o l) (hb : Below B w w') (hB : b < B) : w'.rangeAt b o l := fun j v hv => (bcell hb _ _ hB).trans (h j v hv)

def OwnB (w : World) (v : Value) (l : List Bir) : Prop := w.ownsRow 0 70 3 v l.length (birs l)
theorem OwnB.nil (w : World) : OwnB w (.slice none 0 0) [] := ⟨rfl, .inl ⟨rfl, rfl⟩⟩
theorem OwnB.keeps {S : List Nat} {w w' : World} {v : Value} {l : List Bir} (h : OwnB w v l) (hk : Keeps S w w') (ho : ∀ k, k ∈ blk v → k ∉ S) : OwnB w' v l := hk.row h ho
theorem OwnB.below {w w' : World} {v : Value} {l : List Bir} (h : OwnB w v l) (hb : Below w.heap.size w w') : OwnB w' v l := h.keeps (S := []) (Keeps.below hb) (fun _ _ => by simp)
theorem OwnB.lt {w : World} {v : Value} {l : List Bir} (h : OwnB w v l) {k : Nat} (hk : k ∈ blk v) : k < w.heap.size := blk_lt h hk
/-- The row is nil, or it lies in a block of its own. -/
theorem OwnB.split {w : World} {v : Value} {l : List Bir} (h : OwnB w v l) : (v = .slice none 0 0 ∧ l = []) ∨
    ∃ g cap, v = .slice (some ⟨g, 0, none⟩) l.length cap ∧ RowIn w g 70 (cap * 3) ∧ w.rangeAt g 0 (birs l) ∧ l.length ≤ cap ∧ cap ≤ maxLen ∧ blk v = [g] := by
  rcases h.2 with ⟨rfl, h0⟩ | ⟨g, cap, cur, rfl, _⟩
  · exact .inl ⟨rfl, List.eq_nil_of_length_eq_zero h0⟩
  · obtain ⟨_, h1, h2, h3, h4, _, _⟩ := owns_in h
    exact .inr ⟨g, cap, rfl, h1, h2, h3, h4, rfl⟩
theorem OwnB.mk {w : World} {g cap : Nat} {l : List Bir} (h : RowIn w g 70 (cap * 3)) (hr : w.rangeAt g 0 (birs l)) (hn : l.length ≤ cap) (hm : cap ≤ maxLen) : OwnB w (.slice (some ⟨g, 0, none⟩) l.length cap) l :=
  in_owns h hr (birs_len l) hn hm (Nat.zero_le _)
theorem OwnB.slice {w : World} {v : Value} {l : List Bir} (h : OwnB w v l) : ∃ a c, v = .slice a l.length c := Owns.slice h
theorem info_bir : (Tryz.prog.info? 70).map (fun i => (i.zero, i.size, i.bytes)) = some (some (.agg #[.string ⟨#[]⟩, .string ⟨#[]⟩, .string ⟨#[]⟩]), 3, 48) := by kernel_rfl
theorem info_bir3 : (Tryz.prog.info? 70).map (·.size) = some 3 := by kernel_rfl

/-- An object of births. -/
structure BsAt (w : World) (g : Nat) (v : Value) (l : List Bir) : Prop where
  c0 : w.cell? ⟨g, 0, none⟩ = some v
  c1 : w.cell? ⟨g, 1, none⟩ = some (.bool true)
  f0 : w.frozen? ⟨g, 0, none⟩ = false
  own : OwnB w v l
  ne : g ∉ blk v
  lt : g < w.heap.size
theorem BsAt.keeps {S : List Nat} {w w' : World} {g : Nat} {v : Value} {l : List Bir} (h : BsAt w g v l) (hk : Keeps S w w') (hg : g ∉ S) (hv : ∀ k, k ∈ blk v → k ∉ S) : BsAt w' g v l :=
  ⟨(hk.cell h.lt hg).trans h.c0, (hk.cell h.lt hg).trans h.c1, (hk.free h.lt hg).trans h.f0, h.own.keeps hk hv, h.ne, Nat.lt_of_lt_of_le h.lt hk.size⟩
theorem BsAt.below {w w' : World} {g : Nat} {v : Value} {l : List Bir} (h : BsAt w g v l) (hb : Below w.heap.size w w') : BsAt w' g v l := h.keeps (S := []) (Keeps.below hb) (by simp) (fun _ _ => by simp)
/-- What a call leaves that may have turned births. -/
structure Bd (w : World) (g : Nat) (v : Value) (v' : Value) (l' : List Bir) (w' : World) : Prop where
  at' : BsAt w' g v' l'
  keeps : Keeps (g :: blk v) w w'
  new : ∀ k, k ∈ blk v' → k ∈ blk v ∨ w.heap.size ≤ k
end Go.Proofs.YtclicjokgfiegaaGreatDoor

/- Births: the small functions: the walks. -/
namespace Go.Proofs.YtclicjokgfiegaaGreatDoor
open Go.RowKit
set_option linter.unusedVariables false
set_option linter.unusedSimpArgs false

set_option maxRecDepth 100000 in
theorem isNaN_c (s : ByteArray) (w : World) : Calls Tryz.prog 77 #[.string s] w fun e w' => e = .returned (.bool false) ∧ w = w' := by
  go_enter Tryz.func77, Tryz.ntmps77
  go_wp2_with fail
  go_ret
  exact ⟨ret_bool (by simp), rfl⟩
def cmpB (a b : List UInt8) : Int := if a < b then -1 else if b < a then 1 else 0
set_option maxRecDepth 100000 in
theorem Compare_c (a b : List UInt8) (w : World) : Calls Tryz.prog 48 #[.string (sOf a), .string (sOf b)] w fun e w' => e = .returned (.int .i64 (cmpB a b)) ∧ w = w' := by
  have ha := toList_sOf a; have hb := toList_sOf b
  have hn := fun s W => isNaN_c s W
  obtain ⟨r, hr⟩ : ∃ r, cmpB a b = r := ⟨_, rfl⟩
  rw [hr]
  unfold cmpB at hr
  have HR := hd hr
  clear hr
  by_cases h1 : a < b
  · have h2 : Op.bytesLess a b = true := by rw [Go.Proofs.bytesLess_eq]; simpa using h1
    go_enter Tryz.func48, Tryz.ntmps48
    go_wp2_with (first | (go_at_call 77; refine (hn _ _).mono ?_; rintro e w' ⟨rfl, rfl⟩))
    go_ret
    have := HR.out
    rw [if_pos h1] at this
    exact ⟨ret_int this, rfl⟩
  have h2 : Op.bytesLess a b = false := by rw [Go.Proofs.bytesLess_eq]; simpa using h1
  by_cases h3 : b < a
  · have h4 : (a == b) = false := by rw [beq_eq_false_iff_ne]; intro e; subst e; exact l_irr _ h3
    go_enter Tryz.func48, Tryz.ntmps48
    go_wp2_with (first | (go_at_call 77; refine (hn _ _).mono ?_; rintro e w' ⟨rfl, rfl⟩))
    go_ret
    have := HR.out
    rw [if_neg h1, if_pos h3] at this
    exact ⟨ret_int this, rfl⟩
  · have h5 : a = b := by
      rcases l_tri a b with h | h | h
      · exact absurd h h1
      · exact h
      · exact absurd h h3
    subst h5
    have h4 : (a == a) = true := by simp
    go_enter Tryz.func48, Tryz.ntmps48
    go_wp2_with (first | (go_at_call 77; refine (hn _ _).mono ?_; rintro e w' ⟨rfl, rfl⟩))
    go_ret
    have := HR.out
    rw [if_neg h1, if_neg h3] at this
    exact ⟨ret_int this, rfl⟩
def orB (x y : Int) : Int := if x ≠ 0 then x else y
set_option maxRecDepth 100000 in
theorem Or_c (x y : Int) (g : Nat) (w : World) (h0 : w.cell? ⟨g, 0, none⟩ = some (.int .i64 x)) (h1 : w.cell? ⟨g, 1, none⟩ = some (.int .i64 y)) :
    Calls Tryz.prog 47 #[.slice (some ⟨g, 0, none⟩) 2 2] w fun e w' => e = .returned (.int .i64 (orB x y)) ∧ w = w' := by
  obtain ⟨r, hr⟩ : ∃ r, orB x y = r := ⟨_, rfl⟩
  rw [hr]
  unfold orB at hr
  have HR := hd hr
  clear hr
  go_enter Tryz.func47, Tryz.ntmps47
  go_wp2_with fail
  go_loopw [8] (fun i w' => w = w' ∧ (i = .int .i64 0 ∨ (i = .int .i64 1 ∧ x = 0) ∨ (i = .int .i64 2 ∧ x = 0 ∧ y = 0))) (fun i _ => match i with | .int _ m => 2 - m.toNat | _ => 0)
  case atStart => exact ⟨rfl, .inl rfl⟩
  case round =>
    obtain ⟨rfl, hrel⟩ := hrel
    rcases hrel with rfl | ⟨rfl, hx⟩ | ⟨rfl, hx, hy⟩
    · by_cases hx : x = 0
      · have hxb : (x != 0) = false := by simpa using hx
        go_wp2_with fail
        go_roundw
        case rel => exact ⟨trivial, .inr (.inl ⟨rfl, hx⟩)⟩
        case measure => simp
      · have hxb : (x != 0) = true := by simpa using hx
        have := HR.out
        rw [if_pos hx] at this
        subst this
        go_wp2_with fail
        go_ret
        exact ⟨rfl, rfl⟩
    · have := HR.out
      rw [if_neg (by simp [hx])] at this
      subst this
      by_cases hy : y = 0
      · have hyb : (y != 0) = false := by simpa using hy
        go_wp2_with fail
        go_roundw
        case rel => exact ⟨trivial, .inr (.inr ⟨rfl, hx, hy⟩)⟩
        case measure => simp
      · have hyb : (y != 0) = true := by simpa using hy
        go_wp2_with fail
        go_ret
        exact ⟨rfl, rfl⟩
    · have := HR.out
      rw [if_neg (by simp [hx]), hy] at this
      subst this
      go_wp2_with fail
      go_ret
      exact ⟨rfl, rfl⟩
def rkCmp (x k : Rk) : Int := orB (cmpB x.1 k.1) (cmpB x.2 k.2)
theorem cmpB_eq {a b : List UInt8} : cmpB a b = 0 ↔ a = b := by
  unfold cmpB
  constructor
  · intro h
    split at h
    · cases h
    · split at h
      · cases h
      · rcases l_tri a b with h1 | h1 | h1
        · rename_i h2 _; exact absurd h1 h2
        · exact h1
        · rename_i h2; exact absurd h1 h2
  · rintro rfl
    rw [if_neg (l_irr a), if_neg (l_irr a)]
theorem cmpB_lt {a b : List UInt8} : cmpB a b < 0 ↔ a < b := by
  unfold cmpB
  constructor
  · intro h
    split at h
    · assumption
    · split at h <;> cases h
  · intro h; rw [if_pos h]; decide
theorem rkCmp_lt {x k : Rk} : rkCmp x k < 0 ↔ rkLt x k := by
  unfold rkCmp orB rkLt
  by_cases h : x.1 = k.1
  · rw [if_neg (by simp [cmpB_eq.2 h]), cmpB_lt, h]
    simp [l_irr]
  · rw [if_pos (by rw [ne_eq, cmpB_eq]; exact h), cmpB_lt]
    simp [h]
theorem rkCmp_eq {x k : Rk} : rkCmp x k = 0 ↔ x = k := by
  unfold rkCmp orB
  obtain ⟨x1, x2⟩ := x
  obtain ⟨k1, k2⟩ := k
  simp only [Prod.mk.injEq]
  by_cases h : x1 = k1
  · rw [if_neg (by simp [cmpB_eq.2 h]), cmpB_eq]
    simp [h]
  · rw [if_pos (by rw [ne_eq, cmpB_eq]; exact h), cmpB_eq]
    simp [h]

/-! ### Ranks -/
theorem sOf_inj {a b : List UInt8} : sOf a = sOf b ↔ a = b := by
  constructor
  · intro h; have := congrArg ByteArray.toList h; rwa [toList_sOf, toList_sOf] at this
  · rintro rfl; rfl
theorem rkPart0 (a b : ByteArray) (w : World) : (part 9 #[.string a, .string b] 0).run Tryz.prog w = .ok (.string a) w := by kernel_rfl
theorem rkPart1 (a b : ByteArray) (w : World) : (part 9 #[.string a, .string b] 1).run Tryz.prog w = .ok (.string b) w := by kernel_rfl
theorem info_str : (Tryz.prog.info? 9).map (·.size) = some 1 := by kernel_rfl
theorem cells_str : Tryz.prog.cellsOf 9 = 1 := by kernel_rfl
theorem eql_str (d : Nat) (a b : ByteArray) (w : World) : (Op.equalIn (d + 1) 9 (.string a) (.string b)).run Tryz.prog w = .ok (a.toList == b.toList) w := run_equalIn_string w d 9 a b Tryz.underlying9
set_option maxRecDepth 100000 in
theorem eql_rk (a b : Rk) (W : World) : (binOp .eql 62 (rkV a) (rkV b)).run Tryz.prog W = .ok (.bool (a == b)) W := by
  obtain ⟨a1, a2⟩ := a
  obtain ⟨b1, b2⟩ := b
  have e : ((a1, a2) == (b1, b2)) = ((a1 == b1) && (a2 == b2)) := rfl
  rw [e]
  obtain ⟨i, hi, hs⟩ := Option.map_eq_some_iff.1 info_str
  have h : ∀ d, (Op.equalIn (d + 2) 62 (rkV (a1, a2)) (rkV (b1, b2))).run Tryz.prog W = .ok (a1 == b1 && a2 == b2) W := by
    intro d
    unfold rkV
    rw [run_equalIn_array (P := Tryz.prog) W (d + 1) #[.string (sOf a1), .string (sOf a2)] #[.string (sOf b1), .string (sOf b2)] Tryz.underlying62 hi]
    rw [cells_str, show List.range 2 = [0, 1] from rfl]
    by_cases h1 : a1 = b1 <;> by_cases h2 : a2 = b2 <;> simp [Op.eqItems, rkPart0, rkPart1, eql_str, toList_sOf, Result.andThen, h1, h2]
  unfold rkV at h ⊢
  simp only [binOp]
  simp [Op.equal, Op.maxDepth, h 9998]
set_option maxRecDepth 100000 in
theorem whole_c (k : Rk) (w : World) : Calls Tryz.prog 76 #[rkV k] w fun e w' => e = .returned (.bool (k.2 == [])) ∧ Below w.heap.size w w' := by
  obtain ⟨n, d⟩ := k
  have hcm : ∀ W, (binOp .eql 62 (.agg #[.string (sOf n), .string (sOf d)]) (.agg #[.string (sOf n), .string ⟨#[]⟩])).run Tryz.prog W = .ok (.bool (d == [])) W := fun W => by
    have := eql_rk (n, d) (n, []) W
    rw [show ((n, d) == (n, [])) = (d == []) by rw [Bool.eq_iff_iff]; simp] at this
    exact this
  unfold rkV
  go_enter Tryz.func76, Tryz.ntmps76
  go_wp2_with fail
  go_ret
  exact ⟨ret_bool (by cases d <;> rfl), by go_grown⟩
set_option maxRecDepth 100000 in
theorem bcovers_c (k x : Rk) (w : World) : Calls Tryz.prog 44 #[rkV k, rkV x] w fun e w' => e = .returned (.bool (covers k x)) ∧ Below w.heap.size w w' := by
  have hw := fun W => whole_c k W
  have hcm : ∀ W, (binOp .eql 62 (.agg #[.string (sOf k.1), .string (sOf k.2)]) (.agg #[.string (sOf x.1), .string (sOf x.2)])).run Tryz.prog W = .ok (.bool (k == x)) W := fun W => eql_rk k x W
  have h1 := toList_sOf k.1; have h2 := toList_sOf x.1
  obtain ⟨r, hr⟩ : ∃ r, covers k x = r := ⟨_, rfl⟩
  rw [hr]
  unfold covers at hr
  have HR := hd hr; have HW := hd hw
  clear hr hw
  cases hkx : (k == x)
  rotate_left
  · have e := HR.out
    rw [hkx, Bool.true_or] at e
    subst e
    simp only [hkx] at hcm
    unfold rkV
    go_enter Tryz.func44, Tryz.ntmps44
    go_wp2_with fail
    go_ret
    exact ⟨rfl, by go_grown⟩
  simp only [hkx] at hcm
  cases hk2 : (k.2 == [])
  · have e := HR.out
    rw [hkx, hk2] at e
    subst e
    have HW2 := HW.out
    rw [hk2] at HW2
    unfold rkV at HW2 ⊢
    go_enter Tryz.func44, Tryz.ntmps44
    go_wp2_with (first | (go_at_call 76; refine (HW2 _).mono ?_; rintro e w1 ⟨rfl, hb⟩))
    go_ret
    exact ⟨rfl, Below.up (by go_grown) hb⟩
  · have e := HR.out
    rw [hkx, hk2, Bool.false_or, Bool.true_and] at e
    have HW2 := HW.out
    rw [hk2] at HW2
    have HE := hd e
    clear e
    have a0 : (k == x) = false := hkx
    unfold rkV at HW2 ⊢
    go_enter Tryz.func44, Tryz.ntmps44
    go_wp2_with (first | (go_at_call 76; refine (HW2 _).mono ?_; rintro e w1 ⟨rfl, hb⟩; have c1 := (bcell hb w.heap.size 0 (by simp [go_sem])); have c2 := (bcell hb (w.heap.size + 1) 0 (by simp [go_sem])); simp [go_sem] at c1 c2))
    go_ret
    exact ⟨ret_bool HE.out, Below.up (by go_grown) hb⟩
/-- A closure that holds a rank. -/
def RkIn (w : World) (c : Nat) (k : Rk) : Prop := c < w.heap.size ∧ w.cell? ⟨c, 0, none⟩ = some (.string (sOf k.1)) ∧ w.cell? ⟨c, 1, none⟩ = some (.string (sOf k.2))
theorem RkIn.below {B : Nat} {w w' : World} {c : Nat} {k : Rk} (h : RkIn w c k) (hb : Below B w w') (hB : c < B) : RkIn w' c k := ⟨Nat.lt_of_lt_of_le h.1 hb.size, (bcell hb _ _ hB).trans h.2.1, (bcell hb _ _ hB).trans h.2.2⟩
theorem RkIn.keeps {S : List Nat} {w w' : World} {c : Nat} {k : Rk} (h : RkIn w c k) (hk : Keeps S w w') (hn : c ∉ S) : RkIn w' c k := ⟨Nat.lt_of_lt_of_le h.1 hk.size, (hk.cell h.1 hn).trans h.2.1, (hk.cell h.1 hn).trans h.2.2⟩
set_option maxRecDepth 100000 in
theorem lose1_c (k : Rk) (x : Bir) (c : Nat) (w : World) (hc : RkIn w c k) : Calls Tryz.prog 43 #[.agg #[.string (sOf x.1.1), .string (sOf x.1.2), .string x.2], .pointer (some ⟨c, 0, none⟩)] w fun e w' => e = .returned (.bool (covers k x.1)) ∧ Below w.heap.size w w' := by
  obtain ⟨hlt, c0, c1⟩ := hc
  have hcv := fun W => bcovers_c k x.1 W
  unfold rkV at hcv
  generalize covers k x.1 = r at *
  have HC := hd hcv
  clear hcv
  go_enter Tryz.func43, Tryz.ntmps43
  go_wp2_with (first | (go_at_call 44; refine (HC.out _).mono ?_; rintro e w1 ⟨rfl, hb⟩))
  go_ret
  exact ⟨rfl, Below.up (by go_grown) hb⟩
end Go.Proofs.YtclicjokgfiegaaGreatDoor
