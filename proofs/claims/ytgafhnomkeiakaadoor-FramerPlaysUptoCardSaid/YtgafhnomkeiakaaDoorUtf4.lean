/- Texts: raw bytes and texts, laid and got: the walks. -/
import Derived.Test.YtgafhnomkeiakaaDoorUtf3
namespace Go.Proofs.YtgafhnomkeiakaaDoor
open Go.RowKit
set_option linter.unusedVariables false

theorem strCells_B (s : ByteArray) : Lib.strCells s = (sB s).map byteV := rfl

/-- append(out, s...) of a string's bytes -/
theorem wp_appS {w : World} {ops : Array Oper} {rest : List Oper} {o : Oper} {a : Act} {Q : Exit → Act → World → Prop} (hgd : o.guard = none) (s x : Operand)
    (ho : o.op = .call { callee := .builtin .append, args := #[s, x], argTypes := #[23, 9] })
    (B : Nat) (v : Value) (l : List UInt8) (hv : a.eval s = v) (hown : Owned B w v l) (str : ByteArray) (hx : a.eval x = .string str)
    (hlen : l.length + str.size ≤ 140737488355328) (hbase : B ≤ w.heap.size)
    (h : ∀ v' w', Owned B w' v' (l ++ sB str) → Below B w w' → wpList Tryd.prog ops Q rest (a.put o.dst v') w') : wpList Tryd.prog ops Q (o :: rest) a w := by
  obtain ⟨i0, hi, hz0, hz1, hz2⟩ := info_parts info_u8
  refine wpList_plain hgd fun K hK => ?_
  obtain ⟨v', w', hr, h2, h3, h4⟩ := Lib.run_append_own_string (P := Tryd.prog) w B 23 9 o.type 5 i0 Tryd.underlying23 Tryd.underlying9 hi hz0 hz1 hz2 v l.length (l.map byteV) hown str (by unfold maxLen; omega) hlen hbase
  unfold Oper.wp execOp
  simp only [ho, resolve, invoke, builtin, Sem.run_bind, Sem.run_pure, Result.andThen_ok, List.map_toArray, List.map_cons, List.map_nil, hv, hx, hr]
  refine hK _ _ (h v' w' ?_ ((Below.refl B w).grown h3 hbase (fun k hk => (hown.lt k hk).1)))
  unfold Owned
  rw [List.length_append, List.map_append, sB_len, ← strCells_B]
  exact h2

theorem GivesB.mono {w w0 w' : World} {l : List UInt8} {err : Int} {e : Ending} (h : GivesB w0 l err e w') (hb : Below w.heap.size w w0) : GivesB w l err e w' := by
  obtain ⟨v, he, ho, hb'⟩ := h
  exact ⟨v, he, ho.le hb.size, hb.trans (hb'.mono hb.size)⟩

set_option maxRecDepth 100000 in
set_option maxHeartbeats 1000000 in
theorem PutRaw_c (s : ByteArray) (w : World) (hs : s.size ≤ 140737488355327) : Calls Tryd.prog 68 #[.string s] w (GivesB w (uPutRawB (sB s)) (uPutRawE (sB s))) := by
  unfold uPutRawB uPutRawE
  rw [sB_len]
  by_cases hl : 65535 < s.size
  · rw [if_pos hl, if_pos hl]
    go_enter Tryd.func68, Tryd.ntmps68
    go_wp2_with fail
    go_ret2
    exact GivesB.nil (by go_grown)
  · rw [if_neg hl, if_neg hl]
    go_enter Tryd.func68, Tryd.ntmps68
    go_wp2_with fail
    refine (Put2_c _ _).mono ?_
    have hE : uPut2E (s.size : Int) = 0 := by unfold uPut2E; rw [if_neg (by omega)]
    have hn : (uPut2B (s.size : Int)).length ≤ 2 := by unfold uPut2B; split <;> simp
    rw [hE]
    rintro e w1 ⟨v, rfl, ho, hb⟩
    obtain ⟨a, c, rfl⟩ := Owns.slice ho
    go_wp2_with (at_builtin; refine wp_appS rfl _ _ rfl w.heap.size _ _ rfl ho s rfl (by omega) hb.size ?_; intro v' w' ho' hb')
    go_ret2
    exact ⟨_, rfl, ho', hb.trans (hb'.mono (Nat.le_refl _))⟩

set_option maxRecDepth 100000 in
set_option maxHeartbeats 1000000 in
theorem refPutRaw_c (s : ByteArray) (w : World) (hs : s.size ≤ 140737488355327) : Calls Tryd.prog 57 #[.string s] w (GivesB w (uPutRawB (sB s)) (uPutRawE (sB s))) := by
  unfold uPutRawB uPutRawE
  rw [sB_len]
  by_cases hl : 65535 < s.size
  · rw [if_pos hl, if_pos hl]
    go_enter Tryd.func57, Tryd.ntmps57
    go_wp2_with fail
    refine (refPut2_c _ _).mono ?_
    have hE : uPut2E (s.size : Int) = 1 := by unfold uPut2E; rw [if_pos (by omega)]
    rw [hE]
    rintro e w1 ⟨v, rfl, ho, hb⟩
    go_wp2_with fail
    go_ret2
    exact GivesB.nil (by go_grown)
  · rw [if_neg hl, if_neg hl]
    go_enter Tryd.func57, Tryd.ntmps57
    go_wp2_with fail
    refine (refPut2_c _ _).mono ?_
    have hE : uPut2E (s.size : Int) = 0 := by unfold uPut2E; rw [if_neg (by omega)]
    have hn : (uPut2B (s.size : Int)).length ≤ 2 := by unfold uPut2B; split <;> simp
    rw [hE]
    rintro e w1 ⟨v, rfl, ho, hb⟩
    obtain ⟨a, c, rfl⟩ := Owns.slice ho
    go_wp2_with (at_builtin; refine wp_appS rfl _ _ rfl w.heap.size _ _ rfl ho s rfl (by omega) hb.size ?_; intro v' w' ho' hb')
    go_ret2
    exact ⟨_, rfl, ho', hb.trans (hb'.mono (Nat.le_refl _))⟩

def GivesS (w : World) (r : List UInt8 × Int × Int) (e : Ending) (w' : World) : Prop :=
  e = .returned (.tuple #[.string (sOf r.1), .int .i64 r.2.1, .int .i64 r.2.2]) ∧ Below w.heap.size w w'

set_option maxRecDepth 100000 in
set_option maxHeartbeats 1000000 in
theorem GetRaw_c (v : Value) (l : List UInt8) (at' : Int) (w : World) (hv : Bs w v l) : Calls Tryd.prog 80 #[v, .int .i64 at'] w (GivesS w (uGetRaw l at')) := by
  obtain ⟨r, hr⟩ : ∃ r, uGetRaw l at' = r := ⟨_, rfl⟩
  rw [hr]
  unfold uGetRaw at hr
  have hlen := hv.len
  obtain ⟨a, c, rfl⟩ := hv.slice
  go_enter Tryd.func80, Tryd.ntmps80
  go_wp2_with fail
  refine (Get2_c _ l at' _ hv).mono ?_
  rintro e w1 ⟨rfl, hb⟩
  have hok := @uGet2_ok l at'
  generalize uGet2 l at' = q at hr hok ⊢
  obtain ⟨qn, qk, qe⟩ := q
  simp only at hr hok ⊢
  by_cases he : qe = 0
  · obtain ⟨h1, h2, rfl, h4, h5⟩ := hok he
    subst he
    rw [if_neg (by decide)] at hr
    obtain ⟨k, rfl⟩ := Int.eq_ofNat_of_zero_le h1
    obtain ⟨n, rfl⟩ := Int.eq_ofNat_of_zero_le h4
    unfold maxLen at hlen
    by_cases hs : (l.length : Int) - (k + 2) < n
    · rw [if_pos hs] at hr
      subst hr
      go_wp2_with fail
      go_ret3
      exact ⟨rfl, hb⟩
    · rw [if_neg hs] at hr
      obtain ⟨a', c', hsl, hbs⟩ := run_part (hv.below' hb (Nat.le_refl _)) ((k : Int) + 2) ((k : Int) + 2 + n) (k + 2) (k + 2 + n) (by omega) (by omega) (by omega) (by omega)
      have hstr := run_str hbs
      have e1 : ((k : Int) + 2).toNat = k + 2 := by omega
      have e2 : k + 2 + n - (k + 2) = n := by omega
      rw [e2] at hsl hstr
      rw [e1, Int.toNat_natCast] at hr
      have Hr := hd hr
      clear hok hbs hv hr
      go_wp2_with fail
      go_ret3
      rw [← Hr.out]
      exact ⟨rfl, hb⟩
  · rw [if_pos he] at hr
    subst hr
    have heb : (qe != 0) = true := by simpa using he
    clear hok
    go_wp2_with fail
    go_ret3
    exact ⟨rfl, hb⟩

set_option maxRecDepth 100000 in
set_option maxHeartbeats 1000000 in
theorem refGetRaw_c (v : Value) (l : List UInt8) (at' : Int) (w : World) (hv : Bs w v l) : Calls Tryd.prog 62 #[v, .int .i64 at'] w (GivesS w (uGetRaw l at')) := by
  obtain ⟨r, hr⟩ : ∃ r, uGetRaw l at' = r := ⟨_, rfl⟩
  rw [hr]
  unfold uGetRaw at hr
  have hlen := hv.len
  obtain ⟨a, c, rfl⟩ := hv.slice
  go_enter Tryd.func62, Tryd.ntmps62
  go_wp2_with fail
  refine (refGet2_c _ l at' _ hv).mono ?_
  rintro e w1 ⟨rfl, hb⟩
  have hok := @uGet2_ok l at'
  generalize uGet2 l at' = q at hr hok ⊢
  obtain ⟨qn, qk, qe⟩ := q
  simp only at hr hok ⊢
  by_cases he : qe = 0
  · obtain ⟨h1, h2, rfl, h4, h5⟩ := hok he
    subst he
    rw [if_neg (by decide)] at hr
    obtain ⟨k, rfl⟩ := Int.eq_ofNat_of_zero_le h1
    obtain ⟨n, rfl⟩ := Int.eq_ofNat_of_zero_le h4
    unfold maxLen at hlen
    by_cases hs : (l.length : Int) - (k + 2) < n
    · rw [if_pos hs] at hr
      subst hr
      go_wp2_with fail
      go_ret3
      exact ⟨rfl, hb⟩
    · rw [if_neg hs] at hr
      obtain ⟨a', c', hsl, hbs⟩ := run_part (hv.below' hb (Nat.le_refl _)) ((k : Int) + 2) ((k : Int) + 2 + n) (k + 2) (k + 2 + n) (by omega) (by omega) (by omega) (by omega)
      have hstr := run_str hbs
      have e1 : ((k : Int) + 2).toNat = k + 2 := by omega
      have e2 : k + 2 + n - (k + 2) = n := by omega
      rw [e2] at hsl hstr
      rw [e1, Int.toNat_natCast] at hr
      have Hr := hd hr
      clear hok hbs hv hr
      go_wp2_with fail
      go_ret3
      rw [← Hr.out]
      exact ⟨rfl, hb⟩
  · rw [if_pos he] at hr
    subst hr
    have heb : (qe != 0) = true := by simpa using he
    clear hok
    go_wp2_with fail
    go_ret3
    exact ⟨rfl, hb⟩

end Go.Proofs.YtgafhnomkeiakaaDoor
