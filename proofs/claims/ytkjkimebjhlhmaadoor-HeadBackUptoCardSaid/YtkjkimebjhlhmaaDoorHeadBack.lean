/- Heads: there and back. -/
import Derived.Test.YtkjkimebjhlhmaaDoorHeadGet
namespace Go.Proofs.YtkjkimebjhlhmaaDoor
open Go.RowKit
set_option linter.unusedVariables false

theorem bN_B8 {n : Nat} (h : n < 256) (l : List UInt8) : bN (B8 n :: l) 0 = n := by unfold bN; simp [B8_toNat h]
theorem bN_cons (b : UInt8) (l : List UInt8) (j : Nat) : bN (b :: l) (j + 1) = bN l j := by unfold bN; simp
theorem bN_app (A l : List UInt8) (j : Nat) : bN (A ++ l) (A.length + j) = bN l j := by unfold bN; simp [List.getD, List.getElem?_append_right]

theorem hPutE_ok {k f n : Int} (h : hPutE k f n = 0) : hRight k f = 0 ∧ 0 ≤ n ∧ n ≤ 4096 := by
  unfold hPutE at h
  by_cases h1 : hRight k f = 0
  · rw [if_pos h1] at h
    by_cases h2 : n < 0 ∨ 4096 < n
    · rw [if_pos h2] at h; omega
    · exact ⟨h1, by omega⟩
  · rw [if_neg h1] at h; exact absurd h h1
theorem hPutB_ok {k f n : Int} (h : hPutE k f n = 0) : hPutB k f n = hBytes k.toNat f.toNat n.toNat := by unfold hPutB; rw [if_pos h]
theorem hPutB_bad {k f n : Int} (h : ¬ hPutE k f n = 0) : hPutB k f n = [] := by unfold hPutB; rw [if_neg h]
theorem hBytes_len (k f n : Nat) : (hBytes k f n).length = if n < 128 then 2 else 3 := by unfold hBytes; split <;> simp

theorem hLen_bytes (n : Nat) (hn : n ≤ 4096) (C : List UInt8) : hLen ((if n < 128 then [B8 n] else [B8 (n % 128 + 128), B8 (n / 128)]) ++ C) = ((n : Int), (if n < 128 then 1 else 2), 0) := by
  by_cases h : n < 128
  · rw [if_pos h, if_pos h]
    unfold hLen
    have e : bN ([B8 n] ++ C) 0 = n := bN_B8 (by omega) C
    rw [if_neg (by simp), e, if_pos (by omega)]
    congr 1
    omega
  · rw [if_neg h, if_neg h]
    unfold hLen
    have e : bN ([B8 (n % 128 + 128), B8 (n / 128)] ++ C) 0 = n % 128 + 128 := bN_B8 (by omega) _
    have e1 : bN ([B8 (n % 128 + 128), B8 (n / 128)] ++ C) 1 = n / 128 := by
      show bN (B8 (n % 128 + 128) :: (B8 (n / 128) :: C)) (0 + 1) = _
      rw [bN_cons, bN_B8 (by omega)]
    rw [if_neg (by simp), e, if_neg (by omega), if_neg (by simp), e1, if_pos (by omega)]
    congr 1
    omega

/-- What was put is got, whatever stands ahead and behind. -/
theorem hGet_back {k f n : Int} (h : hPutE k f n = 0) (A C : List UInt8) : hGet (A ++ hPutB k f n ++ C) A.length = ((k, f, n), (A.length : Int) + (hPutB k f n).length, 0) := by
  obtain ⟨hr, hn1, hn2⟩ := hPutE_ok h
  obtain ⟨hk1, hk2, hf1, hf2⟩ := hRight_ok hr
  rw [hPutB_ok h]
  obtain ⟨k, rfl⟩ := Int.eq_ofNat_of_zero_le (show 0 ≤ k by omega)
  obtain ⟨f, rfl⟩ := Int.eq_ofNat_of_zero_le hf1
  obtain ⟨n, rfl⟩ := Int.eq_ofNat_of_zero_le hn1
  simp only [Int.toNat_natCast]
  have e0 : bN (A ++ hBytes k f n ++ C) A.length = 16 * k + f := by
    rw [List.append_assoc]
    have := bN_app A (hBytes k f n ++ C) 0
    rw [Nat.add_zero] at this
    rw [this]
    exact bN_B8 (by omega) _
  have e1 : (A ++ hBytes k f n ++ C).drop (A.length + 1) = (if n < 128 then [B8 n] else [B8 (n % 128 + 128), B8 (n / 128)]) ++ C := by
    unfold hBytes
    rw [List.append_assoc, List.drop_append]
    simp
  have hl : 2 ≤ (hBytes k f n).length := by rw [hBytes_len]; split <;> omega
  unfold hGet
  rw [if_neg (by simp; omega), if_neg (by simp; omega), Int.toNat_natCast, e0, e1, hLen_bytes n (by omega) C]
  have e2 : (((16 * k + f : Nat) : Int)) / 16 = k := by omega
  have e3 : (((16 * k + f : Nat) : Int)) % 16 = f := by omega
  rw [e2, e3, hr, if_neg (by decide)]
  simp only
  rw [if_neg (by decide), if_neg (by omega), hBytes_len]
  split <;> rfl

/-- Cut anywhere it is too short. -/
theorem hGet_cut {k f n : Int} (h : hPutE k f n = 0) (j : Nat) (hj : j < (hPutB k f n).length) : (hGet ((hPutB k f n).take j) 0).2.2 = 2 := by
  obtain ⟨hr, hn1, hn2⟩ := hPutE_ok h
  obtain ⟨hk1, hk2, hf1, hf2⟩ := hRight_ok hr
  rw [hPutB_ok h] at hj ⊢
  obtain ⟨k, rfl⟩ := Int.eq_ofNat_of_zero_le (show 0 ≤ k by omega)
  obtain ⟨f, rfl⟩ := Int.eq_ofNat_of_zero_le hf1
  obtain ⟨n, rfl⟩ := Int.eq_ofNat_of_zero_le hn1
  simp only [Int.toNat_natCast] at hj ⊢
  rw [hBytes_len] at hj
  have e2 : (((16 * k + f : Nat) : Int)) / 16 = k := by omega
  have e3 : (((16 * k + f : Nat) : Int)) % 16 = f := by omega
  match j, hj with
  | 0, _ => simp [hGet]
  | 1, _ =>
    have e : (hBytes k f n).take 1 = [B8 (16 * k + f)] := by unfold hBytes; simp
    have e0 : bN [B8 (16 * k + f)] 0 = 16 * k + f := bN_B8 (by omega) _
    rw [e]
    unfold hGet
    rw [if_neg (by simp), if_neg (by simp)]
    simp only [Int.toNat_zero, Nat.zero_add, e0, e2, e3, hr]
    rw [if_neg (by decide)]
    have e4 : hLen ([B8 (16 * k + f)].drop 1) = (0, 0, 2) := by simp [hLen]
    rw [e4]
    rfl
  | 2, hj =>
    have h128 : ¬ n < 128 := by intro hc; rw [if_pos hc] at hj; omega
    have e : (hBytes k f n).take 2 = [B8 (16 * k + f), B8 (n % 128 + 128)] := by unfold hBytes; rw [if_neg h128]; simp
    have e0 : bN [B8 (16 * k + f), B8 (n % 128 + 128)] 0 = 16 * k + f := bN_B8 (by omega) _
    rw [e]
    unfold hGet
    rw [if_neg (by simp), if_neg (by simp)]
    simp only [Int.toNat_zero, Nat.zero_add, e0, e2, e3, hr]
    rw [if_neg (by decide)]
    have e5 : bN [B8 (n % 128 + 128)] 0 = n % 128 + 128 := bN_B8 (by omega) _
    have e4 : hLen ([B8 (16 * k + f), B8 (n % 128 + 128)].drop 1) = (0, 0, 2) := by
      show hLen [B8 (n % 128 + 128)] = _
      unfold hLen
      rw [if_neg (by simp), e5, if_neg (by omega), if_pos (by simp)]
    rw [e4]
    rfl
  | j + 3, hj => exfalso; split at hj <;> omega

set_option maxRecDepth 100000 in
set_option maxHeartbeats 1600000 in
theorem HeadBack_w (k f n : Int) (va vc : Value) (A C : List UInt8) (cut : Nat) (w : World) (hE : EnvH w) (hA : Bs w va A) (hC : Bs w vc C) (hAl : A.length ≤ 1048576) (hCl : C.length ≤ 1048576) (hcut : cut < 256) :
    Calls Tryd.prog 6 #[.agg #[.int .i64 k, .int .i64 f, .int .i64 n], va, vc, .int .u8 cut] w fun e w' => e = .returned (.bool true) ∧ Below w.heap.size w w' := by
  have HE := hd hE; clear hE
  obtain ⟨er, her⟩ : ∃ r, hPutE k f n = r := ⟨_, rfl⟩
  obtain ⟨L, hL⟩ : ∃ r, hPutB k f n = r := ⟨_, rfl⟩
  by_cases h0 : er = 0
  · subst h0
    have hlen : 2 ≤ L.length ∧ L.length ≤ 3 := by rw [← hL, hPutB_ok her, hBytes_len]; split <;> omega
    have hgot : hGet (A ++ L ++ C) A.length = ((k, f, n), (A.length : Int) + L.length, 0) := by rw [← hL]; exact hGet_back her A C
    have hshort : (hGet (L.take (cut % L.length)) 0).2.2 = 2 := by rw [← hL]; exact hGet_cut her _ (Nat.mod_lt _ (by rw [hL]; omega))
    obtain ⟨s1, s2, s3, s4, s5, hsh⟩ : ∃ s1 s2 s3 s4 s5, hGet (L.take (cut % L.length)) 0 = ((s1, s2, s3), s4, s5) := ⟨_, _, _, _, _, rfl⟩
    rw [hsh] at hshort
    simp only at hshort
    subst hshort
    have Her := hd her; have HL := hd hL; have Hgot := hd hgot; have Hsh := hd hsh
    clear her hL hgot hsh
    obtain ⟨hl2, hl3⟩ := hlen
    go_enter Tryd.func6, Tryd.ntmps6
    go_wp2_with fail
    have hb0 : Below w.heap.size w (w.alloc (Obj.cells #[Value.int IntKind.i64 k, Value.int IntKind.i64 f, Value.int IntKind.i64 n] 23)) := (Below.refl _ _).alloc (Nat.le_refl _) _
    have c0 : (w.alloc (Obj.cells #[Value.int IntKind.i64 k, Value.int IntKind.i64 f, Value.int IntKind.i64 n] 23)).cell? ⟨w.heap.size, 0, none⟩ = some (.int .i64 k) := World.cell?_alloc_new w _ _ 0
    have c1 : (w.alloc (Obj.cells #[Value.int IntKind.i64 k, Value.int IntKind.i64 f, Value.int IntKind.i64 n] 23)).cell? ⟨w.heap.size, 1, none⟩ = some (.int .i64 f) := World.cell?_alloc_new w _ _ 1
    have c2 : (w.alloc (Obj.cells #[Value.int IntKind.i64 k, Value.int IntKind.i64 f, Value.int IntKind.i64 n] 23)).cell? ⟨w.heap.size, 2, none⟩ = some (.int .i64 n) := World.cell?_alloc_new w _ _ 2
    have hlt : w.heap.size < (w.alloc (Obj.cells #[Value.int IntKind.i64 k, Value.int IntKind.i64 f, Value.int IntKind.i64 n] 23)).heap.size := by simp
    generalize hw0 : (w.alloc (Obj.cells #[Value.int IntKind.i64 k, Value.int IntKind.i64 f, Value.int IntKind.i64 n] 23)) = w0 at hb0 c0 c1 c2 hlt ⊢
    clear hw0
    refine (Put_c _ _ _ _ (HE.out.below hb0 (Nat.le_refl _))).mono ?_
    rintro e w1 ⟨v, rfl, hown, hb1⟩
    rw [Her.out]
    rw [HL.out] at hown
    obtain ⟨a, c, rfl⟩ := Owns.slice hown
    have hb01 : Below w.heap.size w w1 := hb0.trans (hb1.mono hb0.size)
    have d0 := (hb1.cell (p := ⟨w.heap.size, 0, none⟩) hlt).trans c0
    have d1 := (hb1.cell (p := ⟨w.heap.size, 1, none⟩) hlt).trans c1
    have d2 := (hb1.cell (p := ⟨w.heap.size, 2, none⟩) hlt).trans c2
    have hlt1 := Nat.lt_of_lt_of_le hlt hb1.size
    have hbL := hown.bs
    have hA1 := hA.below' hb01 (Nat.le_refl _)
    have hC1 := hC.below' hb01 (Nat.le_refl _)
    clear hown c0 c1 c2 hb1 hb0 hA hC hlt
    obtain ⟨aa, ca, rfl⟩ := hA1.slice
    obtain ⟨a3, c3, hsl, hcutb⟩ := run_to hbL ((cut : Int) % (L.length : Int)) (cut % L.length) (by omega) (Nat.le_of_lt (Nat.mod_lt _ (by omega)))
    have tok1 : True := trivial
    have tok2 : True := trivial
    have tok3 : True := trivial
    have hbz : Below w1.heap.size w1 (w1.alloc (Obj.cells #[] 5)) := (Below.refl _ _).alloc (Nat.le_refl _) _
    have ho0 : Owned w1.heap.size (w1.alloc (Obj.cells #[] 5)) (.slice (some ⟨w1.heap.size, 0, none⟩) 0 0) [] := owned_lit w1.heap.size w1 [] w1.heap.size rfl (Nat.le_refl _) (by unfold maxLen; simp) [] rfl 0 rfl
    go_wp2_with (first
      | (at_builtin; have _t := tok1; refine wp_appB rfl _ _ rfl w1.heap.size _ [] rfl ho0 _ A rfl (hA1.below' hbz (Nat.le_refl _)) (by simp; omega) hbz.size ?_; intro v1 w2 ho1 hb1; clear tok1)
      | (at_builtin; have _t := tok2; refine wp_appB rfl _ _ rfl w1.heap.size _ ([] ++ A) rfl ho1 _ L rfl (hbL.below' (hbz.trans hb1) (Nat.le_refl _)) (by simp; omega) (hbz.trans hb1).size ?_; intro v2 w3 ho2 hb2; clear tok2)
      | (at_builtin; have _t := tok3; refine wp_appB rfl _ _ rfl w1.heap.size _ ([] ++ A ++ L) rfl ho2 vc C rfl (hC1.below' ((hbz.trans hb1).trans hb2) (Nat.le_refl _)) (by simp; omega) ((hbz.trans hb1).trans hb2).size ?_; intro v3 w4 ho3 hb3; clear tok3))
    rw [List.nil_append] at ho3
    have hb14 : Below w1.heap.size w1 w4 := ((hbz.trans hb1).trans hb2).trans hb3
    have hb04 : Below w.heap.size w w4 := hb01.trans (hb14.mono hb01.size)
    have e0 := (hb14.cell (p := ⟨w.heap.size, 0, none⟩) hlt1).trans d0
    have e1 := (hb14.cell (p := ⟨w.heap.size, 1, none⟩) hlt1).trans d1
    have e2 := (hb14.cell (p := ⟨w.heap.size, 2, none⟩) hlt1).trans d2
    have hcut4 := hcutb.below' hb14 (Nat.le_refl _)
    have hlt4 := Nat.lt_of_lt_of_le hlt1 hb14.size
    clear hb1 hb2 hb3 ho1 ho2 hbz ho0 d0 d1 d2 hb14 hcutb hA1 hC1 hbL
    refine (Get_c _ _ _ _ (HE.out.below hb04 (Nat.le_refl _)) ho3.bs).mono ?_
    rintro e w5 ⟨rfl, hb5⟩
    rw [Hgot.out]
    simp only
    have f0 := (hb5.cell (p := ⟨w.heap.size, 0, none⟩) hlt4).trans e0
    have f1 := (hb5.cell (p := ⟨w.heap.size, 1, none⟩) hlt4).trans e1
    have f2 := (hb5.cell (p := ⟨w.heap.size, 2, none⟩) hlt4).trans e2
    have hcut5 := hcut4.below' hb5 (Nat.le_refl _)
    have hlt5 := Nat.lt_of_lt_of_le hlt4 hb5.size
    have hb05 : Below w.heap.size w w5 := hb04.trans (hb5.mono hb04.size)
    clear e0 e1 e2 hcut4 hb5 ho3 hb04 hb01 hlt4
    go_wp2_with fail
    have hb06 : Below w.heap.size w (w5.alloc (Obj.cells #[Value.int IntKind.i64 k, Value.int IntKind.i64 f, Value.int IntKind.i64 n] 23)) := hb05.alloc hb05.size _
    refine (Get_c _ _ _ _ (HE.out.below hb06 (Nat.le_refl _)) (hcut5.below' ((Below.refl w5.heap.size w5).alloc (Nat.le_refl _) _) (Nat.le_refl _))).mono ?_
    rintro e w6 ⟨rfl, hb6⟩
    rw [Hsh.out]
    simp only
    have g0 := (hb6.cell (p := ⟨w.heap.size, 0, none⟩) (by simp; omega)).trans ((World.cell?_alloc_lt w5 _ ⟨w.heap.size, 0, none⟩ hlt5).trans f0)
    have g1 := (hb6.cell (p := ⟨w.heap.size, 1, none⟩) (by simp; omega)).trans ((World.cell?_alloc_lt w5 _ ⟨w.heap.size, 1, none⟩ hlt5).trans f1)
    have g2 := (hb6.cell (p := ⟨w.heap.size, 2, none⟩) (by simp; omega)).trans ((World.cell?_alloc_lt w5 _ ⟨w.heap.size, 2, none⟩ hlt5).trans f2)
    have x0 := (hb6.cell (p := ⟨w5.heap.size, 0, none⟩) (by simp)).trans (World.cell?_alloc_new w5 _ _ 0)
    have x1 := (hb6.cell (p := ⟨w5.heap.size, 1, none⟩) (by simp)).trans (World.cell?_alloc_new w5 _ _ 1)
    have x2 := (hb6.cell (p := ⟨w5.heap.size, 2, none⟩) (by simp)).trans (World.cell?_alloc_new w5 _ _ 2)
    have hb07 : Below w.heap.size w w6 := hb06.trans (hb6.mono hb06.size)
    have hlt6 : w.heap.size < w6.heap.size := by have := hb6.size; simp at this; omega
    have hlt7 : w5.heap.size < w6.heap.size := by have := hb6.size; simp at this; omega
    clear f0 f1 f2 hb6 hb06 hcut5 hb05 hsl
    go_wp2_with fail
    have hb8 : Below w.heap.size w (w6.alloc (Obj.cells #[Value.int IntKind.i64 s1, Value.int IntKind.i64 s2, Value.int IntKind.i64 s3] 23)) := hb07.alloc hb07.size _
    refine (awakeHead_c _ (HE.out.below hb8 (Nat.le_refl _))).mono ?_
    rintro e w7 ⟨rfl, hb9⟩
    go_wp2
    go_ret
    exact ⟨rfl, hb8.trans (hb9.mono hb8.size)⟩
  · have hLn : L = [] := by rw [← hL]; exact hPutB_bad (by rw [her]; exact h0)
    have h0b : (er != 0) = true := by simpa using h0
    have Her := hd her; have HL := hd (hL.trans hLn)
    clear her hL h0 hLn
    go_enter Tryd.func6, Tryd.ntmps6
    go_wp2_with fail
    have hb0 : Below w.heap.size w (w.alloc (Obj.cells #[Value.int IntKind.i64 k, Value.int IntKind.i64 f, Value.int IntKind.i64 n] 23)) := (Below.refl _ _).alloc (Nat.le_refl _) _
    refine (Put_c _ _ _ _ (HE.out.below hb0 (Nat.le_refl _))).mono ?_
    rintro e w1 ⟨v, rfl, hown, hb1⟩
    rw [Her.out]
    rw [HL.out] at hown
    obtain ⟨a, c, rfl⟩ := Owns.slice hown
    have hb01 : Below w.heap.size w w1 := hb0.trans (hb1.mono hb0.size)
    clear hown hb1 hb0
    go_wp2_with fail
    refine (awakeHead_c _ (HE.out.below hb01 (Nat.le_refl _))).mono ?_
    rintro e w2 ⟨rfl, hb2⟩
    go_wp2
    go_ret
    exact ⟨rfl, hb01.trans (hb2.mono hb01.size)⟩
end Go.Proofs.YtkjkimebjhlhmaaDoor
