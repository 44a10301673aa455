/- Who comes: the law there and back: the walk. -/
import Derived.Test.YtinfcjnmloglhaaDoorConBackPlain
import Derived.Test.YtinfcjnmloglhaaDoorConLaws
import Derived.Test.YtinfcjnmloglhaaDoorUtfJoins
namespace Go.Proofs.YtinfcjnmloglhaaDoor
open Go.RowKit
set_option linter.unusedVariables false
set_option linter.unusedSimpArgs false

theorem byte_lit (x : Int) (hx : 0 ≤ x ∧ x ≤ 255) (W : World) : (convert 22 9 (.slice (some ⟨W.heap.size, 0, none⟩) 1 1)).run Tryd.prog (W.alloc (.cells #[.int .u8 x] 5)) = .ok (.string (sOf [B8 x.toNat])) (W.alloc (.cells #[.int .u8 x] 5)) := by
  refine run_str (l := [B8 x.toNat]) ?_
  exact (owned_lit 0 W [B8 x.toNat] W.heap.size rfl (Nat.zero_le _) (by unfold maxLen; simp) [.int .u8 x] (by simp only [List.map]; rw [byteV_B8 (by omega) (x := x) (by omega)]) 1 rfl).bs
theorem run_add (a b : List UInt8) (h : a.length + b.length ≤ 9223372036854775000) (W : World) : (Op.stringOp .add (sOf a) (sOf b)).run Tryd.prog W = .ok (.string (sOf (a ++ b))) W := by
  rw [run_string_add_sum W (sOf a) (sOf b) (by rw [sOf_size, sOf_size]; omega)]
  have : sOf a ++ sOf b = sOf (a ++ b) := by rw [← sOf_sB (sOf a ++ sOf b), sB_append, sB_sOf, sB_sOf]
  rw [this]

set_option maxRecDepth 100000 in
set_option maxHeartbeats 8000000 in
theorem ConnectBack_w (c : Con) (x : Int) (w : World) (hE : EnvU w) (hs : c.sized 140737488351232) (hx : 0 ≤ x ∧ x ≤ 255) :
    Calls Tryd.prog 14 #[.agg c.cells.toArray, .int .u8 x] w fun e w' => e = .returned (.bool true) ∧ Below w.heap.size w w' := by
  have HE := hd hE; clear hE
  by_cases he : cPutE c = 0
  rotate_left
  · have hL : cPutB c = [] := by rw [cPutB, if_neg he]
    have h1 := fun W hW => conPut_c c W hW hs
    rw [hL] at h1
    have heb : (cPutE c != 0) = true := by simpa using he
    generalize cPutE c = E at *
    obtain ⟨lv, cl, ke, cn, hw, tp, tx, q, rt, hu, us, hp, ps⟩ := c
    simp only [Con.cells] at *
    have H1 := hd h1; clear h1 hL he
    go_enter Tryd.func14, Tryd.ntmps14
    go_wp2_with fail
    refine (H1.out _ (HE.out.below (by go_grown))).mono ?_
    rintro e w1 ⟨v1, rfl, ho1, hb1⟩
    have hb : Below w.heap.size w w1 := Below.up (by go_grown) hb1
    obtain ⟨a, k, rfl⟩ := ho1.bs.slice
    go_wp2_with fail
    refine (awake13_c _ (HE.out.below hb)).mono ?_
    rintro e w3 ⟨rfl, hb3⟩
    go_wp2_with fail
    go_ret
    exact ⟨rfl, Below.up hb hb3⟩
  have h1 := fun W hW => conPut_c c W hW hs
  have hof := con_back he
  have hmo := con_more he (B8 x.toNat)
  have hle := con_less he
  have hlen := (conOk he).len
  rw [← (conOk he).is] at hlen
  have hnil : 1 ≤ (cPutB c).length := by
    rw [(conOk he).is]; simp only [cA5, cA4, cA3, cA2, cA1, List.length_append, cHead_len]; omega
  rw [he] at h1
  clear he
  generalize hL : cPutB c = L at *
  clear hL
  have h2 := fun W hW => conOf_c (sOf L) W hW (by rw [sOf_size]; omega)
  have h3 := fun W hW => conOf_c (sOf (L ++ [B8 x.toNat])) W hW (by rw [sOf_size, List.length_append]; simp; omega)
  have h4 := fun W hW => conOf_c (sOf L.dropLast) W hW (by rw [sOf_size, List.length_dropLast]; omega)
  unfold GivesC at h2 h3 h4
  rw [sB_sOf] at h2 h3 h4
  rw [hof] at h2
  rw [hmo] at h3
  rw [hle] at h4
  clear hof hmo hle
  obtain ⟨lv, cl, ke, cn, hw, tp, tx, q, rt, hu, us, hp, ps⟩ := c
  simp only [Con.cells, Con.zero] at *
  have hadd := run_add L [B8 x.toNat] (by simp; omega)
  have hlit := byte_lit x hx
  have hlenb : ((L.length : Int) < 1) = False := by simp; omega
  have H1 := hd h1; have H2 := hd h2; have H3 := hd h3; have H4 := hd h4; clear h1 h2 h3 h4
  go_enter Tryd.func14, Tryd.ntmps14
  go_wp2_with fail
  refine (H1.out _ (HE.out.below (by go_grown))).mono ?_
  clear H1
  rintro e w1 ⟨v1, rfl, ho1, hb1⟩
  have hc1 := bcell hb1
  have hl1 : w.heap.size < w1.heap.size := by have := hb1.size; simp at this; omega
  have hb : Below w.heap.size w w1 := Below.up (by go_grown) hb1
  have hs1 := ho1.bs
  clear ho1 hb1
  obtain ⟨a, k, rfl⟩ := hs1.slice
  have hst := run_str hs1
  go_wp2_with fail
  refine (H2.out _ (HE.out.below hb)).mono ?_
  clear H2
  rintro e w2 ⟨rfl, hb2⟩
  have hc2 := bcell hb2
  have hl2 : w1.heap.size ≤ w2.heap.size := hb2.size
  replace hb := Below.up hb hb2
  have hst2 : ∀ o, (convert 22 9 (.slice a L.length k)).run Tryd.prog (w2.alloc o) = .ok (.string ⟨L.toArray⟩) (w2.alloc o) := fun o => run_str (hs1.below' (hb2.alloc hb2.size o) (Nat.le_refl _))
  have hlit2 : ∀ o, (convert 22 9 (.slice (some ⟨w2.heap.size + 1, 0, none⟩) 1 1)).run Tryd.prog ((w2.alloc o).alloc (.cells #[.int .u8 x] 5)) = .ok (.string (sOf [B8 x.toNat])) ((w2.alloc o).alloc (.cells #[.int .u8 x] 5)) := fun o => by
    have := hlit (w2.alloc o)
    rwa [World.size_alloc] at this
  have hsn : (⟨L.toArray⟩ : ByteArray) = sOf L := rfl
  rw [hsn] at hst2
  clear hst hlit hsn
  go_wp2_with fail
  refine (H3.out _ (HE.out.below (by go_grown))).mono ?_
  clear H3
  rintro e w3 ⟨rfl, hb3⟩
  have hc3 := bcell hb3
  have hl3 : w2.heap.size + 2 ≤ w3.heap.size := by have := hb3.size; simp at this; omega
  have hs3 : Bs (w3.alloc (Obj.cells #[.int .i64 0, .bool false, .int .i64 0, .string ⟨#[]⟩, .bool false, .string ⟨#[]⟩, .string ⟨#[]⟩, .int .i64 0, .bool false, .bool false, .string ⟨#[]⟩, .bool false, .string ⟨#[]⟩] 49)) (.slice a L.length k) L :=
    hs1.below' (((hb2.alloc hb2.size _).alloc (by simp; omega) _).trans (hb3.mono (by simp; omega)) |>.alloc (by omega) _) (Nat.le_refl _)
  obtain ⟨a', c', hsl, hsb⟩ := run_to hs3 ((L.length : Int) - 1) (L.length - 1) (by omega) (by omega)
  have hst3 := run_str hsb
  rw [← List.dropLast_eq_take] at hst3
  rw [show (⟨L.dropLast.toArray⟩ : ByteArray) = sOf L.dropLast from rfl] at hst3
  replace hb : Below w.heap.size w w3 := Below.up (by go_grown) hb3
  have m2 : w.heap.size < w2.heap.size := by omega
  have m3 : w.heap.size < w3.heap.size := by omega
  have m4 : w2.heap.size < w3.heap.size := by omega
  have k3 : ∀ o, w3.cell? ⟨w.heap.size, o, none⟩ = w2.cell? ⟨w.heap.size, o, none⟩ := fun o => (hc3 _ o (by simp; omega)).trans (by rw [World.cell?_alloc_lt _ _ ⟨w.heap.size, o, none⟩ (by simp; omega), World.cell?_alloc_lt _ _ ⟨w.heap.size, o, none⟩ (by simp; omega)])
  have k3' := fun o => hc3 w2.heap.size o (by simp; omega)
  clear hc3
  clear hst2 hlit2 hadd hsb hs3
  go_wp2_with fail
  refine (H4.out _ (HE.out.below (by go_grown))).mono ?_
  clear H4
  rintro e w4 ⟨rfl, hb4⟩
  have hc4 := bcell hb4
  have hl4 : w3.heap.size < w4.heap.size := by have := hb4.size; simp at this; omega
  replace hb : Below w.heap.size w w4 := Below.up (by go_grown) hb4
  have k4 : ∀ o, w4.cell? ⟨w.heap.size, o, none⟩ = w3.cell? ⟨w.heap.size, o, none⟩ := fun o => (hc4 _ o (by simp; omega)).trans (by rw [World.cell?_alloc_lt _ _ ⟨w.heap.size, o, none⟩ (by simp; omega)])
  have k4' : ∀ o, w4.cell? ⟨w2.heap.size, o, none⟩ = w3.cell? ⟨w2.heap.size, o, none⟩ := fun o => (hc4 _ o (by simp; omega)).trans (by rw [World.cell?_alloc_lt _ _ ⟨w2.heap.size, o, none⟩ (by simp; omega)])
  clear hc4
  have m5 : w.heap.size < w4.heap.size := by omega
  have m6 : w2.heap.size < w4.heap.size := by omega
  clear hsl hst3
  go_wp2_with fail
  refine (awake13_c _ (HE.out.below (by go_grown))).mono ?_
  rintro e w5 ⟨rfl, hb5⟩
  go_wp2_with fail
  go_ret
  exact ⟨ret_bool (by simp), Below.up (by go_grown) hb5⟩
end Go.Proofs.YtinfcjnmloglhaaDoor
