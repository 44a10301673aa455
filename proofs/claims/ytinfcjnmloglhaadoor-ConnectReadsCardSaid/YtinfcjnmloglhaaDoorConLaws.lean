/- The laws of who comes: the walks. -/
import Derived.Test.YtinfcjnmloglhaaDoorConPut2
import Derived.Test.YtinfcjnmloglhaaDoorConAck
import Derived.Test.YtinfcjnmloglhaaDoorUtfLaws
namespace Go.Proofs.YtinfcjnmloglhaaDoor
open Go.RowKit
set_option linter.unusedVariables false
set_option linter.unusedSimpArgs false

set_option maxRecDepth 100000 in
set_option maxHeartbeats 1000000 in
theorem awake13_c (w : World) (hE : EnvU w) : Calls Tryd.prog 35 #[] w fun e w' => e = .returned (.bool true) ∧ Below w.heap.size w w' := by
  have HE := hd hE; clear hE
  have h := conPut_c ⟨4, true, 10, ⟨#[97]⟩, false, ⟨#[]⟩, ⟨#[]⟩, 0, false, false, ⟨#[]⟩, false, ⟨#[]⟩⟩ w HE.out (by simp only [Con.sized]; decide)
  have e1 : cPutB ⟨4, true, 10, ⟨#[97]⟩, false, ⟨#[]⟩, ⟨#[]⟩, 0, false, false, ⟨#[]⟩, false, ⟨#[]⟩⟩ = [0, 4, 77, 81, 84, 84, 4, 2, 0, 10, 0, 1, 97] := by decide +kernel
  have e2 : cPutE ⟨4, true, 10, ⟨#[97]⟩, false, ⟨#[]⟩, ⟨#[]⟩, 0, false, false, ⟨#[]⟩, false, ⟨#[]⟩⟩ = 0 := by decide +kernel
  rw [e1, e2] at h
  simp only [Con.cells] at h
  have H := hd h
  clear h e1 e2
  go_enter Tryd.func35, Tryd.ntmps35
  go_wp2_with fail
  refine H.out.mono ?_
  rintro e w1 ⟨v, rfl, ho, hb⟩
  have hstr := run_str ho.bs
  clear ho
  go_wp2_with fail
  go_ret
  exact ⟨rfl, hb⟩

set_option maxRecDepth 100000 in
set_option maxHeartbeats 1000000 in
theorem ConnectPuts_w (c : Con) (w : World) (hE : EnvU w) (hs : c.sized 140737488351232) :
    Calls Tryd.prog 8 #[.agg c.cells.toArray] w fun e w' => e = .returned (.bool true) ∧ Below w.heap.size w w' := by
  have HE := hd hE; clear hE
  have h1 := fun W hW => conPut_c c W hW hs
  have h2 := fun W => refConPut_c c W hs
  generalize cPutB c = L at *
  generalize cPutE c = E at *
  obtain ⟨lv, cl, ke, cn, hw, tp, tx, q, rt, hu, us, hp, ps⟩ := c
  simp only [Con.cells] at *
  have H1 := hd h1; have H2 := hd h2; clear h1 h2
  go_enter Tryd.func8, Tryd.ntmps8
  go_wp2_with fail
  refine (H1.out _ (HE.out.below (by go_grown))).mono ?_
  rintro e w1 ⟨v1, rfl, ho1, hb1⟩
  have hc1 := bcell hb1
  have hl1 : w.heap.size < w1.heap.size := by have := hb1.size; simp at this; omega
  have hb : Below w.heap.size w w1 := Below.up (by go_grown) hb1
  go_wp2_with fail
  refine (H2.out _).mono ?_
  rintro e w2 ⟨v2, rfl, ho2, hb2⟩
  have t1 := run_str (ho1.bs.below' hb2 (Nat.le_refl _))
  have t2 := run_str ho2.bs
  replace hb := Below.up hb hb2
  clear ho1 ho2 hb1 hb2 hc1
  go_wp2_with fail
  refine (awake13_c _ (HE.out.below hb)).mono ?_
  rintro e w3 ⟨rfl, hb3⟩
  go_wp2_with fail
  go_ret
  exact ⟨ret_bool (by simp), Below.up hb hb3⟩

set_option maxRecDepth 100000 in
set_option maxHeartbeats 1000000 in
theorem ConnectAcks_w (p : Bool) (k : Int) (s : ByteArray) (w : World) (hE : EnvU w) (hs : s.size ≤ 140737488351232) :
    Calls Tryd.prog 10 #[.bool p, .int .i64 k, .string s] w fun e w' => e = .returned (.bool true) ∧ Below w.heap.size w w' := by
  have HE := hd hE; clear hE
  go_enter Tryd.func10, Tryd.ntmps10
  go_wp2_with fail
  refine (PutAck_c p k _).mono ?_
  rintro e w1 ⟨v1, rfl, ho1, hb1⟩
  go_wp2_with fail
  refine (refPutAck_c p k _).mono ?_
  rintro e w2 ⟨v2, rfl, ho2, hb2⟩
  have hs1 := ho1.bs.below' hb2 (Nat.le_refl _)
  have t1 := run_str hs1
  have t2 := run_str ho2.bs
  have hb := Below.up hb1 hb2
  clear ho1 ho2 hb1 hb2
  go_wp2_with fail
  refine (OfAck_c s _).mono ?_
  rintro e w3 ⟨rfl, hb3⟩
  replace hs1 := hs1.below' hb3 (Nat.le_refl _)
  replace hb := Below.up hb hb3
  clear t1 t2 hb3
  go_wp2_with fail
  refine (refOfAck_c s _).mono ?_
  rintro e w4 ⟨rfl, hb4⟩
  replace hs1 := hs1.below' hb4 (Nat.le_refl _)
  replace hb := Below.up hb hb4
  have t3 := run_str hs1
  clear hb4
  generalize aOf (sB s) = r
  go_wp2_with fail
  refine (OfAck_c ⟨(aPutB p k).toArray⟩ _).mono ?_
  unfold GivesA
  rw [show sB ⟨(aPutB p k).toArray⟩ = aPutB p k from rfl]
  rintro e w5 ⟨rfl, hb5⟩
  replace hb := Below.up hb hb5
  clear hb5 hs1 t3
  have hAw := awake13_c w5 (HE.out.below hb)
  have HA := hd hAw; clear hAw
  by_cases he : aPutE p k = 0
  · rw [aBack he, he]
    simp only
    go_wp2_with fail
    refine HA.out.mono ?_
    rintro e w6 ⟨rfl, hb6⟩
    go_wp2_with fail
    go_ret
    exact ⟨ret_bool (by simp), Below.up hb hb6⟩
  · have heb : (aPutE p k != 0) = true := by simpa using he
    generalize aOf (aPutB p k) = r2
    generalize aPutE p k = E at *
    go_wp2_with fail
    refine HA.out.mono ?_
    rintro e w6 ⟨rfl, hb6⟩
    go_wp2_with fail
    go_ret
    exact ⟨ret_bool (by simp), Below.up hb hb6⟩
end Go.Proofs.YtinfcjnmloglhaaDoor
