/- A bundle of texts (merged for the limit on files): Bir8, BirOpen, Bir9. -/
import Derived.Test.YtclicjokgfiegaaDoorZb11
import Derived.Test.YtclicjokgfiegaaDoorZb9
/- Births: one that nobody made; awake; BirthsZero: the walks. -/
namespace Go.Proofs.YtclicjokgfiegaaDoor
open Go.RowKit
set_option linter.unusedVariables false
set_option linter.unusedSimpArgs false

theorem RsNil (w : World) : Rd w (.slice none 0 0) 0 [] := Rd.nil w
set_option maxRecDepth 100000 in
theorem bGetN_c (s : ByteArray) (w : World)  : Calls Tryd.prog 21 #[.pointer none, .string s] w fun e w' => e = .returned (.tuple #[.string ⟨#[]⟩, .bool false]) ∧ Below w.heap.size w w' := by
  go_enter Tryd.func21, Tryd.ntmps21
  go_wp2_with (first | (go_at_call 46; refine (bnoneN_c _).mono ?_; rintro e w' ⟨rfl, rfl⟩))
  go_ret2
  exact ⟨rfl, by go_grown⟩
set_option maxRecDepth 100000 in
theorem bGetZ_c (g : Nat) (s : ByteArray) (w : World) (hz : w.cell? ⟨g, 1, none⟩ = some (.bool false)) : Calls Tryd.prog 21 #[.pointer (some ⟨g, 0, none⟩), .string s] w fun e w' => e = .returned (.tuple #[.string ⟨#[]⟩, .bool false]) ∧ Below w.heap.size w w' := by
  go_enter Tryd.func21, Tryd.ntmps21
  go_wp2_with (first | (go_at_call 46; refine (bnoneZ_c _ _ hz).mono ?_; rintro e w' ⟨rfl, rfl⟩))
  go_ret2
  exact ⟨rfl, by go_grown⟩
set_option maxRecDepth 100000 in
theorem bPutN_c (s t : ByteArray) (w : World)  : Calls Tryd.prog 20 #[.pointer none, .string s, .string t] w fun e w' => e = .returned (.int .i64 8) ∧ Below w.heap.size w w' := by
  go_enter Tryd.func20, Tryd.ntmps20
  go_wp2_with (first | (go_at_call 46; refine (bnoneN_c _).mono ?_; rintro e w' ⟨rfl, rfl⟩))
  go_ret
  exact ⟨rfl, by go_grown⟩
set_option maxRecDepth 100000 in
theorem bPutZ_c (g : Nat) (s t : ByteArray) (w : World) (hz : w.cell? ⟨g, 1, none⟩ = some (.bool false)) : Calls Tryd.prog 20 #[.pointer (some ⟨g, 0, none⟩), .string s, .string t] w fun e w' => e = .returned (.int .i64 8) ∧ Below w.heap.size w w' := by
  go_enter Tryd.func20, Tryd.ntmps20
  go_wp2_with (first | (go_at_call 46; refine (bnoneZ_c _ _ hz).mono ?_; rintro e w' ⟨rfl, rfl⟩))
  go_ret
  exact ⟨rfl, by go_grown⟩
set_option maxRecDepth 100000 in
theorem bDropN_c (s : ByteArray) (w : World)  : Calls Tryd.prog 22 #[.pointer none, .string s] w fun e w' => e = .returned (.int .i64 0) ∧ Below w.heap.size w w' := by
  go_enter Tryd.func22, Tryd.ntmps22
  go_wp2_with (first | (go_at_call 46; refine (bnoneN_c _).mono ?_; rintro e w' ⟨rfl, rfl⟩))
  go_ret
  exact ⟨rfl, by go_grown⟩
set_option maxRecDepth 100000 in
theorem bDropZ_c (g : Nat) (s : ByteArray) (w : World) (hz : w.cell? ⟨g, 1, none⟩ = some (.bool false)) : Calls Tryd.prog 22 #[.pointer (some ⟨g, 0, none⟩), .string s] w fun e w' => e = .returned (.int .i64 0) ∧ Below w.heap.size w w' := by
  go_enter Tryd.func22, Tryd.ntmps22
  go_wp2_with (first | (go_at_call 46; refine (bnoneZ_c _ _ hz).mono ?_; rintro e w' ⟨rfl, rfl⟩))
  go_ret
  exact ⟨rfl, by go_grown⟩
set_option maxRecDepth 100000 in
theorem bLenN_c (w : World)  : Calls Tryd.prog 27 #[.pointer none] w fun e w' => e = .returned (.int .i64 0) ∧ Below w.heap.size w w' := by
  go_enter Tryd.func27, Tryd.ntmps27
  go_wp2_with (first | (go_at_call 46; refine (bnoneN_c _).mono ?_; rintro e w' ⟨rfl, rfl⟩))
  go_ret
  exact ⟨rfl, by go_grown⟩
set_option maxRecDepth 100000 in
theorem bLenZ_c (g : Nat) (w : World) (hz : w.cell? ⟨g, 1, none⟩ = some (.bool false)) : Calls Tryd.prog 27 #[.pointer (some ⟨g, 0, none⟩)] w fun e w' => e = .returned (.int .i64 0) ∧ Below w.heap.size w w' := by
  go_enter Tryd.func27, Tryd.ntmps27
  go_wp2_with (first | (go_at_call 46; refine (bnoneZ_c _ _ hz).mono ?_; rintro e w' ⟨rfl, rfl⟩))
  go_ret
  exact ⟨rfl, by go_grown⟩
set_option maxRecDepth 100000 in
theorem thoseN_c (f : Value) (w : World)  : Calls Tryd.prog 51 #[.pointer none, f] w fun e w' => e = .returned (.slice none 0 0) ∧ Below w.heap.size w w' := by
  go_enter Tryd.func51, Tryd.ntmps51
  go_wp2_with (first | (go_at_call 46; refine (bnoneN_c _).mono ?_; rintro e w' ⟨rfl, rfl⟩))
  go_ret
  exact ⟨rfl, by go_grown⟩
set_option maxRecDepth 100000 in
theorem thoseZ_c (g : Nat) (f : Value) (w : World) (hz : w.cell? ⟨g, 1, none⟩ = some (.bool false)) : Calls Tryd.prog 51 #[.pointer (some ⟨g, 0, none⟩), f] w fun e w' => e = .returned (.slice none 0 0) ∧ Below w.heap.size w w' := by
  go_enter Tryd.func51, Tryd.ntmps51
  go_wp2_with (first | (go_at_call 46; refine (bnoneZ_c _ _ hz).mono ?_; rintro e w' ⟨rfl, rfl⟩))
  go_ret
  exact ⟨rfl, by go_grown⟩
set_option maxRecDepth 100000 in
theorem bFindN_c (a : Option Addr) (n c : Nat) (w : World)  : Calls Tryd.prog 23 #[.pointer none, .slice a n c] w fun e w' => e = .returned (.slice none 0 0) ∧ Below w.heap.size w w' := by
  go_enter Tryd.func23, Tryd.ntmps23
  go_wp2_with fail
  refine (thoseN_c _ _).mono ?_
  rintro e w1 ⟨rfl, hb⟩
  go_wp2_with fail
  go_ret
  exact ⟨rfl, Below.up (by go_grown) hb⟩
set_option maxRecDepth 100000 in
theorem bFindZ_c (g : Nat) (a : Option Addr) (n c : Nat) (w : World) (hg : g < w.heap.size) (hz : w.cell? ⟨g, 1, none⟩ = some (.bool false)) : Calls Tryd.prog 23 #[.pointer (some ⟨g, 0, none⟩), .slice a n c] w fun e w' => e = .returned (.slice none 0 0) ∧ Below w.heap.size w w' := by
  have hz2 : (w.alloc (.cells #[.slice a n c] 26)).cell? ⟨g, 1, none⟩ = some (.bool false) := (bcell ((Below.refl w.heap.size w).alloc (Nat.le_refl _) _) g 1 hg).trans hz
  go_enter Tryd.func23, Tryd.ntmps23
  go_wp2_with fail
  refine (thoseZ_c g _ _ hz2).mono ?_
  rintro e w1 ⟨rfl, hb⟩
  go_wp2_with fail
  go_ret
  exact ⟨rfl, Below.up (by go_grown) hb⟩
set_option maxRecDepth 100000 in
theorem bAllN_c (w : World)  : Calls Tryd.prog 28 #[.pointer none] w fun e w' => e = .returned (.slice none 0 0) ∧ Below w.heap.size w w' := by
  go_enter Tryd.func28, Tryd.ntmps28
  go_wp2_with fail
  refine (thoseN_c _ _).mono ?_
  rintro e w1 ⟨rfl, hb⟩
  go_wp2_with fail
  go_ret
  exact ⟨rfl, hb⟩
set_option maxRecDepth 100000 in
theorem bAllZ_c (g : Nat) (w : World) (hg : g < w.heap.size) (hz : w.cell? ⟨g, 1, none⟩ = some (.bool false)) : Calls Tryd.prog 28 #[.pointer (some ⟨g, 0, none⟩)] w fun e w' => e = .returned (.slice none 0 0) ∧ Below w.heap.size w w' := by
  have hz2 := hz
  go_enter Tryd.func28, Tryd.ntmps28
  go_wp2_with fail
  refine (thoseZ_c g _ _ hz2).mono ?_
  rintro e w1 ⟨rfl, hb⟩
  go_wp2_with fail
  go_ret
  exact ⟨rfl, hb⟩

/-! ### awake -/
theorem keeps_own {w w2 w3 : World} {g : Nat} {v : Value} (hk : Keeps (g :: blk v) w2 w3) (hg : w.heap.size ≤ g) (hn : ∀ k, k ∈ blk v → w.heap.size ≤ k) (hs : w.heap.size ≤ w2.heap.size) : Below w.heap.size w2 w3 :=
  hk.toBelow hs (fun k hm => by
    rcases List.mem_cons.1 hm with rfl | hm
    · exact hg
    · exact hn k hm)
def tNB : List UInt8 := [115, 112, 66, 118, 49, 46, 48, 47, 103, 47, 78, 66, 73, 82, 84, 72, 47, 110]
def tDB : List UInt8 := [115, 112, 66, 118, 49, 46, 48, 47, 103, 47, 68, 66, 73, 82, 84, 72, 47, 110, 47, 100]
theorem rkNB : bRank tNB = some (tNB, []) := by decide +kernel
theorem rkDB : bRank tDB = some (tNB, tDB) := by decide +kernel
theorem aw0 : bPutL [] tNB ⟨#[120]⟩ = [((tNB, []), ⟨#[120]⟩)] := by unfold bPutL; rw [rkNB]; decide +kernel
theorem aw1 : bPutL [((tNB, []), ⟨#[120]⟩)] tDB ⟨#[121]⟩ = [((tNB, []), ⟨#[120]⟩), ((tNB, tDB), ⟨#[121]⟩)] := by unfold bPutL; rw [rkDB]; decide +kernel
theorem aw2 : bPutL [((tNB, []), ⟨#[120]⟩), ((tNB, tDB), ⟨#[121]⟩)] tNB ⟨#[122]⟩ = [((tNB, []), ⟨#[122]⟩)] := by unfold bPutL; rw [rkNB]; decide +kernel
theorem aw3 : bGet [((tNB, []), ⟨#[122]⟩)] (tNB, []) = some ⟨#[122]⟩ := by decide +kernel
theorem awE0 : bPutE [] tNB = 0 := by unfold bPutE; rw [rkNB]; decide +kernel
theorem awE1 : bPutE [((tNB, []), ⟨#[120]⟩)] tDB = 0 := by unfold bPutE; rw [rkDB]; decide +kernel
theorem awE2 : bPutE [((tNB, []), ⟨#[120]⟩), ((tNB, tDB), ⟨#[121]⟩)] tNB = 0 := by unfold bPutE; rw [rkNB]; decide +kernel
theorem awS1 : Sorted [((tNB, []), ⟨#[120]⟩)] := List.pairwise_singleton _ _
theorem awS2 : Sorted [((tNB, []), ⟨#[120]⟩), ((tNB, tDB), ⟨#[121]⟩)] := by unfold Sorted; decide +kernel
theorem awS3 : Sorted [((tNB, []), ⟨#[122]⟩)] := List.pairwise_singleton _ _
set_option maxRecDepth 100000 in
set_option maxHeartbeats 4000000 in
theorem awake36_c (w : World) (hE : EnvU w) (hW : EnvW w) : Calls Tryd.prog 18 #[] w fun e w' => e = .returned (.bool true) ∧ Below w.heap.size w w' := by
  have HE := hd hE; have HW := hd hW
  clear hE hW
  go_enter Tryd.func18, Tryd.ntmps18
  go_wp2_with fail
  refine (bNew_c _).mono ?_
  rintro e w1 ⟨rfl, hat, hb⟩
  have HA := hd hat
  clear hat
  go_wp2_with fail
  refine (bPut_c w.heap.size _ [] tNB ⟨#[120]⟩ w1 (HE.out.below hb) (HW.out.below hb (Nat.le_refl _)) (by decide) HA.out List.Pairwise.nil (by decide)).mono ?_
  rintro e w2 ⟨rfl, v2, hbd⟩
  rw [aw0] at hbd
  rw [awE0]
  have b2 : Below w.heap.size w w2 := hb.trans (hbd.keeps.toBelow hb.size (by intro k hk; simp [blk, Value.ownBlock] at hk; omega))
  have hn2 : ∀ k, k ∈ blk v2 → w.heap.size ≤ k := fun k hk => by
    rcases hbd.new k hk with h | h
    · simp [blk, Value.ownBlock] at h
    · have := hb.size; omega
  have HA := hd hbd.at'
  clear hbd
  go_wp2_with fail
  refine (bPut_c w.heap.size _ _ tDB ⟨#[121]⟩ w2 (HE.out.below b2) (HW.out.below b2 (Nat.le_refl _)) (by decide) HA.out awS1 (by decide)).mono ?_
  rintro e w3 ⟨rfl, v3, hbd⟩
  rw [aw1] at hbd
  rw [awE1]
  have b3 : Below w.heap.size w w3 := b2.trans (keeps_own hbd.keeps (Nat.le_refl _) hn2 b2.size)
  have hn3 : ∀ k, k ∈ blk v3 → w.heap.size ≤ k := fun k hk => by
    rcases hbd.new k hk with h | h
    · exact hn2 k h
    · have := b2.size; omega
  have HA := hd hbd.at'
  clear hbd
  go_wp2_with fail
  refine (bPut_c w.heap.size _ _ tNB ⟨#[122]⟩ w3 (HE.out.below b3) (HW.out.below b3 (Nat.le_refl _)) (by decide) HA.out awS2 (by decide)).mono ?_
  rintro e w4 ⟨rfl, v4, hbd⟩
  rw [aw2] at hbd
  rw [awE2]
  have b4 : Below w.heap.size w w4 := b3.trans (keeps_own hbd.keeps (Nat.le_refl _) hn3 b3.size)
  have HA := hd hbd.at'
  clear hbd
  go_wp2_with fail
  refine (bGet_c w.heap.size _ _ tNB w4 (HE.out.below b4) (HW.out.below b4 (Nat.le_refl _)) (by decide) HA.out awS3 (by decide)).mono ?_
  rw [rkNB, Option.bind_some, aw3]
  rintro e w5 ⟨rfl, hb5⟩
  have HA5 := hd (HA.out.below hb5)
  have b5 := Below.up b4 hb5
  simp only [Option.getD_some, Option.isSome_some]
  go_wp2_with fail
  refine (bLen_c w.heap.size _ _ w5 HA5.out).mono ?_
  rintro e w6 ⟨rfl, rfl⟩
  go_wp2_with fail
  go_ret
  exact ⟨rfl, b5⟩

set_option maxRecDepth 100000 in
set_option maxHeartbeats 4000000 in
theorem BirthsZero_s (s : ByteArray) (w : World) (hE : EnvU w) (hW : EnvW w) :
    Calls Tryd.prog 7 #[.string s] w fun e w' => e = .returned (.bool true) ∧ Below w.heap.size w w' := by
  have HE := hd hE; have HW := hd hW
  clear hE hW
  go_enter Tryd.func7, Tryd.ntmps7
  go_wp2_with fail
  have b0 : Below w.heap.size w (w.alloc (.cells #[.slice none 0 0, .bool false] 68)) := by go_grown
  have hz : (w.alloc (.cells #[.slice none 0 0, .bool false] 68)).cell? ⟨w.heap.size, 1, none⟩ = some (.bool false) := by simp [go_sem]
  have hg : w.heap.size < (w.alloc (.cells #[.slice none 0 0, .bool false] 68)).heap.size := by simp [go_sem]
  generalize w.alloc (.cells #[.slice none 0 0, .bool false] 68) = w0 at *
  refine (bGetN_c _ _).mono ?_
  rintro e w1 ⟨rfl, hb⟩
  replace hz := (bcell hb w.heap.size 1 hg).trans hz
  replace hg := Nat.lt_of_lt_of_le hg hb.size
  replace b0 := Below.up b0 hb
  clear hb
  go_wp2_with fail
  refine (bGetZ_c _ _ _ hz).mono ?_
  rintro e w2 ⟨rfl, hb⟩
  replace hz := (bcell hb w.heap.size 1 hg).trans hz
  replace hg := Nat.lt_of_lt_of_le hg hb.size
  replace b0 := Below.up b0 hb
  clear hb
  go_wp2_with fail
  have hbs : Below w2.heap.size w2 (w2.alloc (.cells #[.string ⟨#[35]⟩, .int .i64 0] 58)) := by go_grown
  replace hz := (bcell hbs w.heap.size 1 hg).trans hz
  replace hg := Nat.lt_of_lt_of_le hg hbs.size
  replace b0 := Below.up b0 hbs
  clear hbs
  generalize w2.alloc (.cells #[.string ⟨#[35]⟩, .int .i64 0] 58) = w2a at *
  refine (bPutN_c _ _ _).mono ?_
  rintro e w3 ⟨rfl, hb⟩
  replace hz := (bcell hb w.heap.size 1 hg).trans hz
  replace hg := Nat.lt_of_lt_of_le hg hb.size
  replace b0 := Below.up b0 hb
  clear hb
  go_wp2_with fail
  refine (bPutZ_c _ _ _ _ hz).mono ?_
  rintro e w4 ⟨rfl, hb⟩
  replace hz := (bcell hb w.heap.size 1 hg).trans hz
  replace hg := Nat.lt_of_lt_of_le hg hb.size
  replace b0 := Below.up b0 hb
  clear hb
  go_wp2_with fail
  refine (bDropN_c _ _).mono ?_
  rintro e w5 ⟨rfl, hb⟩
  replace hz := (bcell hb w.heap.size 1 hg).trans hz
  replace hg := Nat.lt_of_lt_of_le hg hb.size
  replace b0 := Below.up b0 hb
  clear hb
  go_wp2_with fail
  refine (bDropZ_c _ _ _ hz).mono ?_
  rintro e w6 ⟨rfl, hb⟩
  replace hz := (bcell hb w.heap.size 1 hg).trans hz
  replace hg := Nat.lt_of_lt_of_le hg hb.size
  replace b0 := Below.up b0 hb
  clear hb
  go_wp2_with fail
  refine (bFindN_c _ _ _ _).mono ?_
  rintro e w7 ⟨rfl, hb⟩
  replace hz := (bcell hb w.heap.size 1 hg).trans hz
  replace hg := Nat.lt_of_lt_of_le hg hb.size
  replace b0 := Below.up b0 hb
  clear hb
  go_wp2_with fail
  refine (bFindZ_c _ _ _ _ _ hg hz).mono ?_
  rintro e w8 ⟨rfl, hb⟩
  replace hz := (bcell hb w.heap.size 1 hg).trans hz
  replace hg := Nat.lt_of_lt_of_le hg hb.size
  replace b0 := Below.up b0 hb
  clear hb
  go_wp2_with fail
  refine (bAllN_c  _).mono ?_
  rintro e w9 ⟨rfl, hb⟩
  replace hz := (bcell hb w.heap.size 1 hg).trans hz
  replace hg := Nat.lt_of_lt_of_le hg hb.size
  replace b0 := Below.up b0 hb
  clear hb
  go_wp2_with fail
  refine (bAllZ_c _ _ hg hz).mono ?_
  rintro e w10 ⟨rfl, hb⟩
  replace hz := (bcell hb w.heap.size 1 hg).trans hz
  replace hg := Nat.lt_of_lt_of_le hg hb.size
  replace b0 := Below.up b0 hb
  clear hb
  go_wp2_with fail
  refine (bLenN_c  _).mono ?_
  rintro e w11 ⟨rfl, hb⟩
  replace hz := (bcell hb w.heap.size 1 hg).trans hz
  replace hg := Nat.lt_of_lt_of_le hg hb.size
  replace b0 := Below.up b0 hb
  clear hb
  go_wp2_with fail
  refine (bLenZ_c _ _ hz).mono ?_
  rintro e w12 ⟨rfl, hb⟩
  replace hz := (bcell hb w.heap.size 1 hg).trans hz
  replace hg := Nat.lt_of_lt_of_le hg hb.size
  replace b0 := Below.up b0 hb
  clear hb
  go_wp2_with fail
  refine (awake36_c _ (HE.out.below b0) (HW.out.below b0 (Nat.le_refl _))).mono ?_
  rintro e w' ⟨rfl, hb⟩
  go_wp2_with fail
  go_ret
  exact ⟨rfl, Below.up b0 hb⟩
end Go.Proofs.YtclicjokgfiegaaDoor

/- Births: what acts and filters that came in read as. Of no function of the program. -/
namespace Go.Proofs.YtclicjokgfiegaaDoor
open Go.ChangeShapes Go.WideShapes Go.ChangeAt Go.RowKit
set_option linter.unusedVariables false
set_option linter.unusedSimpArgs false

abbrev BAct := Int × List UInt8 × ByteArray
def actV (a : BAct) : List Value := [.int .i64 a.1, .string (sOf a.2.1), .string a.2.2]
abbrev BFlt := List UInt8 × Int
def fltV (f : BFlt) : List Value := [.string (sOf f.1), .int .i64 f.2]
def Acts (w : World) (v : Value) (l : List BAct) : Prop := Rd w v l.length (l.flatMap actV)
def Flts (w : World) (v : Value) (l : List BFlt) : Prop := Rd w v l.length (l.flatMap fltV)
theorem flatC_at {α : Type} (cells : α → List Value) (K : Nat) (hK : ∀ x, (cells x).length = K) : ∀ (l : List α) (k : Nat) (x : α), l[k]? = some x → ∀ j v, (cells x)[j]? = some v → (l.flatMap cells)[k * K + j]? = some v
  | [], k, x, h => by simp at h
  | y :: t, 0, x, h => by
    intro j v hv
    simp only [List.getElem?_cons_zero, Option.some.injEq] at h
    subst h
    rw [List.flatMap_cons, Nat.zero_mul, Nat.zero_add, List.getElem?_append_left (List.getElem?_eq_some_iff.1 hv).1]
    exact hv
  | y :: t, k + 1, x, h => by
    intro j v hv
    rw [List.getElem?_cons_succ] at h
    have := flatC_at cells K hK t k x h j v hv
    have e : (k + 1) * K + j = K + (k * K + j) := by rw [Nat.add_mul]; omega
    rw [List.flatMap_cons, List.getElem?_append_right (by rw [hK, e]; omega), hK, e, Nat.add_sub_cancel_left]
    exact this
theorem rowC_at {α : Type} (cells : α → List Value) (K : Nat) (hK0 : 0 < K) (hK : ∀ x, (cells x).length = K) {w : World} {a : Option Addr} {n c : Nat} {l : List α} (h : Rd w (.slice a n c) l.length (l.flatMap cells)) {k : Nat} {x : α} (hk : l[k]? = some x) :
    ∃ b o, a = some ⟨b, o, none⟩ ∧ b < w.heap.size ∧ ∀ j v, (cells x)[j]? = some v → w.cell? ⟨b, o + k * K + j, none⟩ = some v := by
  have hx := flatC_at cells K hK l k x hk
  rcases Rd.split h with ⟨hn, _⟩ | ⟨_, b, o, c', hv, _, _, hlt, hcell⟩
  · have h0 : ∃ v, (cells x)[0]? = some v := ⟨_, List.getElem?_eq_getElem (by rw [hK]; exact hK0)⟩
    obtain ⟨v, hv⟩ := h0
    have := hx 0 v hv
    rw [hn] at this
    simp at this
  · simp only [Value.slice.injEq] at hv
    refine ⟨b, o, hv.1, hlt, fun j v hj => ?_⟩
    have := hcell _ _ (hx j v hj)
    rwa [← Nat.add_assoc] at this
theorem Acts.at {w : World} {a : Option Addr} {n c : Nat} {l : List BAct} (h : Acts w (.slice a n c) l) {k : Nat} {x : BAct} (hk : l[k]? = some x) :
    ∃ b o, a = some ⟨b, o, none⟩ ∧ b < w.heap.size ∧ w.cell? ⟨b, o + k * 3, none⟩ = some (.int .i64 x.1) ∧ w.cell? ⟨b, o + k * 3 + 1, none⟩ = some (.string (sOf x.2.1)) ∧ w.cell? ⟨b, o + k * 3 + 2, none⟩ = some (.string x.2.2) := by
  obtain ⟨b, o, h1, h2, h3⟩ := rowC_at actV 3 (by decide) (fun _ => rfl) h hk
  exact ⟨b, o, h1, h2, h3 0 _ rfl, h3 1 _ rfl, h3 2 _ rfl⟩
theorem Flts.at {w : World} {a : Option Addr} {n c : Nat} {l : List BFlt} (h : Flts w (.slice a n c) l) {k : Nat} {x : BFlt} (hk : l[k]? = some x) :
    ∃ b o, a = some ⟨b, o, none⟩ ∧ b < w.heap.size ∧ w.cell? ⟨b, o + k * 2, none⟩ = some (.string (sOf x.1)) ∧ w.cell? ⟨b, o + k * 2 + 1, none⟩ = some (.int .i64 x.2) := by
  obtain ⟨b, o, h1, h2, h3⟩ := rowC_at fltV 2 (by decide) (fun _ => rfl) h hk
  exact ⟨b, o, h1, h2, h3 0 _ rfl, h3 1 _ rfl⟩
theorem Acts.slice {w : World} {v : Value} {l : List BAct} (h : Acts w v l) : ∃ a c, v = .slice a l.length c := by obtain ⟨a, c, hv, _⟩ := h; exact ⟨a, c, hv⟩
theorem Flts.slice {w : World} {v : Value} {l : List BFlt} (h : Flts w v l) : ∃ a c, v = .slice a l.length c := by obtain ⟨a, c, hv, _⟩ := h; exact ⟨a, c, hv⟩
theorem Acts.len {w : World} {v : Value} {l : List BAct} (h : Acts w v l) : l.length ≤ maxLen := Rd.len h
theorem Flts.len {w : World} {v : Value} {l : List BFlt} (h : Flts w v l) : l.length ≤ maxLen := Rd.len h

theorem bulk_mem {H : Type} : ∀ {ds : List (DataW H)} {d : DataW H}, d ∈ ds → Rows.uptoBulk d ≤ Rows.uptoBulkAll ds
  | d0 :: ds, d, hm => by
    rcases List.mem_cons.1 hm with rfl | hm
    · simp only [Rows.uptoBulkAll]; omega
    · have := bulk_mem hm
      simp only [Rows.uptoBulkAll]; omega
section
variable {H : Type} {enc : TypeId × Value → H} {w : World}
set_option maxRecDepth 100000 in
/-- As open_rows, where the whole is of bulk at most B. -/
theorem open_rowsU {α : Type} [Inhabited α] (B : Nat) (cells : α → List Value) (K : Nat) (hK0 : 0 < K) (hK : ∀ x, (cells x).length = K) {t e : TypeId} (ht : Tryd.prog.underlying t = some (.slice e)) (hc : Tryd.prog.cellsOf e = K) (Good : α → Prop)
    (one : ∀ n cs d p, DataW.trod enc Tryd.prog w 0 (fun _ => true) true n e cs = some (d, p) → Rows.uptoBulk d ≤ B → ∃ x, cs = cells x ∧ Good x)
    {r : Reach} {b0 : Nat} {v : Value} {d : DataW H} {ps : List MemPlace} (hval : Value.okWide Tryd.prog w r b0 t v)
    (h : DataW.Trod enc Tryd.prog w 0 (fun _ => true) true t v d ps) (hz : Rows.uptoBulk d ≤ B) : ∃ l : List α, Rd w v l.length (l.flatMap cells) ∧ ∀ x ∈ l, Good x := by
  obtain ⟨a, len, cap, rfl⟩ := okWide_slice ht hval
  obtain ⟨fuel, hf⟩ := h
  have hf' : DataW.trod enc Tryd.prog w 0 (fun _ => true) true fuel t [.slice a len cap] = some (d, ps) := by simpa [Value.cells] using hf
  rcases Go.Deep.open_slice ht hf' with ⟨hcs, hx⟩ | ⟨ad, len', cap', m, n, D, Pl, hcs, _, hl, hm, hmm, hx, hcell⟩
  · simp only [List.cons.injEq, Value.slice.injEq, and_true] at hcs
    obtain ⟨rfl, rfl, rfl⟩ := hcs
    exact ⟨[], Rd.nil w, by simp⟩
  · simp only [List.cons.injEq, Value.slice.injEq, and_true] at hcs
    obtain ⟨rfl, rfl, rfl⟩ := hcs
    simp only [if_true] at hmm
    subst hmm
    simp only [Prod.mk.injEq] at hx
    obtain ⟨rfl, _⟩ := hx
    simp only [Rows.uptoBulk] at hz
    have each : ∀ i, i < len → ∃ x : α, w.cells? 0 (ad.add (i * K)) K = some (cells x) ∧ Good x := by
      intro i hi
      obtain ⟨cs', h1, h2⟩ := hcell i (by omega)
      have hmem : D i ∈ (List.range len).map D := List.mem_map.2 ⟨i, List.mem_range.2 hi, rfl⟩
      obtain ⟨x, rfl, hg⟩ := one _ _ _ _ h2 (by have := bulk_mem hmem; omega)
      rw [hc] at h1
      exact ⟨x, h1, hg⟩
    obtain ⟨g, hg⟩ := Go.Deep.choose_lt each
    have hlen : ((List.range len).map g).length = len := by simp
    refine ⟨(List.range len).map g, ?_, ?_⟩
    · rw [hlen]
      refine ⟨some ad, _, rfl, hl, hm, (fun e => by cases e), fun ad' e j u hu => ?_⟩
      cases e
      obtain ⟨x, h1, h2⟩ := flat_at cells K hK0 hK _ j u hu
      have hi : j / K < len := by
        have := (List.getElem?_eq_some_iff.1 h1).1
        simpa using this
      have hgx : g (j / K) = x := by
        have : ((List.range len).map g)[j / K]? = some (g (j / K)) := by simp [hi]
        rw [this] at h1; exact Option.some.inj h1
      obtain ⟨_, _, hcc⟩ := World.cells?_some (hg (j / K) hi).1
      have hcj := hcc (j % K) (Nat.mod_lt _ hK0)
      rw [Go.Deep.add_add, hgx, h2, Nat.mul_comm, Nat.div_add_mod] at hcj
      exact hcj
    · intro f hf
      obtain ⟨i, hi, rfl⟩ := List.mem_map.1 hf
      exact (hg i (List.mem_range.1 hi)).2
theorem bo_sOf (s : ByteArray) : sOf s.data.toList = s := by cases s; simp [sOf]
theorem bo_cellsS : Tryd.prog.cellsOf 9 = 1 := by kernel_rfl
theorem bo_cellsI : Tryd.prog.cellsOf 3 = 1 := by kernel_rfl
theorem bo_cellsA : Tryd.prog.cellsOf 49 = 3 := by kernel_rfl
theorem bo_cellsF : Tryd.prog.cellsOf 58 = 2 := by kernel_rfl
set_option maxRecDepth 100000 in
theorem act_one {base : Nat} {sp : Nat → Bool} {held : Bool} {n : Nat} {cs : List Value} {d : DataW H} {p : List MemPlace} (h : DataW.trod enc Tryd.prog w base sp held n 49 cs = some (d, p)) (hz : Rows.uptoBulk d ≤ 1048576) :
    ∃ x : BAct, cs = actV x ∧ x.2.1.length ≤ 1048576 := by
  obtain ⟨xs, n', _, hx, hlen, hxl, hf⟩ := DataW.trod_struct Tryd.underlying49 h
  simp only [Prod.mk.injEq] at hx
  obtain ⟨rfl, rfl⟩ := hx
  rw [bo_cellsA] at hlen
  match cs, hlen, xs, hxl with
  | [c0, c1, c2], _, [y0, y1, y2], _ =>
    have g0 : DataW.trod enc Tryd.prog w base sp held n' 3 [c0] = some y0 := by have := hf 0 _ rfl; simpa [bo_cellsI] using this
    have g1 : DataW.trod enc Tryd.prog w base sp held n' 9 [c1] = some y1 := by have := hf 1 _ rfl; simpa [bo_cellsS] using this
    have g2 : DataW.trod enc Tryd.prog w base sp held n' 9 [c2] = some y2 := by have := hf 2 _ rfl; simpa [bo_cellsS] using this
    obtain ⟨x0, e0, rfl, _⟩ := DataW.trod_int Tryd.underlying3 g0
    obtain ⟨s1, e1, rfl, _⟩ := DataW.trod_string Tryd.underlying9 g1
    obtain ⟨s2, e2, rfl, _⟩ := DataW.trod_string Tryd.underlying9 g2
    simp only [List.cons.injEq, and_true] at e0 e1 e2
    subst e0 e1 e2
    refine ⟨(x0, s1.data.toList, s2), by simp [actV, bo_sOf], ?_⟩
    simp [Rows.uptoBulk, Rows.uptoBulkAll] at hz
    simp
    omega
set_option maxRecDepth 100000 in
theorem flt_one {base : Nat} {sp : Nat → Bool} {held : Bool} {n : Nat} {cs : List Value} {d : DataW H} {p : List MemPlace} (h : DataW.trod enc Tryd.prog w base sp held n 58 cs = some (d, p)) (hz : Rows.uptoBulk d ≤ 1048576) :
    ∃ x : BFlt, cs = fltV x ∧ x.1.length ≤ 1048576 := by
  obtain ⟨xs, n', _, hx, hlen, hxl, hf⟩ := DataW.trod_struct Tryd.underlying58 h
  simp only [Prod.mk.injEq] at hx
  obtain ⟨rfl, rfl⟩ := hx
  rw [bo_cellsF] at hlen
  match cs, hlen, xs, hxl with
  | [c0, c1], _, [y0, y1], _ =>
    have g0 : DataW.trod enc Tryd.prog w base sp held n' 9 [c0] = some y0 := by have := hf 0 _ rfl; simpa [bo_cellsS] using this
    have g1 : DataW.trod enc Tryd.prog w base sp held n' 3 [c1] = some y1 := by have := hf 1 _ rfl; simpa [bo_cellsI] using this
    obtain ⟨s0, e0, rfl, _⟩ := DataW.trod_string Tryd.underlying9 g0
    obtain ⟨x1, e1, rfl, _⟩ := DataW.trod_int Tryd.underlying3 g1
    simp only [List.cons.injEq, and_true] at e0 e1
    subst e0 e1
    refine ⟨(s0.data.toList, x1), by simp [fltV, bo_sOf], ?_⟩
    simp [Rows.uptoBulk, Rows.uptoBulkAll] at hz
    simp
    omega
set_option maxRecDepth 100000 in
theorem open_acts {r : Reach} {b0 : Nat} {v : Value} {d : DataW H} {ps : List MemPlace} (hval : Value.okWide Tryd.prog w r b0 40 v)
    (h : DataW.Trod enc Tryd.prog w 0 (fun _ => true) true 40 v d ps) (hz : Rows.uptoBulk d ≤ 1048576) : ∃ l : List BAct, Acts w v l ∧ ∀ x ∈ l, x.2.1.length ≤ 1048576 :=
  open_rowsU 1048576 actV 3 (by decide) (fun _ => rfl) Tryd.underlying40 bo_cellsA (fun x => x.2.1.length ≤ 1048576) (fun n cs d p h hz => act_one h hz) hval h hz
set_option maxRecDepth 100000 in
theorem open_flts {r : Reach} {b0 : Nat} {v : Value} {d : DataW H} {ps : List MemPlace} (hval : Value.okWide Tryd.prog w r b0 26 v)
    (h : DataW.Trod enc Tryd.prog w 0 (fun _ => true) true 26 v d ps) (hz : Rows.uptoBulk d ≤ 1048576) : ∃ l : List BFlt, Flts w v l ∧ ∀ x ∈ l, x.1.length ≤ 1048576 :=
  open_rowsU 1048576 fltV 2 (by decide) (fun _ => rfl) Tryd.underlying26 bo_cellsF (fun x => x.1.length ≤ 1048576) (fun n cs d p h hz => flt_one h hz) hval h hz
end
end Go.Proofs.YtclicjokgfiegaaDoor

/- Births: the last that was put is there: BirthsLast: the walk. -/
namespace Go.Proofs.YtclicjokgfiegaaDoor
open Go.RowKit
set_option linter.unusedVariables false
set_option linter.unusedSimpArgs false

theorem last_ranks {g n d t1 t5 : List UInt8} (h1 : sPut ⟨1, g, n, []⟩ = (t1, 0)) (h5 : sPut ⟨5, g, n, d⟩ = (t5, 0)) : bRank t1 = some (t1, []) ∧ bRank t5 = some (t1, t5) ∧ t5 ≠ [] ∧ t1.length ≤ 96 ∧ t5.length ≤ 96 := by
  have p1 := tell_put (s := ⟨1, g, n, []⟩) (by rw [h1])
  have p5 := tell_put (s := ⟨5, g, n, d⟩) (by rw [h5])
  have l1 := put_len ⟨1, g, n, []⟩
  have l5 := put_len ⟨5, g, n, d⟩
  rw [h1] at p1 l1
  rw [h5] at p5 l5
  obtain ⟨_, hd⟩ := put_five (g := g) (n := n) (d := d) (by rw [h5])
  have n5 := name_ne p5.2
  have n1 := name_ne p1.2
  refine ⟨bRank_one (by rw [p1.1]), ?_, n5, l1, l5⟩
  rw [bRank_five (by rw [p5.1]), p5.1]
  have hs : sBirths ⟨5, g, n, d⟩ = (t1, t5) := by
    unfold sBirths
    simp only [h1, h5]
    simp [hd]
  rw [hs, if_neg n1]
theorem putL_len (l : List Bir) (t : List UInt8) (u : ByteArray) : (bPutL l t u).length ≤ l.length + 1 := by
  unfold bPutL
  split
  · omega
  · split
    · omega
    · rw [bPut_len]; have := lose_len l ‹Rk›; omega
theorem putL_sorted {l : List Bir} (h : Sorted l) (t : List UInt8) (u : ByteArray) : Sorted (bPutL l t u) := by
  unfold bPutL
  split
  · exact h
  · split
    · exact h
    · exact put_sorted h _ _
theorem putE_room {l : List Bir} {t : List UInt8} {k : Rk} (h : bRank t = some k) (hl : l.length < 40) : bPutE l t = 0 := by
  unfold bPutE
  rw [h]
  simp only
  rw [if_neg (by unfold bFull; omega)]
theorem putL_room {l : List Bir} {t : List UInt8} {k : Rk} (h : bRank t = some k) (hl : l.length < 40) (u : ByteArray) : bPutL l t u = bPut l k u := by
  unfold bPutL
  rw [h]
  simp only
  rw [if_neg (by unfold bFull; omega)]
/-- What a row of puts keeps. -/
structure PutI (w : World) (g : Nat) (n : Nat) (l : List Bir) (v : Value) (w' : World) : Prop where
  at' : BsAt w' g v l
  sorted : Sorted l
  len : l.length ≤ n
  low : w.heap.size ≤ g
  own : ∀ k, k ∈ blk v → w.heap.size ≤ k
  below : Below w.heap.size w w'
theorem PutI.put {w w1 w2 : World} {g n : Nat} {l : List Bir} {v v' : Value} (h : PutI w g n l v w1) {t : List UInt8} {u : ByteArray} (hb : Bd w1 g v v' (bPutL l t u) w2) : PutI w g (n + 1) (bPutL l t u) v' w2 :=
  ⟨hb.at', putL_sorted h.sorted t u, by have := putL_len l t u; have := h.len; omega, h.low, fun k hk => by
    rcases hb.new k hk with h1 | h1
    · exact h.own k h1
    · have := h.below.size; omega, h.below.trans (keeps_own hb.keeps h.low h.own h.below.size)⟩
theorem PutI.on {w w1 w2 : World} {g n : Nat} {l : List Bir} {v : Value} (h : PutI w g n l v w1) (hb : Below w1.heap.size w1 w2) : PutI w g n l v w2 :=
  ⟨h.at'.below hb, h.sorted, h.len, h.low, h.own, Below.up h.below hb⟩
theorem PutI.drop {w w1 w2 : World} {g n n' : Nat} {l l' : List Bir} {v v' : Value} (h : PutI w g n l v w1) (hs : Sorted l') (hl : l'.length ≤ n') (hb : Bd w1 g v v' l' w2) : PutI w g n' l' v' w2 :=
  ⟨hb.at', hs, hl, h.low, fun k hk => by
    rcases hb.new k hk with h1 | h1
    · exact h.own k h1
    · have := h.below.size; omega, h.below.trans (keeps_own hb.keeps h.low h.own h.below.size)⟩
set_option maxRecDepth 100000 in
set_option maxHeartbeats 4000000 in
theorem BirthsLast_s (va : Value) (acts : List BAct) (gr nm dv tx : ByteArray) (w : World) (hE : EnvU w) (hW : EnvW w) (hva : Acts w va acts) (hac : ∀ a ∈ acts, a.2.1.length ≤ 1048576) (hg : gr.size ≤ 140737488351232) (hn : nm.size ≤ 140737488351232) (hdv : dv.size ≤ 140737488351232) (htx : tx.size ≤ 140737488351232) :
    Calls Tryd.prog 5 #[va, .string gr, .string nm, .string dv, .string tx] w fun e w' => e = .returned (.bool true) ∧ Below w.heap.size w w' := by
  obtain ⟨a, ca, rfl⟩ := hva.slice
  have hm := hva.len
  unfold maxLen at hm
  have HE := hd hE; have HW := hd hW; have HVA := hd hva; have HAC := hd hac
  clear hE hW hva hac
  have eg : sOf (sB gr) = gr := sOf_sBL gr
  have en : sOf (sB nm) = nm := sOf_sBL nm
  have ed : sOf (sB dv) = dv := sOf_sBL dv
  have zg : (sB gr).length ≤ 9223372036854775000 := by rw [sB_len]; omega
  have zn : (sB nm).length ≤ 9223372036854775000 := by rw [sB_len]; omega
  have zd : (sB dv).length ≤ 9223372036854775000 := by rw [sB_len]; omega
  generalize hG : sB gr = G at *
  generalize hN : sB nm = M at *
  generalize hD : sB dv = D at *
  subst eg en ed
  clear hG hN hD hg hn hdv
  have hp1 := fun W h1 h2 => sPut_c ⟨1, G, M, []⟩ W h1 h2 zg zn (by simp)
  have hp5 := fun W h1 h2 => sPut_c ⟨5, G, M, D⟩ W h1 h2 zg zn zd
  have hlr := fun t1 t5 => @last_ranks G M D t1 t5
  generalize sPut ⟨1, G, M, []⟩ = r1 at *
  generalize sPut ⟨5, G, M, D⟩ = r5 at *
  obtain ⟨t1, e1⟩ := r1
  obtain ⟨t5, e5⟩ := r5
  unfold spV at hp1 hp5
  rw [sOf_nilB] at hp1
  simp only at hp1 hp5
  have HP1 := hd hp1; have HP5 := hd hp5; have HLR := hd hlr
  clear hp1 hp5 hlr zg zn zd
  go_enter Tryd.func5, Tryd.ntmps5
  go_wp2_with fail
  refine (HP1.out _ HE.out HW.out).mono ?_
  rintro e w1 ⟨rfl, hb⟩
  go_wp2_with fail
  refine (HP5.out _ (HE.out.below hb) (HW.out.below hb (Nat.le_refl _))).mono ?_
  rintro e w2 ⟨rfl, hb2⟩
  replace hb := Below.up hb hb2
  clear hb2 HP1 HP5
  by_cases h1 : e1 = 0
  rotate_left
  · have h1b : (e1 != 0) = true := by simpa using h1
    go_wp2_with fail
    refine (awake36_c _ (HE.out.below hb) (HW.out.below hb (Nat.le_refl _))).mono ?_
    rintro e w3 ⟨rfl, hb3⟩
    go_wp2_with fail
    go_ret
    exact ⟨rfl, Below.up hb hb3⟩
  by_cases h5 : e5 = 0
  rotate_left
  · have h1b : (e1 != 0) = false := by simpa using h1
    have h5b : (e5 != 0) = true := by simpa using h5
    go_wp2_with fail
    refine (awake36_c _ (HE.out.below hb) (HW.out.below hb (Nat.le_refl _))).mono ?_
    rintro e w3 ⟨rfl, hb3⟩
    go_wp2_with fail
    go_ret
    exact ⟨rfl, Below.up hb hb3⟩
  subst h1 h5
  obtain ⟨hr1, hr5, hne, l1, l5⟩ := HLR.out t1 t5 rfl rfl
  clear HLR
  go_wp2_with fail
  refine (bNew_c _).mono ?_
  rintro e w3 ⟨rfl, hat, hb3⟩
  have I0 : PutI w w2.heap.size 0 [] (.slice none 0 0) w3 := ⟨hat, List.Pairwise.nil, by simp, hb.size, by simp [blk, Value.ownBlock], Below.up hb hb3⟩
  have hgs := hb.size
  generalize w2.heap.size = gb at *
  clear hb hat hb3
  have HR1 := hd hr1; have HR5 := hd hr5
  clear hr1 hr5
  go_wp2_with fail
  go_loopw [16] (fun i w' => ∃ (j : Nat) (l : List Bir) (v : Value), i = .int .i64 j ∧ j ≤ 20 ∧ j ≤ acts.length ∧ PutI w gb j l v w') (fun i _ => leftB 20 i)
  case atStart => exact ⟨0, [], _, rfl, by omega, by omega, I0⟩
  case round =>
    obtain ⟨j, l, v, rfl, hj, hja, I⟩ := hrel
    clear I0
    have HI := hd I
    clear I
    by_cases hgo : j < acts.length ∧ j < 20
    · obtain ⟨hj1, hj2⟩ := hgo
      obtain ⟨x, hx⟩ : ∃ x, acts[j]? = some x := ⟨_, List.getElem?_eq_getElem hj1⟩
      obtain ⟨b, o, rfl, hbl, x0, x1, x2⟩ := HVA.out.at hx
      have hxt := HAC.out x (List.mem_of_getElem? hx)
      have hbw := HI.out.below
      replace x1 := (bcell hbw.drew _ _ hbl).trans x1
      replace x2 := (bcell hbw.drew _ _ hbl).trans x2
      have hbd := hbw.drew
      have HI2 := hd (HI.out.on ((Below.refl wr.heap.size wr).drew))
      clear x0 hx HI hbw
      obtain ⟨xk, xt, xu⟩ := x
      simp only at x1 x2 hxt
      have hj3 : (j : Int) < 20 := by omega
      go_wp2_with fail
      refine wp_region_M (fun W => W.cell? ⟨b, o + j * 3 + 1, none⟩ = some (.string (sOf xt)) ∧ W.cell? ⟨b, o + j * 3 + 2, none⟩ = some (.string xu)) 11 [(0, false), (1, false), (2, false), (3, false), (4, false), (5, false), (6, false), (7, false), (8, false), (9, false), (10, false), (11, true)] (by kernel_rfl) (by kernel_rfl) (fun _ _ _ _ h => h) ⟨x1, x2⟩ ?_
      generalize wr.drew = w4 at *
      apply wpM_still (by rfl) (by rfl)
      · intro W hC
        obtain ⟨g1, g2⟩ := hC
        go_simp
        rfl
      go_simp
      apply wpM_still (by rfl) (by rfl)
      · intro W hC
        obtain ⟨g1, g2⟩ := hC
        go_simp
        rfl
      go_simp
      apply wpM_still (by rfl) (by rfl)
      · intro W hC
        obtain ⟨g1, g2⟩ := hC
        go_simp
        rfl
      go_simp
      apply wpM_still (by rfl) (by rfl)
      · intro W hC
        obtain ⟨g1, g2⟩ := hC
        go_simp
        rfl
      go_simp
      apply wpM_still (by rfl) (by rfl)
      · intro W hC
        obtain ⟨g1, g2⟩ := hC
        go_simp
        rfl
      go_simp
      apply wpM_still (by rfl) (by rfl)
      · intro W hC
        obtain ⟨g1, g2⟩ := hC
        go_simp
        rfl
      go_simp
      apply wpM_still (by rfl) (by rfl)
      · intro W hC
        obtain ⟨g1, g2⟩ := hC
        go_simp
        rfl
      go_simp
      apply wpM_still (by rfl) (by rfl)
      · intro W hC
        obtain ⟨g1, g2⟩ := hC
        go_simp
        rfl
      go_simp
      apply wpM_still (by rfl) (by rfl)
      · intro W hC
        obtain ⟨g1, g2⟩ := hC
        go_simp
        rfl
      go_simp
      apply wpM_still (by rfl) (by rfl)
      · intro W hC
        obtain ⟨g1, g2⟩ := hC
        go_simp
        rfl
      go_simp
      apply wpM_still (by rfl) (by rfl)
      · intro W hC
        obtain ⟨g1, g2⟩ := hC
        go_simp
        rfl
      go_simp
      apply wpM_move (by rfl) (by rfl)
      intro K hK
      go_simp
      refine (bPut_c gb _ l xt xu w4 (HE.out.below hbd) (HW.out.below hbd (Nat.le_refl _)) (by omega) HI2.out.at' HI2.out.sorted (by have := HI2.out.len; omega)).mono ?_
      rintro e w5 ⟨rfl, v', hbd5⟩
      go_simp
      have HI5 := hd (HI2.out.put hbd5)
      clear HI2 hbd5
      refine hK _ _ (fun h => absurd h (by decide)) ?_
      clear hK K
      refine wpM_nil ?_
      have hw1 : IntKind.i64.wrap ((j : Int) + 1) = (j : Int) + 1 := IntWalk.i64_in _ (by omega)
      go_wp2_with fail
      go_roundw
      case rel => exact ⟨j + 1, _, v', rfl, by omega, by omega, HI5.out⟩
      case measure => simp [leftB]; omega
    · have hl40 : l.length ≤ 20 := by have := HI.out.len; omega
      have HS := HI.out.sorted
      have hor : (acts.length : Int) ≤ (j : Int) ∨ ((j : Int) = 20 ∧ (20 : Int) < (acts.length : Int)) := by omega
      have hLP := @last_all l HS t1 t5 hne tx (tx ++ ⟨#[33]⟩) (tx ++ ⟨#[63]⟩)
      have hlen1 : (bPut l (t1, []) tx).length ≤ l.length + 1 := by rw [bPut_len]; have := lose_len l (t1, []); omega
      have hlen2 : (bPut (bPut l (t1, []) tx) (t1, t5) (tx ++ ⟨#[33]⟩)).length ≤ l.length + 2 := by rw [bPut_len]; have := lose_len (bPut l (t1, []) tx) (t1, t5); omega
      have hlen3 : (bPut (bPut (bPut l (t1, []) tx) (t1, t5) (tx ++ ⟨#[33]⟩)) (t1, []) (tx ++ ⟨#[63]⟩)).length = (bLose (bPut (bPut l (t1, []) tx) (t1, t5) (tx ++ ⟨#[33]⟩)) (t1, [])).length + 1 := bPut_len _ _ _
      have hll3 := lose_len (bPut (bPut l (t1, []) tx) (t1, t5) (tx ++ ⟨#[33]⟩)) (t1, [])
      have s1 := put_sorted HS (t1, []) tx
      have s2 := put_sorted s1 (t1, t5) (tx ++ ⟨#[33]⟩)
      have s3 := put_sorted s2 (t1, []) (tx ++ ⟨#[63]⟩)
      have s4 := lose_sorted s3 (t1, [])
      obtain ⟨qa, qb, qc, qd, qe, qf⟩ := hLP
      rw [qe] at s4
      have E1 := putE_room (l := l) (t := t1) (k := (t1, [])) HR1.out (by omega)
      have F1 := putL_room (l := l) (t := t1) (k := (t1, [])) HR1.out (by omega) tx
      generalize hL1 : bPut l (t1, []) tx = L1 at *
      have E2 := putE_room (l := L1) (t := t5) (k := (t1, t5)) HR5.out (by omega)
      have F2 := putL_room (l := L1) (t := t5) (k := (t1, t5)) HR5.out (by omega) (tx ++ ⟨#[33]⟩)
      generalize hL2 : bPut L1 (t1, t5) (tx ++ ⟨#[33]⟩) = L2 at *
      have E3 := putE_room (l := L2) (t := t1) (k := (t1, [])) HR1.out (by omega)
      have F3 := putL_room (l := L2) (t := t1) (k := (t1, [])) HR1.out (by omega) (tx ++ ⟨#[63]⟩)
      generalize hL3 : bPut L2 (t1, []) (tx ++ ⟨#[63]⟩) = L3 at *
      have G4 : bDropL L3 t1 = bLose L2 (t1, []) := by unfold bDropL; rw [HR1.out]; exact qe
      have N4 : bDropN L3 t1 = 1 := by unfold bDropN; rw [HR1.out]; simp only; rw [qe]; omega
      generalize hL4 : bLose L2 (t1, []) = L4 at *
      have N5 : bDropN L4 t5 = 0 := by unfold bDropN; rw [HR5.out]; simp only; rw [qf]; omega
      have hg1 : (bRank t1).bind (bGet L2) = some tx := by rw [HR1.out]; exact qa
      have hg2 : (bRank t5).bind (bGet L2) = some (tx ++ ⟨#[33]⟩) := by rw [HR5.out]; exact qb
      have hg3 : (bRank t1).bind (bGet L3) = some (tx ++ ⟨#[63]⟩) := by rw [HR1.out]; exact qc
      have hg4 : (bRank t5).bind (bGet L3) = none := by rw [HR5.out]; exact qd
      have hl2 : L2.length ≤ 100 := by omega
      have hl3 : L3.length ≤ 100 := by omega
      have hl4 : L4.length ≤ 100 := by omega
      have hl1 : L1.length ≤ 100 := by omega
      have hl43 : L4.length ≤ L2.length := hll3
      have hA1 : ∀ W : World, (Op.stringOp .add tx ⟨#[33]⟩).run Tryd.prog W = .ok (.string (tx ++ ⟨#[33]⟩)) W := fun W => run_string_add_sum W tx ⟨#[33]⟩ (by have : (⟨#[33]⟩ : ByteArray).size = 1 := rfl; omega)
      have hA2 : ∀ W : World, (Op.stringOp .add tx ⟨#[63]⟩).run Tryd.prog W = .ok (.string (tx ++ ⟨#[63]⟩)) W := fun W => run_string_add_sum W tx ⟨#[63]⟩ (by have : (⟨#[63]⟩ : ByteArray).size = 1 := rfl; omega)
      have HQ := hd (And.intro E1 (And.intro F1 (And.intro E2 (And.intro F2 (And.intro E3 (And.intro F3 (And.intro G4 (And.intro N4 N5))))))))
      have HG := hd (And.intro hg1 (And.intro hg2 (And.intro hg3 hg4)))
      have HS2 := hd (And.intro s1 (And.intro s2 (And.intro s3 s4)))
      clear E1 F1 E2 F2 E3 F3 G4 N4 N5 hg1 hg2 hg3 hg4 qa qb qc qd qe qf hlen1 hlen2 hlen3 hll3 hL1 hL2 hL3 hL4 s1 s2 s3 s4
      have hbw := HI.out.below
      have hB := bPut_c gb v l t1 tx wr (HE.out.below hbw) (HW.out.below hbw (Nat.le_refl _)) (by omega) HI.out.at' HI.out.sorted (by omega)
      rw [HQ.out.1] at hB
      have HB := hd hB
      clear hB hgo
      rcases hor with hor | ⟨hor, hor2⟩
      all_goals
        go_wp2_with fail
        refine HB.out.mono ?_
        rintro e w5 ⟨rfl, v5, hbd⟩
        have hI5 := HI.out.put hbd
        rw [HQ.out.2.1] at hI5
        have HI5 := hd hI5
        clear hI5 hbd HB HI
        go_wp2_with fail
        have hb6 := HI5.out.below
        have hP6 := bPut_c gb _ L1 t5 (tx ++ ⟨#[33]⟩) w5 (HE.out.below hb6) (HW.out.below hb6 (Nat.le_refl _)) (by omega) HI5.out.at' HI5.out.sorted (by omega)
        rw [HQ.out.2.2.1] at hP6
        refine hP6.mono ?_
        rintro e w6 ⟨rfl, v6, hbd⟩
        have hI6 := HI5.out.put hbd
        rw [HQ.out.2.2.2.1] at hI6
        have HI6 := hd hI6
        clear hI6 hP6 hbd HI5
        go_wp2_with fail
        have hb7 := HI6.out.below
        have hP7 := bGet_c gb _ L2 t1 w6 (HE.out.below hb7) (HW.out.below hb7 (Nat.le_refl _)) (by omega) HI6.out.at' HI6.out.sorted (by omega)
        rw [HG.out.1] at hP7
        refine hP7.mono ?_
        simp only [Option.getD_some, Option.isSome_some, Option.getD_none, Option.isSome_none]
        rintro e w7 ⟨rfl, hbk⟩
        have HI7 := hd (HI6.out.on hbk)
        clear hP7 hbk HI6
        go_wp2_with fail
        have hb8 := HI7.out.below
        have hP8 := bGet_c gb _ L2 t5 w7 (HE.out.below hb8) (HW.out.below hb8 (Nat.le_refl _)) (by omega) HI7.out.at' HI7.out.sorted (by omega)
        rw [HG.out.2.1] at hP8
        refine hP8.mono ?_
        simp only [Option.getD_some, Option.isSome_some, Option.getD_none, Option.isSome_none]
        rintro e w8 ⟨rfl, hbk⟩
        have HI8 := hd (HI7.out.on hbk)
        clear hP8 hbk HI7
        go_wp2_with fail
        have hb9 := HI8.out.below
        have hP9 := bPut_c gb _ L2 t1 (tx ++ ⟨#[63]⟩) w8 (HE.out.below hb9) (HW.out.below hb9 (Nat.le_refl _)) (by omega) HI8.out.at' HI8.out.sorted (by omega)
        rw [HQ.out.2.2.2.2.1] at hP9
        refine hP9.mono ?_
        rintro e w9 ⟨rfl, v9, hbd⟩
        have hI9 := HI8.out.put hbd
        rw [HQ.out.2.2.2.2.2.1] at hI9
        have HI9 := hd hI9
        clear hI9 hP9 hbd HI8
        go_wp2_with fail
        have hb10 := HI9.out.below
        have hP10 := bGet_c gb _ L3 t1 w9 (HE.out.below hb10) (HW.out.below hb10 (Nat.le_refl _)) (by omega) HI9.out.at' HI9.out.sorted (by omega)
        rw [HG.out.2.2.1] at hP10
        refine hP10.mono ?_
        simp only [Option.getD_some, Option.isSome_some, Option.getD_none, Option.isSome_none]
        rintro e w10 ⟨rfl, hbk⟩
        have HI10 := hd (HI9.out.on hbk)
        clear hP10 hbk HI9
        go_wp2_with fail
        have hb11 := HI10.out.below
        have hP11 := bGet_c gb _ L3 t5 w10 (HE.out.below hb11) (HW.out.below hb11 (Nat.le_refl _)) (by omega) HI10.out.at' HI10.out.sorted (by omega)
        rw [HG.out.2.2.2] at hP11
        refine hP11.mono ?_
        simp only [Option.getD_some, Option.isSome_some, Option.getD_none, Option.isSome_none]
        rintro e w11 ⟨rfl, hbk⟩
        have HI11 := hd (HI10.out.on hbk)
        clear hP11 hbk HI10
        go_wp2_with fail
        have hb12 := HI11.out.below
        have hP12 := bDrop_c gb _ L3 t1 w11 (HE.out.below hb12) (HW.out.below hb12 (Nat.le_refl _)) (by omega) HI11.out.at' (by omega)
        rw [HQ.out.2.2.2.2.2.2.2.1] at hP12
        refine hP12.mono ?_
        rintro e w12 ⟨rfl, v12, hbd⟩
        rw [HQ.out.2.2.2.2.2.2.1] at hbd
        have HI12 := hd (HI11.out.drop (l' := L4) (n' := 100) HS2.out.2.2.2 hl4 hbd)
        clear hbd HI11
        clear hP12
        go_wp2_with fail
        have hb13 := HI12.out.below
        have hP13 := bDrop_c gb _ L4 t5 w12 (HE.out.below hb13) (HW.out.below hb13 (Nat.le_refl _)) (by omega) HI12.out.at' (by omega)
        rw [HQ.out.2.2.2.2.2.2.2.2] at hP13
        refine hP13.mono ?_
        rintro e w13 ⟨rfl, v13, hbd⟩
        have hb14 := hb13.trans (keeps_own hbd.keeps HI12.out.low HI12.out.own hb13.size)
        clear hbd HI12
        clear hP13
        go_wp2_with fail
        refine (awake36_c _ (HE.out.below hb14) (HW.out.below hb14 (Nat.le_refl _))).mono ?_
        rintro e w15 ⟨rfl, hb15⟩
        go_wp2_with fail
        go_ret
        exact ⟨rfl, Below.up hb14 hb15⟩
end Go.Proofs.YtclicjokgfiegaaDoor
