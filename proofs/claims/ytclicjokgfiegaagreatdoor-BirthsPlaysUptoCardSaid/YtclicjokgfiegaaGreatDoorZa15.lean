/- A bundle of texts (merged for the limit on files): Bir8, BirOpen, Bir10, Bir9, Bir11, BirAll. -/
import Derived.Test.YtclicjokgfiegaaGreatDoorZa14
import Derived.Test.YtclicjokgfiegaaGreatDoorZa8
import Derived.Test.YtclicjokgfiegaaGreatDoorZa12
import Derived.Test.YtclicjokgfiegaaGreatDoorZa7
/- Births: one that nobody made; awake; BirthsZero: the walks. -/
namespace Go.Proofs.YtclicjokgfiegaaGreatDoor
open Go.RowKit
set_option linter.unusedVariables false
set_option linter.unusedSimpArgs false

theorem RsNil (w : World) : Rd w (.slice none 0 0) 0 [] := Rd.nil w
set_option maxRecDepth 100000 in
theorem bGetN_c (s : ByteArray) (w : World)  : Calls Tryz.prog 10 #[.pointer none, .string s] w fun e w' => e = .returned (.tuple #[.string ⟨#[]⟩, .bool false]) ∧ Below w.heap.size w w' := by
  go_enter Tryz.func10, Tryz.ntmps10
  go_wp2_with (first | (go_at_call 22; refine (bnoneN_c _).mono ?_; rintro e w' ⟨rfl, rfl⟩))
  go_ret2
  exact ⟨rfl, by go_grown⟩
set_option maxRecDepth 100000 in
theorem bGetZ_c (g : Nat) (s : ByteArray) (w : World) (hz : w.cell? ⟨g, 1, none⟩ = some (.bool false)) : Calls Tryz.prog 10 #[.pointer (some ⟨g, 0, none⟩), .string s] w fun e w' => e = .returned (.tuple #[.string ⟨#[]⟩, .bool false]) ∧ Below w.heap.size w w' := by
  go_enter Tryz.func10, Tryz.ntmps10
  go_wp2_with (first | (go_at_call 22; refine (bnoneZ_c _ _ hz).mono ?_; rintro e w' ⟨rfl, rfl⟩))
  go_ret2
  exact ⟨rfl, by go_grown⟩
set_option maxRecDepth 100000 in
theorem bPutN_c (s t : ByteArray) (w : World)  : Calls Tryz.prog 6 #[.pointer none, .string s, .string t] w fun e w' => e = .returned (.int .i64 8) ∧ Below w.heap.size w w' := by
  go_enter Tryz.func6, Tryz.ntmps6
  go_wp2_with (first | (go_at_call 22; refine (bnoneN_c _).mono ?_; rintro e w' ⟨rfl, rfl⟩))
  go_ret
  exact ⟨rfl, by go_grown⟩
set_option maxRecDepth 100000 in
theorem bPutZ_c (g : Nat) (s t : ByteArray) (w : World) (hz : w.cell? ⟨g, 1, none⟩ = some (.bool false)) : Calls Tryz.prog 6 #[.pointer (some ⟨g, 0, none⟩), .string s, .string t] w fun e w' => e = .returned (.int .i64 8) ∧ Below w.heap.size w w' := by
  go_enter Tryz.func6, Tryz.ntmps6
  go_wp2_with (first | (go_at_call 22; refine (bnoneZ_c _ _ hz).mono ?_; rintro e w' ⟨rfl, rfl⟩))
  go_ret
  exact ⟨rfl, by go_grown⟩
set_option maxRecDepth 100000 in
theorem bDropN_c (s : ByteArray) (w : World)  : Calls Tryz.prog 8 #[.pointer none, .string s] w fun e w' => e = .returned (.int .i64 0) ∧ Below w.heap.size w w' := by
  go_enter Tryz.func8, Tryz.ntmps8
  go_wp2_with (first | (go_at_call 22; refine (bnoneN_c _).mono ?_; rintro e w' ⟨rfl, rfl⟩))
  go_ret
  exact ⟨rfl, by go_grown⟩
set_option maxRecDepth 100000 in
theorem bDropZ_c (g : Nat) (s : ByteArray) (w : World) (hz : w.cell? ⟨g, 1, none⟩ = some (.bool false)) : Calls Tryz.prog 8 #[.pointer (some ⟨g, 0, none⟩), .string s] w fun e w' => e = .returned (.int .i64 0) ∧ Below w.heap.size w w' := by
  go_enter Tryz.func8, Tryz.ntmps8
  go_wp2_with (first | (go_at_call 22; refine (bnoneZ_c _ _ hz).mono ?_; rintro e w' ⟨rfl, rfl⟩))
  go_ret
  exact ⟨rfl, by go_grown⟩
set_option maxRecDepth 100000 in
theorem bLenN_c (w : World)  : Calls Tryz.prog 14 #[.pointer none] w fun e w' => e = .returned (.int .i64 0) ∧ Below w.heap.size w w' := by
  go_enter Tryz.func14, Tryz.ntmps14
  go_wp2_with (first | (go_at_call 22; refine (bnoneN_c _).mono ?_; rintro e w' ⟨rfl, rfl⟩))
  go_ret
  exact ⟨rfl, by go_grown⟩
set_option maxRecDepth 100000 in
theorem bLenZ_c (g : Nat) (w : World) (hz : w.cell? ⟨g, 1, none⟩ = some (.bool false)) : Calls Tryz.prog 14 #[.pointer (some ⟨g, 0, none⟩)] w fun e w' => e = .returned (.int .i64 0) ∧ Below w.heap.size w w' := by
  go_enter Tryz.func14, Tryz.ntmps14
  go_wp2_with (first | (go_at_call 22; refine (bnoneZ_c _ _ hz).mono ?_; rintro e w' ⟨rfl, rfl⟩))
  go_ret
  exact ⟨rfl, by go_grown⟩
set_option maxRecDepth 100000 in
theorem thoseN_c (f : Value) (w : World)  : Calls Tryz.prog 29 #[.pointer none, f] w fun e w' => e = .returned (.slice none 0 0) ∧ Below w.heap.size w w' := by
  go_enter Tryz.func29, Tryz.ntmps29
  go_wp2_with (first | (go_at_call 22; refine (bnoneN_c _).mono ?_; rintro e w' ⟨rfl, rfl⟩))
  go_ret
  exact ⟨rfl, by go_grown⟩
set_option maxRecDepth 100000 in
theorem thoseZ_c (g : Nat) (f : Value) (w : World) (hz : w.cell? ⟨g, 1, none⟩ = some (.bool false)) : Calls Tryz.prog 29 #[.pointer (some ⟨g, 0, none⟩), f] w fun e w' => e = .returned (.slice none 0 0) ∧ Below w.heap.size w w' := by
  go_enter Tryz.func29, Tryz.ntmps29
  go_wp2_with (first | (go_at_call 22; refine (bnoneZ_c _ _ hz).mono ?_; rintro e w' ⟨rfl, rfl⟩))
  go_ret
  exact ⟨rfl, by go_grown⟩
set_option maxRecDepth 100000 in
theorem bFindN_c (a : Option Addr) (n c : Nat) (w : World)  : Calls Tryz.prog 15 #[.pointer none, .slice a n c] w fun e w' => e = .returned (.slice none 0 0) ∧ Below w.heap.size w w' := by
  go_enter Tryz.func15, Tryz.ntmps15
  go_wp2_with fail
  refine (thoseN_c _ _).mono ?_
  rintro e w1 ⟨rfl, hb⟩
  go_wp2_with fail
  go_ret
  exact ⟨rfl, Below.up (by go_grown) hb⟩
set_option maxRecDepth 100000 in
theorem bFindZ_c (g : Nat) (a : Option Addr) (n c : Nat) (w : World) (hg : g < w.heap.size) (hz : w.cell? ⟨g, 1, none⟩ = some (.bool false)) : Calls Tryz.prog 15 #[.pointer (some ⟨g, 0, none⟩), .slice a n c] w fun e w' => e = .returned (.slice none 0 0) ∧ Below w.heap.size w w' := by
  have hz2 : (w.alloc (.cells #[.slice a n c] 23)).cell? ⟨g, 1, none⟩ = some (.bool false) := (bcell ((Below.refl w.heap.size w).alloc (Nat.le_refl _) _) g 1 hg).trans hz
  go_enter Tryz.func15, Tryz.ntmps15
  go_wp2_with fail
  refine (thoseZ_c g _ _ hz2).mono ?_
  rintro e w1 ⟨rfl, hb⟩
  go_wp2_with fail
  go_ret
  exact ⟨rfl, Below.up (by go_grown) hb⟩
set_option maxRecDepth 100000 in
theorem bAllN_c (w : World)  : Calls Tryz.prog 13 #[.pointer none] w fun e w' => e = .returned (.slice none 0 0) ∧ Below w.heap.size w w' := by
  go_enter Tryz.func13, Tryz.ntmps13
  go_wp2_with fail
  refine (thoseN_c _ _).mono ?_
  rintro e w1 ⟨rfl, hb⟩
  go_wp2_with fail
  go_ret
  exact ⟨rfl, hb⟩
set_option maxRecDepth 100000 in
theorem bAllZ_c (g : Nat) (w : World) (hg : g < w.heap.size) (hz : w.cell? ⟨g, 1, none⟩ = some (.bool false)) : Calls Tryz.prog 13 #[.pointer (some ⟨g, 0, none⟩)] w fun e w' => e = .returned (.slice none 0 0) ∧ Below w.heap.size w w' := by
  have hz2 := hz
  go_enter Tryz.func13, Tryz.ntmps13
  go_wp2_with fail
  refine (thoseZ_c g _ _ hz2).mono ?_
  rintro e w1 ⟨rfl, hb⟩
  go_wp2_with fail
  go_ret
  exact ⟨rfl, hb⟩

/-! ### awake -/
theorem keeps_own {w w2 w3 : World} {g : Nat} {v : Value} (hk : Keeps (g :: blk v) w2 w3) (hg : w.heap.size ≤ g) (hn : ∀ k, k ∈ blk v → w.heap.size ≤ k) (hs : w.heap.size ≤ w2.heap.size) : Below w.heap.size w2 w3 :=
  hk.toBelow hs (fun k hm => by
    rcases List.mem_cons.1 hm with rfl | hm
    · exact hg
    · exact hn k hm)
def tNB : List UInt8 := [115, 112, 66, 118, 49, 46, 48, 47, 103, 47, 78, 66, 73, 82, 84, 72, 47, 110]
def tDB : List UInt8 := [115, 112, 66, 118, 49, 46, 48, 47, 103, 47, 68, 66, 73, 82, 84, 72, 47, 110, 47, 100]
theorem rkNB : bRank tNB = some (tNB, []) := by decide +kernel
theorem rkDB : bRank tDB = some (tNB, tDB) := by decide +kernel
theorem aw0 : bPutL [] tNB ⟨#[120]⟩ = [((tNB, []), ⟨#[120]⟩)] := by unfold bPutL; rw [rkNB]; decide +kernel
theorem aw1 : bPutL [((tNB, []), ⟨#[120]⟩)] tDB ⟨#[121]⟩ = [((tNB, []), ⟨#[120]⟩), ((tNB, tDB), ⟨#[121]⟩)] := by unfold bPutL; rw [rkDB]; decide +kernel
theorem aw2 : bPutL [((tNB, []), ⟨#[120]⟩), ((tNB, tDB), ⟨#[121]⟩)] tNB ⟨#[122]⟩ = [((tNB, []), ⟨#[122]⟩)] := by unfold bPutL; rw [rkNB]; decide +kernel
theorem aw3 : bGet [((tNB, []), ⟨#[122]⟩)] (tNB, []) = some ⟨#[122]⟩ := by decide +kernel
theorem awE0 : bPutE [] tNB = 0 := by unfold bPutE; rw [rkNB]; decide +kernel
theorem awE1 : bPutE [((tNB, []), ⟨#[120]⟩)] tDB = 0 := by unfold bPutE; rw [rkDB]; decide +kernel
theorem awE2 : bPutE [((tNB, []), ⟨#[120]⟩), ((tNB, tDB), ⟨#[121]⟩)] tNB = 0 := by unfold bPutE; rw [rkNB]; decide +kernel
theorem awS1 : Sorted [((tNB, []), ⟨#[120]⟩)] := List.pairwise_singleton _ _
theorem awS2 : Sorted [((tNB, []), ⟨#[120]⟩), ((tNB, tDB), ⟨#[121]⟩)] := by unfold Sorted; decide +kernel
theorem awS3 : Sorted [((tNB, []), ⟨#[122]⟩)] := List.pairwise_singleton _ _
set_option maxRecDepth 100000 in
set_option maxHeartbeats 4000000 in
theorem awake36_c (w : World) (hE : EnvU w) (hW : EnvW w) : Calls Tryz.prog 17 #[] w fun e w' => e = .returned (.bool true) ∧ Below w.heap.size w w' := by
  have HE := hd hE; have HW := hd hW
  clear hE hW
  go_enter Tryz.func17, Tryz.ntmps17
  go_wp2_with fail
  refine (bNew_c _).mono ?_
  rintro e w1 ⟨rfl, hat, hb⟩
  have HA := hd hat
  clear hat
  go_wp2_with fail
  refine (bPut_c w.heap.size _ [] tNB ⟨#[120]⟩ w1 (HE.out.below hb) (HW.out.below hb (Nat.le_refl _)) (by decide) HA.out List.Pairwise.nil (by decide)).mono ?_
  rintro e w2 ⟨rfl, v2, hbd⟩
  rw [aw0] at hbd
  rw [awE0]
  have b2 : Below w.heap.size w w2 := hb.trans (hbd.keeps.toBelow hb.size (by intro k hk; simp [blk, Value.ownBlock] at hk; omega))
  have hn2 : ∀ k, k ∈ blk v2 → w.heap.size ≤ k := fun k hk => by
    rcases hbd.new k hk with h | h
    · simp [blk, Value.ownBlock] at h
    · have := hb.size; omega
  have HA := hd hbd.at'
  clear hbd
  go_wp2_with fail
  refine (bPut_c w.heap.size _ _ tDB ⟨#[121]⟩ w2 (HE.out.below b2) (HW.out.below b2 (Nat.le_refl _)) (by decide) HA.out awS1 (by decide)).mono ?_
  rintro e w3 ⟨rfl, v3, hbd⟩
  rw [aw1] at hbd
  rw [awE1]
  have b3 : Below w.heap.size w w3 := b2.trans (keeps_own hbd.keeps (Nat.le_refl _) hn2 b2.size)
  have hn3 : ∀ k, k ∈ blk v3 → w.heap.size ≤ k := fun k hk => by
    rcases hbd.new k hk with h | h
    · exact hn2 k h
    · have := b2.size; omega
  have HA := hd hbd.at'
  clear hbd
  go_wp2_with fail
  refine (bPut_c w.heap.size _ _ tNB ⟨#[122]⟩ w3 (HE.out.below b3) (HW.out.below b3 (Nat.le_refl _)) (by decide) HA.out awS2 (by decide)).mono ?_
  rintro e w4 ⟨rfl, v4, hbd⟩
  rw [aw2] at hbd
  rw [awE2]
  have b4 : Below w.heap.size w w4 := b3.trans (keeps_own hbd.keeps (Nat.le_refl _) hn3 b3.size)
  have HA := hd hbd.at'
  clear hbd
  go_wp2_with fail
  refine (bGet_c w.heap.size _ _ tNB w4 (HE.out.below b4) (HW.out.below b4 (Nat.le_refl _)) (by decide) HA.out awS3 (by decide)).mono ?_
  rw [rkNB, Option.bind_some, aw3]
  rintro e w5 ⟨rfl, hb5⟩
  have HA5 := hd (HA.out.below hb5)
  have b5 := Below.up b4 hb5
  simp only [Option.getD_some, Option.isSome_some]
  go_wp2_with fail
  refine (bLen_c w.heap.size _ _ w5 HA5.out).mono ?_
  rintro e w6 ⟨rfl, rfl⟩
  go_wp2_with fail
  go_ret
  exact ⟨rfl, b5⟩

end Go.Proofs.YtclicjokgfiegaaGreatDoor

/- Births: what acts and filters that came in read as. Of no function of the program. -/
namespace Go.Proofs.YtclicjokgfiegaaGreatDoor
open Go.ChangeShapes Go.WideShapes Go.ChangeAt Go.RowKit
set_option linter.unusedVariables false
set_option linter.unusedSimpArgs false

abbrev BAct := Int × List UInt8 × ByteArray
def actV (a : BAct) : List Value := [.int .i64 a.1, .string (sOf a.2.1), .string a.2.2]
abbrev BFlt := List UInt8 × Int
def fltV (f : BFlt) : List Value := [.string (sOf f.1), .int .i64 f.2]
def Acts (w : World) (v : Value) (l : List BAct) : Prop := Rd w v l.length (l.flatMap actV)
def Flts (w : World) (v : Value) (l : List BFlt) : Prop := Rd w v l.length (l.flatMap fltV)
theorem flatC_at {α : Type} (cells : α → List Value) (K : Nat) (hK : ∀ x, (cells x).length = K) : ∀ (l : List α) (k : Nat) (x : α), l[k]? = some x → ∀ j v, (cells x)[j]? = some v → (l.flatMap cells)[k * K + j]? = some v
  | [], k, x, h => by simp at h
  | y :: t, 0, x, h => by
    intro j v hv
    simp only [List.getElem?_cons_zero, Option.some.injEq] at h
    subst h
    rw [List.flatMap_cons, Nat.zero_mul, Nat.zero_add, List.getElem?_append_left (List.getElem?_eq_some_iff.1 hv).1]
    exact hv
  | y :: t, k + 1, x, h => by
    intro j v hv
    rw [List.getElem?_cons_succ] at h
    have := flatC_at cells K hK t k x h j v hv
    have e : (k + 1) * K + j = K + (k * K + j) := by rw [Nat.add_mul]; omega
    rw [List.flatMap_cons, List.getElem?_append_right (by rw [hK, e]; omega), hK, e, Nat.add_sub_cancel_left]
    exact this
theorem rowC_at {α : Type} (cells : α → List Value) (K : Nat) (hK0 : 0 < K) (hK : ∀ x, (cells x).length = K) {w : World} {a : Option Addr} {n c : Nat} {l : List α} (h : Rd w (.slice a n c) l.length (l.flatMap cells)) {k : Nat} {x : α} (hk : l[k]? = some x) :
    ∃ b o, a = some ⟨b, o, none⟩ ∧ b < w.heap.size ∧ ∀ j v, (cells x)[j]? = some v → w.cell? ⟨b, o + k * K + j, none⟩ = some v := by
  have hx := flatC_at cells K hK l k x hk
  rcases Rd.split h with ⟨hn, _⟩ | ⟨_, b, o, c', hv, _, _, hlt, hcell⟩
  · have h0 : ∃ v, (cells x)[0]? = some v := ⟨_, List.getElem?_eq_getElem (by rw [hK]; exact hK0)⟩
    obtain ⟨v, hv⟩ := h0
    have := hx 0 v hv
    rw [hn] at this
    simp at this
  · simp only [Value.slice.injEq] at hv
    refine ⟨b, o, hv.1, hlt, fun j v hj => ?_⟩
    have := hcell _ _ (hx j v hj)
    rwa [← Nat.add_assoc] at this
theorem Acts.at {w : World} {a : Option Addr} {n c : Nat} {l : List BAct} (h : Acts w (.slice a n c) l) {k : Nat} {x : BAct} (hk : l[k]? = some x) :
    ∃ b o, a = some ⟨b, o, none⟩ ∧ b < w.heap.size ∧ w.cell? ⟨b, o + k * 3, none⟩ = some (.int .i64 x.1) ∧ w.cell? ⟨b, o + k * 3 + 1, none⟩ = some (.string (sOf x.2.1)) ∧ w.cell? ⟨b, o + k * 3 + 2, none⟩ = some (.string x.2.2) := by
  obtain ⟨b, o, h1, h2, h3⟩ := rowC_at actV 3 (by decide) (fun _ => rfl) h hk
  exact ⟨b, o, h1, h2, h3 0 _ rfl, h3 1 _ rfl, h3 2 _ rfl⟩
theorem Flts.at {w : World} {a : Option Addr} {n c : Nat} {l : List BFlt} (h : Flts w (.slice a n c) l) {k : Nat} {x : BFlt} (hk : l[k]? = some x) :
    ∃ b o, a = some ⟨b, o, none⟩ ∧ b < w.heap.size ∧ w.cell? ⟨b, o + k * 2, none⟩ = some (.string (sOf x.1)) ∧ w.cell? ⟨b, o + k * 2 + 1, none⟩ = some (.int .i64 x.2) := by
  obtain ⟨b, o, h1, h2, h3⟩ := rowC_at fltV 2 (by decide) (fun _ => rfl) h hk
  exact ⟨b, o, h1, h2, h3 0 _ rfl, h3 1 _ rfl⟩
theorem Acts.slice {w : World} {v : Value} {l : List BAct} (h : Acts w v l) : ∃ a c, v = .slice a l.length c := by obtain ⟨a, c, hv, _⟩ := h; exact ⟨a, c, hv⟩
theorem Flts.slice {w : World} {v : Value} {l : List BFlt} (h : Flts w v l) : ∃ a c, v = .slice a l.length c := by obtain ⟨a, c, hv, _⟩ := h; exact ⟨a, c, hv⟩
theorem Acts.len {w : World} {v : Value} {l : List BAct} (h : Acts w v l) : l.length ≤ maxLen := Rd.len h
theorem Flts.len {w : World} {v : Value} {l : List BFlt} (h : Flts w v l) : l.length ≤ maxLen := Rd.len h

theorem bulk_mem {H : Type} : ∀ {ds : List (DataW H)} {d : DataW H}, d ∈ ds → Rows.uptoBulk d ≤ Rows.uptoBulkAll ds
  | d0 :: ds, d, hm => by
    rcases List.mem_cons.1 hm with rfl | hm
    · simp only [Rows.uptoBulkAll]; omega
    · have := bulk_mem hm
      simp only [Rows.uptoBulkAll]; omega
section
variable {H : Type} {enc : TypeId × Value → H} {w : World}
set_option maxRecDepth 100000 in
/-- As open_rows, where the whole is of bulk at most B. -/
theorem open_rowsU {α : Type} [Inhabited α] (B : Nat) (cells : α → List Value) (K : Nat) (hK0 : 0 < K) (hK : ∀ x, (cells x).length = K) {t e : TypeId} (ht : Tryz.prog.underlying t = some (.slice e)) (hc : Tryz.prog.cellsOf e = K) (Good : α → Prop)
    (one : ∀ n cs d p, DataW.trod enc Tryz.prog w 0 (fun _ => true) true n e cs = some (d, p) → Rows.uptoBulk d ≤ B → ∃ x, cs = cells x ∧ Good x)
    {r : Reach} {b0 : Nat} {v : Value} {d : DataW H} {ps : List MemPlace} (hval : Value.okWide Tryz.prog w r b0 t v)
    (h : DataW.Trod enc Tryz.prog w 0 (fun _ => true) true t v d ps) (hz : Rows.uptoBulk d ≤ B) : ∃ l : List α, Rd w v l.length (l.flatMap cells) ∧ ∀ x ∈ l, Good x := by
  obtain ⟨a, len, cap, rfl⟩ := okWide_slice ht hval
  obtain ⟨fuel, hf⟩ := h
  have hf' : DataW.trod enc Tryz.prog w 0 (fun _ => true) true fuel t [.slice a len cap] = some (d, ps) := by simpa [Value.cells] using hf
  rcases Go.Deep.open_slice ht hf' with ⟨hcs, hx⟩ | ⟨ad, len', cap', m, n, D, Pl, hcs, _, hl, hm, hmm, hx, hcell⟩
  · simp only [List.cons.injEq, Value.slice.injEq, and_true] at hcs
    obtain ⟨rfl, rfl, rfl⟩ := hcs
    exact ⟨[], Rd.nil w, by simp⟩
  · simp only [List.cons.injEq, Value.slice.injEq, and_true] at hcs
    obtain ⟨rfl, rfl, rfl⟩ := hcs
    simp only [if_true] at hmm
    subst hmm
    simp only [Prod.mk.injEq] at hx
    obtain ⟨rfl, _⟩ := hx
    simp only [Rows.uptoBulk] at hz
    have each : ∀ i, i < len → ∃ x : α, w.cells? 0 (ad.add (i * K)) K = some (cells x) ∧ Good x := by
      intro i hi
      obtain ⟨cs', h1, h2⟩ := hcell i (by omega)
      have hmem : D i ∈ (List.range len).map D := List.mem_map.2 ⟨i, List.mem_range.2 hi, rfl⟩
      obtain ⟨x, rfl, hg⟩ := one _ _ _ _ h2 (by have := bulk_mem hmem; omega)
      rw [hc] at h1
      exact ⟨x, h1, hg⟩
    obtain ⟨g, hg⟩ := Go.Deep.choose_lt each
    have hlen : ((List.range len).map g).length = len := by simp
    refine ⟨(List.range len).map g, ?_, ?_⟩
    · rw [hlen]
      refine ⟨some ad, _, rfl, hl, hm, (fun e => by cases e), fun ad' e j u hu => ?_⟩
      cases e
      obtain ⟨x, h1, h2⟩ := flat_at cells K hK0 hK _ j u hu
      have hi : j / K < len := by
        have := (List.getElem?_eq_some_iff.1 h1).1
        simpa using this
      have hgx : g (j / K) = x := by
        have : ((List.range len).map g)[j / K]? = some (g (j / K)) := by simp [hi]
        rw [this] at h1; exact Option.some.inj h1
      obtain ⟨_, _, hcc⟩ := World.cells?_some (hg (j / K) hi).1
      have hcj := hcc (j % K) (Nat.mod_lt _ hK0)
      rw [Go.Deep.add_add, hgx, h2, Nat.mul_comm, Nat.div_add_mod] at hcj
      exact hcj
    · intro f hf
      obtain ⟨i, hi, rfl⟩ := List.mem_map.1 hf
      exact (hg i (List.mem_range.1 hi)).2
theorem bo_sOf (s : ByteArray) : sOf s.data.toList = s := by cases s; simp [sOf]
theorem bo_cellsS : Tryz.prog.cellsOf 9 = 1 := by kernel_rfl
theorem bo_cellsI : Tryz.prog.cellsOf 3 = 1 := by kernel_rfl
theorem bo_cellsA : Tryz.prog.cellsOf 31 = 3 := by kernel_rfl
theorem bo_cellsF : Tryz.prog.cellsOf 77 = 2 := by kernel_rfl
set_option maxRecDepth 100000 in
theorem act_one {base : Nat} {sp : Nat → Bool} {held : Bool} {n : Nat} {cs : List Value} {d : DataW H} {p : List MemPlace} (h : DataW.trod enc Tryz.prog w base sp held n 31 cs = some (d, p)) (hz : Rows.uptoBulk d ≤ 1048576) :
    ∃ x : BAct, cs = actV x ∧ x.2.1.length ≤ 1048576 := by
  obtain ⟨xs, n', _, hx, hlen, hxl, hf⟩ := DataW.trod_struct Tryz.underlying31 h
  simp only [Prod.mk.injEq] at hx
  obtain ⟨rfl, rfl⟩ := hx
  rw [bo_cellsA] at hlen
  match cs, hlen, xs, hxl with
  | [c0, c1, c2], _, [y0, y1, y2], _ =>
    have g0 : DataW.trod enc Tryz.prog w base sp held n' 3 [c0] = some y0 := by have := hf 0 _ rfl; simpa [bo_cellsI] using this
    have g1 : DataW.trod enc Tryz.prog w base sp held n' 9 [c1] = some y1 := by have := hf 1 _ rfl; simpa [bo_cellsS] using this
    have g2 : DataW.trod enc Tryz.prog w base sp held n' 9 [c2] = some y2 := by have := hf 2 _ rfl; simpa [bo_cellsS] using this
    obtain ⟨x0, e0, rfl, _⟩ := DataW.trod_int Tryz.underlying3 g0
    obtain ⟨s1, e1, rfl, _⟩ := DataW.trod_string Tryz.underlying9 g1
    obtain ⟨s2, e2, rfl, _⟩ := DataW.trod_string Tryz.underlying9 g2
    simp only [List.cons.injEq, and_true] at e0 e1 e2
    subst e0 e1 e2
    refine ⟨(x0, s1.data.toList, s2), by simp [actV, bo_sOf], ?_⟩
    simp [Rows.uptoBulk, Rows.uptoBulkAll] at hz
    simp
    omega
set_option maxRecDepth 100000 in
theorem flt_one {base : Nat} {sp : Nat → Bool} {held : Bool} {n : Nat} {cs : List Value} {d : DataW H} {p : List MemPlace} (h : DataW.trod enc Tryz.prog w base sp held n 77 cs = some (d, p)) (hz : Rows.uptoBulk d ≤ 1048576) :
    ∃ x : BFlt, cs = fltV x ∧ x.1.length ≤ 1048576 := by
  obtain ⟨xs, n', _, hx, hlen, hxl, hf⟩ := DataW.trod_struct Tryz.underlying77 h
  simp only [Prod.mk.injEq] at hx
  obtain ⟨rfl, rfl⟩ := hx
  rw [bo_cellsF] at hlen
  match cs, hlen, xs, hxl with
  | [c0, c1], _, [y0, y1], _ =>
    have g0 : DataW.trod enc Tryz.prog w base sp held n' 9 [c0] = some y0 := by have := hf 0 _ rfl; simpa [bo_cellsS] using this
    have g1 : DataW.trod enc Tryz.prog w base sp held n' 3 [c1] = some y1 := by have := hf 1 _ rfl; simpa [bo_cellsI] using this
    obtain ⟨s0, e0, rfl, _⟩ := DataW.trod_string Tryz.underlying9 g0
    obtain ⟨x1, e1, rfl, _⟩ := DataW.trod_int Tryz.underlying3 g1
    simp only [List.cons.injEq, and_true] at e0 e1
    subst e0 e1
    refine ⟨(s0.data.toList, x1), by simp [fltV, bo_sOf], ?_⟩
    simp [Rows.uptoBulk, Rows.uptoBulkAll] at hz
    simp
    omega
set_option maxRecDepth 100000 in
theorem open_acts {r : Reach} {b0 : Nat} {v : Value} {d : DataW H} {ps : List MemPlace} (hval : Value.okWide Tryz.prog w r b0 22 v)
    (h : DataW.Trod enc Tryz.prog w 0 (fun _ => true) true 22 v d ps) (hz : Rows.uptoBulk d ≤ 1048576) : ∃ l : List BAct, Acts w v l ∧ ∀ x ∈ l, x.2.1.length ≤ 1048576 :=
  open_rowsU 1048576 actV 3 (by decide) (fun _ => rfl) Tryz.underlying22 bo_cellsA (fun x => x.2.1.length ≤ 1048576) (fun n cs d p h hz => act_one h hz) hval h hz
set_option maxRecDepth 100000 in
theorem open_flts {r : Reach} {b0 : Nat} {v : Value} {d : DataW H} {ps : List MemPlace} (hval : Value.okWide Tryz.prog w r b0 23 v)
    (h : DataW.Trod enc Tryz.prog w 0 (fun _ => true) true 23 v d ps) (hz : Rows.uptoBulk d ≤ 1048576) : ∃ l : List BFlt, Flts w v l ∧ ∀ x ∈ l, x.1.length ≤ 1048576 :=
  open_rowsU 1048576 fltV 2 (by decide) (fun _ => rfl) Tryz.underlying23 bo_cellsF (fun x => x.1.length ≤ 1048576) (fun n cs d p h hz => flt_one h hz) hval h hz
end
end Go.Proofs.YtclicjokgfiegaaGreatDoor

/- Births: what is told, what filters want: the walks. -/
namespace Go.Proofs.YtclicjokgfiegaaGreatDoor
open Go.RowKit
set_option linter.unusedVariables false
set_option linter.unusedSimpArgs false

abbrev BTold := List UInt8 × ByteArray
def toldV (x : BTold) : List Value := [.string (sOf x.1), .string x.2]
theorem toldRead {w' : World} {gr : Nat} {tmps : Array Value} {x : BTold} (h2 : tmps[2]?.getD undef = .pointer (some ⟨gr, 0, none⟩)) (c0 : w'.cell? ⟨gr, 0, none⟩ = some (.string (sOf x.1))) (c1 : w'.cell? ⟨gr, 1, none⟩ = some (.string x.2)) :
    (results Tryz.f53 tmps).run Tryz.prog w' = .ok (.agg (toldV x).toArray) w' := by
  simp [results, Tryz.results53, go_sem, h2, c0, c1, toldV]
set_option maxRecDepth 100000 in
set_option maxHeartbeats 2000000 in
theorem told_c (x : Bir) (w : World) : Calls Tryz.prog 53 #[.agg #[.string (sOf x.1.1), .string (sOf x.1.2), .string x.2]] w fun e w' => e = .returned (.agg #[.string (sOf (bTopic x.1)), .string x.2]) ∧ Below w.heap.size w w' := by
  obtain ⟨k, t⟩ := x
  have hw := fun W => whole_c k W
  have HT := hd (show bTopic k = if k.2 = [] then k.1 else k.2 from rfl)
  simp only
  cases hk : (k.2 == [])
  all_goals
    simp only [hk] at hw
    have HW := hd hw
    unfold rkV at HW
    clear hw
    go_enter Tryz.func53, Tryz.ntmps53
    go_wp2_with fail
    have b0 : Below w.heap.size w ((w.alloc (.cells #[.string (sOf k.1), .string (sOf k.2), .string t] 70)).alloc (.cells #[.string ⟨#[]⟩, .string ⟨#[]⟩] 72)) := by go_grown
    have hx0 : BxIn ((w.alloc (.cells #[.string (sOf k.1), .string (sOf k.2), .string t] 70)).alloc (.cells #[.string ⟨#[]⟩, .string ⟨#[]⟩] 72)) w.heap.size (k, t) := by
      refine ⟨?_, ?_, ?_, ?_⟩ <;> simp [go_sem]
    have r0 : ((w.alloc (.cells #[.string (sOf k.1), .string (sOf k.2), .string t] 70)).alloc (.cells #[.string ⟨#[]⟩, .string ⟨#[]⟩] 72)).cell? ⟨w.heap.size + 1, 0, none⟩ = some (.string ⟨#[]⟩) := by simp [go_sem]
    have r1 : ((w.alloc (.cells #[.string (sOf k.1), .string (sOf k.2), .string t] 70)).alloc (.cells #[.string ⟨#[]⟩, .string ⟨#[]⟩] 72)).cell? ⟨w.heap.size + 1, 1, none⟩ = some (.string ⟨#[]⟩) := by simp [go_sem]
    have f0 : ((w.alloc (.cells #[.string (sOf k.1), .string (sOf k.2), .string t] 70)).alloc (.cells #[.string ⟨#[]⟩, .string ⟨#[]⟩] 72)).frozen? ⟨w.heap.size + 1, 0, none⟩ = false := by simp [go_sem]
    have f1 : ((w.alloc (.cells #[.string (sOf k.1), .string (sOf k.2), .string t] 70)).alloc (.cells #[.string ⟨#[]⟩, .string ⟨#[]⟩] 72)).frozen? ⟨w.heap.size + 1, 1, none⟩ = false := by simp [go_sem]
    have hlt : w.heap.size + 1 < ((w.alloc (.cells #[.string (sOf k.1), .string (sOf k.2), .string t] 70)).alloc (.cells #[.string ⟨#[]⟩, .string ⟨#[]⟩] 72)).heap.size := by simp [go_sem]
    generalize ((w.alloc (.cells #[.string (sOf k.1), .string (sOf k.2), .string t] 70)).alloc (.cells #[.string ⟨#[]⟩, .string ⟨#[]⟩] 72)) = w1 at *
    refine (HW.out _).mono ?_
    rintro e w2 ⟨rfl, hb⟩
    obtain ⟨x0, x1, x2, x3⟩ := hx0.below hb hx0.1
    replace r0 := (bcell hb _ _ hlt).trans r0
    replace r1 := (bcell hb _ _ hlt).trans r1
    replace f0 := (bfree hb _ _ hlt).trans f0
    replace f1 := (bfree hb _ _ hlt).trans f1
    have hB := Below.up b0 hb
    replace hlt := Nat.lt_of_lt_of_le hlt hb.size
    clear hx0 hb b0
    simp only at x1 x2 x3
    go_wp2_with fail
  · refine bodyPost_ret (v := .agg (toldV (k.2, t)).toArray) (toldRead (by rfl) (by simp [go_sem, *]) (by simp [go_sem, *])) rfl ⟨?_, by go_grown⟩
    rw [HT.out, if_neg (by simpa using hk)]; rfl
  · refine bodyPost_ret (v := .agg (toldV (k.1, t)).toArray) (toldRead (by rfl) (by simp [go_sem, *]) (by simp [go_sem, *])) rfl ⟨?_, by go_grown⟩
    rw [HT.out, if_pos (by simpa using hk)]; rfl

/-! ### What filters want -/
def StrIn (w : World) (b : Nat) (t : List UInt8) : Prop := b < w.heap.size ∧ w.cell? ⟨b, 0, none⟩ = some (.string (sOf t))
theorem StrIn.below {B : Nat} {w w' : World} {b : Nat} {t : List UInt8} (h : StrIn w b t) (hb : Below B w w') (hB : b < B) : StrIn w' b t := ⟨Nat.lt_of_lt_of_le h.1 hb.size, (bcell hb _ _ hB).trans h.2⟩
set_option maxRecDepth 100000 in
set_option maxHeartbeats 2000000 in
theorem want1_c (f : BFlt) (t : List UInt8) (b : Nat) (w : World) (hE : EnvU w) (hb : StrIn w b t) (hf : f.1.length ≤ 1048576) (ht : t.length ≤ 1048576) :
    Calls Tryz.prog 33 #[.agg #[.string (sOf f.1), .int .i64 f.2], .pointer (some ⟨b, 0, none⟩)] w fun e w' => e = .returned (.bool (mMatch f.1 t)) ∧ Below w.heap.size w w' := by
  have hm := fun W h => Match_c f.1 t W h (by omega) (by omega)
  generalize mMatch f.1 t = r at *
  have HM := hd hm; have HE := hd hE
  obtain ⟨hbl, hbc⟩ := hb
  clear hm hE
  go_enter Tryz.func33, Tryz.ntmps33
  go_wp2_with fail
  have b0 : Below w.heap.size w (w.alloc (.cells #[.string (sOf f.1), .int .i64 f.2] 77)) := by go_grown
  refine (HM.out _ (HE.out.below b0)).mono ?_
  rintro e w1 ⟨rfl, hb1⟩
  go_wp2_with fail
  go_ret
  exact ⟨rfl, Below.up b0 hb1⟩
def wIdx (t : List UInt8) : List BFlt → Nat → Int
  | [], _ => -1
  | f :: r, j => if mMatch f.1 t then j else wIdx t r (j + 1)
theorem wIdx_any (t : List UInt8) : ∀ (l : List BFlt) (j : Nat), (decide (0 ≤ wIdx t l j)) = l.any fun f => mMatch f.1 t
  | [], j => rfl
  | f :: r, j => by
    rw [wIdx, List.any_cons]
    cases h : mMatch f.1 t
    · rw [if_neg (by simp), wIdx_any t r (j + 1)]; simp
    · rw [if_pos rfl]; simp
set_option maxRecDepth 100000 in
set_option maxHeartbeats 4000000 in
theorem indexW_c (t : List UInt8) (l : List BFlt) (v : Value) (c : Nat) (w : World) (hE : EnvU w) (hv : Flts w v l) (hl : ∀ f ∈ l, f.1.length ≤ 1048576) (hc : StrIn w c t) (ht : t.length ≤ 1048576) :
    Calls Tryz.prog 54 #[v, .func (.func 33) #[] #[.pointer (some ⟨c, 0, none⟩)]] w fun e w' => e = .returned (.int .i64 (wIdx t l 0)) ∧ Below w.heap.size w w' := by
  obtain ⟨a, cp, rfl⟩ := hv.slice
  have hm := hv.len
  unfold maxLen at hm
  have HV := hd hv; have HC := hd hc; have HL := hd hl; have HE := hd hE
  clear hv hc hl hE
  obtain ⟨r, hr⟩ : ∃ r, wIdx t l 0 = r := ⟨_, rfl⟩
  rw [hr]
  go_enter Tryz.func54, Tryz.ntmps54
  go_wp2_with fail
  go_loopw [8] (fun i w' => ∃ j : Nat, i = .int .i64 j ∧ j ≤ l.length ∧ wIdx t (l.drop j) j = r ∧ Below w.heap.size w w') (fun i _ => leftB l.length i)
  case atStart => exact ⟨0, rfl, by omega, by simpa using hr, Below.refl _ _⟩
  case round =>
    obtain ⟨j, rfl, hj, hf, hB⟩ := hrel
    by_cases hjl : j < l.length
    · obtain ⟨x, hx⟩ : ∃ x, l[j]? = some x := ⟨_, List.getElem?_eq_getElem hjl⟩
      obtain ⟨b, o, rfl, hl1, p1, q1⟩ := HV.out.at hx
      replace p1 := (bcell hB _ _ hl1).trans p1
      replace q1 := (bcell hB _ _ hl1).trans q1
      have hdr : l.drop j = x :: l.drop (j + 1) := by
        obtain ⟨hj', rfl⟩ := List.getElem?_eq_some_iff.1 hx
        exact List.drop_eq_getElem_cons hj'
      rw [hdr, wIdx] at hf
      have hcl := want1_c x t c wr (HE.out.below hB) (HC.out.below hB HC.out.1) (HL.out x (List.mem_of_getElem? hx)) ht
      cases hcv : mMatch x.1 t
      · rw [hcv, if_neg (by simp)] at hf
        rw [hcv] at hcl
        have HF := hd hf; have HCL := hd hcl
        clear hf hcl hr
        go_wp2_with (first | (go_at_call 33; refine HCL.out.mono ?_; rintro e w1 ⟨rfl, hb⟩))
        go_roundw
        case rel => exact ⟨j + 1, by congr 1, by omega, HF.out, hB.trans (hb.mono hB.size)⟩
        case measure => simp [leftB]; omega
      · rw [hcv, if_pos rfl] at hf
        rw [hcv] at hcl
        have HF := hd hf; have HCL := hd hcl
        clear hf hcl hr
        go_wp2_with (first | (go_at_call 33; refine HCL.out.mono ?_; rintro e w1 ⟨rfl, hb⟩))
        go_ret
        exact ⟨ret_int HF.out, hB.trans (hb.mono hB.size)⟩
    · have hke : j = l.length := by omega
      subst hke
      rw [List.drop_of_length_le (Nat.le_refl _), wIdx] at hf
      have HF := hd hf
      clear hf hr
      go_wp2_with fail
      go_ret
      exact ⟨ret_int HF.out, hB⟩
/-- What the filters want. -/
def bWant (l : List BFlt) (t : List UInt8) : Bool := l.any fun f => mMatch f.1 t
set_option maxRecDepth 100000 in
set_option maxHeartbeats 2000000 in
theorem containsW_c (t : List UInt8) (l : List BFlt) (v : Value) (c : Nat) (w : World) (hE : EnvU w) (hv : Flts w v l) (hl : ∀ f ∈ l, f.1.length ≤ 1048576) (hc : StrIn w c t) (ht : t.length ≤ 1048576) :
    Calls Tryz.prog 32 #[v, .func (.func 33) #[] #[.pointer (some ⟨c, 0, none⟩)]] w fun e w' => e = .returned (.bool (bWant l t)) ∧ Below w.heap.size w w' := by
  have hix := indexW_c t l v c w hE hv hl hc ht
  have ha := wIdx_any t l 0
  unfold bWant
  generalize (l.any fun f => mMatch f.1 t) = r at *
  generalize wIdx t l 0 = i at *
  have HI := hd hix; have HA := hd ha
  clear hix ha hE hv hl hc
  go_enter Tryz.func32, Tryz.ntmps32
  go_wp2_with fail
  refine HI.out.mono ?_
  rintro e w1 ⟨rfl, hb⟩
  go_wp2_with fail
  go_ret
  exact ⟨ret_bool HA.out, hb⟩
/-- A closure that holds filters. -/
def FltIn (w : World) (b : Nat) (v : Value) (l : List BFlt) : Prop := b < w.heap.size ∧ w.cell? ⟨b, 0, none⟩ = some v ∧ Flts w v l
theorem FltIn.below {B : Nat} {w w' : World} {b : Nat} {v : Value} {l : List BFlt} (h : FltIn w b v l) (hb : Below B w w') (hB : w.heap.size ≤ B) : FltIn w' b v l := ⟨Nat.lt_of_lt_of_le h.1 hb.size, (bcell hb _ _ (Nat.lt_of_lt_of_le h.1 hB)).trans h.2.1, Rd.below' h.2.2 hb hB⟩
set_option maxRecDepth 100000 in
set_option maxHeartbeats 2000000 in
theorem want_c (t : List UInt8) (l : List BFlt) (v : Value) (c : Nat) (w : World) (hE : EnvU w) (hv : FltIn w c v l) (hl : ∀ f ∈ l, f.1.length ≤ 1048576) (ht : t.length ≤ 1048576) :
    Calls Tryz.prog 31 #[.string (sOf t), .pointer (some ⟨c, 0, none⟩)] w fun e w' => e = .returned (.bool (bWant l t)) ∧ Below w.heap.size w w' := by
  obtain ⟨a, cp, rfl⟩ := hv.2.2.slice
  have hcn := fun W b h1 h2 h3 => containsW_c t l (.slice a l.length cp) b W h1 h2 hl h3 ht
  generalize bWant l t = r at *
  have HC := hd hcn; have HE := hd hE; have HV := hd hv
  obtain ⟨h1, h2, h3⟩ := hv
  clear hcn hE h3 hl
  go_enter Tryz.func31, Tryz.ntmps31
  go_wp2_with fail
  have b0 : Below w.heap.size w (w.alloc (.cells #[.string (sOf t)] 9)) := by go_grown
  refine (HC.out _ _ (HE.out.below b0) (Rd.below' HV.out.2.2 b0 (Nat.le_refl _)) ⟨by simp [go_sem], by simp [go_sem]⟩).mono ?_
  rintro e w1 ⟨rfl, hb⟩
  go_wp2_with fail
  go_ret
  exact ⟨rfl, Below.up b0 hb⟩
end Go.Proofs.YtclicjokgfiegaaGreatDoor

/- Births: the last that was put is there: BirthsLast: the walk. -/
namespace Go.Proofs.YtclicjokgfiegaaGreatDoor
open Go.RowKit
set_option linter.unusedVariables false
set_option linter.unusedSimpArgs false

theorem last_ranks {g n d t1 t5 : List UInt8} (h1 : sPut ⟨1, g, n, []⟩ = (t1, 0)) (h5 : sPut ⟨5, g, n, d⟩ = (t5, 0)) : bRank t1 = some (t1, []) ∧ bRank t5 = some (t1, t5) ∧ t5 ≠ [] ∧ t1.length ≤ 96 ∧ t5.length ≤ 96 := by
  have p1 := tell_put (s := ⟨1, g, n, []⟩) (by rw [h1])
  have p5 := tell_put (s := ⟨5, g, n, d⟩) (by rw [h5])
  have l1 := put_len ⟨1, g, n, []⟩
  have l5 := put_len ⟨5, g, n, d⟩
  rw [h1] at p1 l1
  rw [h5] at p5 l5
  obtain ⟨_, hd⟩ := put_five (g := g) (n := n) (d := d) (by rw [h5])
  have n5 := name_ne p5.2
  have n1 := name_ne p1.2
  refine ⟨bRank_one (by rw [p1.1]), ?_, n5, l1, l5⟩
  rw [bRank_five (by rw [p5.1]), p5.1]
  have hs : sBirths ⟨5, g, n, d⟩ = (t1, t5) := by
    unfold sBirths
    simp only [h1, h5]
    simp [hd]
  rw [hs, if_neg n1]
theorem putL_len (l : List Bir) (t : List UInt8) (u : ByteArray) : (bPutL l t u).length ≤ l.length + 1 := by
  unfold bPutL
  split
  · omega
  · split
    · omega
    · rw [bPut_len]; have := lose_len l ‹Rk›; omega
theorem putL_sorted {l : List Bir} (h : Sorted l) (t : List UInt8) (u : ByteArray) : Sorted (bPutL l t u) := by
  unfold bPutL
  split
  · exact h
  · split
    · exact h
    · exact put_sorted h _ _
theorem putE_room {l : List Bir} {t : List UInt8} {k : Rk} (h : bRank t = some k) (hl : l.length < 40) : bPutE l t = 0 := by
  unfold bPutE
  rw [h]
  simp only
  rw [if_neg (by unfold bFull; omega)]
theorem putL_room {l : List Bir} {t : List UInt8} {k : Rk} (h : bRank t = some k) (hl : l.length < 40) (u : ByteArray) : bPutL l t u = bPut l k u := by
  unfold bPutL
  rw [h]
  simp only
  rw [if_neg (by unfold bFull; omega)]
/-- What a row of puts keeps. -/
structure PutI (w : World) (g : Nat) (n : Nat) (l : List Bir) (v : Value) (w' : World) : Prop where
  at' : BsAt w' g v l
  sorted : Sorted l
  len : l.length ≤ n
  low : w.heap.size ≤ g
  own : ∀ k, k ∈ blk v → w.heap.size ≤ k
  below : Below w.heap.size w w'
theorem PutI.put {w w1 w2 : World} {g n : Nat} {l : List Bir} {v v' : Value} (h : PutI w g n l v w1) {t : List UInt8} {u : ByteArray} (hb : Bd w1 g v v' (bPutL l t u) w2) : PutI w g (n + 1) (bPutL l t u) v' w2 :=
  ⟨hb.at', putL_sorted h.sorted t u, by have := putL_len l t u; have := h.len; omega, h.low, fun k hk => by
    rcases hb.new k hk with h1 | h1
    · exact h.own k h1
    · have := h.below.size; omega, h.below.trans (keeps_own hb.keeps h.low h.own h.below.size)⟩
theorem PutI.on {w w1 w2 : World} {g n : Nat} {l : List Bir} {v : Value} (h : PutI w g n l v w1) (hb : Below w1.heap.size w1 w2) : PutI w g n l v w2 :=
  ⟨h.at'.below hb, h.sorted, h.len, h.low, h.own, Below.up h.below hb⟩
theorem PutI.drop {w w1 w2 : World} {g n n' : Nat} {l l' : List Bir} {v v' : Value} (h : PutI w g n l v w1) (hs : Sorted l') (hl : l'.length ≤ n') (hb : Bd w1 g v v' l' w2) : PutI w g n' l' v' w2 :=
  ⟨hb.at', hs, hl, h.low, fun k hk => by
    rcases hb.new k hk with h1 | h1
    · exact h.own k h1
    · have := h.below.size; omega, h.below.trans (keeps_own hb.keeps h.low h.own h.below.size)⟩
end Go.Proofs.YtclicjokgfiegaaGreatDoor

/- Births: those that filters want, in their order: BirthsOrder: the walks. -/
namespace Go.Proofs.YtclicjokgfiegaaGreatDoor
open Go.RowKit
set_option linter.unusedVariables false
set_option linter.unusedSimpArgs false

def thoseL (l : List Bir) (p : List UInt8 → Bool) : List BTold := (l.map bTold).filter fun x => p x.1
theorem those_snoc {l : List Bir} {j : Nat} {x : Bir} (p : List UInt8 → Bool) (h : l[j]? = some x) : thoseL (l.take (j + 1)) p = thoseL (l.take j) p ++ if p (bTopic x.1) = true then [bTold x] else [] := by
  unfold thoseL
  rw [take_snocB h, List.map_append, List.filter_append]
  congr 1
  cases hp : p (bTopic x.1) <;> simp [bTold, hp]
theorem those_len (l : List Bir) (p : List UInt8 → Bool) : (thoseL l p).length ≤ l.length := by
  have := List.length_filter_le (fun x : BTold => p x.1) (l.map bTold)
  unfold thoseL; simpa using this
def OwnT (B : Nat) (w : World) (v : Value) (m : List BTold) : Prop := w.ownsRow B 72 2 v m.length (m.flatMap toldV)
theorem OwnT.nil (B : Nat) (w : World) : OwnT B w (.slice none 0 0) [] := ⟨rfl, .inl ⟨rfl, rfl⟩⟩
theorem OwnT.slice {B : Nat} {w : World} {v : Value} {m : List BTold} (h : OwnT B w v m) : ∃ a c, v = .slice a m.length c := Owns.slice h
theorem OwnT.kept {B B' : Nat} {w w' : World} {v : Value} {m : List BTold} (h : OwnT B w v m) (hb : Below B' w w') (hB : w.heap.size ≤ B') : OwnT B w' v m := Owns.kept h hb hB
theorem OwnT.at {B : Nat} {w : World} {a : Option Addr} {n c : Nat} {m : List BTold} (h : OwnT B w (.slice a n c) m) {k : Nat} {x : BTold} (hk : m[k]? = some x) :
    ∃ b o, a = some ⟨b, o, none⟩ ∧ b < w.heap.size ∧ w.cell? ⟨b, o + k * 2, none⟩ = some (.string (sOf x.1)) ∧ w.cell? ⟨b, o + k * 2 + 1, none⟩ = some (.string x.2) := by
  have hr : Rd w (.slice a n c) m.length (m.flatMap toldV) := Owns.rd h
  obtain ⟨b, o, h1, h2, h3⟩ := rowC_at toldV 2 (by decide) (fun _ => rfl) hr hk
  exact ⟨b, o, h1, h2, h3 0 _ rfl, h3 1 _ rfl⟩
theorem info_tol : (Tryz.prog.info? 72).map (fun i => (i.zero, i.size, i.bytes)) = some (some (.agg #[.string ⟨#[]⟩, .string ⟨#[]⟩]), 2, 32) := by kernel_rfl
theorem toldV_one (x : BTold) : ∀ v ∈ toldV x, v.oneCell' = true := by
  intro v hv
  have : (toldV x).all (·.oneCell') = true := rfl
  exact (List.all_eq_true.1 this) v hv
theorem rank_len {t : List UInt8} {k : Rk} (h : bRank t = some k) : t.length ≤ 96 := by
  have hk : (sTell t).k ≠ 0 := by
    intro h0
    rw [bRank_other (by rw [h0]; decide) (by rw [h0]; decide)] at h
    cases h
  have h1 := (tell_ne hk).1
  have := put_len (sTell t)
  rw [h1] at this
  exact this
/-- append(l, x) of one that is told: its block has been laid. -/
theorem wp_appT {w : World} {ops : Array Oper} {rest : List Oper} {o : Oper} {a : Act} {Q : Exit → Act → World → Prop} (hgd : o.guard = none) (s x : Operand)
    (ho : o.op = .call { callee := .builtin .append, args := #[s, x], argTypes := #[27, 27] })
    (B : Nat) (v : Value) (m : List BTold) (hv : a.eval s = v) (hown : OwnT B w v m) (y : BTold) (hx : a.eval x = .slice (some ⟨w.heap.size, 0, none⟩) 1 1) (hlen : m.length < 1000000) (hB : B ≤ w.heap.size)
    (h : ∀ v' w', OwnT B w' v' (m ++ [y]) → Below B w w' → wpList Tryz.prog ops Q rest (a.put o.dst v') w') : wpList Tryz.prog ops Q (o :: rest) a (w.alloc (.cells (toldV y).toArray 72)) := by
  obtain ⟨i0, hi, hz0, hz1, hz2⟩ := info_parts info_tol
  have hb : Below B w (w.alloc (.cells (toldV y).toArray 72)) := (Below.refl B w).alloc hB _
  have hb' : Below w.heap.size w (w.alloc (.cells (toldV y).toArray 72)) := (Below.refl _ w).alloc (Nat.le_refl _) _
  have hs : Rd (w.alloc (.cells (toldV y).toArray 72)) (.slice (some ⟨w.heap.size, 0, none⟩) 1 1) 1 (toldV y) :=
    ⟨_, _, rfl, Nat.le_refl _, by unfold maxLen; decide, (fun e => by cases e), fun ad had j u hu => by
      cases had
      rw [Addr.add_mid, Nat.zero_add, World.cell?_alloc_at (w := w) _ _ w.heap.size j rfl]
      simpa using hu⟩
  refine wp_app hgd s x 27 ho B 72 i0 _ 2 32 Tryz.underlying27 hi hz0 hz1 hz2 rfl (by decide) v m.length (m.flatMap toldV) hv (Owns.kept hown hb' (Nat.le_refl _)) _ 1 (toldV y) hx hs rfl (toldV_one y) (by omega) (by unfold maxLen; omega) (by have := hb.size; omega) ?_
  intro v' w' h1 h2 _
  refine h v' w' ?_ (hb.trans h2)
  unfold OwnT
  rw [List.length_append, List.flatMap_append]
  simpa using h1
set_option maxRecDepth 100000 in
set_option maxHeartbeats 4000000 in
theorem thoseW_c (g : Nat) (v : Value) (l : List Bir) (fl : List BFlt) (fv : Value) (c : Nat) (w : World) (hE : EnvU w) (h : BsAt w g v l) (hgd : Good l) (hc : FltIn w c fv fl) (hfl : ∀ f ∈ fl, f.1.length ≤ 1048576) (hm : l.length ≤ 1000) :
    Calls Tryz.prog 29 #[.pointer (some ⟨g, 0, none⟩), .func (.func 31) #[] #[.pointer (some ⟨c, 0, none⟩)]] w
      fun e w' => ∃ v', e = .returned v' ∧ OwnT w.heap.size w' v' (thoseL l (bWant fl)) ∧ Below w.heap.size w w' := by
  obtain ⟨a, cp, rfl⟩ := h.own.slice
  have c0 := h.c0; have c1 := h.c1
  have HR := hd h.own.rd; have HE := hd hE; have HC := hd hc; have HF := hd hfl; have HG := hd hgd
  clear hE hc hfl hgd h
  go_enter Tryz.func29, Tryz.ntmps29
  go_wp2_with (first | (go_at_call 22; refine (bnone_c _ _ c1).mono ?_; rintro e w' ⟨rfl, rfl⟩))
  have I0 : OwnT w.heap.size w (.slice none 0 0) (thoseL (l.take 0) (bWant fl)) := by simpa [thoseL] using OwnT.nil w.heap.size w
  go_loopw [5, 16] (fun vo i w' => ∃ j : Nat, i = .int .i64 j ∧ j ≤ l.length ∧ OwnT w.heap.size w' vo (thoseL (l.take j) (bWant fl)) ∧ Below w.heap.size w w') (fun _ i _ => leftB l.length i)
  case atStart => exact ⟨0, rfl, by omega, I0, Below.refl _ _⟩
  case round =>
    obtain ⟨j, rfl, hj, ho, hB⟩ := hrel
    clear I0
    by_cases hjl : j < l.length
    · obtain ⟨x, hx⟩ : ∃ x, l[j]? = some x := ⟨_, List.getElem?_eq_getElem hjl⟩
      have hsn := those_snoc (bWant fl) hx
      have htl := rank_len (HG.out.2 x (List.mem_of_getElem? hx))
      have hml := those_len (l.take j) (bWant fl)
      rw [List.length_take] at hml
      obtain ⟨b, o, rfl, hgx⟩ := HR.out.gx hx
      obtain ⟨g0, g1, g2, g3⟩ := hgx.below hB hgx.1
      have htc := fun W => told_c x W
      have hwc := fun W c h1 h2 => want_c (bTopic x.1) fl fv c W h1 h2 HF.out (by omega)
      generalize hT : bTopic x.1 = T at *
      generalize hM : thoseL (l.take j) (bWant fl) = M at *
      have hB' := hd hB
      have HO := hd ho; have HTC := hd htc; have HWC := hd hwc; have HSN := hd hsn
      clear ho htc hwc hsn hx hgx
      go_wp2_with fail
      refine (HTC.out _).mono ?_
      rintro e w2 ⟨rfl, hb2⟩
      have b2r : Below wr.heap.size wr w2 := Below.up (by go_grown) hb2
      have B2 : Below w.heap.size w w2 := Below.up hB b2r
      clear hb2 g0 g1 g2 g3 hB HTC
      go_wp2_with fail
      have b3 : Below w2.heap.size w2 (w2.alloc (.cells #[.string (sOf T), .string x.2] 72)) := by go_grown
      have B3 := Below.up B2 b3
      refine (HWC.out _ _ (HE.out.below B3) (HC.out.below B3 (Nat.le_refl _))).mono ?_
      rintro e w3 ⟨rfl, hb3⟩
      have d0 := bcell hb3 w2.heap.size 0 (by simp [go_sem])
      have d1 := bcell hb3 w2.heap.size 1 (by simp [go_sem])
      simp [go_sem] at d0 d1
      have B4 := Below.up B3 hb3
      have HO3 := hd (HO.out.kept ((b2r.mono (Nat.le_refl _)).trans ((b3.trans (hb3.mono b3.size)).mono b2r.size)) (Nat.le_refl _))
      have HBT := hd (show bTold x = (T, x.2) by unfold bTold; rw [hT])
      cases hw : bWant fl T
      · have hsn := HSN.out
        rw [hw, if_neg (by simp), List.append_nil] at hsn
        have HSN2 := hd hsn
        clear hsn HSN HC HWC b2r b3 hb3
        go_wp2_with fail
        go_roundw
        case rel => exact ⟨j + 1, by congr 1, by omega, by rw [HSN2.out]; exact HO3.out, B4⟩
        case measure => simp [leftB]; omega
      · have hsn := HSN.out
        rw [hw, if_pos rfl] at hsn
        have HSN2 := hd hsn
        clear hsn HSN HC HWC b2r b3 hb3
        go_wp2_with (first | (at_builtin; refine wp_appT rfl _ _ rfl w.heap.size u5 M rfl HO3.out (T, x.2) rfl (by omega) B4.size ?_; intro v6 w6 ho6 hb6))
        have HO6 := hd ho6
        clear ho6
        go_roundw
        case rel => exact ⟨j + 1, by congr 1, by omega, by rw [HSN2.out, HBT.out]; exact HO6.out, B4.trans hb6⟩
        case measure => simp [leftB]; omega
    · have hke : j = l.length := by omega
      subst hke
      rw [List.take_length] at ho
      have HO := hd ho
      clear ho
      go_wp2_with fail
      go_ret
      exact ⟨_, rfl, HO.out, hB⟩
set_option maxRecDepth 100000 in
set_option maxHeartbeats 2000000 in
theorem bFind_c (g : Nat) (v : Value) (l : List Bir) (fl : List BFlt) (fv : Value) (w : World) (hE : EnvU w) (h : BsAt w g v l) (hgd : Good l) (hv : Flts w fv fl) (hfl : ∀ f ∈ fl, f.1.length ≤ 1048576) (hm : l.length ≤ 1000) :
    Calls Tryz.prog 15 #[.pointer (some ⟨g, 0, none⟩), fv] w fun e w' => ∃ v', e = .returned v' ∧ OwnT w.heap.size w' v' (thoseL l (bWant fl)) ∧ Below w.heap.size w w' := by
  obtain ⟨a, cp, rfl⟩ := hv.slice
  have b0 : Below w.heap.size w (w.alloc (.cells #[.slice a fl.length cp] 23)) := by go_grown
  have hth := thoseW_c g v l fl (.slice a fl.length cp) w.heap.size (w.alloc (.cells #[.slice a fl.length cp] 23)) (hE.below b0) (h.below b0) hgd ⟨by simp [go_sem], by simp [go_sem], Rd.below' hv b0 (Nat.le_refl _)⟩ hfl hm
  have hsz : w.heap.size ≤ (w.alloc (.cells #[.slice a fl.length cp] 23)).heap.size := b0.size
  have HT := hd hth
  clear hth hE h hgd hv hfl
  go_enter Tryz.func15, Tryz.ntmps15
  go_wp2_with fail
  refine HT.out.mono ?_
  rintro e w1 ⟨v', rfl, ho, hb⟩
  obtain ⟨a', c', rfl⟩ := ho.slice
  have HO := hd (Owns.le ho hsz)
  clear ho
  go_wp2_with fail
  go_ret
  exact ⟨_, rfl, HO.out, Below.up b0 hb⟩

/-! ### BirthsOrder -/
theorem putL_good {l : List Bir} (h : Good l) (t : List UInt8) (u : ByteArray) : Good (bPutL l t u) := by
  unfold bPutL
  split
  · exact h
  · rename_i k hk
    split
    · exact h
    · exact put_good h hk u
def wantL (l : List Bir) (fl : List BFlt) : List Bir := l.filter fun x => bWant fl (bTopic x.1)
theorem those_want (l : List Bir) (fl : List BFlt) : thoseL l (bWant fl) = (wantL l fl).map bTold := by
  unfold thoseL wantL
  rw [List.filter_map]; rfl
theorem want_good {l : List Bir} (h : Good l) (fl : List BFlt) : Good (wantL l fl) := ⟨List.Pairwise.filter _ h.1, fun x hx => h.2 x (List.mem_filter.1 hx).1⟩
def lastN (L : List Bir) : Nat → List UInt8
  | 0 => []
  | j + 1 => ((L[j]?).map (·.1.1)).getD []
structure OrdX (L : List Bir) (j : Nat) (x : Bir) : Prop where
  ne : x.1.1 ≠ []
  lt : ¬ x.1.1 < lastN L j
  dev : 0 < j → x.1.1 = lastN L j → x.1.2 ≠ [] ∧ ∃ y, L[j - 1]? = some y ∧ (sTell (bTopic y.1)).d < (sTell (bTopic x.1)).d
theorem ord_at {L : List Bir} (h : Good L) {j : Nat} {x : Bir} (hx : L[j]? = some x) : OrdX L j x := by
  have hr := h.2 x (List.mem_of_getElem? hx)
  refine ⟨(bRank_node hr).2.1, ?_, ?_⟩
  · cases j with
    | zero => exact l_nil
    | succ j =>
      have hj : j < L.length := by have := (List.getElem?_eq_some_iff.1 hx).1; omega
      have hy := List.getElem?_eq_getElem hj
      have hlt := sorted_at h.1 (Nat.lt_succ_self j) hy hx
      show ¬ x.1.1 < ((L[j]?).map (·.1.1)).getD []
      rw [hy]
      show ¬ x.1.1 < L[j].1.1
      rcases hlt with h1 | ⟨h1, h2⟩
      · exact fun h3 => l_irr _ (l_tr h1 h3)
      · rw [h1]; exact l_irr _
  · intro hj0 he
    cases j with
    | zero => omega
    | succ j =>
      have hj : j < L.length := by have := (List.getElem?_eq_some_iff.1 hx).1; omega
      have hy := List.getElem?_eq_getElem hj
      have hlt := sorted_at h.1 (Nat.lt_succ_self j) hy hx
      have he2 : x.1.1 = L[j].1.1 := by
        have he3 : x.1.1 = ((L[j]?).map (·.1.1)).getD [] := he
        rw [hy] at he3
        exact he3
      have hry := h.2 L[j] (List.getElem_mem hj)
      rcases hlt with h1 | ⟨h1, h2⟩
      · rw [he2] at h1; exact absurd h1 (l_irr _)
      · refine ⟨fun h3 => by rw [h3] at h2; exact l_nil h2, L[j], by simp, ?_⟩
        have e1 : bRank (bTopic L[j].1) = some (x.1.1, L[j].1.2) := by rw [hry, he2]
        have e2 : bRank (bTopic x.1) = some (x.1.1, x.1.2) := hr
        exact dev_lt e1 e2 h2
end Go.Proofs.YtclicjokgfiegaaGreatDoor

/- Births: all of them: the walk. -/
namespace Go.Proofs.YtclicjokgfiegaaGreatDoor
open Go.RowKit
set_option linter.unusedVariables false
set_option linter.unusedSimpArgs false

set_option maxRecDepth 100000 in
theorem all1_c (s : ByteArray) (w : World) : Calls Tryz.prog 30 #[.string s] w fun e w' => e = .returned (.bool true) ∧ Below w.heap.size w w' := by
  go_enter Tryz.func30, Tryz.ntmps30
  go_wp2_with fail
  go_ret
  exact ⟨rfl, Below.refl _ _⟩
set_option maxRecDepth 100000 in
set_option maxHeartbeats 4000000 in
theorem thoseA_c (g : Nat) (v : Value) (l : List Bir) (w : World) (h : BsAt w g v l) (hgd : Good l) (hm : l.length ≤ 1000) :
    Calls Tryz.prog 29 #[.pointer (some ⟨g, 0, none⟩), .func (.func 30) #[] #[]] w
      fun e w' => ∃ v', e = .returned v' ∧ OwnT w.heap.size w' v' (thoseL l (fun _ => true)) ∧ Below w.heap.size w w' := by
  obtain ⟨a, cp, rfl⟩ := h.own.slice
  have c0 := h.c0; have c1 := h.c1
  have HR := hd h.own.rd; have HG := hd hgd
  clear hgd h
  go_enter Tryz.func29, Tryz.ntmps29
  go_wp2_with (first | (go_at_call 22; refine (bnone_c _ _ c1).mono ?_; rintro e w' ⟨rfl, rfl⟩))
  have I0 : OwnT w.heap.size w (.slice none 0 0) (thoseL (l.take 0) (fun _ => true)) := by simpa [thoseL] using OwnT.nil w.heap.size w
  go_loopw [5, 16] (fun vo i w' => ∃ j : Nat, i = .int .i64 j ∧ j ≤ l.length ∧ OwnT w.heap.size w' vo (thoseL (l.take j) (fun _ => true)) ∧ Below w.heap.size w w') (fun _ i _ => leftB l.length i)
  case atStart => exact ⟨0, rfl, by omega, I0, Below.refl _ _⟩
  case round =>
    obtain ⟨j, rfl, hj, ho, hB⟩ := hrel
    clear I0
    by_cases hjl : j < l.length
    · obtain ⟨x, hx⟩ : ∃ x, l[j]? = some x := ⟨_, List.getElem?_eq_getElem hjl⟩
      have hsn := those_snoc (fun _ => true) hx
      have htl := rank_len (HG.out.2 x (List.mem_of_getElem? hx))
      have hml := those_len (l.take j) (fun _ => true)
      rw [List.length_take] at hml
      obtain ⟨b, o, rfl, hgx⟩ := HR.out.gx hx
      obtain ⟨g0, g1, g2, g3⟩ := hgx.below hB hgx.1
      have htc := fun W => told_c x W
      have hwc := fun (s : ByteArray) W => all1_c s W
      generalize hT : bTopic x.1 = T at *
      generalize hM : thoseL (l.take j) (fun _ => true) = M at *
      have hB' := hd hB
      have HO := hd ho; have HTC := hd htc; have HWC := hd hwc; have HSN := hd hsn
      clear ho htc hwc hsn hx hgx
      go_wp2_with fail
      refine (HTC.out _).mono ?_
      rintro e w2 ⟨rfl, hb2⟩
      have b2r : Below wr.heap.size wr w2 := Below.up (by go_grown) hb2
      have B2 : Below w.heap.size w w2 := Below.up hB b2r
      clear hb2 g0 g1 g2 g3 hB HTC
      go_wp2_with fail
      have b3 : Below w2.heap.size w2 (w2.alloc (.cells #[.string (sOf T), .string x.2] 72)) := by go_grown
      have B3 := Below.up B2 b3
      refine (HWC.out _ _).mono ?_
      rintro e w3 ⟨rfl, hb3⟩
      have d0 := bcell hb3 w2.heap.size 0 (by simp [go_sem])
      have d1 := bcell hb3 w2.heap.size 1 (by simp [go_sem])
      simp [go_sem] at d0 d1
      have B4 := Below.up B3 hb3
      have HO3 := hd (HO.out.kept ((b2r.mono (Nat.le_refl _)).trans ((b3.trans (hb3.mono b3.size)).mono b2r.size)) (Nat.le_refl _))
      have HBT := hd (show bTold x = (T, x.2) by unfold bTold; rw [hT])
      · have hsn := HSN.out
        simp only [if_true] at hsn
        have HSN2 := hd hsn
        clear hsn HSN HWC b2r b3 hb3
        go_wp2_with (first | (at_builtin; refine wp_appT rfl _ _ rfl w.heap.size u5 M rfl HO3.out (T, x.2) rfl (by omega) B4.size ?_; intro v6 w6 ho6 hb6))
        have HO6 := hd ho6
        clear ho6
        go_roundw
        case rel => exact ⟨j + 1, by congr 1, by omega, by rw [HSN2.out, HBT.out]; exact HO6.out, B4.trans hb6⟩
        case measure => simp [leftB]; omega
    · have hke : j = l.length := by omega
      subst hke
      rw [List.take_length] at ho
      have HO := hd ho
      clear ho
      go_wp2_with fail
      go_ret
      exact ⟨_, rfl, HO.out, hB⟩
set_option maxRecDepth 100000 in
set_option maxHeartbeats 2000000 in
theorem bAll_c (g : Nat) (v : Value) (l : List Bir) (w : World) (h : BsAt w g v l) (hgd : Good l) (hm : l.length ≤ 1000) :
    Calls Tryz.prog 13 #[.pointer (some ⟨g, 0, none⟩)] w fun e w' => ∃ v', e = .returned v' ∧ OwnT w.heap.size w' v' (thoseL l (fun _ => true)) ∧ Below w.heap.size w w' := by
  have hth := fun W h1 => thoseA_c g v l W h1 hgd hm
  have HT := hd hth; have H := hd h
  clear hth hgd h
  go_enter Tryz.func13, Tryz.ntmps13
  go_wp2_with fail
  refine (HT.out _ H.out).mono ?_
  rintro e w1 ⟨v', rfl, ho, hb⟩
  obtain ⟨a', c', rfl⟩ := ho.slice
  have HO := hd ho
  clear ho
  go_wp2_with fail
  go_ret
  exact ⟨_, rfl, HO.out, hb⟩
end Go.Proofs.YtclicjokgfiegaaGreatDoor
