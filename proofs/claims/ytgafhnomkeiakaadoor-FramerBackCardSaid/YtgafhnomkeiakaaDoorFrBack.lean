/- Packets there and back: plain facts and the walk. -/
import Derived.Test.YtgafhnomkeiakaaDoorFrPk
namespace Go.Proofs.YtgafhnomkeiakaaDoor
open Go.RowKit
set_option linter.unusedVariables false
set_option linter.unusedSimpArgs false

/-- a packet that can be -/
def pkOk (x : Pk) : Prop := hPutE x.1.1 x.1.2.1 x.1.2.2 = 0 ∧ x.1.2.2 = (x.2.length : Int)
def pkBytes (x : Pk) : List UInt8 := hPutB x.1.1 x.1.2.1 x.1.2.2 ++ x.2
def pBytes (p : List Pk) : List UInt8 := p.flatMap pkBytes
theorem fbN_B8 {n : Nat} (h : n < 256) (l : List UInt8) : bN (B8 n :: l) 0 = n := by unfold bN; simp [B8_toNat h]
theorem fbN_cons (b : UInt8) (l : List UInt8) (j : Nat) : bN (b :: l) (j + 1) = bN l j := by unfold bN; simp
theorem fbPutE_ok {k f n : Int} (h : hPutE k f n = 0) : hRight k f = 0 ∧ 0 ≤ n ∧ n ≤ 4096 := by
  unfold hPutE at h
  by_cases h1 : hRight k f = 0
  · rw [if_pos h1] at h
    by_cases h2 : n < 0 ∨ 4096 < n
    · rw [if_pos h2] at h; omega
    · exact ⟨h1, by omega⟩
  · rw [if_neg h1] at h; exact absurd h h1
theorem fbLen_bytes (n : Nat) (hn : n ≤ 4096) (C : List UInt8) : hLen ((if n < 128 then [B8 n] else [B8 (n % 128 + 128), B8 (n / 128)]) ++ C) = ((n : Int), (if n < 128 then 1 else 2), 0) := by
  by_cases h : n < 128
  · rw [if_pos h, if_pos h]
    unfold hLen
    have e : bN ([B8 n] ++ C) 0 = n := fbN_B8 (by omega) C
    rw [if_neg (by simp), e, if_pos (by omega)]
    congr 1
    omega
  · rw [if_neg h, if_neg h]
    unfold hLen
    have e : bN ([B8 (n % 128 + 128), B8 (n / 128)] ++ C) 0 = n % 128 + 128 := fbN_B8 (by omega) _
    have e1 : bN ([B8 (n % 128 + 128), B8 (n / 128)] ++ C) 1 = n / 128 := by
      show bN (B8 (n % 128 + 128) :: (B8 (n / 128) :: C)) (0 + 1) = _
      rw [fbN_cons, fbN_B8 (by omega)]
    rw [if_neg (by simp), e, if_neg (by omega), if_neg (by simp), e1, if_pos (by omega)]
    congr 1
    omega
theorem fbPutB_len (k f n : Int) : (hPutB k f n).length ≤ 3 := by
  unfold hPutB hBytes
  repeat' split
  all_goals simp
theorem fbGet_back {k f n : Int} (h : hPutE k f n = 0) (C : List UInt8) : hGet (hPutB k f n ++ C) 0 = ((k, f, n), ((hPutB k f n).length : Int), 0) := by
  obtain ⟨hr, hn1, hn2⟩ := fbPutE_ok h
  obtain ⟨hk1, hk2, hf1, hf2⟩ := hRight_ok hr
  have hB : hPutB k f n = hBytes k.toNat f.toNat n.toNat := by unfold hPutB; rw [if_pos h]
  rw [hB]
  obtain ⟨k, rfl⟩ := Int.eq_ofNat_of_zero_le (show 0 ≤ k by omega)
  obtain ⟨f, rfl⟩ := Int.eq_ofNat_of_zero_le hf1
  obtain ⟨n, rfl⟩ := Int.eq_ofNat_of_zero_le hn1
  simp only [Int.toNat_natCast]
  have e0 : bN (hBytes k f n ++ C) 0 = 16 * k + f := fbN_B8 (by omega) _
  have e1 : (hBytes k f n ++ C).drop 1 = (if n < 128 then [B8 n] else [B8 (n % 128 + 128), B8 (n / 128)]) ++ C := by
    unfold hBytes
    simp
  have hl : (hBytes k f n).length = if n < 128 then 2 else 3 := by unfold hBytes; split <;> simp
  have hl0 : 1 ≤ (hBytes k f n ++ C).length := by unfold hBytes; simp
  unfold hGet
  rw [if_neg (by omega), if_neg (by omega), Int.toNat_zero, e0]
  simp only [Nat.zero_add]
  rw [e1, fbLen_bytes n (by omega) C]
  have e2 : (((16 * k + f : Nat) : Int)) / 16 = k := by omega
  have e3 : (((16 * k + f : Nat) : Int)) % 16 = f := by omega
  rw [e2, e3, hr, if_neg (by decide)]
  simp only
  rw [if_neg (by decide), if_neg (by omega), hl]
  split <;> rfl

theorem frNext_back {x : Pk} (h : pkOk x) (C : List UInt8) (t : Int) : frNext (pkBytes x ++ C, t, 0) = ((x, true, 0), (C, t + 1, 0)) := by
  obtain ⟨⟨k, f, n⟩, B⟩ := x
  obtain ⟨h1, h2⟩ := h
  simp only at h1 h2
  unfold pkBytes
  simp only
  rw [List.append_assoc]
  unfold frNext
  simp only [fbGet_back h1 (B ++ C)]
  subst h2
  rw [if_neg (by simp), if_neg (by decide), if_neg (by simp), if_neg (by simp only [List.length_append]; omega)]
  have e1 : (((hPutB k f (B.length : Int)).length : Nat) : Int).toNat = (hPutB k f (B.length : Int)).length := by omega
  have e2 : (((hPutB k f (B.length : Int)).length : Int) + (B.length : Int)).toNat = (hPutB k f (B.length : Int)).length + B.length := by omega
  have e3 : ((B.length : Nat) : Int).toNat = B.length := by omega
  rw [e1, e2, e3, List.drop_left, List.take_left]
  rw [← List.append_assoc, ← List.length_append, List.drop_left]
theorem frAll_back : ∀ (p : List Pk), (∀ x ∈ p, pkOk x) → ∀ (C : List UInt8) (t : Int), frAll p.length (pBytes p ++ C, t, 0) = (p, 0, (C, t + p.length, 0))
  | [], _, C, t => by simp [frAll, pBytes]
  | x :: p, h, C, t => by
    have hn : frNext (pBytes (x :: p) ++ C, t, 0) = ((x, true, 0), (pBytes p ++ C, t + 1, 0)) := by
      unfold pBytes
      rw [List.flatMap_cons, List.append_assoc]
      exact frNext_back (h x (by simp)) _ t
    rw [List.length_cons, frAll, hn, if_pos rfl]
    simp only
    rw [frAll_back p (fun y hy => h y (by simp [hy])) C (t + 1)]
    simp only [Prod.mk.injEq, true_and, and_true]
    push_cast
    omega
theorem pBytes_add (p : List Pk) (x : Pk) : pBytes (p ++ [x]) = pBytes p ++ pkBytes x := by simp [pBytes]
theorem sB_append (a b : ByteArray) : sB (a ++ b) = sB a ++ sB b := by simp [sB]
theorem fb_extract (s : ByteArray) (n : Nat) : s.extract 0 n = sOf ((sB s).take n) := by
  have h : sB (s.extract 0 n) = (sB s).take n := by simp [sB]
  have e : ∀ t : ByteArray, sOf (sB t) = t := fun t => by cases t; simp [sOf, sB]
  rw [← e (s.extract 0 n), h]
theorem fb_take {B : List UInt8} (h : B.length ≤ 300) : B.take 300 = B := List.take_of_length_le h

theorem byte_litB (x : Int) (hx : 0 ≤ x ∧ x ≤ 255) (W : World) : (convert 23 9 (.slice (some ⟨W.heap.size, 0, none⟩) 1 1)).run Tryd.prog (W.alloc (.cells #[.int .u8 x] 5)) = .ok (.string (sOf [B8 x.toNat])) (W.alloc (.cells #[.int .u8 x] 5)) :=
  run_str (owned_lit W.heap.size W [B8 x.toNat] W.heap.size rfl (Nat.le_refl _) (by unfold maxLen; simp) _ (by simp only [List.map]; rw [byteV_B8 (x := x) (by omega) (by omega)]) 1 rfl).bs

structure BackI (w : World) (g k : Nat) (p : List Pk) (v : Value) (w' : World) : Prop where
  own : OwnP w' v p
  new : ∀ i, i ∈ blk v → w.heap.size ≤ i ∧ i ≠ g
  fr : FrAt w' g (pBytes p) 0 0 (blk v)
  ok : ∀ x ∈ p, pkOk x
  len : p.length ≤ k
  bl : (pBytes p).length ≤ 400 * k
  below : Below w.heap.size w w'

set_option maxRecDepth 100000 in
set_option maxHeartbeats 8000000 in
theorem FramerBack_w (v : Value) (l : List Pk) (x : Int) (w : World) (hE : EnvF w) (hx : 0 ≤ x ∧ x ≤ 255) (hv : Ps w v l) (hsz : ∀ y ∈ l, y.2.length ≤ 140737488351232) :
    Calls Tryd.prog 7 #[v, .int .u8 x] w fun e w' => e = .returned (.bool true) ∧ Below w.heap.size w w' := by
  have HE := hd hE; clear hE
  have HV := hd hv; have HS := hd hsz; clear hsz
  have hlit := byte_litB (16 * (1 + x % 14)) ⟨by omega, by omega⟩
  have hll : l.length ≤ 9223372036854775807 := by
    have := hv.len
    unfold maxLen at this
    omega
  obtain ⟨a, c, rfl⟩ := hv.slice
  clear hv
  go_enter Tryd.func7, Tryd.ntmps7
  go_wp2_with fail
  refine (frNew_c _).mono ?_
  rintro e w1 ⟨rfl, hf1, hb1⟩
  have hl1 : w.heap.size < w1.heap.size := hf1.lt
  have I0 : BackI w w.heap.size 0 [] (.slice none 0 0) w1 := ⟨OwnP.nil w1, by simp [blk, Value.ownBlock], by simpa [blk, Value.ownBlock, pBytes] using hf1, by simp, by simp, by simp [pBytes], hb1⟩
  clear hf1 hb1
  have HI0 := hd I0; clear I0
  obtain ⟨g, hg⟩ : ∃ g, g = w.heap.size := ⟨_, rfl⟩
  have hgw : w.heap.size ≤ g := by omega
  have HI1 : Hd (BackI w g 0 [] (.slice none 0 0) w1) := by rw [hg]; exact HI0
  rw [← hg]
  clear HI0 hg
  go_wp2_with fail
  go_loopw [6, 7] (fun o i w' => ∃ (k : Nat) (p : List Pk), i = .int .i64 k ∧ k ≤ l.length ∧ k ≤ 20 ∧ BackI w g k p o w') (fun o i _ => leftN l.length i)
  case atStart => exact ⟨0, [], rfl, by omega, by omega, HI1.out⟩
  case round =>
    obtain ⟨k, p, rfl, hk, hk20, I⟩ := hrel
    clear HI1
    obtain ⟨sa, sc, rfl⟩ := I.own.ps.slice
    have hbw := I.below
    have hbs := hbw.size
    have hgl := I.fr.lt
    have HI := hd I; clear I
    by_cases hk1 : k < l.length
    · by_cases hk2 : k < 20
      · obtain ⟨y, hy⟩ : ∃ y, l[k]? = some y := ⟨_, List.getElem?_eq_getElem hk1⟩
        obtain ⟨b, o, rfl, hbl, p0, p1, p2, p3⟩ := HV.out.at hy
        have hys := HS.out y (List.mem_of_getElem? hy)
        replace p0 := (bcell hbw _ _ hbl).trans p0
        replace p1 := (bcell hbw _ _ hbl).trans p1
        replace p2 := (bcell hbw _ _ hbl).trans p2
        replace p3 := (bcell hbw _ _ hbl).trans p3
        obtain ⟨⟨K, F, L0⟩, B⟩ := y
        simp only at p0 p1 p2 p3 hys
        have hblr : b < wr.heap.size := Nat.lt_of_lt_of_le hbl hbs
        have hbne : wr.heap.size ≠ b := by omega
        have hsB : (sOf B).size = B.length := sOf_size B
        clear hy
        by_cases h300 : 300 < B.length
        · have hcut : ∀ W : World, (Instr.slice 9 (.string (sOf B)) none (some (.int .i64 300)) none).run Tryd.prog W = .ok (.string (sOf (B.take 300))) W := by
            intro W
            rw [run_slice_string_h W 9 (sOf B) Tryd.underlying9 .i64 300 (by omega) (by omega)]
            exact congrArg (fun x => Result.ok (Value.string x) W) (fb_extract (sOf B) 300)
          obtain ⟨B', hB'⟩ : ∃ B', B.take 300 = B' := ⟨_, rfl⟩
          rw [hB'] at hcut
          have hl' : B'.length ≤ 300 := by rw [← hB']; simp; omega
          have hsB' : (sOf B').size = B'.length := sOf_size B'
          clear hB'
          go_wp2_with fail
          have hI := HI.out
          obtain ⟨rE, hrE⟩ : ∃ r, hPutE K F (B'.length : Int) = r := ⟨_, rfl⟩
          obtain ⟨L, hL⟩ : ∃ r, hPutB K F (B'.length : Int) = r := ⟨_, rfl⟩
          have hLl : L.length ≤ 3 := hL ▸ fbPutB_len _ _ _
          have hsL : (sOf L).size = L.length := sOf_size L
          have HrE := hd hrE; have HL := hd hL
          refine (refHPut_c K F (B'.length : Int) _).mono ?_
          rw [hrE, hL]
          clear hrE hL
          rintro e w2 ⟨v2, rfl, ho2, hb2⟩
          have hs2 := ho2.bs
          clear ho2
          obtain ⟨a2, c2, rfl⟩ := hs2.slice
          have hst := run_str hs2
          rw [show (⟨L.toArray⟩ : ByteArray) = sOf L from rfl] at hst
          clear hs2
          have q0 : w2.cell? ⟨wr.heap.size, 0, none⟩ = some (.int .i64 K) := (bcell hb2 wr.heap.size 0 (by simp)).trans (World.cell?_alloc_new wr _ _ 0)
          have q1 : w2.cell? ⟨wr.heap.size, 1, none⟩ = some (.int .i64 F) := (bcell hb2 wr.heap.size 1 (by simp)).trans (World.cell?_alloc_new wr _ _ 1)
          have q2 : w2.cell? ⟨wr.heap.size, 2, none⟩ = some (.int .i64 B'.length) := (bcell hb2 wr.heap.size 2 (by simp)).trans (World.cell?_alloc_new wr _ _ 2)
          have hbr : Below wr.heap.size wr w2 := Below.up ((Below.refl _ _).alloc (Nat.le_refl _) _) hb2
          have hl2 : wr.heap.size < w2.heap.size := by have := hb2.size; simp at this; omega
          clear hb2 p0 p1 p2 p3 hblr hbne hI
          have hgr : wr.heap.size ≠ g := by omega
          by_cases h0 : rE = 0
          · subst h0
            have hF2 := HI.out.fr.below hbr
            have hO2 : OwnP w2 (.slice sa p.length sc) p := HI.out.own.keeps (S := []) (Keeps.below hbr) (fun _ _ => by simp)
            have hb2 : Below w.heap.size w w2 := Below.up hbw hbr
            have hng : ∀ i, i ∈ blk (.slice sa p.length sc) → i ∉ [g] := fun i hi => by have := (HI.out.new i hi).2; simp; omega
            have hgS : g ∉ blk (.slice sa p.length sc) := fun hm => (HI.out.new g hm).2 rfl
            have HO2 := hd hO2; have HF2 := hd hF2
            clear hO2 hF2
            go_wp2_with fail
            refine (feed_c g (pBytes p) 0 0 (sOf L ++ sOf B') _ HF2.out (by have := HI.out.bl; rw [ByteArray.size_append, hsL, hsB']; omega)).mono ?_
            rintro e w3 ⟨rfl, hf3, hk3⟩
            rw [if_pos rfl, sB_append, sB_sOf, sB_sOf] at hf3
            replace q0 := (hk3.cell (o := 0) hl2 (by simpa using hgr)).trans q0
            replace q1 := (hk3.cell (o := 1) hl2 (by simpa using hgr)).trans q1
            replace q2 := (hk3.cell (o := 2) hl2 (by simpa using hgr)).trans q2
            have hO3 := HO2.out.keeps hk3 hng
            have hb3 : Below w.heap.size w w3 := hb2.trans (hk3.toBelow hb2.size (by simpa using hgw))
            have hl3 := hk3.size
            clear hk3 hst HO2 HF2
            have HF3 := hd hf3; clear hf3
            have HSB := hd hsB'; have HSL := hd hsL; clear hsB' hsL
            go_wp2_with (at_builtin; refine wp_appP rfl _ _ rfl _ p rfl hO3 ((K, F, (B'.length : Int)), B') _ rfl rfl (by have := HI.out.len; omega) ?_; intro v4 w4 ho4 hk4 hn4)
            go_roundw
            case rel =>
              have I := HI.out
              have hpb : pBytes (p ++ [((K, F, (B'.length : Int)), B')]) = pBytes p ++ (L ++ B') := by rw [pBytes_add]; unfold pkBytes; simp only; rw [HL.out]
              refine ⟨k + 1, p ++ [((K, F, (B'.length : Int)), B')], by congr 1, by omega, by omega, ⟨ho4, fun i hi => ?_, ?_, ?_, ?_, ?_, ?_⟩⟩
              · rcases hn4 i hi with h5 | h5
                · exact I.new i h5
                · omega
              · rw [hpb]
                refine HF3.out.after hk4 hgS hn4 (fun i hi => ho4.lt hi)
              · intro y hy
                rcases List.mem_append.1 hy with h5 | h5
                · exact I.ok y h5
                · simp at h5
                  subst h5
                  exact ⟨HrE.out, rfl⟩
              · have := I.len; simp; omega
              · have := I.bl; rw [hpb]; simp; omega
              · exact hb3.trans (hk4.toBelow hb3.size (fun i hi => (I.new i hi).1))
            case measure => simp [leftN]; omega
          · have heb : (rE == 0) = false := by simpa using h0
            have hO2 : OwnP w2 (.slice sa p.length sc) p := HI.out.own.keeps (S := []) (Keeps.below hbr) (fun _ _ => by simp)
            have hF2 := HI.out.fr.below hbr
            have HO2 := hd hO2; have HF2 := hd hF2
            clear hst q0 q1 q2 hO2 hF2
            go_wp2_with fail
            go_roundw
            case rel => exact ⟨k + 1, p, by congr 1, by omega, by omega, ⟨HO2.out, HI.out.new, HF2.out, HI.out.ok, by have := HI.out.len; omega, by have := HI.out.bl; omega, Below.up hbw hbr⟩⟩
            case measure => simp [leftN]; omega
        · obtain ⟨B', hB'⟩ : ∃ B', B' = B := ⟨_, rfl⟩
          have hl' : B'.length ≤ 300 := by rw [hB']; omega
          have hsB' : (sOf B').size = B'.length := sOf_size B'
          subst hB'
          go_wp2_with fail
          have hI := HI.out
          obtain ⟨rE, hrE⟩ : ∃ r, hPutE K F (B'.length : Int) = r := ⟨_, rfl⟩
          obtain ⟨L, hL⟩ : ∃ r, hPutB K F (B'.length : Int) = r := ⟨_, rfl⟩
          have hLl : L.length ≤ 3 := hL ▸ fbPutB_len _ _ _
          have hsL : (sOf L).size = L.length := sOf_size L
          have HrE := hd hrE; have HL := hd hL
          refine (refHPut_c K F (B'.length : Int) _).mono ?_
          rw [hrE, hL]
          clear hrE hL
          rintro e w2 ⟨v2, rfl, ho2, hb2⟩
          have hs2 := ho2.bs
          clear ho2
          obtain ⟨a2, c2, rfl⟩ := hs2.slice
          have hst := run_str hs2
          rw [show (⟨L.toArray⟩ : ByteArray) = sOf L from rfl] at hst
          clear hs2
          have q0 : w2.cell? ⟨wr.heap.size, 0, none⟩ = some (.int .i64 K) := (bcell hb2 wr.heap.size 0 (by simp)).trans (World.cell?_alloc_new wr _ _ 0)
          have q1 : w2.cell? ⟨wr.heap.size, 1, none⟩ = some (.int .i64 F) := (bcell hb2 wr.heap.size 1 (by simp)).trans (World.cell?_alloc_new wr _ _ 1)
          have q2 : w2.cell? ⟨wr.heap.size, 2, none⟩ = some (.int .i64 B'.length) := (bcell hb2 wr.heap.size 2 (by simp)).trans (World.cell?_alloc_new wr _ _ 2)
          have hbr : Below wr.heap.size wr w2 := Below.up ((Below.refl _ _).alloc (Nat.le_refl _) _) hb2
          have hl2 : wr.heap.size < w2.heap.size := by have := hb2.size; simp at this; omega
          clear hb2 p0 p1 p2 p3 hblr hbne hI
          have hgr : wr.heap.size ≠ g := by omega
          by_cases h0 : rE = 0
          · subst h0
            have hF2 := HI.out.fr.below hbr
            have hO2 : OwnP w2 (.slice sa p.length sc) p := HI.out.own.keeps (S := []) (Keeps.below hbr) (fun _ _ => by simp)
            have hb2 : Below w.heap.size w w2 := Below.up hbw hbr
            have hng : ∀ i, i ∈ blk (.slice sa p.length sc) → i ∉ [g] := fun i hi => by have := (HI.out.new i hi).2; simp; omega
            have hgS : g ∉ blk (.slice sa p.length sc) := fun hm => (HI.out.new g hm).2 rfl
            have HO2 := hd hO2; have HF2 := hd hF2
            clear hO2 hF2
            go_wp2_with fail
            refine (feed_c g (pBytes p) 0 0 (sOf L ++ sOf B') _ HF2.out (by have := HI.out.bl; rw [ByteArray.size_append, hsL, hsB']; omega)).mono ?_
            rintro e w3 ⟨rfl, hf3, hk3⟩
            rw [if_pos rfl, sB_append, sB_sOf, sB_sOf] at hf3
            replace q0 := (hk3.cell (o := 0) hl2 (by simpa using hgr)).trans q0
            replace q1 := (hk3.cell (o := 1) hl2 (by simpa using hgr)).trans q1
            replace q2 := (hk3.cell (o := 2) hl2 (by simpa using hgr)).trans q2
            have hO3 := HO2.out.keeps hk3 hng
            have hb3 : Below w.heap.size w w3 := hb2.trans (hk3.toBelow hb2.size (by simpa using hgw))
            have hl3 := hk3.size
            clear hk3 hst HO2 HF2
            have HF3 := hd hf3; clear hf3
            have HSB := hd hsB'; have HSL := hd hsL; clear hsB' hsL
            go_wp2_with (at_builtin; refine wp_appP rfl _ _ rfl _ p rfl hO3 ((K, F, (B'.length : Int)), B') _ rfl rfl (by have := HI.out.len; omega) ?_; intro v4 w4 ho4 hk4 hn4)
            go_roundw
            case rel =>
              have I := HI.out
              have hpb : pBytes (p ++ [((K, F, (B'.length : Int)), B')]) = pBytes p ++ (L ++ B') := by rw [pBytes_add]; unfold pkBytes; simp only; rw [HL.out]
              refine ⟨k + 1, p ++ [((K, F, (B'.length : Int)), B')], by congr 1, by omega, by omega, ⟨ho4, fun i hi => ?_, ?_, ?_, ?_, ?_, ?_⟩⟩
              · rcases hn4 i hi with h5 | h5
                · exact I.new i h5
                · omega
              · rw [hpb]
                refine HF3.out.after hk4 hgS hn4 (fun i hi => ho4.lt hi)
              · intro y hy
                rcases List.mem_append.1 hy with h5 | h5
                · exact I.ok y h5
                · simp at h5
                  subst h5
                  exact ⟨HrE.out, rfl⟩
              · have := I.len; simp; omega
              · have := I.bl; rw [hpb]; simp; omega
              · exact hb3.trans (hk4.toBelow hb3.size (fun i hi => (I.new i hi).1))
            case measure => simp [leftN]; omega
          · have heb : (rE == 0) = false := by simpa using h0
            have hO2 : OwnP w2 (.slice sa p.length sc) p := HI.out.own.keeps (S := []) (Keeps.below hbr) (fun _ _ => by simp)
            have hF2 := HI.out.fr.below hbr
            have HO2 := hd hO2; have HF2 := hd hF2
            clear hst q0 q1 q2 hO2 hF2
            go_wp2_with fail
            go_roundw
            case rel => exact ⟨k + 1, p, by congr 1, by omega, by omega, ⟨HO2.out, HI.out.new, HF2.out, HI.out.ok, by have := HI.out.len; omega, by have := HI.out.bl; omega, Below.up hbw hbr⟩⟩
            case measure => simp [leftN]; omega
      · skip
        go_wp2_with fail
        have hbx : Below wr.heap.size wr (wr.alloc (.cells #[.int .u8 (16 * (1 + x % 14))] 5)) := (Below.refl _ _).alloc (Nat.le_refl _) _
        have hng : ∀ i, i ∈ blk (.slice sa p.length sc) → i ∉ [g] := fun i hi => by have := (HI.out.new i hi).2; simp; omega
        have hgS : g ∉ blk (.slice sa p.length sc) := fun hm => (HI.out.new g hm).2 rfl
        have hb2 : Below w.heap.size w (wr.alloc (.cells #[.int .u8 (16 * (1 + x % 14))] 5)) := Below.up hbw hbx
        have hO1 : OwnP (wr.alloc (.cells #[.int .u8 (16 * (1 + x % 14))] 5)) (.slice sa p.length sc) p := World.ownsRow.alloc HI.out.own _
        have hbl := HI.out.bl
        have hpl := HI.out.len
        refine (feed_c g (pBytes p) 0 0 (sOf [B8 (16 * (1 + x % 14)).toNat]) _ (HI.out.fr.below hbx) (by rw [sOf_size]; simp; omega)).mono ?_
        generalize (wr.alloc (.cells #[.int .u8 (16 * (1 + x % 14))] 5)) = w2 at *
        generalize B8 (16 * (1 + x % 14)).toNat = z at *
        rintro e w3 ⟨rfl, hf3, hk3⟩
        rw [if_pos rfl, sB_sOf] at hf3
        have hO3 := hO1.keeps hk3 hng
        have hb3 : Below w.heap.size w w3 := hb2.trans (hk3.toBelow hb2.size (by simpa using hgw))
        clear hO1 hb2 hk3 hlit hbx
        have HO3 := hd hO3; have HF3 := hd hf3; have HPL := hd hpl; have HBL := hd hbl
        clear hO3 hf3 hpl hbl
        go_wp2_with fail
        refine (all_c g (pBytes p ++ [z], 0, 0) p.length (blk (.slice sa p.length sc)) _ hgS (fun W hW => HE.out.below (hb3.trans (hW.toBelow hb3.size (by simpa using hgw)))) HF3.out (by have := HBL.out; simp; omega) (by simp) (by have := HPL.out; omega)).mono ?_
        rw [frAll_back p HI.out.ok _ 0]
        rintro e w4 ⟨v4, rfl, ho4, hf4, hk4, hn4⟩
        have hP4 := ho4.ps
        have hO4 := (HO3.out.keeps hk4 hng).ps
        have hb4 : Below w.heap.size w w4 := hb3.trans (hk4.toBelow hb3.size (by simpa using hgw))
        obtain ⟨a4, c4, rfl⟩ := hP4.slice
        have HF4 := hd hf4; have HP4 := hd hP4; have HO4 := hd hO4
        clear ho4 hf4 hk4 hn4 hP4 hO4 HO3 HF3
        simp only at HF4
        go_wp2_with fail
        refine (same12_c _ _ p _ HP4.out HO4.out).mono ?_
        rintro e w5 ⟨rfl, hb5⟩
        have hF5 := HF4.out.below hb5
        replace hb5 := Below.up hb4 hb5
        have HF5 := hd hF5
        clear hF5 HF4 hb4
        go_wp2_with fail
        refine (waits_c g _ _ _ _ HF5.out).mono ?_
        rintro e w6 ⟨rfl, rfl⟩
        rw [show ((([z] : List UInt8).length : Nat) : Int) = 1 from rfl]
        go_wp2_with fail
        refine (dead_c g _ _ _ _ HF5.out).mono ?_
        rintro e w6 ⟨rfl, rfl⟩
        rw [show ((0 : Int) != 0) = false from rfl]
        go_wp2_with fail
        refine (awake12_c _ (HE.out.below hb5)).mono ?_
        rintro e w6 ⟨rfl, hb6⟩
        replace hb5 := Below.up hb5 hb6
        go_wp2_with fail
        go_ret
        exact ⟨rfl, by go_grown⟩
    · skip
      go_wp2_with fail
      have hbx : Below wr.heap.size wr (wr.alloc (.cells #[.int .u8 (16 * (1 + x % 14))] 5)) := (Below.refl _ _).alloc (Nat.le_refl _) _
      have hng : ∀ i, i ∈ blk (.slice sa p.length sc) → i ∉ [g] := fun i hi => by have := (HI.out.new i hi).2; simp; omega
      have hgS : g ∉ blk (.slice sa p.length sc) := fun hm => (HI.out.new g hm).2 rfl
      have hb2 : Below w.heap.size w (wr.alloc (.cells #[.int .u8 (16 * (1 + x % 14))] 5)) := Below.up hbw hbx
      have hO1 : OwnP (wr.alloc (.cells #[.int .u8 (16 * (1 + x % 14))] 5)) (.slice sa p.length sc) p := World.ownsRow.alloc HI.out.own _
      have hbl := HI.out.bl
      have hpl := HI.out.len
      refine (feed_c g (pBytes p) 0 0 (sOf [B8 (16 * (1 + x % 14)).toNat]) _ (HI.out.fr.below hbx) (by rw [sOf_size]; simp; omega)).mono ?_
      generalize (wr.alloc (.cells #[.int .u8 (16 * (1 + x % 14))] 5)) = w2 at *
      generalize B8 (16 * (1 + x % 14)).toNat = z at *
      rintro e w3 ⟨rfl, hf3, hk3⟩
      rw [if_pos rfl, sB_sOf] at hf3
      have hO3 := hO1.keeps hk3 hng
      have hb3 : Below w.heap.size w w3 := hb2.trans (hk3.toBelow hb2.size (by simpa using hgw))
      clear hO1 hb2 hk3 hlit hbx
      have HO3 := hd hO3; have HF3 := hd hf3; have HPL := hd hpl; have HBL := hd hbl
      clear hO3 hf3 hpl hbl
      go_wp2_with fail
      refine (all_c g (pBytes p ++ [z], 0, 0) p.length (blk (.slice sa p.length sc)) _ hgS (fun W hW => HE.out.below (hb3.trans (hW.toBelow hb3.size (by simpa using hgw)))) HF3.out (by have := HBL.out; simp; omega) (by simp) (by have := HPL.out; omega)).mono ?_
      rw [frAll_back p HI.out.ok _ 0]
      rintro e w4 ⟨v4, rfl, ho4, hf4, hk4, hn4⟩
      have hP4 := ho4.ps
      have hO4 := (HO3.out.keeps hk4 hng).ps
      have hb4 : Below w.heap.size w w4 := hb3.trans (hk4.toBelow hb3.size (by simpa using hgw))
      obtain ⟨a4, c4, rfl⟩ := hP4.slice
      have HF4 := hd hf4; have HP4 := hd hP4; have HO4 := hd hO4
      clear ho4 hf4 hk4 hn4 hP4 hO4 HO3 HF3
      simp only at HF4
      go_wp2_with fail
      refine (same12_c _ _ p _ HP4.out HO4.out).mono ?_
      rintro e w5 ⟨rfl, hb5⟩
      have hF5 := HF4.out.below hb5
      replace hb5 := Below.up hb4 hb5
      have HF5 := hd hF5
      clear hF5 HF4 hb4
      go_wp2_with fail
      refine (waits_c g _ _ _ _ HF5.out).mono ?_
      rintro e w6 ⟨rfl, rfl⟩
      rw [show ((([z] : List UInt8).length : Nat) : Int) = 1 from rfl]
      go_wp2_with fail
      refine (dead_c g _ _ _ _ HF5.out).mono ?_
      rintro e w6 ⟨rfl, rfl⟩
      rw [show ((0 : Int) != 0) = false from rfl]
      go_wp2_with fail
      refine (awake12_c _ (HE.out.below hb5)).mono ?_
      rintro e w6 ⟨rfl, hb6⟩
      replace hb5 := Below.up hb5 hb6
      go_wp2_with fail
      go_ret
      exact ⟨rfl, by go_grown⟩
end Go.Proofs.YtgafhnomkeiakaaDoor
