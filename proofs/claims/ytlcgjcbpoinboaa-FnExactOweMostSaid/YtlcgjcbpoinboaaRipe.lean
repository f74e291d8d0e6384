/-
  The readers whose class can be raised; by the program and by the reference. No condition.
-/
import Derived.Test.YtlcgjcbpoinboaaMay
import Derived.Test.YtlcgjcbpoinboaaOwnReader
namespace Go.Proofs.Ytlcgjcbpoinboaa
open Go.RowKit
set_option linter.unusedVariables false
set_option maxRecDepth 100000

/-- The class of a reader can be raised on a day. -/
def ripeB (s : ReaderD) (d : Int) : Bool := decide (s.Class < 3) && (s.Fines == 0) && decide (s.Joined + 365 * s.Class ≤ d)

theorem ripe_spec (s : ReaderD) (d : Int) (h1 : 0 ≤ s.Joined ∧ s.Joined ≤ 4000) (h2 : 1 ≤ s.Class ∧ s.Class ≤ 3) (h3 : 0 ≤ d ∧ d ≤ 4000) (w : World) : Calls Try.prog 72 #[s.val, .int .i64 d] w fun e w' => e = .returned (.bool (ripeB s d)) ∧ Below w.heap.size w w' := by
  go_enter Try.func72, Try.ntmps72
  go_wp2
  all_goals go_ret
  all_goals exact ⟨ret_bool (by rw [Bool.eq_iff_iff]; simp [ripeB, *] <;> omega), by go_grown⟩

theorem ripe_impl (s : ReaderD) (d : Int) (h1 : 0 ≤ s.Joined ∧ s.Joined ≤ 4000) (h2 : 1 ≤ s.Class ∧ s.Class ≤ 3) (h3 : 0 ≤ d ∧ d ≤ 4000) (w : World) : Calls Try.prog 73 #[s.val, .int .i64 d] w fun e w' => e = .returned (.bool (ripeB s d)) ∧ Below w.heap.size w w' := by
  go_enter Try.func73, Try.ntmps73
  go_wp2
  all_goals go_ret
  all_goals exact ⟨ret_bool (by rw [Bool.eq_iff_iff]; simp [ripeB, *] <;> omega), by go_grown⟩

def ripeOk (X : Nat → ReaderD) (n : Nat) (d : Int) : Bool := readersB X n && inB d 0 4000
def ripeL (X : Nat → ReaderD) (n : Nat) (d : Int) : List Int := if ripeOk X n d = true then selI (fun i => ripeB (X i) d) (fun i => (X i).Id) n else []
theorem ripeL_le (X : Nat → ReaderD) (n : Nat) (d : Int) : (ripeL X n d).length ≤ n := by
  unfold ripeL; split
  · exact selI_le _ _ _
  · simp
theorem ownI_empty (w : World) : OwnI w.heap.size (w.alloc (.cells #[] 3)) (.slice (some ⟨w.heap.size, 0, none⟩) 0 0) [] :=
  World.ownsRow_made w #[] 0 (Nat.le_refl _) (by simp [maxLen]) rfl

set_option maxHeartbeats 4000000 in
theorem ripes_spec (w : World) (b off len cap : Nat) (X : Nat → ReaderD) (d : Int) (h : Rw w b off 5 len (fun i => (X i).cells)) (hm : len ≤ 1048576) (hlc : len ≤ cap) (hnm : ∀ i, i < len → (X i).Name.size ≤ maxLen) :
    Calls Try.prog 41 #[.slice (some ⟨b, off, none⟩) len cap, .int .i64 d] w (RetIB (ripeL X len d) (ripeOk X len d) w) := by
  have H := hid h
  have HN := hid hnm
  have hb := h.1
  clear h hnm
  obtain ⟨i0, hi, hz0, hz1, hz2⟩ := info_parts info_int
  have hE := hid (ownI_empty w)
  have hA : Below w.heap.size w (w.alloc (.cells #[] 3)) := by go_grown
  go_enter Try.func41, Try.ntmps41
  go_wp2_with fail
  refine (readers_spec _ b off len cap X (H.out.later' hA) hm hlc HN.out).mono ?_
  rintro e w0 ⟨rfl, hb0⟩
  have B0 : Below w.heap.size w w0 := Below.on hA hA.size hb0
  have ho0 := hid (hE.out.below hb0)
  clear hE
  by_cases hS : readersB X len = true
  · by_cases hd : inB d 0 4000 = true
    · have hd1 : 0 ≤ d ∧ d ≤ 4000 := by simp [inB] at hd; omega
      have hP : Hid (ripeOk X len d = true) := by simp [Hid, ripeOk, hS, hd]
      have hQ : Hid (ripeL X len d = selI (fun i => ripeB (X i) d) (fun i => (X i).Id) len) := by unfold Hid ripeL; rw [if_pos hP.out]
      have HS := hid hS
      clear hb0
      go_wp2_with (go_at_call 71; refine (day_spec _ _).mono ?_; rintro e w' ⟨rfl, rfl⟩)
      go_loopw [6, 7] (fun v i wr => ∃ k : Nat, k ≤ len ∧ i = .int .i64 k ∧ Below w.heap.size w wr ∧ Hid (OwnI w.heap.size wr v (selI (fun i => ripeB (X i) d) (fun i => (X i).Id) k))) (fun _ i _ => len - (intOf i).toNat)
      case atStart => exact ⟨0, by omega, rfl, B0, ho0⟩
      case round =>
        clear B0 ho0 hA hS
        obtain ⟨k, hk, rfl, hB, ho⟩ := hrel
        by_cases hlt : k < len
        · obtain ⟨_, q1, q2, _⟩ := readersB_bd HS.out hlt
          have hle := selI_le (fun i => ripeB (X i) d) (fun i => (X i).Id) k
          have c0 : wr.cell? ⟨b, off + k * 5, none⟩ = some (.int .i64 (X k).Id) := (hB.cell hb).trans (H.out.2 k hlt 0 (by omega))
          have c1 : wr.cell? ⟨b, off + k * 5 + 1, none⟩ = some (.string (X k).Name) := (hB.cell hb).trans (H.out.2 k hlt 1 (by omega))
          have c2 : wr.cell? ⟨b, off + k * 5 + 2, none⟩ = some (.int .i64 (X k).Joined) := (hB.cell hb).trans (H.out.2 k hlt 2 (by omega))
          have c3 : wr.cell? ⟨b, off + k * 5 + 3, none⟩ = some (.int .i64 (X k).Class) := (hB.cell hb).trans (H.out.2 k hlt 3 (by omega))
          have c4 : wr.cell? ⟨b, off + k * 5 + 4, none⟩ = some (.int .i64 (X k).Fines) := (hB.cell hb).trans (H.out.2 k hlt 4 (by omega))
          go_wp2_with fail
          refine (ripe_spec (X k) d q1 q2 hd1 _).mono ?_
          rintro e w1 ⟨rfl, hb1⟩
          have hB1 : Below w.heap.size w w1 := Below.on hB hB.size hb1
          have x0 : w1.cell? ⟨b, off + k * 5, none⟩ = some (.int .i64 (X k).Id) := (hB1.cell hb).trans (H.out.2 k hlt 0 (by omega))
          have ho1 := hid (ho.out.below hb1)
          by_cases hp : ripeB (X k) d = true
          · go_wp2_with (at_builtin; refine wpList_append_own_at _ rfl _ _ 53 rfl w.heap.size 3 i0 (.int .i64 0) 1 8 Try.underlying53 hi hz0 hz1 hz2 rfl (by decide) _ _ _ rfl (World.ownsRow.alloc ho1.out _) ⟨w1.heap.size, 0, none⟩ 1 1 [.int .i64 (X k).Id] rfl rfl ?c1 ?c2 ?c3 ?c4 ?c5 ?_)
            case c1 => exact cell_one_new _ _ _
            case c2 => intro u hu; simp at hu; subst hu; rfl
            case c3 => unfold maxLen; omega
            case c4 => omega
            case c5 => have := hB1.size; simp; omega
            intro v' w2 hown' hgrow _ _
            have hb2 : Below w.heap.size w w2 := (hB1.alloc hB1.size _).grown hgrow (by have := hB1.size; simp; omega) (fun g hg => by have := (World.ownsRow.lt ho1.out g hg).1; omega)
            have ho2 : Hid (OwnI w.heap.size w2 v' (selI (fun i => ripeB (X i) d) (fun i => (X i).Id) (k + 1))) := by
              rw [selI_yes hp]
              unfold Hid OwnI
              simpa using hown'
            clear hown' hgrow ho1
            go_wp2_with fail
            go_roundw
            case rel => exact ⟨k + 1, by omega, by go_num, hb2, ho2⟩
            case measure => simp [intOf]; omega
          · have hp' : ripeB (X k) d = false := by simpa using hp
            clear hp
            go_wp2_with fail
            go_roundw
            case rel => exact ⟨k + 1, by omega, by go_num, hB1, by rw [selI_no hp']; exact ho1⟩
            case measure => simp [intOf]; omega
        · obtain rfl : k = len := by omega
          go_wp2_with fail
          go_ret2
          exact ⟨_, by rw [hP.out]; rfl, by rw [hQ.out]; exact ho.out, hB⟩
    · have hd' : inB d 0 4000 = false := by simpa using hd
      have hP : ripeOk X len d = false := by simp [ripeOk, hd']
      have hQ : ripeL X len d = [] := by unfold ripeL; rw [hP]; rfl
      have hP := hid hP
      have hQ := hid hQ
      clear hd
      go_wp2_with (go_at_call 71; refine (day_spec _ _).mono ?_; rintro e w' ⟨rfl, rfl⟩)
      go_ret2
      exact ⟨_, by rw [hP.out]; rfl, by rw [hQ.out]; exact ho0.out, B0⟩
  · have hS' : readersB X len = false := by simpa using hS
    have hP : ripeOk X len d = false := by simp [ripeOk, hS']
    have hQ : ripeL X len d = [] := by unfold ripeL; rw [hP]; rfl
    have hP := hid hP
    have hQ := hid hQ
    clear hS
    go_wp2_with fail
    go_ret2
    exact ⟨_, by rw [hP.out]; rfl, by rw [hQ.out]; exact ho0.out, B0⟩

set_option maxHeartbeats 4000000 in
theorem ripes_impl (w : World) (b off len cap : Nat) (X : Nat → ReaderD) (d : Int) (h : Rw w b off 5 len (fun i => (X i).cells)) (hm : len ≤ 1048576) (hlc : len ≤ cap) (hnm : ∀ i, i < len → (X i).Name.size ≤ maxLen) :
    Calls Try.prog 42 #[.slice (some ⟨b, off, none⟩) len cap, .int .i64 d] w (RetIB (ripeL X len d) (ripeOk X len d) w) := by
  have H := hid h
  have HN := hid hnm
  have hb := h.1
  clear h hnm
  obtain ⟨i0, hi, hz0, hz1, hz2⟩ := info_parts info_int
  have hE : Hid (OwnI w.heap.size w (.slice none 0 0) []) := OwnI.nil _ _
  have hA : Below w.heap.size w w := Below.refl _ _
  go_enter Try.func42, Try.ntmps42
  go_wp2_with fail
  refine (readers_impl _ b off len cap X H.out hm hlc HN.out).mono ?_
  rintro e w0 ⟨rfl, hb0⟩
  have B0 : Below w.heap.size w w0 := Below.on hA hA.size hb0
  have ho0 := hid (hE.out.below hb0)
  clear hE
  by_cases hS : readersB X len = true
  · by_cases hd : inB d 0 4000 = true
    · have hd1 : 0 ≤ d ∧ d ≤ 4000 := by simp [inB] at hd; omega
      have hP : Hid (ripeOk X len d = true) := by simp [Hid, ripeOk, hS, hd]
      have hQ : Hid (ripeL X len d = selI (fun i => ripeB (X i) d) (fun i => (X i).Id) len) := by unfold Hid ripeL; rw [if_pos hP.out]
      have HS := hid hS
      clear hb0
      go_wp2_with (go_at_call 59; refine (day_impl _ _).mono ?_; rintro e w' ⟨rfl, rfl⟩)
      go_loopw [6, 19] (fun v i wr => ∃ k : Nat, k ≤ len ∧ i = .int .i64 k ∧ Below w.heap.size w wr ∧ Hid (OwnI w.heap.size wr v (selI (fun i => ripeB (X i) d) (fun i => (X i).Id) k))) (fun _ i _ => len - (intOf i).toNat)
      case atStart => exact ⟨0, by omega, rfl, B0, ho0⟩
      case round =>
        clear B0 ho0 hA hS
        obtain ⟨k, hk, rfl, hB, ho⟩ := hrel
        by_cases hlt : k < len
        · obtain ⟨_, q1, q2, _⟩ := readersB_bd HS.out hlt
          have hle := selI_le (fun i => ripeB (X i) d) (fun i => (X i).Id) k
          have c0 : wr.cell? ⟨b, off + k * 5, none⟩ = some (.int .i64 (X k).Id) := (hB.cell hb).trans (H.out.2 k hlt 0 (by omega))
          have c1 : wr.cell? ⟨b, off + k * 5 + 1, none⟩ = some (.string (X k).Name) := (hB.cell hb).trans (H.out.2 k hlt 1 (by omega))
          have c2 : wr.cell? ⟨b, off + k * 5 + 2, none⟩ = some (.int .i64 (X k).Joined) := (hB.cell hb).trans (H.out.2 k hlt 2 (by omega))
          have c3 : wr.cell? ⟨b, off + k * 5 + 3, none⟩ = some (.int .i64 (X k).Class) := (hB.cell hb).trans (H.out.2 k hlt 3 (by omega))
          have c4 : wr.cell? ⟨b, off + k * 5 + 4, none⟩ = some (.int .i64 (X k).Fines) := (hB.cell hb).trans (H.out.2 k hlt 4 (by omega))
          have hA2 : Below wr.heap.size wr (wr.alloc (.cells #[.int .i64 (X k).Id, .string (X k).Name, .int .i64 (X k).Joined, .int .i64 (X k).Class, .int .i64 (X k).Fines] 33)) := by go_grown
          go_wp2_with fail
          refine (ripe_impl (X k) d q1 q2 hd1 _).mono ?_
          rintro e w1 ⟨rfl, hb1⟩
          have hB1 : Below w.heap.size w w1 := Below.on (Below.on hB hB.size hA2) (by have := hB.size; simp; omega) hb1
          have x0 : w1.cell? ⟨wr.heap.size, 0, none⟩ = some (.int .i64 (X k).Id) := (hb1.cell (by simp)).trans (by simp [go_sem])
          have ho1 := hid ((ho.out.below hA2).below hb1)
          by_cases hp : ripeB (X k) d = true
          · go_wp2_with (at_builtin; refine wpList_append_own_at _ rfl _ _ 53 rfl w.heap.size 3 i0 (.int .i64 0) 1 8 Try.underlying53 hi hz0 hz1 hz2 rfl (by decide) _ _ _ rfl (World.ownsRow.alloc ho1.out _) ⟨w1.heap.size, 0, none⟩ 1 1 [.int .i64 (X k).Id] rfl rfl ?c1 ?c2 ?c3 ?c4 ?c5 ?_)
            case c1 => exact cell_one_new _ _ _
            case c2 => intro u hu; simp at hu; subst hu; rfl
            case c3 => unfold maxLen; omega
            case c4 => omega
            case c5 => have := hB1.size; simp; omega
            intro v' w2 hown' hgrow _ _
            have hb2 : Below w.heap.size w w2 := (hB1.alloc hB1.size _).grown hgrow (by have := hB1.size; simp; omega) (fun g hg => by have := (World.ownsRow.lt ho1.out g hg).1; omega)
            have ho2 : Hid (OwnI w.heap.size w2 v' (selI (fun i => ripeB (X i) d) (fun i => (X i).Id) (k + 1))) := by
              rw [selI_yes hp]
              unfold Hid OwnI
              simpa using hown'
            clear hown' hgrow ho1
            go_wp2_with fail
            go_roundw
            case rel => exact ⟨k + 1, by omega, by go_num, hb2, ho2⟩
            case measure => simp [intOf]; omega
          · have hp' : ripeB (X k) d = false := by simpa using hp
            clear hp
            go_wp2_with fail
            go_roundw
            case rel => exact ⟨k + 1, by omega, by go_num, hB1, by rw [selI_no hp']; exact ho1⟩
            case measure => simp [intOf]; omega
        · obtain rfl : k = len := by omega
          go_wp2_with fail
          go_ret2
          exact ⟨_, by rw [hP.out]; rfl, by rw [hQ.out]; exact ho.out, hB⟩
    · have hd' : inB d 0 4000 = false := by simpa using hd
      have hP : ripeOk X len d = false := by simp [ripeOk, hd']
      have hQ : ripeL X len d = [] := by unfold ripeL; rw [hP]; rfl
      have hP := hid hP
      have hQ := hid hQ
      clear hd
      go_wp2_with (go_at_call 59; refine (day_impl _ _).mono ?_; rintro e w' ⟨rfl, rfl⟩)
      go_ret2
      exact ⟨_, by rw [hP.out]; rfl, by rw [hQ.out]; exact OwnI.nil _ _, B0⟩
  · have hS' : readersB X len = false := by simpa using hS
    have hP : ripeOk X len d = false := by simp [ripeOk, hS']
    have hQ : ripeL X len d = [] := by unfold ripeL; rw [hP]; rfl
    have hP := hid hP
    have hQ := hid hQ
    clear hS
    go_wp2_with fail
    go_ret2
    exact ⟨_, by rw [hP.out]; rfl, by rw [hQ.out]; exact OwnI.nil _ _, B0⟩

set_option maxRecDepth 100000 in
set_option maxHeartbeats 8000000 in
theorem walk_ExactRipeReaders (w : World) (p0 : Option Addr) (len0 cap0 : Nat) (X0 : Nat → ReaderD) (a1 : Int) (h0 : Sl w 5 p0 len0 (fun i => (X0 i).cells)) (ok0 : ∀ i, i < len0 → (X0 i).ok) (hm0 : len0 ≤ maxLen) (i1 : isI a1) :
    Calls Try.prog 9 #[.slice p0 len0 cap0, .int .i64 a1] w fun e w' => e = .returned (.bool true) ∧ Below w.heap.size w w' := by
  go_enter Try.func9, Try.ntmps9
  go_wp2_with fail
  refine (szReaderS_any p0 len0 cap0 X0 _ h0 ok0 hm0).mono ?_
  rintro e w0 ⟨r, rfl, hb0, hr⟩
  have z0 := hb0.size
  clear ok0
  by_cases hr0 : r < 0
  · go_wp2_with fail
    go_ret
    exact ⟨rfl, hb0⟩
  obtain ⟨hL, hnm⟩ := hr (by omega)
  clear hr
  have hLL : (ripeL X0 len0 a1).length ≤ 1048576 := by have := ripeL_le X0 len0 a1; omega
  have hNM : Hid (∀ i, i < len0 → (X0 i).Name.size ≤ maxLen) := fun i hi => by have := hnm i hi; unfold maxLen; omega
  clear hnm
  obtain ⟨LL, hLe⟩ : ∃ LL, LL = ripeL X0 len0 a1 := ⟨_, rfl⟩
  have HLe := hid hLe
  rw [← hLe] at hLL
  clear hLe
  go_wp2_with fail
  refine (toReaderS_any p0 len0 cap0 X0 _ (h0.below hb0) (by omega)).mono ?_
  rintro e w1 ⟨rfl, hb1, hs1, F1⟩
  have z1 := hb1.size
  have B1 : Below w.heap.size w w1 := Below.on hb0 hb0.size hb1
  go_wp2_with fail
  refine (ripes_spec _ _ 0 len0 len0 X0 a1 F1.rw (by omega) (Nat.le_refl _) hNM.out).mono ?_
  rintro e w2 ⟨v, rfl, oV0, hb2⟩
  rw [← HLe.out] at oV0
  have oV := hid oV0
  clear oV0
  have z2 := hb2.size
  have B2 : Below w.heap.size w w2 := Below.on B1 B1.size hb2
  go_wp2_with fail
  refine (toReaderS_any p0 len0 cap0 X0 _ (h0.below B2) (by omega)).mono ?_
  rintro e w3 ⟨rfl, hb3, hs3, F3⟩
  have z3 := hb3.size
  have B3 : Below w.heap.size w w3 := Below.on B2 B2.size hb3
  go_wp2_with fail
  refine (ripes_impl _ _ 0 len0 len0 X0 a1 F3.rw (by omega) (Nat.le_refl _) hNM.out).mono ?_
  rintro e w4 ⟨g, rfl, oG0, hb4⟩
  rw [← HLe.out] at oG0
  have oG := hid oG0
  clear oG0
  have z4 := hb4.size
  have B4 : Below w.heap.size w w4 := Below.on B3 B3.size hb4
  go_wp2_with fail
  refine (eqIntS_own g v LL _ _ _ oG.out ((oV.out.below hb3).below hb4) hLL).mono ?_
  rintro e w5 ⟨rfl, hb5⟩
  have z5 := hb5.size
  have B5 : Below w.heap.size w w5 := Below.on B4 B4.size hb5
  go_wp2_with fail
  refine (toReaderS_any p0 len0 cap0 X0 _ (h0.below B5) (by omega)).mono ?_
  rintro e w6 ⟨rfl, hb6, hs6, F6⟩
  have z6 := hb6.size
  have B6 : Below w.heap.size w w6 := Below.on B5 B5.size hb6
  go_wp2_with fail
  refine (eqReaderS_same _ _ 0 0 len0 len0 len0 X0 _ (((F3.rw.later' hb4).later' hb5).later' hb6) F6.rw (by omega) (Nat.le_refl _) (Nat.le_refl _)).mono ?_
  rintro e w7 ⟨rfl, hb7⟩
  have z7 := hb7.size
  have B7 : Below w.heap.size w w7 := Below.on B6 B6.size hb7
  go_wp2_with fail
  refine (markReaderS_any _ len0 len0 len0 1 _ ((((F3.below hb4 (by omega)).below hb5 (by omega)).below hb6 (by omega)).below hb7 (by omega)).blk (Nat.le_refl _) (Nat.le_refl _) (by omega) (by omega) (by omega)).mono ?_
  rintro e w8 ⟨rfl, gr8, _, _⟩
  have z8 := gr8.size
  have B8 : Below w.heap.size w w8 := B7.grown gr8 B7.size (fun k hk => by cases hk; omega)
  have oV8 := hid (((((((oV.out.below hb3).below hb4).below hb5).below hb6).below hb7)).kept gr8 (oV.out.ne_lo (by omega)))
  have oG8 := hid (((((oG.out.below hb5).below hb6).below hb7)).kept gr8 (oG.out.ne_hi (by omega)))
  go_wp2_with fail
  refine (eqIntS_own g v LL _ _ _ oG8.out oV8.out hLL).mono ?_
  rintro e w9 ⟨rfl, hb9⟩
  have z9 := hb9.size
  have B9 : Below w.heap.size w w9 := Below.on B8 B8.size hb9
  go_wp2_with fail
  refine (markIntS_own g LL _ 1 _ (oG8.out.below hb9) (by omega) (by omega) (by omega)).mono ?_
  rintro e w10 ⟨rfl, oM0, gr10⟩
  have oM := hid oM0
  clear oM0
  have z10 := gr10.size
  have B10 : Below w.heap.size w w10 := B9.grown gr10 B9.size (fun k hk => by have := oG.out.ge k hk; omega)
  have oV10 := hid ((oV8.out.below hb9).kept gr10 (own_ne oV.out.lt (fun k hk => by have := oG.out.ge k hk; omega)))
  go_wp2_with fail
  refine (heldIntS_own g LL.length _ 1 _ oM.out (by omega) (by omega) (by omega)).mono ?_
  rintro e w11 ⟨rfl, rfl⟩
  go_wp2_with fail
  refine (toReaderS_any p0 len0 cap0 X0 _ (h0.below B10) (by omega)).mono ?_
  rintro e w12 ⟨rfl, hb12, hs12, F12⟩
  have z12 := hb12.size
  have B12 : Below w.heap.size w w12 := Below.on B10 B10.size hb12
  go_wp2_with fail
  refine (ripes_impl _ _ 0 len0 len0 X0 a1 F12.rw (by omega) (Nat.le_refl _) hNM.out).mono ?_
  rintro e w13 ⟨u, rfl, oH0, hb13⟩
  rw [← HLe.out] at oH0
  have oH := hid oH0
  clear oH0
  have z13 := hb13.size
  have B13 : Below w.heap.size w w13 := Below.on B12 B12.size hb13
  go_wp2_with fail
  refine (eqIntS_own u v LL _ _ _ oH.out ((oV10.out.below hb12).below hb13) hLL).mono ?_
  rintro e w14 ⟨rfl, hb14⟩
  have z14 := hb14.size
  have B14 : Below w.heap.size w w14 := Below.on B13 B13.size hb14
  go_wp2_with fail
  refine (heldIntS_own g LL.length _ 1 _ (((oM.out.below hb12).below hb13).below hb14) (by omega) (by omega) (by omega)).mono ?_
  rintro e w15 ⟨rfl, rfl⟩
  go_wp2_with fail
  go_ret
  exact ⟨rfl, B14⟩

end Go.Proofs.Ytlcgjcbpoinboaa
