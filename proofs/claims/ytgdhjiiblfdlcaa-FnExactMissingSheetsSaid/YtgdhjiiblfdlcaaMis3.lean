/-
  The places without a sheet: the law. No condition.
-/
import Derived.Test.YtgdhjiiblfdlcaaMis2
namespace Go.Proofs.Ytgdhjiiblfdlcaa
open Go.RowKit
set_option linter.unusedVariables false
set_option maxRecDepth 100000

set_option maxRecDepth 100000 in
set_option maxHeartbeats 4000000 in
theorem walk_ExactMissingSheets (w : World) (p0 : Option Addr) (len0 cap0 : Nat) (X0 : Nat → SheetD) (a1 : Int) (h0 : Sl w 5 p0 len0 (fun i => (X0 i).cells)) (ok0 : ∀ i, i < len0 → (X0 i).ok) (hm0 : len0 ≤ maxLen) (i1 : isI a1) :
    Calls Try.prog 3 #[.slice p0 len0 cap0, .int .i64 a1] w fun e w' => e = .returned (.bool true) ∧ Below w.heap.size w w' := by
  clear ok0
  by_cases hL : (len0 : Int) ≤ 1048576
  · have hLL : (msL X0 len0 a1).length ≤ 1048576 := Nat.le_trans (msL_le _ _ _) (by omega)
    obtain ⟨LL, hLe⟩ : ∃ LL, LL = msL X0 len0 a1 := ⟨_, rfl⟩
    have HLe := hid hLe
    rw [← hLe] at hLL
    clear hLe
    go_enter Try.func3, Try.ntmps3
    go_wp2_with fail
    refine (szSheetS_any p0 len0 cap0 _ hm0).mono ?_
    rintro e w0 ⟨rfl, rfl⟩
    rw [if_pos hL]
    go_wp2_with fail
    refine (toSheetS_any p0 len0 cap0 X0 _ (h0.below (Below.refl w.heap.size w)) (by omega)).mono ?_
    rintro e w1 ⟨rfl, hb1, hs1, F1⟩
    have z1 := hb1.size
    have B1 : Below w.heap.size w w1 := Below.on (Below.refl w.heap.size w) (Below.refl w.heap.size w).size hb1
    go_wp2_with fail
    refine (missing_spec _ _ 0 len0 len0 X0 a1 F1.rw (by omega) (Nat.le_refl _)).mono ?_
    rintro e w2 ⟨v, rfl, oV0, hb2⟩
    rw [← HLe.out] at oV0
    have oV := hid oV0
    clear oV0
    have z2 := hb2.size
    have B2 : Below w.heap.size w w2 := Below.on B1 B1.size hb2
    go_wp2_with fail
    refine (toSheetS_any p0 len0 cap0 X0 _ (h0.below B2) (by omega)).mono ?_
    rintro e w3 ⟨rfl, hb3, hs3, F3⟩
    have z3 := hb3.size
    have B3 : Below w.heap.size w w3 := Below.on B2 B2.size hb3
    go_wp2_with fail
    refine (missing_impl _ _ 0 len0 len0 X0 a1 F3.rw (by omega) (Nat.le_refl _)).mono ?_
    rintro e w4 ⟨g, rfl, oG0, hb4⟩
    rw [← HLe.out] at oG0
    have oG := hid oG0
    clear oG0
    have z4 := hb4.size
    have B4 : Below w.heap.size w w4 := Below.on B3 B3.size hb4
    go_wp2_with fail
    refine (eqIntA2S_own g v LL _ _ _ oG.out ((oV.out.below hb3).below hb4) hLL).mono ?_
    rintro e w5 ⟨rfl, hb5⟩
    have z5 := hb5.size
    have B5 : Below w.heap.size w w5 := Below.on B4 B4.size hb5
    go_wp2_with fail
    refine (toSheetS_any p0 len0 cap0 X0 _ (h0.below B5) (by omega)).mono ?_
    rintro e w6 ⟨rfl, hb6, hs6, F6⟩
    have z6 := hb6.size
    have B6 : Below w.heap.size w w6 := Below.on B5 B5.size hb6
    go_wp2_with fail
    refine (eqSheetS_same _ _ 0 0 len0 len0 len0 X0 _ (((F3.rw.later' hb4).later' hb5).later' hb6) F6.rw (by omega) (Nat.le_refl _) (Nat.le_refl _)).mono ?_
    rintro e w7 ⟨rfl, hb7⟩
    have z7 := hb7.size
    have B7 : Below w.heap.size w w7 := Below.on B6 B6.size hb7
    go_wp2_with fail
    refine (markSheetS_any _ len0 len0 1 _ ((((F3.below hb4 (by omega)).below hb5 (by omega)).below hb6 (by omega)).below hb7 (by omega)).blk (Nat.le_refl _) (by omega) (by omega) (by omega)).mono ?_
    rintro e w8 ⟨rfl, gr8⟩
    have z8 := gr8.size
    have B8 : Below w.heap.size w w8 := B7.grown gr8 B7.size (fun k hk => by cases hk; omega)
    have oV8 := hid (((((((oV.out.below hb3).below hb4).below hb5).below hb6).below hb7)).kept gr8 (oV.out.ne_lo (by omega)))
    have oG8 := hid (((((oG.out.below hb5).below hb6).below hb7)).kept gr8 (oG.out.ne_hi (by omega)))
    go_wp2_with fail
    refine (eqIntA2S_own g v LL _ _ _ oG8.out oV8.out hLL).mono ?_
    rintro e w9 ⟨rfl, hb9⟩
    have z9 := hb9.size
    have B9 : Below w.heap.size w w9 := Below.on B8 B8.size hb9
    go_wp2_with fail
    refine (markIntA2S_own g LL _ 1 _ (oG8.out.below hb9) (by omega) (by omega) (by omega)).mono ?_
    rintro e w10 ⟨rfl, oM0, gr10⟩
    have oM := hid oM0
    clear oM0
    have z10 := gr10.size
    have B10 : Below w.heap.size w w10 := B9.grown gr10 B9.size (fun k hk => by have := oG.out.ge k hk; omega)
    have oV10 := hid ((oV8.out.below hb9).kept gr10 (own_ne oV.out.lt (fun k hk => by have := oG.out.ge k hk; omega)))
    go_wp2_with fail
    refine (heldIntA2S_own g LL.length _ 1 _ oM.out (by omega) (by omega) (by omega)).mono ?_
    rintro e w11 ⟨rfl, rfl⟩
    go_wp2_with fail
    refine (toSheetS_any p0 len0 cap0 X0 _ (h0.below B10) (by omega)).mono ?_
    rintro e w12 ⟨rfl, hb12, hs12, F12⟩
    have z12 := hb12.size
    have B12 : Below w.heap.size w w12 := Below.on B10 B10.size hb12
    go_wp2_with fail
    refine (missing_impl _ _ 0 len0 len0 X0 a1 F12.rw (by omega) (Nat.le_refl _)).mono ?_
    rintro e w13 ⟨u, rfl, oH0, hb13⟩
    rw [← HLe.out] at oH0
    have oH := hid oH0
    clear oH0
    have z13 := hb13.size
    have B13 : Below w.heap.size w w13 := Below.on B12 B12.size hb13
    go_wp2_with fail
    refine (eqIntA2S_own u v LL _ _ _ oH.out ((oV10.out.below hb12).below hb13) hLL).mono ?_
    rintro e w14 ⟨rfl, hb14⟩
    have z14 := hb14.size
    have B14 : Below w.heap.size w w14 := Below.on B13 B13.size hb14
    go_wp2_with fail
    refine (heldIntA2S_own g LL.length _ 1 _ (((oM.out.below hb12).below hb13).below hb14) (by omega) (by omega) (by omega)).mono ?_
    rintro e w15 ⟨rfl, rfl⟩
    go_wp2_with fail
    go_ret
    exact ⟨rfl, B14⟩
  · go_enter Try.func3, Try.ntmps3
    go_wp2_with fail
    refine (szSheetS_any p0 len0 cap0 _ hm0).mono ?_
    rintro e w0 ⟨rfl, rfl⟩
    rw [if_neg (by omega)]
    go_wp2_with fail
    go_ret
    exact ⟨rfl, Below.refl _ _⟩

end Go.Proofs.Ytgdhjiiblfdlcaa
