/-
  The sheets that show where a sheet begins, by the program. No condition.
-/
import Derived.Test.YthlpeiphbpdcpaaShows1
import Derived.Deep.RegionHeld3
namespace Go.Proofs.Ythlpeiphbpdcpaa
open Go.RowKit
set_option linter.unusedVariables false
set_option maxRecDepth 100000

set_option maxHeartbeats 8000000 in
theorem shows_impl (w : World) (b off len cap : Nat) (X : Nat → SheetD) (id : Int) (h : Rw w b off 5 len (fun i => (X i).cells)) (hm : len ≤ 1048576) (hlc : len ≤ cap) :
    Calls Try.prog 25 #[.slice (some ⟨b, off, none⟩) len cap, .int .i64 id] w (RetIB (shL X len id) (nbOk X len id) w) := by
  have H := hid h
  have hb := h.1
  clear h
  have hA : Below w.heap.size w (w.alloc (.cells #[.slice (some ⟨b, off, none⟩) len cap] 32)) := by go_grown
  go_enter Try.func25, Try.ntmps25
  go_wp2_with fail
  refine (sheetAt_impl _ b off len cap X id (H.out.later' hA) hm hlc).mono ?_
  rintro e w1 ⟨he, hb1⟩
  have B1 : Below w.heap.size w w1 := Below.on hA hA.size hb1
  have s1 : w.heap.size < w1.heap.size := by have := hb1.size; simp at this; omega
  have q1 : w1.cell? ⟨w.heap.size, 0, none⟩ = some (.slice (some ⟨b, off, none⟩) len cap) := (hb1.cell (by simp)).trans (by simp [go_sem])
  rcases findI_cases (fun i => (X i).Id == id) len with hK | ⟨j, hj, hK, hpj⟩
  · rw [hK] at he
    have HK := hid hK
    clear hK
    subst he
    have B2 : Below w.heap.size w (w1.alloc (.cells #[.int .i64 (-1)] 3)) := B1.alloc B1.size _
    go_wp2_with fail
    refine (sheets_impl _ b off len cap X (H.out.later' B2) hm hlc).mono ?_
    rintro e w3 ⟨rfl, hb3⟩
    have B3 : Below w.heap.size w w3 := Below.on B2 B2.size hb3
    have q2 : w3.cell? ⟨w1.heap.size, 0, none⟩ = some (.int .i64 (-1)) := (hb3.cell (by simp)).trans (by simp [go_sem])
    by_cases hS : sheetsB X len = true
    all_goals
      go_wp2_with fail
      go_ret2
      exact ⟨_, by rw [(sh_miss (.inr HK.out)).2]; rfl, by rw [(sh_miss (.inr HK.out)).1]; exact OwnI.nil _ _, B3⟩
  · clear hpj
    rw [hK] at he
    have HK := hid hK
    clear hK
    subst he
    have B2 : Below w.heap.size w (w1.alloc (.cells #[.int .i64 (j : Int)] 3)) := B1.alloc B1.size _
    go_wp2_with fail
    refine (sheets_impl _ b off len cap X (H.out.later' B2) hm hlc).mono ?_
    rintro e w3 ⟨rfl, hb3⟩
    have B3 : Below w.heap.size w w3 := Below.on B2 B2.size hb3
    have s3 : w1.heap.size < w3.heap.size := by have := hb3.size; simp at this; omega
    have q2 : w3.cell? ⟨w1.heap.size, 0, none⟩ = some (.int .i64 (j : Int)) := (hb3.cell (by simp)).trans (by simp [go_sem])
    have q3 : w3.cell? ⟨w.heap.size, 0, none⟩ = some (.slice (some ⟨b, off, none⟩) len cap) := (hb3.cell (by simp; omega)).trans (by rw [World.cell?_alloc_old _ _ _ (by simp; omega)]; exact q1)
    by_cases hS : sheetsB X len = true
    · have HS := hid hS
      obtain ⟨⟨r0, r1⟩, ⟨s0, s1⟩, t0, t1⟩ := sheet_prod (sheetsB_valid hS hj)
      obtain ⟨R, hR⟩ : ∃ R, (X j).Row * (X j).Scale = R := ⟨_, rfl⟩
      obtain ⟨C, hC⟩ : ∃ C, (X j).Col * (X j).Scale = C := ⟨_, rfl⟩
      have HP : Hid (∀ k, shP X j k = showB R C (X j).Scale (X k)) := by intro k; unfold shP rowS colS; rw [hR, hC]
      simp only [rowS, colS] at r0 r1 s0 s1
      rw [hR] at r0 r1
      rw [hC] at s0 s1
      have e4 : (0 : Int) ≤ (j : Int) := by omega
      have e5 : (j : Int) < (len : Int) := by omega
      have d0 : w3.cell? ⟨b, off + j * 5, none⟩ = some (.int .i64 (X j).Id) := (B3.cell hb).trans (H.out.2 j hj 0 (by omega))
      have d1 : w3.cell? ⟨b, off + j * 5 + 1, none⟩ = some (.int .i64 (X j).Row) := (B3.cell hb).trans (H.out.2 j hj 1 (by omega))
      have d2 : w3.cell? ⟨b, off + j * 5 + 2, none⟩ = some (.int .i64 (X j).Col) := (B3.cell hb).trans (H.out.2 j hj 2 (by omega))
      have d3 : w3.cell? ⟨b, off + j * 5 + 3, none⟩ = some (.int .i64 (X j).Scale) := (B3.cell hb).trans (H.out.2 j hj 3 (by omega))
      have d4 : w3.cell? ⟨b, off + j * 5 + 4, none⟩ = some (.int .i64 (X j).Year) := (B3.cell hb).trans (H.out.2 j hj 4 (by omega))
      have n1 : IntKind.i64.wrap ((X j).Row * (X j).Scale) = R := (IntWalk.i64_in _ (by omega)).trans hR
      have n2 : IntKind.i64.wrap ((X j).Col * (X j).Scale) = C := (IntWalk.i64_in _ (by omega)).trans hC
      clear hR hC
      have lb3 : b < w3.heap.size := by have := B3.size; omega
      have lw : w.heap.size < w3.heap.size := by omega
      go_wp2_with fail
      go_region_held3 (fun w' => w'.cell? ⟨w.heap.size, 0, none⟩ = some (.slice (some ⟨b, off, none⟩) len cap) ∧ w'.cell? ⟨w1.heap.size, 0, none⟩ = some (.int .i64 (j : Int)) ∧ w'.cell? ⟨b, off + j * 5 + 1, none⟩ = some (.int .i64 (X j).Row) ∧ w'.cell? ⟨b, off + j * 5 + 2, none⟩ = some (.int .i64 (X j).Col) ∧ w'.cell? ⟨b, off + j * 5 + 3, none⟩ = some (.int .i64 (X j).Scale)) (go_keep) (first | fail)
      · rename_i hS5
        obtain ⟨u1, u2, u3, u4, u5⟩ := hS5
        have B31 := B3.alloc B3.size (.cells #[.int .i64 R] 3)
        have B4 := (B31.alloc B31.size (.cells #[.int .i64 C] 3)).drew
        go_wp2_with fail
        refine (idsOf_any _ b off len cap X 42 _ (fun i => showB R C (X j).Scale (X i)) (fun _ _ => by kernel_rfl) (H.out.later' B4) hm hlc ?_).mono ?_
        · intro x i hi
          have hx := x.size
          simp only [World.size_drew, World.size_alloc] at hx
          exact shows_1 (X i) w.heap.size w1.heap.size w3.heap.size (w3.heap.size + 1) b off len cap j R C X _ ((x.cell _ _ (by simp; omega)).trans u1) ((x.cell _ _ (by simp; omega)).trans u2) ((x.cell _ _ (by first | (simp; done) | (simp; omega))).trans (by simp [go_sem])) ((x.cell _ _ (by first | (simp; done) | (simp; omega))).trans (by simp [go_sem])) (by omega) (by omega) (by omega) (by omega) ((H.out.later' B4).later x) hj hm (sheetsB_valid HS.out hi) r0 r1 s0 s1
        · rintro e w4 ⟨v, rfl, ho, hb4⟩
          have B5 : Below w.heap.size w w4 := Below.on B4 B4.size hb4
          have ho4 := hid (ho.base (B' := w.heap.size) (by simp; omega))
          clear ho
          go_wp2_with fail
          go_ret2
          exact ⟨_, by rw [(sh_hit HS.out HK.out).2]; rfl, by rw [(sh_hit HS.out HK.out).1, selI_congr fun i _ => HP.out i]; exact ho4.out, B5⟩
      · rename_i hS5
        obtain ⟨u1, u2, u3, u4, u5⟩ := hS5
        have B31 := B3.alloc B3.size (.cells #[.int .i64 C] 3)
        have B4 := (B31.alloc B31.size (.cells #[.int .i64 R] 3)).drew
        go_wp2_with fail
        refine (idsOf_any _ b off len cap X 42 _ (fun i => showB R C (X j).Scale (X i)) (fun _ _ => by kernel_rfl) (H.out.later' B4) hm hlc ?_).mono ?_
        · intro x i hi
          have hx := x.size
          simp only [World.size_drew, World.size_alloc] at hx
          exact shows_1 (X i) w.heap.size w1.heap.size (w3.heap.size + 1) w3.heap.size b off len cap j R C X _ ((x.cell _ _ (by simp; omega)).trans u1) ((x.cell _ _ (by simp; omega)).trans u2) ((x.cell _ _ (by first | (simp; done) | (simp; omega))).trans (by simp [go_sem])) ((x.cell _ _ (by first | (simp; done) | (simp; omega))).trans (by simp [go_sem])) (by omega) (by omega) (by omega) (by omega) ((H.out.later' B4).later x) hj hm (sheetsB_valid HS.out hi) r0 r1 s0 s1
        · rintro e w4 ⟨v, rfl, ho, hb4⟩
          have B5 : Below w.heap.size w w4 := Below.on B4 B4.size hb4
          have ho4 := hid (ho.base (B' := w.heap.size) (by simp; omega))
          clear ho
          go_wp2_with fail
          go_ret2
          exact ⟨_, by rw [(sh_hit HS.out HK.out).2]; rfl, by rw [(sh_hit HS.out HK.out).1, selI_congr fun i _ => HP.out i]; exact ho4.out, B5⟩
    · have hS' : sheetsB X len = false := by simpa using hS
      clear hS
      go_wp2_with fail
      go_ret2
      exact ⟨_, by rw [(sh_miss (.inl hS')).2]; rfl, by rw [(sh_miss (.inl hS')).1]; exact OwnI.nil _ _, B3⟩

set_option maxRecDepth 100000 in
set_option maxHeartbeats 4000000 in
theorem walk_ExactShowsOverview (w : World) (p0 : Option Addr) (len0 cap0 : Nat) (X0 : Nat → SheetD) (a1 : Int) (h0 : Sl w 5 p0 len0 (fun i => (X0 i).cells)) (ok0 : ∀ i, i < len0 → (X0 i).ok) (hm0 : len0 ≤ maxLen) (i1 : isI a1) :
    Calls Try.prog 7 #[.slice p0 len0 cap0, .int .i64 a1] w fun e w' => e = .returned (.bool true) ∧ Below w.heap.size w w' := by
  clear ok0
  by_cases hL : (len0 : Int) ≤ 1048576
  · have hLL : (shL X0 len0 a1).length ≤ 1048576 := by have := shL_le X0 len0 a1; omega
    obtain ⟨LL, hLe⟩ : ∃ LL, LL = shL X0 len0 a1 := ⟨_, rfl⟩
    have HLe := hid hLe
    rw [← hLe] at hLL
    clear hLe
    go_enter Try.func7, Try.ntmps7
    go_wp2_with fail
    refine (szSheetS_any p0 len0 cap0 _ hm0).mono ?_
    rintro e w0 ⟨rfl, rfl⟩
    rw [if_pos hL]
    go_wp2_with fail
    refine (toSheetS_any p0 len0 cap0 X0 _ (h0.below (Below.refl w.heap.size w)) (by omega)).mono ?_
    rintro e w1 ⟨rfl, hb1, hs1, F1⟩
    have z1 := hb1.size
    have B1 : Below w.heap.size w w1 := Below.on (Below.refl w.heap.size w) (Below.refl w.heap.size w).size hb1
    go_wp2_with fail
    refine (shows_spec _ _ 0 len0 len0 X0 a1 F1.rw (by omega) (Nat.le_refl _)).mono ?_
    rintro e w2 ⟨v, rfl, oV0, hb2⟩
    rw [← HLe.out] at oV0
    have oV := hid oV0
    clear oV0
    have z2 := hb2.size
    have B2 : Below w.heap.size w w2 := Below.on B1 B1.size hb2
    go_wp2_with fail
    refine (toSheetS_any p0 len0 cap0 X0 _ (h0.below B2) (by omega)).mono ?_
    rintro e w3 ⟨rfl, hb3, hs3, F3⟩
    have z3 := hb3.size
    have B3 : Below w.heap.size w w3 := Below.on B2 B2.size hb3
    go_wp2_with fail
    refine (shows_impl _ _ 0 len0 len0 X0 a1 F3.rw (by omega) (Nat.le_refl _)).mono ?_
    rintro e w4 ⟨g, rfl, oG0, hb4⟩
    rw [← HLe.out] at oG0
    have oG := hid oG0
    clear oG0
    have z4 := hb4.size
    have B4 : Below w.heap.size w w4 := Below.on B3 B3.size hb4
    go_wp2_with fail
    refine (eqIntS_own g v LL _ _ _ oG.out ((oV.out.below hb3).below hb4) hLL).mono ?_
    rintro e w5 ⟨rfl, hb5⟩
    have z5 := hb5.size
    have B5 : Below w.heap.size w w5 := Below.on B4 B4.size hb5
    go_wp2_with fail
    refine (toSheetS_any p0 len0 cap0 X0 _ (h0.below B5) (by omega)).mono ?_
    rintro e w6 ⟨rfl, hb6, hs6, F6⟩
    have z6 := hb6.size
    have B6 : Below w.heap.size w w6 := Below.on B5 B5.size hb6
    go_wp2_with fail
    refine (eqSheetS_same _ _ 0 0 len0 len0 len0 X0 _ (((F3.rw.later' hb4).later' hb5).later' hb6) F6.rw (by omega) (Nat.le_refl _) (Nat.le_refl _)).mono ?_
    rintro e w7 ⟨rfl, hb7⟩
    have z7 := hb7.size
    have B7 : Below w.heap.size w w7 := Below.on B6 B6.size hb7
    go_wp2_with fail
    refine (markSheetS_any _ len0 len0 1 _ ((((F3.below hb4 (by omega)).below hb5 (by omega)).below hb6 (by omega)).below hb7 (by omega)).blk (Nat.le_refl _) (by omega) (by omega) (by omega)).mono ?_
    rintro e w8 ⟨rfl, gr8⟩
    have z8 := gr8.size
    have B8 : Below w.heap.size w w8 := B7.grown gr8 B7.size (fun k hk => by cases hk; omega)
    have oV8 := hid (((((((oV.out.below hb3).below hb4).below hb5).below hb6).below hb7)).kept gr8 (oV.out.ne_lo (by omega)))
    have oG8 := hid (((((oG.out.below hb5).below hb6).below hb7)).kept gr8 (oG.out.ne_hi (by omega)))
    go_wp2_with fail
    refine (eqIntS_own g v LL _ _ _ oG8.out oV8.out hLL).mono ?_
    rintro e w9 ⟨rfl, hb9⟩
    have z9 := hb9.size
    have B9 : Below w.heap.size w w9 := Below.on B8 B8.size hb9
    go_wp2_with fail
    refine (markIntS_own g LL _ 1 _ (oG8.out.below hb9) (by omega) (by omega) (by omega)).mono ?_
    rintro e w10 ⟨rfl, oM0, gr10⟩
    have oM := hid oM0
    clear oM0
    have z10 := gr10.size
    have B10 : Below w.heap.size w w10 := B9.grown gr10 B9.size (fun k hk => by have := oG.out.ge k hk; omega)
    have oV10 := hid ((oV8.out.below hb9).kept gr10 (own_ne oV.out.lt (fun k hk => by have := oG.out.ge k hk; omega)))
    go_wp2_with fail
    refine (heldIntS_own g LL.length _ 1 _ oM.out (by omega) (by omega) (by omega)).mono ?_
    rintro e w11 ⟨rfl, rfl⟩
    go_wp2_with fail
    refine (toSheetS_any p0 len0 cap0 X0 _ (h0.below B10) (by omega)).mono ?_
    rintro e w12 ⟨rfl, hb12, hs12, F12⟩
    have z12 := hb12.size
    have B12 : Below w.heap.size w w12 := Below.on B10 B10.size hb12
    go_wp2_with fail
    refine (shows_impl _ _ 0 len0 len0 X0 a1 F12.rw (by omega) (Nat.le_refl _)).mono ?_
    rintro e w13 ⟨u, rfl, oH0, hb13⟩
    rw [← HLe.out] at oH0
    have oH := hid oH0
    clear oH0
    have z13 := hb13.size
    have B13 : Below w.heap.size w w13 := Below.on B12 B12.size hb13
    go_wp2_with fail
    refine (eqIntS_own u v LL _ _ _ oH.out ((oV10.out.below hb12).below hb13) hLL).mono ?_
    rintro e w14 ⟨rfl, hb14⟩
    have z14 := hb14.size
    have B14 : Below w.heap.size w w14 := Below.on B13 B13.size hb14
    go_wp2_with fail
    refine (heldIntS_own g LL.length _ 1 _ (((oM.out.below hb12).below hb13).below hb14) (by omega) (by omega) (by omega)).mono ?_
    rintro e w15 ⟨rfl, rfl⟩
    go_wp2_with fail
    go_ret
    exact ⟨rfl, B14⟩
  · go_enter Try.func7, Try.ntmps7
    go_wp2_with fail
    refine (szSheetS_any p0 len0 cap0 _ hm0).mono ?_
    rintro e w0 ⟨rfl, rfl⟩
    rw [if_neg (by omega)]
    go_wp2_with fail
    go_ret
    exact ⟨rfl, Below.refl _ _⟩

end Go.Proofs.Ythlpeiphbpdcpaa
