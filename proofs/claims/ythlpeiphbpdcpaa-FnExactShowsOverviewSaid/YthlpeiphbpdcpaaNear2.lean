/-
  Neighbors of a sheet, by the program; the law. No condition.
-/
import Derived.Test.YthlpeiphbpdcpaaNear
namespace Go.Proofs.Ythlpeiphbpdcpaa
open Go.RowKit
set_option linter.unusedVariables false
set_option maxRecDepth 100000

set_option maxHeartbeats 1000000 in
theorem neighbors_1 (s : SheetD) (b1 b2 b off len cap j : Nat) (X : Nat → SheetD) (w : World) (h1 : w.cell? ⟨b1, 0, none⟩ = some (.slice (some ⟨b, off, none⟩) len cap)) (h2 : w.cell? ⟨b2, 0, none⟩ = some (.int .i64 (j : Int))) (l1 : b1 < w.heap.size) (l2 : b2 < w.heap.size)
    (hR : Rw w b off 5 len (fun i => (X i).cells)) (hj : j < len) (hm : len ≤ 1048576) (vs : sheetB s = true) (vj : sheetB (X j) = true) :
    Calls Try.prog 40 #[s.val, .pointer (some ⟨b1, 0, none⟩), .pointer (some ⟨b2, 0, none⟩)] w fun e w' => e = .returned (.bool ((s.Id != (X j).Id) && nearB s (X j))) ∧ Below w.heap.size w w' := by
  have d0 : w.cell? ⟨b, off + j * 5, none⟩ = some (.int .i64 (X j).Id) := hR.2 j hj 0 (by omega)
  have d1 : w.cell? ⟨b, off + j * 5 + 1, none⟩ = some (.int .i64 (X j).Row) := hR.2 j hj 1 (by omega)
  have d2 : w.cell? ⟨b, off + j * 5 + 2, none⟩ = some (.int .i64 (X j).Col) := hR.2 j hj 2 (by omega)
  have d3 : w.cell? ⟨b, off + j * 5 + 3, none⟩ = some (.int .i64 (X j).Scale) := hR.2 j hj 3 (by omega)
  have d4 : w.cell? ⟨b, off + j * 5 + 4, none⟩ = some (.int .i64 (X j).Year) := hR.2 j hj 4 (by omega)
  have lb := hR.1
  have lb' : b < w.heap.size + 1 := by omega
  have l1' : b1 < w.heap.size + 1 := by omega
  have l2' : b2 < w.heap.size + 1 := by omega
  have e4 : (0 : Int) ≤ (j : Int) := by omega
  have e5 : (j : Int) < (len : Int) := by omega
  have VS := hid vs
  have VJ := hid vj
  clear hR vs vj
  go_enter Try.func40, Try.ntmps40
  go_wp2_with fail
  have hq := fun x : Later (w.alloc (.cells #[.int .i64 s.Id, .int .i64 s.Row, .int .i64 s.Col, .int .i64 s.Scale, .int .i64 s.Year] 26)) => x.cell
  refine region_later (by kernel_rfl) (by kernel_rfl) ?_
  repeat (go_big_quiet_step ((go_at_call 41; refine calls_later (near_impl s (X j) VS.out VJ.out _))))
  refine wpQuiet_nil ?_
  intro _ hw'
  obtain ⟨x, rfl⟩ := hw'
  clear hq
  go_wp2_with fail
  go_ret
  exact ⟨rfl, Below.on (by go_grown) (by simp) x.below⟩

theorem nb_same {X : Nat → SheetD} {n j : Nat} (h : sheetsB X n = true) (hj : j < n) : selI (fun i => ((X i).Id != (X j).Id) && nearB (X i) (X j)) (fun i => (X i).Id) n = selI (nbP X j) (fun i => (X i).Id) n := by
  refine selI_congr fun i hi => ?_
  unfold nbP
  congr 1
  rw [Bool.eq_iff_iff]
  simp only [bne_iff_ne, ne_eq, decide_eq_true_eq]
  exact ⟨fun a e => a (by rw [e]), fun a e => a (sheetsB_inj h hi hj e)⟩

set_option maxHeartbeats 2000000 in
theorem neighbors_impl (w : World) (b off len cap : Nat) (X : Nat → SheetD) (id : Int) (h : Rw w b off 5 len (fun i => (X i).cells)) (hm : len ≤ 1048576) (hlc : len ≤ cap) :
    Calls Try.prog 19 #[.slice (some ⟨b, off, none⟩) len cap, .int .i64 id] w (RetIB (nbL X len id) (nbOk X len id) w) := by
  have H := hid h
  have hb := h.1
  clear h
  have hA : Below w.heap.size w (w.alloc (.cells #[.slice (some ⟨b, off, none⟩) len cap] 32)) := by go_grown
  go_enter Try.func19, Try.ntmps19
  go_wp2_with fail
  refine (sheetAt_impl _ b off len cap X id (H.out.later' hA) hm hlc).mono ?_
  rintro e w1 ⟨he, hb1⟩
  have B1 : Below w.heap.size w w1 := Below.on hA hA.size hb1
  have s1 : w.heap.size < w1.heap.size := by have := hb1.size; simp at this; omega
  have q1 : w1.cell? ⟨w.heap.size, 0, none⟩ = some (.slice (some ⟨b, off, none⟩) len cap) := (hb1.cell (by simp)).trans (by simp [go_sem])
  rcases findI_cases (fun i => (X i).Id == id) len with hK | ⟨j, hj, hK, hpj⟩
  · rw [hK] at he
    have HK := hid hK
    clear hK
    subst he
    have B2 : Below w.heap.size w (w1.alloc (.cells #[.int .i64 (-1)] 3)) := B1.alloc B1.size _
    go_wp2_with fail
    refine (sheets_impl _ b off len cap X (H.out.later' B2) hm hlc).mono ?_
    rintro e w3 ⟨rfl, hb3⟩
    have B3 : Below w.heap.size w w3 := Below.on B2 B2.size hb3
    have q2 : w3.cell? ⟨w1.heap.size, 0, none⟩ = some (.int .i64 (-1)) := (hb3.cell (by simp)).trans (by simp [go_sem])
    by_cases hS : sheetsB X len = true
    all_goals
      go_wp2_with fail
      go_ret2
      exact ⟨_, by rw [(nb_miss (.inr HK.out)).2]; rfl, by rw [(nb_miss (.inr HK.out)).1]; exact OwnI.nil _ _, B3⟩
  · clear hpj
    rw [hK] at he
    have HK := hid hK
    clear hK
    subst he
    have B2 : Below w.heap.size w (w1.alloc (.cells #[.int .i64 (j : Int)] 3)) := B1.alloc B1.size _
    go_wp2_with fail
    refine (sheets_impl _ b off len cap X (H.out.later' B2) hm hlc).mono ?_
    rintro e w3 ⟨rfl, hb3⟩
    have B3 : Below w.heap.size w w3 := Below.on B2 B2.size hb3
    have s3 : w1.heap.size < w3.heap.size := by have := hb3.size; simp at this; omega
    have q2 : w3.cell? ⟨w1.heap.size, 0, none⟩ = some (.int .i64 (j : Int)) := (hb3.cell (by simp)).trans (by simp [go_sem])
    have q3 : w3.cell? ⟨w.heap.size, 0, none⟩ = some (.slice (some ⟨b, off, none⟩) len cap) := (hb3.cell (by simp; omega)).trans (by rw [World.cell?_alloc_old _ _ _ (by simp; omega)]; exact q1)
    by_cases hS : sheetsB X len = true
    · have HS := hid hS
      go_wp2_with fail
      refine (idsOf_any _ b off len cap X 40 _ (fun i => ((X i).Id != (X j).Id) && nearB (X i) (X j)) (fun _ _ => by kernel_rfl) (H.out.later' B3) hm hlc ?_).mono ?_
      · intro x i hi
        have hx := x.size
        exact neighbors_1 (X i) w.heap.size w1.heap.size b off len cap j X _ ((x.cell _ _ (by omega)).trans q3) ((x.cell _ _ (by omega)).trans q2) (by omega) (by omega) ((H.out.later' B3).later x) hj hm (sheetsB_valid HS.out hi) (sheetsB_valid HS.out hj)
      · rintro e w4 ⟨v, rfl, ho, hb4⟩
        have B4 : Below w.heap.size w w4 := Below.on B3 B3.size hb4
        have ho4 := hid (ho.base (B' := w.heap.size) (by omega))
        clear ho
        go_wp2_with fail
        go_ret2
        exact ⟨_, by rw [(nb_hit HS.out HK.out).2]; rfl, by rw [(nb_hit HS.out HK.out).1, ← nb_same HS.out hj]; exact ho4.out, B4⟩
    · have hS' : sheetsB X len = false := by simpa using hS
      clear hS
      go_wp2_with fail
      go_ret2
      exact ⟨_, by rw [(nb_miss (.inl hS')).2]; rfl, by rw [(nb_miss (.inl hS')).1]; exact OwnI.nil _ _, B3⟩

theorem nbL_le (X : Nat → SheetD) (n : Nat) (id : Int) : (nbL X n id).length ≤ n := by
  unfold nbL
  split
  · exact selI_le _ _ _
  · simp

set_option maxRecDepth 100000 in
set_option maxHeartbeats 4000000 in
theorem walk_ExactNeighborsOf (w : World) (p0 : Option Addr) (len0 cap0 : Nat) (X0 : Nat → SheetD) (a1 : Int) (h0 : Sl w 5 p0 len0 (fun i => (X0 i).cells)) (ok0 : ∀ i, i < len0 → (X0 i).ok) (hm0 : len0 ≤ maxLen) (i1 : isI a1) :
    Calls Try.prog 6 #[.slice p0 len0 cap0, .int .i64 a1] w fun e w' => e = .returned (.bool true) ∧ Below w.heap.size w w' := by
  clear ok0
  by_cases hL : (len0 : Int) ≤ 1048576
  · have hLL : (nbL X0 len0 a1).length ≤ 1048576 := Nat.le_trans (nbL_le _ _ _) (by omega)
    obtain ⟨LL, hLe⟩ : ∃ LL, LL = nbL X0 len0 a1 := ⟨_, rfl⟩
    have HLe := hid hLe
    rw [← hLe] at hLL
    clear hLe
    go_enter Try.func6, Try.ntmps6
    go_wp2_with fail
    refine (szSheetS_any p0 len0 cap0 _ hm0).mono ?_
    rintro e w0 ⟨rfl, rfl⟩
    rw [if_pos hL]
    go_wp2_with fail
    refine (toSheetS_any p0 len0 cap0 X0 _ (h0.below (Below.refl w.heap.size w)) (by omega)).mono ?_
    rintro e w1 ⟨rfl, hb1, hs1, F1⟩
    have z1 := hb1.size
    have B1 : Below w.heap.size w w1 := Below.on (Below.refl w.heap.size w) (Below.refl w.heap.size w).size hb1
    go_wp2_with fail
    refine (neighbors_spec _ _ 0 len0 len0 X0 a1 F1.rw (by omega) (Nat.le_refl _)).mono ?_
    rintro e w2 ⟨v, rfl, oV0, hb2⟩
    rw [← HLe.out] at oV0
    have oV := hid oV0
    clear oV0
    have z2 := hb2.size
    have B2 : Below w.heap.size w w2 := Below.on B1 B1.size hb2
    go_wp2_with fail
    refine (toSheetS_any p0 len0 cap0 X0 _ (h0.below B2) (by omega)).mono ?_
    rintro e w3 ⟨rfl, hb3, hs3, F3⟩
    have z3 := hb3.size
    have B3 : Below w.heap.size w w3 := Below.on B2 B2.size hb3
    go_wp2_with fail
    refine (neighbors_impl _ _ 0 len0 len0 X0 a1 F3.rw (by omega) (Nat.le_refl _)).mono ?_
    rintro e w4 ⟨g, rfl, oG0, hb4⟩
    rw [← HLe.out] at oG0
    have oG := hid oG0
    clear oG0
    have z4 := hb4.size
    have B4 : Below w.heap.size w w4 := Below.on B3 B3.size hb4
    go_wp2_with fail
    refine (eqIntS_own g v LL _ _ _ oG.out ((oV.out.below hb3).below hb4) hLL).mono ?_
    rintro e w5 ⟨rfl, hb5⟩
    have z5 := hb5.size
    have B5 : Below w.heap.size w w5 := Below.on B4 B4.size hb5
    go_wp2_with fail
    refine (toSheetS_any p0 len0 cap0 X0 _ (h0.below B5) (by omega)).mono ?_
    rintro e w6 ⟨rfl, hb6, hs6, F6⟩
    have z6 := hb6.size
    have B6 : Below w.heap.size w w6 := Below.on B5 B5.size hb6
    go_wp2_with fail
    refine (eqSheetS_same _ _ 0 0 len0 len0 len0 X0 _ (((F3.rw.later' hb4).later' hb5).later' hb6) F6.rw (by omega) (Nat.le_refl _) (Nat.le_refl _)).mono ?_
    rintro e w7 ⟨rfl, hb7⟩
    have z7 := hb7.size
    have B7 : Below w.heap.size w w7 := Below.on B6 B6.size hb7
    go_wp2_with fail
    refine (markSheetS_any _ len0 len0 1 _ ((((F3.below hb4 (by omega)).below hb5 (by omega)).below hb6 (by omega)).below hb7 (by omega)).blk (Nat.le_refl _) (by omega) (by omega) (by omega)).mono ?_
    rintro e w8 ⟨rfl, gr8⟩
    have z8 := gr8.size
    have B8 : Below w.heap.size w w8 := B7.grown gr8 B7.size (fun k hk => by cases hk; omega)
    have oV8 := hid (((((((oV.out.below hb3).below hb4).below hb5).below hb6).below hb7)).kept gr8 (oV.out.ne_lo (by omega)))
    have oG8 := hid (((((oG.out.below hb5).below hb6).below hb7)).kept gr8 (oG.out.ne_hi (by omega)))
    go_wp2_with fail
    refine (eqIntS_own g v LL _ _ _ oG8.out oV8.out hLL).mono ?_
    rintro e w9 ⟨rfl, hb9⟩
    have z9 := hb9.size
    have B9 : Below w.heap.size w w9 := Below.on B8 B8.size hb9
    go_wp2_with fail
    refine (markIntS_own g LL _ 1 _ (oG8.out.below hb9) (by omega) (by omega) (by omega)).mono ?_
    rintro e w10 ⟨rfl, oM0, gr10⟩
    have oM := hid oM0
    clear oM0
    have z10 := gr10.size
    have B10 : Below w.heap.size w w10 := B9.grown gr10 B9.size (fun k hk => by have := oG.out.ge k hk; omega)
    have oV10 := hid ((oV8.out.below hb9).kept gr10 (own_ne oV.out.lt (fun k hk => by have := oG.out.ge k hk; omega)))
    go_wp2_with fail
    refine (heldIntS_own g LL.length _ 1 _ oM.out (by omega) (by omega) (by omega)).mono ?_
    rintro e w11 ⟨rfl, rfl⟩
    go_wp2_with fail
    refine (toSheetS_any p0 len0 cap0 X0 _ (h0.below B10) (by omega)).mono ?_
    rintro e w12 ⟨rfl, hb12, hs12, F12⟩
    have z12 := hb12.size
    have B12 : Below w.heap.size w w12 := Below.on B10 B10.size hb12
    go_wp2_with fail
    refine (neighbors_impl _ _ 0 len0 len0 X0 a1 F12.rw (by omega) (Nat.le_refl _)).mono ?_
    rintro e w13 ⟨u, rfl, oH0, hb13⟩
    rw [← HLe.out] at oH0
    have oH := hid oH0
    clear oH0
    have z13 := hb13.size
    have B13 : Below w.heap.size w w13 := Below.on B12 B12.size hb13
    go_wp2_with fail
    refine (eqIntS_own u v LL _ _ _ oH.out ((oV10.out.below hb12).below hb13) hLL).mono ?_
    rintro e w14 ⟨rfl, hb14⟩
    have z14 := hb14.size
    have B14 : Below w.heap.size w w14 := Below.on B13 B13.size hb14
    go_wp2_with fail
    refine (heldIntS_own g LL.length _ 1 _ (((oM.out.below hb12).below hb13).below hb14) (by omega) (by omega) (by omega)).mono ?_
    rintro e w15 ⟨rfl, rfl⟩
    go_wp2_with fail
    go_ret
    exact ⟨rfl, B14⟩
  · go_enter Try.func6, Try.ntmps6
    go_wp2_with fail
    refine (szSheetS_any p0 len0 cap0 _ hm0).mono ?_
    rintro e w0 ⟨rfl, rfl⟩
    rw [if_neg (by omega)]
    go_wp2_with fail
    go_ret
    exact ⟨rfl, Below.refl _ _⟩

end Go.Proofs.Ythlpeiphbpdcpaa
