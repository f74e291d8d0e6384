/-
  Places on sheets: which sheets show a place, by the program and by the reference. No condition.
-/
import Derived.Test.YtigiihhfmdgdlaaNear
namespace Go.Proofs.Ytigiihhfmdgdlaa
open Go.RowKit
set_option linter.unusedVariables false
set_option maxRecDepth 100000

def placeB (x y : Int) : Bool := inB x 0 99999 && inB y 0 99999
theorem placeB_iff (x y : Int) : placeB x y = true ↔ (0 ≤ x ∧ x ≤ 99999) ∧ (0 ≤ y ∧ y ≤ 99999) := by simp [placeB, inB]
theorem place_spec (x y : Int) (w : World) : Calls Try.prog 46 #[.int .i64 x, .int .i64 y] w fun e w' => e = .returned (.bool (placeB x y)) ∧ w = w' := by
  go_enter Try.func46, Try.ntmps46
  go_wp2_with (go_at_call 63; refine (in_spec _ _ _ _).mono ?_; rintro e w' ⟨rfl, rfl⟩)
  all_goals go_ret
  all_goals exact ⟨by simp [placeB, *], rfl⟩
theorem place_impl (x y : Int) (w : World) : Calls Try.prog 48 #[.int .i64 x, .int .i64 y] w fun e w' => e = .returned (.bool (placeB x y)) ∧ w = w' := by
  go_enter Try.func48, Try.ntmps48
  go_wp2_with (go_at_call 65; refine (in_impl _ _ _ _).mono ?_; rintro e w' ⟨rfl, rfl⟩)
  all_goals go_ret
  all_goals exact ⟨by simp [placeB, *], rfl⟩

/-- Sheet s shows the place x, y. -/
def plB (x y : Int) (s : SheetD) : Bool := inB (x - s.Col * (10 * s.Scale)) 0 (10 * s.Scale - 1) && inB (y - s.Row * (10 * s.Scale)) 0 (10 * s.Scale - 1)
theorem prod_bd5 {p q : Int} (p0 : 0 ≤ p) (p1 : p ≤ 99) (q0 : 0 ≤ q) (q1 : q ≤ 5000) : 0 ≤ p * q ∧ p * q ≤ 495000 :=
  ⟨Int.mul_nonneg p0 q0, Int.le_trans (Int.mul_le_mul p1 q1 q0 (by omega)) (by decide)⟩

set_option maxHeartbeats 1000000 in
theorem pl_spec (s : SheetD) (x y : Int) (hP : placeB x y = true) (vs : sheetB s = true) (w : World) : Calls Try.prog 53 #[s.val, .int .i64 x, .int .i64 y] w fun e w' => e = .returned (.bool (plB x y s)) ∧ Below w.heap.size w w' := by
  obtain ⟨⟨x0, x1⟩, y0, y1⟩ := (placeB_iff x y).1 hP
  obtain ⟨_, ⟨r0, r1⟩, ⟨c0, c1⟩, ⟨t0, t1⟩, _⟩ := sheetB_bd vs
  obtain ⟨q, hq⟩ : ∃ q, 10 * s.Scale = q := ⟨_, rfl⟩
  have hp : Hid (plB x y s = (inB (x - s.Col * q) 0 (q - 1) && inB (y - s.Row * q) 0 (q - 1))) := by unfold Hid plB; rw [hq]
  have q0 : 100 ≤ q := by omega
  have q1 : q ≤ 5000 := by omega
  have n1 : IntKind.i64.wrap (10 * s.Scale) = q := (IntWalk.i64_in _ (by omega)).trans hq
  clear hq vs hP
  obtain ⟨a0, a1⟩ := prod_bd5 c0 c1 (by omega) q1
  obtain ⟨b0, b1⟩ := prod_bd5 r0 r1 (by omega) q1
  have m1 : IntKind.i64.wrap (s.Col * q) = s.Col * q := IntWalk.i64_in _ (by omega)
  have m2 : IntKind.i64.wrap (x - s.Col * q) = x - s.Col * q := IntWalk.i64_in _ (by omega)
  have m3 : IntKind.i64.wrap (q - 1) = q - 1 := IntWalk.i64_in _ (by omega)
  have m4 : IntKind.i64.wrap (s.Row * q) = s.Row * q := IntWalk.i64_in _ (by omega)
  have m5 : IntKind.i64.wrap (y - s.Row * q) = y - s.Row * q := IntWalk.i64_in _ (by omega)
  by_cases g1 : inB (x - s.Col * q) 0 (q - 1) = true
  · by_cases g2 : inB (y - s.Row * q) 0 (q - 1) = true
    · go_enter Try.func53, Try.ntmps53
      go_wp2_with (go_at_call 63; refine (in_spec _ _ _ _).mono ?_; rintro e w' ⟨rfl, rfl⟩)
      all_goals go_ret
      all_goals exact ⟨ret_bool (by rw [hp.out, g1, g2]; rfl), by go_grown⟩
    · have g2' : inB (y - s.Row * q) 0 (q - 1) = false := by simpa using g2
      clear g2
      go_enter Try.func53, Try.ntmps53
      go_wp2_with (go_at_call 63; refine (in_spec _ _ _ _).mono ?_; rintro e w' ⟨rfl, rfl⟩)
      all_goals go_ret
      all_goals exact ⟨ret_bool (by rw [hp.out, g1, g2']; rfl), by go_grown⟩
  · have g1' : inB (x - s.Col * q) 0 (q - 1) = false := by simpa using g1
    clear g1
    go_enter Try.func53, Try.ntmps53
    go_wp2_with (go_at_call 63; refine (in_spec _ _ _ _).mono ?_; rintro e w' ⟨rfl, rfl⟩)
    all_goals go_ret
    all_goals exact ⟨ret_bool (by rw [hp.out, g1']; rfl), by go_grown⟩

set_option maxHeartbeats 1000000 in
theorem pl_impl (s : SheetD) (x y : Int) (hP : placeB x y = true) (vs : sheetB s = true) (w : World) : Calls Try.prog 56 #[s.val, .int .i64 x, .int .i64 y] w fun e w' => e = .returned (.bool (plB x y s)) ∧ Below w.heap.size w w' := by
  obtain ⟨⟨x0, x1⟩, y0, y1⟩ := (placeB_iff x y).1 hP
  obtain ⟨_, ⟨r0, r1⟩, ⟨c0, c1⟩, ⟨t0, t1⟩, _⟩ := sheetB_bd vs
  obtain ⟨q, hq⟩ : ∃ q, 10 * s.Scale = q := ⟨_, rfl⟩
  have hp : Hid (plB x y s = (inB (x - s.Col * q) 0 (q - 1) && inB (y - s.Row * q) 0 (q - 1))) := by unfold Hid plB; rw [hq]
  have q0 : 100 ≤ q := by omega
  have q1 : q ≤ 5000 := by omega
  have n1 : IntKind.i64.wrap (10 * s.Scale) = q := (IntWalk.i64_in _ (by omega)).trans hq
  clear hq vs hP
  obtain ⟨a0, a1⟩ := prod_bd5 c0 c1 (by omega) q1
  obtain ⟨b0, b1⟩ := prod_bd5 r0 r1 (by omega) q1
  have m1 : IntKind.i64.wrap (s.Col * q) = s.Col * q := IntWalk.i64_in _ (by omega)
  have m2 : IntKind.i64.wrap (x - s.Col * q) = x - s.Col * q := IntWalk.i64_in _ (by omega)
  have m3 : IntKind.i64.wrap (q - 1) = q - 1 := IntWalk.i64_in _ (by omega)
  have m4 : IntKind.i64.wrap (s.Row * q) = s.Row * q := IntWalk.i64_in _ (by omega)
  have m5 : IntKind.i64.wrap (y - s.Row * q) = y - s.Row * q := IntWalk.i64_in _ (by omega)
  by_cases g1 : inB (x - s.Col * q) 0 (q - 1) = true
  · by_cases g2 : inB (y - s.Row * q) 0 (q - 1) = true
    · go_enter Try.func56, Try.ntmps56
      go_wp2_with (go_at_call 65; refine (in_impl _ _ _ _).mono ?_; rintro e w' ⟨rfl, rfl⟩)
      all_goals go_ret
      all_goals exact ⟨ret_bool (by rw [hp.out, g1, g2]; rfl), by go_grown⟩
    · have g2' : inB (y - s.Row * q) 0 (q - 1) = false := by simpa using g2
      clear g2
      go_enter Try.func56, Try.ntmps56
      go_wp2_with (go_at_call 65; refine (in_impl _ _ _ _).mono ?_; rintro e w' ⟨rfl, rfl⟩)
      all_goals go_ret
      all_goals exact ⟨ret_bool (by rw [hp.out, g1, g2']; rfl), by go_grown⟩
  · have g1' : inB (x - s.Col * q) 0 (q - 1) = false := by simpa using g1
    clear g1
    go_enter Try.func56, Try.ntmps56
    go_wp2_with (go_at_call 65; refine (in_impl _ _ _ _).mono ?_; rintro e w' ⟨rfl, rfl⟩)
    all_goals go_ret
    all_goals exact ⟨ret_bool (by rw [hp.out, g1']; rfl), by go_grown⟩

/-- The sheets of a list that show a place. -/
def plL (X : Nat → SheetD) (n : Nat) (x y : Int) : List Int := if (sheetsB X n && placeB x y) = true then selI (fun i => plB x y (X i)) (fun i => (X i).Id) n else []
def plOk (X : Nat → SheetD) (n : Nat) (x y : Int) : Bool := sheetsB X n && placeB x y
theorem plL_le (X : Nat → SheetD) (n : Nat) (x y : Int) : (plL X n x y).length ≤ n := by
  unfold plL; split
  · exact selI_le _ _ _
  · simp
theorem pl_miss {X : Nat → SheetD} {n : Nat} {x y : Int} (h : sheetsB X n = false ∨ placeB x y = false) : plL X n x y = [] ∧ plOk X n x y = false := by
  have h2 : plOk X n x y = false := by unfold plOk; rcases h with h | h <;> simp [h]
  exact ⟨by unfold plL; rw [show (sheetsB X n && placeB x y) = false from h2]; rfl, h2⟩
theorem pl_hit {X : Nat → SheetD} {n : Nat} {x y : Int} (h : sheetsB X n = true) (hp : placeB x y = true) : plL X n x y = selI (fun i => plB x y (X i)) (fun i => (X i).Id) n ∧ plOk X n x y = true :=
  ⟨by unfold plL; rw [h, hp]; rfl, by unfold plOk; rw [h, hp]; rfl⟩

set_option maxHeartbeats 4000000 in
theorem shown_spec (w : World) (b off len cap : Nat) (X : Nat → SheetD) (x y : Int) (h : Rw w b off 5 len (fun i => (X i).cells)) (hm : len ≤ 1048576) (hlc : len ≤ cap) :
    Calls Try.prog 30 #[.slice (some ⟨b, off, none⟩) len cap, .int .i64 x, .int .i64 y] w (RetIB (plL X len x y) (plOk X len x y) w) := by
  have H := hid h
  have hb := h.1
  clear h
  obtain ⟨i0, hi, hz0, hz1, hz2⟩ := info_parts info_int
  have hE := hid (ownI_empty w)
  have hA : Below w.heap.size w (w.alloc (.cells #[] 3)) := by go_grown
  go_enter Try.func30, Try.ntmps30
  go_wp2_with fail
  refine (sheets_spec _ b off len cap X (H.out.later' hA) hm hlc).mono ?_
  rintro e w1 ⟨rfl, hb1⟩
  have B1 := Below.on hA hA.size hb1
  have ho1 := hid (hE.out.below hb1)
  clear hE
  by_cases hS : sheetsB X len = true
  · have HS := hid hS
    go_wp2_with fail
    refine (place_spec _ _ _).mono ?_
    rintro e wq ⟨rfl, rfl⟩
    by_cases hP : placeB x y = true
    · have HP := hid hP
      go_wp2_with fail
      go_loopw [8, 9] (fun v i wr => ∃ k : Nat, k ≤ len ∧ i = .int .i64 k ∧ Below w.heap.size w wr ∧ Hid (OwnI w.heap.size wr v (selI (fun i => plB x y (X i)) (fun i => (X i).Id) k))) (fun _ i _ => len - (intOf i).toNat)
      case atStart => exact ⟨0, by omega, rfl, B1, ho1⟩
      case round =>
        clear hb1 B1 ho1 hA hS hP
        obtain ⟨k, hk, rfl, hB, ho⟩ := hrel
        by_cases hlt : k < len
        · have c0 : wr.cell? ⟨b, off + k * 5, none⟩ = some (.int .i64 (X k).Id) := (hB.cell hb).trans (H.out.2 k hlt 0 (by omega))
          have c1 : wr.cell? ⟨b, off + k * 5 + 1, none⟩ = some (.int .i64 (X k).Row) := (hB.cell hb).trans (H.out.2 k hlt 1 (by omega))
          have c2 : wr.cell? ⟨b, off + k * 5 + 2, none⟩ = some (.int .i64 (X k).Col) := (hB.cell hb).trans (H.out.2 k hlt 2 (by omega))
          have c3 : wr.cell? ⟨b, off + k * 5 + 3, none⟩ = some (.int .i64 (X k).Scale) := (hB.cell hb).trans (H.out.2 k hlt 3 (by omega))
          have c4 : wr.cell? ⟨b, off + k * 5 + 4, none⟩ = some (.int .i64 (X k).Year) := (hB.cell hb).trans (H.out.2 k hlt 4 (by omega))
          have lb : b < wr.heap.size := by have := hB.size; omega
          have hle := selI_le (fun i => plB x y (X i)) (fun i => (X i).Id) k
          go_wp2_with fail
          refine (pl_spec (X k) x y HP.out (sheetsB_valid HS.out hlt) _).mono ?_
          rintro e w2 ⟨rfl, hb2⟩
          have B2 := Below.on hB hB.size hb2
          have ho1 := hid (ho.out.below hb2)
          have lb2 : b < w2.heap.size := by have := hb2.size; omega
          have f0 : w2.cell? ⟨b, off + k * 5, none⟩ = some (.int .i64 (X k).Id) := (hb2.cell lb).trans c0
          clear c0 c1 c2 c3 c4
          by_cases g : plB x y (X k) = true
          · have hp := hid g
            go_wp2_with (at_builtin; refine wpList_append_own_at _ rfl _ _ 53 rfl w.heap.size 3 i0 (.int .i64 0) 1 8 Try.underlying53 hi hz0 hz1 hz2 rfl (by decide) _ _ _ rfl (World.ownsRow.alloc ho1.out _) ⟨w2.heap.size, 0, none⟩ 1 1 [.int .i64 (X k).Id] rfl rfl ?c1 ?c2 ?c3 ?c4 ?c5 ?_)
            case c1 => exact cell_one_new _ _ _
            case c2 => intro u hu; simp at hu; subst hu; rfl
            case c3 => unfold maxLen; omega
            case c4 => omega
            case c5 => have := B2.size; simp; omega
            intro v' w3 hown' hgrow _ _
            have hb3 : Below w.heap.size w w3 := (B2.alloc B2.size _).grown hgrow (by have := B2.size; simp; omega) (fun g hg => by have := (World.ownsRow.lt ho1.out g hg).1; omega)
            have ho2 : Hid (OwnI w.heap.size w3 v' (selI (fun i => plB x y (X i)) (fun i => (X i).Id) (k + 1))) := by
              rw [selI_yes hp.out]
              unfold Hid OwnI
              simpa using hown'
            clear hown' hgrow ho1
            go_wp2_with fail
            go_roundw
            case rel => exact ⟨k + 1, by omega, by go_num, hb3, ho2⟩
            case measure => simp [intOf]; omega
          · have g' : plB x y (X k) = false := by simpa using g
            have hp := hid g'
            clear g
            go_wp2_with fail
            go_roundw
            case rel => exact ⟨k + 1, by omega, by go_num, B2, by rw [selI_no hp.out]; exact ho1⟩
            case measure => simp [intOf]; omega
        · obtain rfl : k = len := by omega
          go_wp2_with fail
          go_ret2
          exact ⟨_, by rw [(pl_hit HS.out HP.out).2]; rfl, by rw [(pl_hit HS.out HP.out).1]; exact ho.out, hB⟩
    · have hP' : placeB x y = false := by simpa using hP
      clear hP
      go_wp2_with fail
      go_ret2
      exact ⟨_, by rw [(pl_miss (.inr hP')).2]; rfl, by rw [(pl_miss (.inr hP')).1]; exact ho1, B1⟩
  · have hS' : sheetsB X len = false := by simpa using hS
    clear hS
    go_wp2_with fail
    go_ret2
    exact ⟨_, by rw [(pl_miss (.inl hS')).2]; rfl, by rw [(pl_miss (.inl hS')).1]; exact ho1, B1⟩

theorem shown_1 (s : SheetD) (b1 b2 : Nat) (x y : Int) (w : World) (h1 : w.cell? ⟨b1, 0, none⟩ = some (.int .i64 x)) (h2 : w.cell? ⟨b2, 0, none⟩ = some (.int .i64 y)) (l1 : b1 < w.heap.size) (l2 : b2 < w.heap.size) (hP : placeB x y = true) (vs : sheetB s = true) :
    Calls Try.prog 59 #[s.val, .pointer (some ⟨b1, 0, none⟩), .pointer (some ⟨b2, 0, none⟩)] w fun e w' => e = .returned (.bool (plB x y s)) ∧ Below w.heap.size w w' := by
  have l1' : b1 < w.heap.size + 1 := by omega
  have l2' : b2 < w.heap.size + 1 := by omega
  have hp := hid hP
  have vv := hid vs
  clear hP vs
  go_enter Try.func59, Try.ntmps59
  go_wp2_with fail
  refine (pl_impl s x y hp.out vv.out _).mono ?_
  rintro e w1 ⟨rfl, hb1⟩
  go_wp2_with fail
  go_ret
  exact ⟨rfl, Below.on (by go_grown) (by simp) hb1⟩

set_option maxHeartbeats 2000000 in
theorem shown_impl (w : World) (b off len cap : Nat) (X : Nat → SheetD) (x y : Int) (h : Rw w b off 5 len (fun i => (X i).cells)) (hm : len ≤ 1048576) (hlc : len ≤ cap) :
    Calls Try.prog 31 #[.slice (some ⟨b, off, none⟩) len cap, .int .i64 x, .int .i64 y] w (RetIB (plL X len x y) (plOk X len x y) w) := by
  have H := hid h
  have hb := h.1
  clear h
  have hA : Below w.heap.size w ((w.alloc (.cells #[.int .i64 x] 3)).alloc (.cells #[.int .i64 y] 3)) := by go_grown
  go_enter Try.func31, Try.ntmps31
  go_wp2_with fail
  refine (sheets_impl _ b off len cap X (H.out.later' hA) hm hlc).mono ?_
  rintro e w1 ⟨rfl, hb1⟩
  have B1 := Below.on hA hA.size hb1
  have s1 : w.heap.size + 1 < w1.heap.size := by have := hb1.size; simp at this; omega
  have q1 : w1.cell? ⟨w.heap.size, 0, none⟩ = some (.int .i64 x) := (hb1.cell (by simp; omega)).trans (by simp [go_sem])
  have q2 : w1.cell? ⟨w.heap.size + 1, 0, none⟩ = some (.int .i64 y) := (hb1.cell (by simp)).trans (by simp [go_sem])
  by_cases hS : sheetsB X len = true
  · have HS := hid hS
    go_wp2_with fail
    refine (place_impl _ _ _).mono ?_
    rintro e wq ⟨rfl, rfl⟩
    by_cases hP : placeB x y = true
    · have HP := hid hP
      go_wp2_with fail
      refine (idsOf_any _ b off len cap X 59 _ (fun i => plB x y (X i)) (fun _ _ => by kernel_rfl) (H.out.later' B1) hm hlc ?_).mono ?_
      · intro z i hi
        have hz := z.size
        exact shown_1 (X i) w.heap.size (w.heap.size + 1) x y _ ((z.cell _ _ (by omega)).trans q1) ((z.cell _ _ (by omega)).trans q2) (by omega) (by omega) HP.out (sheetsB_valid HS.out hi)
      · rintro e w4 ⟨v, rfl, ho, hb4⟩
        have B4 : Below w.heap.size w w4 := Below.on B1 B1.size hb4
        have ho4 := hid (ho.base (B' := w.heap.size) (by omega))
        clear ho
        go_wp2_with fail
        go_ret2
        exact ⟨_, by rw [(pl_hit HS.out HP.out).2]; rfl, by rw [(pl_hit HS.out HP.out).1]; exact ho4.out, B4⟩
    · have hP' : placeB x y = false := by simpa using hP
      clear hP
      go_wp2_with fail
      go_ret2
      exact ⟨_, by rw [(pl_miss (.inr hP')).2]; rfl, by rw [(pl_miss (.inr hP')).1]; exact OwnI.nil _ _, B1⟩
  · have hS' : sheetsB X len = false := by simpa using hS
    clear hS
    go_wp2_with fail
    go_ret2
    exact ⟨_, by rw [(pl_miss (.inl hS')).2]; rfl, by rw [(pl_miss (.inl hS')).1]; exact OwnI.nil _ _, B1⟩

set_option maxRecDepth 100000 in
set_option maxHeartbeats 4000000 in
theorem walk_ExactShownOn (w : World) (p0 : Option Addr) (len0 cap0 : Nat) (X0 : Nat → SheetD) (a1 : Int) (a2 : Int) (h0 : Sl w 5 p0 len0 (fun i => (X0 i).cells)) (ok0 : ∀ i, i < len0 → (X0 i).ok) (hm0 : len0 ≤ maxLen) (i1 : isI a1) (i2 : isI a2) :
    Calls Try.prog 9 #[.slice p0 len0 cap0, .int .i64 a1, .int .i64 a2] w fun e w' => e = .returned (.bool true) ∧ Below w.heap.size w w' := by
  clear ok0
  by_cases hL : (len0 : Int) ≤ 1048576
  · have hLL : (plL X0 len0 a1 a2).length ≤ 1048576 := by have := plL_le X0 len0 a1 a2; omega
    obtain ⟨LL, hLe⟩ : ∃ LL, LL = plL X0 len0 a1 a2 := ⟨_, rfl⟩
    have HLe := hid hLe
    rw [← hLe] at hLL
    clear hLe
    go_enter Try.func9, Try.ntmps9
    go_wp2_with fail
    refine (szSheetS_any p0 len0 cap0 _ hm0).mono ?_
    rintro e w0 ⟨rfl, rfl⟩
    rw [if_pos hL]
    go_wp2_with fail
    refine (toSheetS_any p0 len0 cap0 X0 _ (h0.below (Below.refl w.heap.size w)) (by omega)).mono ?_
    rintro e w1 ⟨rfl, hb1, hs1, F1⟩
    have z1 := hb1.size
    have B1 : Below w.heap.size w w1 := Below.on (Below.refl w.heap.size w) (Below.refl w.heap.size w).size hb1
    go_wp2_with fail
    refine (shown_spec _ _ 0 len0 len0 X0 a1 a2 F1.rw (by omega) (Nat.le_refl _)).mono ?_
    rintro e w2 ⟨v, rfl, oV0, hb2⟩
    rw [← HLe.out] at oV0
    have oV := hid oV0
    clear oV0
    have z2 := hb2.size
    have B2 : Below w.heap.size w w2 := Below.on B1 B1.size hb2
    go_wp2_with fail
    refine (toSheetS_any p0 len0 cap0 X0 _ (h0.below B2) (by omega)).mono ?_
    rintro e w3 ⟨rfl, hb3, hs3, F3⟩
    have z3 := hb3.size
    have B3 : Below w.heap.size w w3 := Below.on B2 B2.size hb3
    go_wp2_with fail
    refine (shown_impl _ _ 0 len0 len0 X0 a1 a2 F3.rw (by omega) (Nat.le_refl _)).mono ?_
    rintro e w4 ⟨g, rfl, oG0, hb4⟩
    rw [← HLe.out] at oG0
    have oG := hid oG0
    clear oG0
    have z4 := hb4.size
    have B4 : Below w.heap.size w w4 := Below.on B3 B3.size hb4
    go_wp2_with fail
    refine (eqIntS_own g v LL _ _ _ oG.out ((oV.out.below hb3).below hb4) hLL).mono ?_
    rintro e w5 ⟨rfl, hb5⟩
    have z5 := hb5.size
    have B5 : Below w.heap.size w w5 := Below.on B4 B4.size hb5
    go_wp2_with fail
    refine (toSheetS_any p0 len0 cap0 X0 _ (h0.below B5) (by omega)).mono ?_
    rintro e w6 ⟨rfl, hb6, hs6, F6⟩
    have z6 := hb6.size
    have B6 : Below w.heap.size w w6 := Below.on B5 B5.size hb6
    go_wp2_with fail
    refine (eqSheetS_same _ _ 0 0 len0 len0 len0 X0 _ (((F3.rw.later' hb4).later' hb5).later' hb6) F6.rw (by omega) (Nat.le_refl _) (Nat.le_refl _)).mono ?_
    rintro e w7 ⟨rfl, hb7⟩
    have z7 := hb7.size
    have B7 : Below w.heap.size w w7 := Below.on B6 B6.size hb7
    go_wp2_with fail
    refine (markSheetS_any _ len0 len0 1 _ ((((F3.below hb4 (by omega)).below hb5 (by omega)).below hb6 (by omega)).below hb7 (by omega)).blk (Nat.le_refl _) (by omega) (by omega) (by omega)).mono ?_
    rintro e w8 ⟨rfl, gr8⟩
    have z8 := gr8.size
    have B8 : Below w.heap.size w w8 := B7.grown gr8 B7.size (fun k hk => by cases hk; omega)
    have oV8 := hid (((((((oV.out.below hb3).below hb4).below hb5).below hb6).below hb7)).kept gr8 (oV.out.ne_lo (by omega)))
    have oG8 := hid (((((oG.out.below hb5).below hb6).below hb7)).kept gr8 (oG.out.ne_hi (by omega)))
    go_wp2_with fail
    refine (eqIntS_own g v LL _ _ _ oG8.out oV8.out hLL).mono ?_
    rintro e w9 ⟨rfl, hb9⟩
    have z9 := hb9.size
    have B9 : Below w.heap.size w w9 := Below.on B8 B8.size hb9
    go_wp2_with fail
    refine (markIntS_own g LL _ 1 _ (oG8.out.below hb9) (by omega) (by omega) (by omega)).mono ?_
    rintro e w10 ⟨rfl, oM0, gr10⟩
    have oM := hid oM0
    clear oM0
    have z10 := gr10.size
    have B10 : Below w.heap.size w w10 := B9.grown gr10 B9.size (fun k hk => by have := oG.out.ge k hk; omega)
    have oV10 := hid ((oV8.out.below hb9).kept gr10 (own_ne oV.out.lt (fun k hk => by have := oG.out.ge k hk; omega)))
    go_wp2_with fail
    refine (heldIntS_own g LL.length _ 1 _ oM.out (by omega) (by omega) (by omega)).mono ?_
    rintro e w11 ⟨rfl, rfl⟩
    go_wp2_with fail
    refine (toSheetS_any p0 len0 cap0 X0 _ (h0.below B10) (by omega)).mono ?_
    rintro e w12 ⟨rfl, hb12, hs12, F12⟩
    have z12 := hb12.size
    have B12 : Below w.heap.size w w12 := Below.on B10 B10.size hb12
    go_wp2_with fail
    refine (shown_impl _ _ 0 len0 len0 X0 a1 a2 F12.rw (by omega) (Nat.le_refl _)).mono ?_
    rintro e w13 ⟨u, rfl, oH0, hb13⟩
    rw [← HLe.out] at oH0
    have oH := hid oH0
    clear oH0
    have z13 := hb13.size
    have B13 : Below w.heap.size w w13 := Below.on B12 B12.size hb13
    go_wp2_with fail
    refine (eqIntS_own u v LL _ _ _ oH.out ((oV10.out.below hb12).below hb13) hLL).mono ?_
    rintro e w14 ⟨rfl, hb14⟩
    have z14 := hb14.size
    have B14 : Below w.heap.size w w14 := Below.on B13 B13.size hb14
    go_wp2_with fail
    refine (heldIntS_own g LL.length _ 1 _ (((oM.out.below hb12).below hb13).below hb14) (by omega) (by omega) (by omega)).mono ?_
    rintro e w15 ⟨rfl, rfl⟩
    go_wp2_with fail
    go_ret
    exact ⟨rfl, B14⟩
  · go_enter Try.func9, Try.ntmps9
    go_wp2_with fail
    refine (szSheetS_any p0 len0 cap0 _ hm0).mono ?_
    rintro e w0 ⟨rfl, rfl⟩
    rw [if_neg (by omega)]
    go_wp2_with fail
    go_ret
    exact ⟨rfl, Below.refl _ _⟩

end Go.Proofs.Ytigiihhfmdgdlaa
