/-
  A spot's text, by the program and by the reference. No condition.
-/
import Derived.Test.YteklomkncfjdlaaDoorSheetText
import Derived.Test.YteklomkncfjdlaaDoorSpot2d
namespace Go.Proofs.YteklomkncfjdlaaDoor
open Go.RowKit
set_option linter.unusedVariables false
set_option maxRecDepth 100000

def spotOk (s : SpotD) : Bool := inB s.X (-2000000000000) 2000000000000 && inB s.Y (-2000000000000) 2000000000000 && inB s.Den 1 160000 && (gS s.X s.Y s.Den.toNat == 1)
def spotS (s : SpotD) : ByteArray := if 1 < s.Den then txt (Lib.itoa s.X ++ [44] ++ Lib.itoa s.Y ++ [47] ++ Lib.itoa s.Den) else txt (Lib.itoa s.X ++ [44] ++ Lib.itoa s.Y)
def spotTx (s : SpotD) : ByteArray := if spotOk s = true then spotS s else ByteArray.empty
theorem spot_no {s : SpotD} (h : spotOk s = false) : spotTx s = ByteArray.empty := by unfold spotTx; rw [if_neg (by rw [h]; simp)]
theorem spot_yes {s : SpotD} (h : spotOk s = true) : spotTx s = spotS s := by unfold spotTx; rw [if_pos h]
theorem low_one {x y : Int} {D : Nat} (h : gS x y D = 1) : lowP x y D = ⟨x, y, (D : Int)⟩ := by unfold lowP; rw [h]; simp
theorem low_den {x y : Int} {D : Nat} (h0 : 0 < D) (h : gS x y D ≠ 1) : (lowP x y D).Den ≠ (D : Int) := by
  have h1 := gS_pos x y h0
  unfold lowP
  simp only
  intro e
  obtain ⟨g, hg⟩ : ∃ g : Nat, gS x y D = (g : Int) := ⟨(gS x y D).toNat, by omega⟩
  rw [hg] at e h h1
  have e2 : ((D / g : Nat) : Int) = (D : Int) := by rw [← e]; simp
  have e3 : D / g = D := by omega
  have hlt : D / g < D := Nat.div_lt_self h0 (by omega)
  omega
theorem neSp_same (x y d : Int) (w : World) : (binOp .neq 44 (.agg #[.int .i64 x, .int .i64 y, .int .i64 d]) (.agg #[.int .i64 x, .int .i64 y, .int .i64 d])).run Tryd.prog w = .ok (.bool false) w := by
  simp [go_sem, Tryd.underlying44]
theorem neSp_other (x y d x' y' d' : Int) (h : d ≠ d') (w : World) : (binOp .neq 44 (.agg #[.int .i64 x, .int .i64 y, .int .i64 d]) (.agg #[.int .i64 x', .int .i64 y', .int .i64 d'])).run Tryd.prog w = .ok (.bool true) w := by
  by_cases h1 : x = x' <;> by_cases h2 : y = y' <;> simp [go_sem, Tryd.underlying44, h1, h2, h]

set_option maxHeartbeats 8000000 in
theorem spotText_spec (s : SpotD) (w : World) : Calls Tryd.prog 29 #[s.val] w fun e w' => e = .returned (.tuple #[.string (spotTx s), .bool (spotOk s)]) ∧ Below w.heap.size w w' := by
  obtain ⟨x, y, d⟩ := s
  have A00 : Below w.heap.size w (w.alloc (.cells #[.int .i64 x, .int .i64 y, .int .i64 d] 44)) := by go_grown
  by_cases h3 : inB d 1 160000 = true
  · skip
    by_cases h1 : inB x (-2000000000000) 2000000000000 = true
    · skip
      by_cases h2 : inB y (-2000000000000) 2000000000000 = true
      · skip
        have hdb : 1 ≤ d ∧ d ≤ 160000 := by simpa [inB] using h3
        obtain ⟨D, rfl⟩ : ∃ D : Nat, d = (D : Int) := ⟨d.toNat, by omega⟩
        obtain ⟨hD2, hD3⟩ := hdb
        have hX := hid h1
        have hY := hid h2
        have A0 := A00
        have bx : -2000000000000 ≤ x ∧ x ≤ 2000000000000 := by simpa [inB] using h1
        have bY : -2000000000000 ≤ y ∧ y ≤ 2000000000000 := by simpa [inB] using h2
        obtain ⟨bx1, bx2⟩ := bx
        obtain ⟨by1, by2⟩ := bY
        have hsp : SpBd ⟨x, y, 0⟩ := by unfold SpBd; simp only; omega
        have hq := fun z : Later (w.alloc (.cells #[.int .i64 x, .int .i64 y, .int .i64 (D : Int)] 44)) => z.cell
        have K1 := hid (fun w => divisor_spec y D (by omega) (by omega) (by omega) w)
        obtain ⟨m, hm, hmb⟩ : ∃ m : Nat, m = Nat.gcd y.natAbs D ∧ m ≤ 4611686018427387904 := ⟨_, rfl, Nat.le_trans (Nat.le_of_dvd (by omega) (Nat.gcd_dvd_right _ _)) (by omega)⟩
        have K1' : Hid (∀ w, Calls Tryd.prog 59 #[.int .i64 y, .int .i64 (D : Int)] w fun e w' => e = .returned (.int .i64 (m : Int)) ∧ Below w.heap.size w w') := by rw [hm]; exact fun w => K1.out w
        by_cases hg : gS x y D = 1
        · have HO : Hid (spotOk ⟨x, y, (D : Int)⟩ = true) := by unfold Hid spotOk; simp only [Int.toNat_natCast]; rw [h1, h2, h3]; simp [hg]
          have K2 : Hid (∀ w, Calls Tryd.prog 59 #[.int .i64 x, .int .i64 (m : Int)] w fun e w' => e = .returned (.int .i64 1) ∧ Below w.heap.size w w') := by
            intro w
            have := divisor_spec x m (by omega) (by omega) hmb w
            rw [hm, gS_assoc] at this
            rwa [hg, ← hm] at this
          clear hm hg K1
          go_enter Tryd.func29, Tryd.ntmps29
          go_wp2_with fail
          refine region_later (by kernel_rfl) (by kernel_rfl) ?_
          repeat (go_big_quiet_step (first | (go_at_call 42; refine calls_later_same (in_spec _ _ _ _)) | (go_at_call 59; first | ((with_reducible refine calls_later (K1'.out _))) | ((with_reducible refine calls_later (K2.out _))))))
          refine wpQuiet_nil ?_
          intro _ hw'
          obtain ⟨z0, rfl⟩ := hw'
          have B1 := Below.on A0 A0.size z0.below
          have lx : w.heap.size < z0.wd.heap.size := by have := z0.size; simp at this; omega
          have x0 : z0.wd.cell? ⟨w.heap.size, 0, none⟩ = some (.int .i64 x) := (z0.cell _ _ (by simp)).trans (by simp [go_sem])
          have x1 : z0.wd.cell? ⟨w.heap.size, 1, none⟩ = some (.int .i64 y) := (z0.cell _ _ (by simp)).trans (by simp [go_sem])
          have x2 : z0.wd.cell? ⟨w.heap.size, 2, none⟩ = some (.int .i64 (D : Int)) := (z0.cell _ _ (by simp)).trans (by simp [go_sem])
          clear hq K2 h1 h2 h3 K1'
          generalize z0.wd = w1 at *
          have hx0 : -2000000000000 ≤ x ∧ x ≤ 2000000000000 := by simpa [inB] using hX.out
          have hy0 : -2000000000000 ≤ y ∧ y ≤ 2000000000000 := by simpa [inB] using hY.out
          obtain ⟨t0, ht0, hz0⟩ : ∃ t, txt (Lib.itoa x) = t ∧ (t.size : Int) ≤ 30 := ⟨_, rfl, by rw [txt_size]; have := itoa_len (n := x) (by omega) (by omega); omega⟩
          have HT0 := hid ht0
          obtain ⟨p1, hp1, hq1⟩ : ∃ p, t0 ++ ({ data := #[44] } : ByteArray) = p ∧ (p.size : Int) ≤ 31 := ⟨_, rfl, by rw [ByteArray.size_append]; have hc : (({ data := #[44] } : ByteArray)).size = 1 := rfl; rw [hc]; omega⟩
          obtain ⟨t2, ht2, hz2⟩ : ∃ t, txt (Lib.itoa y) = t ∧ (t.size : Int) ≤ 30 := ⟨_, rfl, by rw [txt_size]; have := itoa_len (n := y) (by omega) (by omega); omega⟩
          have HT2 := hid ht2
          obtain ⟨p2, hp2, hq2⟩ : ∃ p, p1 ++ t2 = p ∧ (p.size : Int) ≤ 61 := ⟨_, rfl, by rw [ByteArray.size_append]; omega⟩
          have hw0 : (t0.size : Int) ≤ 8388608 := by omega
          have hw1 : (({ data := #[44] } : ByteArray).size : Int) ≤ 8388608 := by have hc : ({ data := #[44] } : ByteArray).size = 1 := rfl; rw [hc]; omega
          have hv1 : (p1.size : Int) ≤ 8388608 := by omega
          have hw2 : (t2.size : Int) ≤ 8388608 := by omega
          have hv2 : (p2.size : Int) ≤ 8388608 := by omega
          have hpz : (p2.size : Int) ≤ 100 := by omega
          by_cases hD1 : (1 : Int) < (D : Int)
          · obtain ⟨t9, ht9, hz9⟩ : ∃ t, txt (Lib.itoa (D : Int)) = t ∧ (t.size : Int) ≤ 30 := ⟨_, rfl, by rw [txt_size]; have := itoa_len (n := (D : Int)) (by omega) (by omega); omega⟩
            have HT9 := hid ht9
            have hw9 : (t9.size : Int) ≤ 8388608 := by omega
            have hcs : (({ data := #[47] } : ByteArray).size : Int) ≤ 8388608 := by have hc : ({ data := #[47] } : ByteArray).size = 1 := rfl; rw [hc]; omega
            obtain ⟨q1, hq1, hr1⟩ : ∃ q, p2 ++ ({ data := #[47] } : ByteArray) = q ∧ (q.size : Int) ≤ 8388608 := ⟨_, rfl, by rw [ByteArray.size_append]; have hc : ({ data := #[47] } : ByteArray).size = 1 := rfl; rw [hc]; omega⟩
            obtain ⟨q2, hq2⟩ : ∃ q, q1 ++ t9 = q := ⟨_, rfl⟩
            have HR : Hid (spotS ⟨x, y, (D : Int)⟩ = q2) := by unfold Hid spotS; rw [if_pos (by simpa using hD1)]; rw [← hq2, ← hq1, ← hp2, ← hp1, ← HT0.out, ← HT2.out, ← HT9.out, show ({ data := #[44] } : ByteArray) = txt [44] from rfl, show ({ data := #[47] } : ByteArray) = txt [47] from rfl, txt_append, txt_append, txt_append, txt_append]
            clear ht0 ht2 hz0 hz2 ht9 hz9
            have hqq := fun z : Later w1 => z.cell
            go_wp2_with fail
            refine region_later (by kernel_rfl) (by kernel_rfl) ?_
            go_big_quiet_step (fail)
            go_big_quiet_step (fail)
            go_big_quiet_step ((go_at_call 43; refine calls_later (num_specT (by omega) (by omega) HT0.out _)))
            go_big_quiet_step (fail)
            go_big_quiet_step (fail)
            go_big_quiet_step (fail)
            go_big_quiet_step ((go_at_call 43; refine calls_later (num_specT (by omega) (by omega) HT2.out _)))
            go_big_quiet_step (fail)
            go_big_quiet_step (fail)
            refine wpQuiet_nil ?_
            intro _ hw'
            obtain ⟨z, rfl⟩ := hw'
            have B2 := Below.on B1 B1.size z.below
            have lz : w.heap.size < z.wd.heap.size := by have := z.size; omega
            have y0 : z.wd.cell? ⟨w.heap.size, 0, none⟩ = some (.int .i64 x) := (z.cell _ _ lx).trans x0
            have y1 : z.wd.cell? ⟨w.heap.size, 1, none⟩ = some (.int .i64 y) := (z.cell _ _ lx).trans x1
            have y2 : z.wd.cell? ⟨w.heap.size, 2, none⟩ = some (.int .i64 (D : Int)) := (z.cell _ _ lx).trans x2
            clear hqq
            go_wp2_with fail
            refine (num_specT (by omega) (by omega) HT9.out _).mono ?_
            rintro e w2 ⟨rfl, hb2⟩
            go_wp2_with fail
            go_ret2
            exact ⟨by rw [HO.out, spot_yes HO.out, HR.out]; rfl, Below.on B2 B2.size hb2⟩
          · have HR : Hid (spotS ⟨x, y, (D : Int)⟩ = p2) := by unfold Hid spotS; rw [if_neg (by simpa using hD1)]; rw [← hp2, ← hp1, ← HT0.out, ← HT2.out, show ({ data := #[44] } : ByteArray) = txt [44] from rfl, txt_append, txt_append]
            clear ht0 ht2 hz0 hz2
            have hqq := fun z : Later w1 => z.cell
            go_wp2_with fail
            refine region_later (by kernel_rfl) (by kernel_rfl) ?_
            go_big_quiet_step (fail)
            go_big_quiet_step (fail)
            go_big_quiet_step ((go_at_call 43; refine calls_later (num_specT (by omega) (by omega) HT0.out _)))
            go_big_quiet_step (fail)
            go_big_quiet_step (fail)
            go_big_quiet_step (fail)
            go_big_quiet_step ((go_at_call 43; refine calls_later (num_specT (by omega) (by omega) HT2.out _)))
            go_big_quiet_step (fail)
            go_big_quiet_step (fail)
            refine wpQuiet_nil ?_
            intro _ hw'
            obtain ⟨z, rfl⟩ := hw'
            have B2 := Below.on B1 B1.size z.below
            have lz : w.heap.size < z.wd.heap.size := by have := z.size; omega
            have y0 : z.wd.cell? ⟨w.heap.size, 0, none⟩ = some (.int .i64 x) := (z.cell _ _ lx).trans x0
            have y1 : z.wd.cell? ⟨w.heap.size, 1, none⟩ = some (.int .i64 y) := (z.cell _ _ lx).trans x1
            have y2 : z.wd.cell? ⟨w.heap.size, 2, none⟩ = some (.int .i64 (D : Int)) := (z.cell _ _ lx).trans x2
            clear hqq
            go_wp2_with fail
            go_ret2
            exact ⟨by rw [HO.out, spot_yes HO.out, HR.out]; rfl, B2⟩
        · have HO : Hid (spotOk ⟨x, y, (D : Int)⟩ = false) := by unfold Hid spotOk; simp only [Int.toNat_natCast]; rw [h1, h2, h3]; simp [hg]
          obtain ⟨g, hgg⟩ : ∃ g, g = gS x y D := ⟨_, rfl⟩
          rw [← hgg] at hg
          have hgb : (g == 1) = false := by simpa using hg
          have hgn : (g != 1) = true := by simpa using hg
          have K2 : Hid (∀ w, Calls Tryd.prog 59 #[.int .i64 x, .int .i64 (m : Int)] w fun e w' => e = .returned (.int .i64 g) ∧ Below w.heap.size w w') := by
            intro w
            have := divisor_spec x m (by omega) (by omega) hmb w
            rw [hm, gS_assoc] at this
            rwa [← hgg, ← hm] at this
          clear hm hg K1 hgg
          go_enter Tryd.func29, Tryd.ntmps29
          go_wp2_with fail
          refine region_later (by kernel_rfl) (by kernel_rfl) ?_
          repeat (go_big_quiet_step (first | (go_at_call 42; refine calls_later_same (in_spec _ _ _ _)) | (go_at_call 59; first | ((with_reducible refine calls_later (K1'.out _))) | ((with_reducible refine calls_later (K2.out _))))))
          refine wpQuiet_nil ?_
          intro _ hw'
          obtain ⟨z0, rfl⟩ := hw'
          have B1 := Below.on A0 A0.size z0.below
          have lx : w.heap.size < z0.wd.heap.size := by have := z0.size; simp at this; omega
          go_wp2_with fail
          go_ret2
          exact ⟨by rw [HO.out, spot_no HO.out]; rfl, B1⟩
      · have h2' : inB y (-2000000000000) 2000000000000 = false := by simpa using h2
        have HO : Hid (spotOk ⟨x, y, d⟩ = false) := by unfold Hid spotOk; simp [h2']
        have A0 := A00
        have hq := fun z : Later (w.alloc (.cells #[.int .i64 x, .int .i64 y, .int .i64 d] 44)) => z.cell
        go_enter Tryd.func29, Tryd.ntmps29
        go_wp2_with fail
        refine region_later (by kernel_rfl) (by kernel_rfl) ?_
        repeat (go_big_quiet_step ((go_at_call 42; refine calls_later_same (in_spec _ _ _ _))))
        refine wpQuiet_nil ?_
        intro _ hw'
        obtain ⟨z0, rfl⟩ := hw'
        have B1 := Below.on A0 A0.size z0.below
        have lx : w.heap.size < z0.wd.heap.size := by have := z0.size; simp at this; omega
        go_wp2_with fail
        go_ret2
        exact ⟨by rw [HO.out, spot_no HO.out]; rfl, B1⟩
    · have h1' : inB x (-2000000000000) 2000000000000 = false := by simpa using h1
      have HO : Hid (spotOk ⟨x, y, d⟩ = false) := by unfold Hid spotOk; simp [h1']
      have A0 := A00
      have hq := fun z : Later (w.alloc (.cells #[.int .i64 x, .int .i64 y, .int .i64 d] 44)) => z.cell
      go_enter Tryd.func29, Tryd.ntmps29
      go_wp2_with fail
      refine region_later (by kernel_rfl) (by kernel_rfl) ?_
      repeat (go_big_quiet_step ((go_at_call 42; refine calls_later_same (in_spec _ _ _ _))))
      refine wpQuiet_nil ?_
      intro _ hw'
      obtain ⟨z0, rfl⟩ := hw'
      have B1 := Below.on A0 A0.size z0.below
      have lx : w.heap.size < z0.wd.heap.size := by have := z0.size; simp at this; omega
      go_wp2_with fail
      go_ret2
      exact ⟨by rw [HO.out, spot_no HO.out]; rfl, B1⟩
  · have h3' : inB d 1 160000 = false := by simpa using h3
    have HO : Hid (spotOk ⟨x, y, d⟩ = false) := by unfold Hid spotOk; simp [h3']
    have A0 := A00
    have hq := fun z : Later (w.alloc (.cells #[.int .i64 x, .int .i64 y, .int .i64 d] 44)) => z.cell
    go_enter Tryd.func29, Tryd.ntmps29
    go_wp2_with fail
    refine region_later (by kernel_rfl) (by kernel_rfl) ?_
    repeat (go_big_quiet_step ((go_at_call 42; refine calls_later_same (in_spec _ _ _ _))))
    refine wpQuiet_nil ?_
    intro _ hw'
    obtain ⟨z0, rfl⟩ := hw'
    have B1 := Below.on A0 A0.size z0.below
    have lx : w.heap.size < z0.wd.heap.size := by have := z0.size; simp at this; omega
    go_wp2_with fail
    go_ret2
    exact ⟨by rw [HO.out, spot_no HO.out]; rfl, B1⟩

set_option maxHeartbeats 8000000 in
theorem spotText_impl (s : SpotD) (B : Nat) (w : World) (hB : B ≤ w.heap.size) (ht : Tb B w) : Calls Tryd.prog 31 #[s.val] w fun e w' => e = .returned (.tuple #[.string (spotTx s), .bool (spotOk s)]) ∧ Below w.heap.size w w' := by
  obtain ⟨x, y, d⟩ := s
  have A00 : Below w.heap.size w (w.alloc (.cells #[.int .i64 x, .int .i64 y, .int .i64 d] 44)) := by go_grown
  have HT := hid (ht.on hB A00)
  clear ht
  by_cases h1 : inB x (-2000000000000) 2000000000000 = true
  · skip
    by_cases h2 : inB y (-2000000000000) 2000000000000 = true
    · skip
      by_cases h3 : inB d 1 160000 = true
      · skip
        have hdb : 1 ≤ d ∧ d ≤ 160000 := by simpa [inB] using h3
        obtain ⟨D, rfl⟩ : ∃ D : Nat, d = (D : Int) := ⟨d.toNat, by omega⟩
        obtain ⟨hD2, hD3⟩ := hdb
        have hX := hid h1
        have hY := hid h2
        have A0 := A00
        have bx : -2000000000000 ≤ x ∧ x ≤ 2000000000000 := by simpa [inB] using h1
        have bY : -2000000000000 ≤ y ∧ y ≤ 2000000000000 := by simpa [inB] using h2
        obtain ⟨bx1, bx2⟩ := bx
        obtain ⟨by1, by2⟩ := bY
        have hsp : SpBd ⟨x, y, 0⟩ := by unfold SpBd; simp only; omega
        have hq := fun z : Later (w.alloc (.cells #[.int .i64 x, .int .i64 y, .int .i64 (D : Int)] 44)) => z.cell
        have K1 := hid (fun w => low_impl_pos x y D hsp (by omega) (by omega) w)
        by_cases hg : gS x y D = 1
        · have HO : Hid (spotOk ⟨x, y, (D : Int)⟩ = true) := by unfold Hid spotOk; simp only [Int.toNat_natCast]; rw [h1, h2, h3]; simp [hg]
          have K2 : Hid (∀ w, Calls Tryd.prog 60 #[.agg #[.int .i64 x, .int .i64 y, .int .i64 (D : Int)]] w fun e w' => e = .returned (.agg #[.int .i64 x, .int .i64 y, .int .i64 (D : Int)]) ∧ Below w.heap.size w w') := by
            intro w
            have := K1.out w
            rw [low_one hg] at this
            exact this
          have hN := neSp_same x y (D : Int)
          clear hg K1
          go_enter Tryd.func31, Tryd.ntmps31
          go_wp2_with fail
          refine region_later (by kernel_rfl) (by kernel_rfl) ?_
          repeat (go_big_quiet_step (first | (go_at_call 44; refine calls_later_same (in_impl _ _ _ _)) | (go_at_call 60; refine calls_later (K2.out _))))
          refine wpQuiet_nil ?_
          intro _ hw'
          obtain ⟨z0, rfl⟩ := hw'
          have B1 := Below.on A0 A0.size z0.below
          have lx : w.heap.size < z0.wd.heap.size := by have := z0.size; simp at this; omega
          have T1 := hid (HT.out.on (by simp; omega) z0.below)
          have x0 : z0.wd.cell? ⟨w.heap.size, 0, none⟩ = some (.int .i64 x) := (z0.cell _ _ (by simp)).trans (by simp [go_sem])
          have x1 : z0.wd.cell? ⟨w.heap.size, 1, none⟩ = some (.int .i64 y) := (z0.cell _ _ (by simp)).trans (by simp [go_sem])
          have x2 : z0.wd.cell? ⟨w.heap.size, 2, none⟩ = some (.int .i64 (D : Int)) := (z0.cell _ _ (by simp)).trans (by simp [go_sem])
          clear hq K2 h1 h2 h3 hN
          generalize z0.wd = w1 at *
          have hBw : B ≤ w1.heap.size := by omega
          have hx0 : -2000000000000 ≤ x ∧ x ≤ 2000000000000 := by simpa [inB] using hX.out
          have hy0 : -2000000000000 ≤ y ∧ y ≤ 2000000000000 := by simpa [inB] using hY.out
          obtain ⟨t0, ht0, hz0⟩ : ∃ t, txt (Lib.itoa x) = t ∧ (t.size : Int) ≤ 30 := ⟨_, rfl, by rw [txt_size]; have := itoa_len (n := x) (by omega) (by omega); omega⟩
          have HT0 := hid ht0
          obtain ⟨p1, hp1, hq1⟩ : ∃ p, t0 ++ ({ data := #[44] } : ByteArray) = p ∧ (p.size : Int) ≤ 31 := ⟨_, rfl, by rw [ByteArray.size_append]; have hc : (({ data := #[44] } : ByteArray)).size = 1 := rfl; rw [hc]; omega⟩
          obtain ⟨t2, ht2, hz2⟩ : ∃ t, txt (Lib.itoa y) = t ∧ (t.size : Int) ≤ 30 := ⟨_, rfl, by rw [txt_size]; have := itoa_len (n := y) (by omega) (by omega); omega⟩
          have HT2 := hid ht2
          obtain ⟨p2, hp2, hq2⟩ : ∃ p, p1 ++ t2 = p ∧ (p.size : Int) ≤ 61 := ⟨_, rfl, by rw [ByteArray.size_append]; omega⟩
          have hw0 : (t0.size : Int) ≤ 8388608 := by omega
          have hw1 : (({ data := #[44] } : ByteArray).size : Int) ≤ 8388608 := by have hc : ({ data := #[44] } : ByteArray).size = 1 := rfl; rw [hc]; omega
          have hv1 : (p1.size : Int) ≤ 8388608 := by omega
          have hw2 : (t2.size : Int) ≤ 8388608 := by omega
          have hv2 : (p2.size : Int) ≤ 8388608 := by omega
          have hpz : (p2.size : Int) ≤ 100 := by omega
          by_cases hD1 : (1 : Int) < (D : Int)
          · obtain ⟨t9, ht9, hz9⟩ : ∃ t, txt (Lib.itoa (D : Int)) = t ∧ (t.size : Int) ≤ 30 := ⟨_, rfl, by rw [txt_size]; have := itoa_len (n := (D : Int)) (by omega) (by omega); omega⟩
            have HT9 := hid ht9
            have hw9 : (t9.size : Int) ≤ 8388608 := by omega
            have hcs : (({ data := #[47] } : ByteArray).size : Int) ≤ 8388608 := by have hc : ({ data := #[47] } : ByteArray).size = 1 := rfl; rw [hc]; omega
            obtain ⟨q1, hq1, hr1⟩ : ∃ q, ({ data := #[47] } : ByteArray) ++ t9 = q ∧ (q.size : Int) ≤ 8388608 := ⟨_, rfl, by rw [ByteArray.size_append]; have hc : ({ data := #[47] } : ByteArray).size = 1 := rfl; rw [hc]; omega⟩
            obtain ⟨q2, hq2⟩ : ∃ q, p2 ++ q1 = q := ⟨_, rfl⟩
            have HR : Hid (spotS ⟨x, y, (D : Int)⟩ = q2) := by unfold Hid spotS; rw [if_pos (by simpa using hD1)]; rw [← hq2, ← hq1, ← hp2, ← hp1, ← HT0.out, ← HT2.out, ← HT9.out, show ({ data := #[44] } : ByteArray) = txt [44] from rfl, show ({ data := #[47] } : ByteArray) = txt [47] from rfl, txt_append, txt_append, txt_append, txt_append]; congr 1; simp [List.append_assoc]
            clear ht0 ht2 hz0 hz2 ht9 hz9
            have TL := hid (fun z : Later w1 => T1.out.later hBw z)
            have hqq := fun z : Later w1 => z.cell
            go_wp2_with fail
            refine region_later (by kernel_rfl) (by kernel_rfl) ?_
            go_big_quiet_step (fail)
            go_big_quiet_step (fail)
            go_big_quiet_step ((go_at_call 45; refine calls_later (text_implT (by omega) (by omega) HT0.out B _ (TL.out _))))
            go_big_quiet_step (fail)
            go_big_quiet_step (fail)
            go_big_quiet_step (fail)
            go_big_quiet_step ((go_at_call 45; refine calls_later (text_implT (by omega) (by omega) HT2.out B _ (TL.out _))))
            go_big_quiet_step (fail)
            go_big_quiet_step (fail)
            refine wpQuiet_nil ?_
            intro _ hw'
            obtain ⟨z, rfl⟩ := hw'
            have TZ := hid (T1.out.later hBw z)
            have B2 := Below.on B1 B1.size z.below
            have lz : w.heap.size < z.wd.heap.size := by have := z.size; omega
            have y0 : z.wd.cell? ⟨w.heap.size, 0, none⟩ = some (.int .i64 x) := (z.cell _ _ lx).trans x0
            have y1 : z.wd.cell? ⟨w.heap.size, 1, none⟩ = some (.int .i64 y) := (z.cell _ _ lx).trans x1
            have y2 : z.wd.cell? ⟨w.heap.size, 2, none⟩ = some (.int .i64 (D : Int)) := (z.cell _ _ lx).trans x2
            clear hqq
            go_wp2_with fail
            refine (text_implT (by omega) (by omega) HT9.out B _ (TZ.out)).mono ?_
            rintro e w2 ⟨rfl, hb2⟩
            go_wp2_with fail
            go_ret2
            exact ⟨by rw [HO.out, spot_yes HO.out, HR.out]; rfl, Below.on B2 B2.size hb2⟩
          · have HR : Hid (spotS ⟨x, y, (D : Int)⟩ = p2) := by unfold Hid spotS; rw [if_neg (by simpa using hD1)]; rw [← hp2, ← hp1, ← HT0.out, ← HT2.out, show ({ data := #[44] } : ByteArray) = txt [44] from rfl, txt_append, txt_append]
            clear ht0 ht2 hz0 hz2
            have TL := hid (fun z : Later w1 => T1.out.later hBw z)
            have hqq := fun z : Later w1 => z.cell
            go_wp2_with fail
            refine region_later (by kernel_rfl) (by kernel_rfl) ?_
            go_big_quiet_step (fail)
            go_big_quiet_step (fail)
            go_big_quiet_step ((go_at_call 45; refine calls_later (text_implT (by omega) (by omega) HT0.out B _ (TL.out _))))
            go_big_quiet_step (fail)
            go_big_quiet_step (fail)
            go_big_quiet_step (fail)
            go_big_quiet_step ((go_at_call 45; refine calls_later (text_implT (by omega) (by omega) HT2.out B _ (TL.out _))))
            go_big_quiet_step (fail)
            go_big_quiet_step (fail)
            refine wpQuiet_nil ?_
            intro _ hw'
            obtain ⟨z, rfl⟩ := hw'
            have B2 := Below.on B1 B1.size z.below
            have lz : w.heap.size < z.wd.heap.size := by have := z.size; omega
            have y0 : z.wd.cell? ⟨w.heap.size, 0, none⟩ = some (.int .i64 x) := (z.cell _ _ lx).trans x0
            have y1 : z.wd.cell? ⟨w.heap.size, 1, none⟩ = some (.int .i64 y) := (z.cell _ _ lx).trans x1
            have y2 : z.wd.cell? ⟨w.heap.size, 2, none⟩ = some (.int .i64 (D : Int)) := (z.cell _ _ lx).trans x2
            clear hqq
            go_wp2_with fail
            go_ret2
            exact ⟨by rw [HO.out, spot_yes HO.out, HR.out]; rfl, B2⟩
        · have HO : Hid (spotOk ⟨x, y, (D : Int)⟩ = false) := by unfold Hid spotOk; simp only [Int.toNat_natCast]; rw [h1, h2, h3]; simp [hg]
          obtain ⟨lx0, hlx⟩ : ∃ t, t = (lowP x y D).X := ⟨_, rfl⟩
          obtain ⟨ly0, hly⟩ : ∃ t, t = (lowP x y D).Y := ⟨_, rfl⟩
          obtain ⟨ld0, hld⟩ : ∃ t, t = (lowP x y D).Den := ⟨_, rfl⟩
          have K2 : Hid (∀ w, Calls Tryd.prog 60 #[.agg #[.int .i64 x, .int .i64 y, .int .i64 (D : Int)]] w fun e w' => e = .returned (.agg #[.int .i64 lx0, .int .i64 ly0, .int .i64 ld0]) ∧ Below w.heap.size w w') := by
            intro w
            rw [hlx, hly, hld]
            exact K1.out w
          have hN := neSp_other lx0 ly0 ld0 x y (D : Int) (by rw [hld]; exact low_den (by omega) hg)
          clear hg K1 hlx hly hld
          go_enter Tryd.func31, Tryd.ntmps31
          go_wp2_with fail
          refine region_later (by kernel_rfl) (by kernel_rfl) ?_
          repeat (go_big_quiet_step (first | (go_at_call 44; refine calls_later_same (in_impl _ _ _ _)) | (go_at_call 60; refine calls_later (K2.out _))))
          refine wpQuiet_nil ?_
          intro _ hw'
          obtain ⟨z0, rfl⟩ := hw'
          have B1 := Below.on A0 A0.size z0.below
          have lx : w.heap.size < z0.wd.heap.size := by have := z0.size; simp at this; omega
          go_wp2_with fail
          go_ret2
          exact ⟨by rw [HO.out, spot_no HO.out]; rfl, B1⟩
      · have h3' : inB d 1 160000 = false := by simpa using h3
        have HO : Hid (spotOk ⟨x, y, d⟩ = false) := by unfold Hid spotOk; simp [h3']
        have A0 := A00
        have hq := fun z : Later (w.alloc (.cells #[.int .i64 x, .int .i64 y, .int .i64 d] 44)) => z.cell
        go_enter Tryd.func31, Tryd.ntmps31
        go_wp2_with fail
        refine region_later (by kernel_rfl) (by kernel_rfl) ?_
        repeat (go_big_quiet_step ((go_at_call 44; refine calls_later_same (in_impl _ _ _ _))))
        refine wpQuiet_nil ?_
        intro _ hw'
        obtain ⟨z0, rfl⟩ := hw'
        have B1 := Below.on A0 A0.size z0.below
        have lx : w.heap.size < z0.wd.heap.size := by have := z0.size; simp at this; omega
        go_wp2_with fail
        go_ret2
        exact ⟨by rw [HO.out, spot_no HO.out]; rfl, B1⟩
    · have h2' : inB y (-2000000000000) 2000000000000 = false := by simpa using h2
      have HO : Hid (spotOk ⟨x, y, d⟩ = false) := by unfold Hid spotOk; simp [h2']
      have A0 := A00
      have hq := fun z : Later (w.alloc (.cells #[.int .i64 x, .int .i64 y, .int .i64 d] 44)) => z.cell
      go_enter Tryd.func31, Tryd.ntmps31
      go_wp2_with fail
      refine region_later (by kernel_rfl) (by kernel_rfl) ?_
      repeat (go_big_quiet_step ((go_at_call 44; refine calls_later_same (in_impl _ _ _ _))))
      refine wpQuiet_nil ?_
      intro _ hw'
      obtain ⟨z0, rfl⟩ := hw'
      have B1 := Below.on A0 A0.size z0.below
      have lx : w.heap.size < z0.wd.heap.size := by have := z0.size; simp at this; omega
      go_wp2_with fail
      go_ret2
      exact ⟨by rw [HO.out, spot_no HO.out]; rfl, B1⟩
  · have h1' : inB x (-2000000000000) 2000000000000 = false := by simpa using h1
    have HO : Hid (spotOk ⟨x, y, d⟩ = false) := by unfold Hid spotOk; simp [h1']
    have A0 := A00
    have hq := fun z : Later (w.alloc (.cells #[.int .i64 x, .int .i64 y, .int .i64 d] 44)) => z.cell
    go_enter Tryd.func31, Tryd.ntmps31
    go_wp2_with fail
    refine region_later (by kernel_rfl) (by kernel_rfl) ?_
    repeat (go_big_quiet_step ((go_at_call 44; refine calls_later_same (in_impl _ _ _ _))))
    refine wpQuiet_nil ?_
    intro _ hw'
    obtain ⟨z0, rfl⟩ := hw'
    have B1 := Below.on A0 A0.size z0.below
    have lx : w.heap.size < z0.wd.heap.size := by have := z0.size; simp at this; omega
    go_wp2_with fail
    go_ret2
    exact ⟨by rw [HO.out, spot_no HO.out]; rfl, B1⟩

theorem toSpot_any (s : SpotD) (w : World) : Calls Tryd.prog 30 #[s.val] w fun e w' => e = .returned s.val ∧ Below w.heap.size w w' := by
  go_enter Tryd.func30, Tryd.ntmps30
  go_wp2
  exact bodyPost_ret (v := s.val) (by simp [results, Tryd.results30, go_sem]) rfl ⟨rfl, by go_grown⟩

set_option maxHeartbeats 1000000 in
theorem walk_ExactSpotText (w : World) (s0 : SpotD) (ok0 : s0.ok) (ht : Tb w.heap.size w) : Calls Tryd.prog 9 #[s0.val] w fun e w' => e = .returned (.bool true) ∧ Below w.heap.size w w' := by
  have C0 : Below (w.alloc (.cells #[.int .i64 s0.X, .int .i64 s0.Y, .int .i64 s0.Den] 42)).heap.size (w.alloc (.cells #[.int .i64 s0.X, .int .i64 s0.Y, .int .i64 s0.Den] 42)) (w.alloc (.cells #[.int .i64 s0.X, .int .i64 s0.Y, .int .i64 s0.Den] 42)) := Below.refl _ _
  have D0 : Below w.heap.size w (w.alloc (.cells #[.int .i64 s0.X, .int .i64 s0.Y, .int .i64 s0.Den] 42)) := by go_grown
  clear ok0
  have HT := hid ht
  clear ht
  go_enter Tryd.func9, Tryd.ntmps9
  go_wp2_with fail
  refine (toSpot_any s0 _).mono ?_
  rintro e w1 ⟨rfl, hb1⟩
  have C1 : Below (w.alloc (.cells #[.int .i64 s0.X, .int .i64 s0.Y, .int .i64 s0.Den] 42)).heap.size (w.alloc (.cells #[.int .i64 s0.X, .int .i64 s0.Y, .int .i64 s0.Den] 42)) w1 := Below.on C0 C0.size hb1
  have x0 : w1.cell? ⟨w.heap.size, 0, none⟩ = some (.int .i64 s0.X) := (C1.cell (by simp)).trans (by simp [go_sem])
  have x1 : w1.cell? ⟨w.heap.size, 1, none⟩ = some (.int .i64 s0.Y) := (C1.cell (by simp)).trans (by simp [go_sem])
  have x2 : w1.cell? ⟨w.heap.size, 2, none⟩ = some (.int .i64 s0.Den) := (C1.cell (by simp)).trans (by simp [go_sem])
  go_wp2_with fail
  refine (spotText_spec s0 _).mono ?_
  rintro e w2 ⟨rfl, hb2⟩
  have C2 : Below (w.alloc (.cells #[.int .i64 s0.X, .int .i64 s0.Y, .int .i64 s0.Den] 42)).heap.size (w.alloc (.cells #[.int .i64 s0.X, .int .i64 s0.Y, .int .i64 s0.Den] 42)) w2 := Below.on C1 C1.size hb2
  have x0 : w2.cell? ⟨w.heap.size, 0, none⟩ = some (.int .i64 s0.X) := (C2.cell (by simp)).trans (by simp [go_sem])
  have x1 : w2.cell? ⟨w.heap.size, 1, none⟩ = some (.int .i64 s0.Y) := (C2.cell (by simp)).trans (by simp [go_sem])
  have x2 : w2.cell? ⟨w.heap.size, 2, none⟩ = some (.int .i64 s0.Den) := (C2.cell (by simp)).trans (by simp [go_sem])
  go_wp2_with fail
  refine (toSpot_any s0 _).mono ?_
  rintro e w3 ⟨rfl, hb3⟩
  have C3 : Below (w.alloc (.cells #[.int .i64 s0.X, .int .i64 s0.Y, .int .i64 s0.Den] 42)).heap.size (w.alloc (.cells #[.int .i64 s0.X, .int .i64 s0.Y, .int .i64 s0.Den] 42)) w3 := Below.on C2 C2.size hb3
  have x0 : w3.cell? ⟨w.heap.size, 0, none⟩ = some (.int .i64 s0.X) := (C3.cell (by simp)).trans (by simp [go_sem])
  have x1 : w3.cell? ⟨w.heap.size, 1, none⟩ = some (.int .i64 s0.Y) := (C3.cell (by simp)).trans (by simp [go_sem])
  have x2 : w3.cell? ⟨w.heap.size, 2, none⟩ = some (.int .i64 s0.Den) := (C3.cell (by simp)).trans (by simp [go_sem])
  go_wp2_with fail
  refine (spotText_impl s0 w.heap.size _ ((Below.on D0 D0.size C3).size) (HT.out.via (Below.on D0 D0.size C3))).mono ?_
  rintro e w4 ⟨rfl, hb4⟩
  have C4 : Below (w.alloc (.cells #[.int .i64 s0.X, .int .i64 s0.Y, .int .i64 s0.Den] 42)).heap.size (w.alloc (.cells #[.int .i64 s0.X, .int .i64 s0.Y, .int .i64 s0.Den] 42)) w4 := Below.on C3 C3.size hb4
  go_wp2_with fail
  go_ret
  exact ⟨rfl, Below.on D0 D0.size C4⟩

end Go.Proofs.YteklomkncfjdlaaDoor
