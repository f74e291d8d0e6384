/-
  DoesFit by both. No condition.
-/
import Derived.Test.YtejpmomedclnhaaDrawI3
namespace Go.Proofs.Ytejpmomedclnhaa
open Go.RowKit
set_option linter.unusedVariables false

/-- What DoesFit says. -/
def dfB (f : FlatD) (d : DrawerD) : Bool := flatB f && drawerB d
def dfV (f : FlatD) (d : DrawerD) : Bool := dfB f d && fitsB f d
theorem df_no {f : FlatD} {d : DrawerD} (h : flatB f = false ∨ drawerB d = false) : Ending.returned (.tuple #[.bool false, .bool false]) = .returned (.tuple #[.bool (dfV f d), .bool (dfB f d)]) := by
  have : dfB f d = false := by unfold dfB; rcases h with h | h <;> rw [h] <;> simp
  unfold dfV
  rw [this]; rfl
theorem df_yes {f : FlatD} {d : DrawerD} {r : Bool} (h1 : flatB f = true) (h2 : drawerB d = true) (h3 : fitsB f d = r) : Ending.returned (.tuple #[.bool r, .bool true]) = .returned (.tuple #[.bool (dfV f d), .bool (dfB f d)]) := by
  have : dfB f d = true := by unfold dfB; rw [h1, h2]; rfl
  unfold dfV
  rw [this, h3]; simp

set_option maxHeartbeats 2000000 in
theorem doesFit_spec (f : FlatD) (d : DrawerD) (v : Value) (w : World) (h : HasI w v d.Flats) (hL : d.Flats.length ≤ 1048576) :
    Calls Try.prog 15 #[f.val, d.val v] w fun e w' => e = .returned (.tuple #[.bool (dfV f d), .bool (dfB f d)]) ∧ Below w.heap.size w w' := by
  obtain ⟨f0, nf, a, c, g, o, hfe, hfn, rfl, hc, ha, hcell⟩ := h.named
  have HH := hid h
  have HN := hid hfn
  rw [hfn] at hL
  clear hfe hfn ha hcell h
  have hA : Below w.heap.size w ((w.alloc (.cells #[.int .i64 f.Id, .int .i64 f.Wide, .int .i64 f.High, .int .i64 f.Grams] 30)).alloc (.cells #[.int .i64 d.Id, .int .i64 d.Wide, .int .i64 d.High, .int .i64 d.Holds, .slice a nf c] 32)) := by go_grown
  have yf0 : ((w.alloc (.cells #[.int .i64 f.Id, .int .i64 f.Wide, .int .i64 f.High, .int .i64 f.Grams] 30)).alloc (.cells #[.int .i64 d.Id, .int .i64 d.Wide, .int .i64 d.High, .int .i64 d.Holds, .slice a nf c] 32)).cell? ⟨w.heap.size, 0, none⟩ = some (.int .i64 f.Id) := by simp [go_sem]
  have yf1 : ((w.alloc (.cells #[.int .i64 f.Id, .int .i64 f.Wide, .int .i64 f.High, .int .i64 f.Grams] 30)).alloc (.cells #[.int .i64 d.Id, .int .i64 d.Wide, .int .i64 d.High, .int .i64 d.Holds, .slice a nf c] 32)).cell? ⟨w.heap.size, 1, none⟩ = some (.int .i64 f.Wide) := by simp [go_sem]
  have yf2 : ((w.alloc (.cells #[.int .i64 f.Id, .int .i64 f.Wide, .int .i64 f.High, .int .i64 f.Grams] 30)).alloc (.cells #[.int .i64 d.Id, .int .i64 d.Wide, .int .i64 d.High, .int .i64 d.Holds, .slice a nf c] 32)).cell? ⟨w.heap.size, 2, none⟩ = some (.int .i64 f.High) := by simp [go_sem]
  have yf3 : ((w.alloc (.cells #[.int .i64 f.Id, .int .i64 f.Wide, .int .i64 f.High, .int .i64 f.Grams] 30)).alloc (.cells #[.int .i64 d.Id, .int .i64 d.Wide, .int .i64 d.High, .int .i64 d.Holds, .slice a nf c] 32)).cell? ⟨w.heap.size, 3, none⟩ = some (.int .i64 f.Grams) := by simp [go_sem]
  have yd0 : ((w.alloc (.cells #[.int .i64 f.Id, .int .i64 f.Wide, .int .i64 f.High, .int .i64 f.Grams] 30)).alloc (.cells #[.int .i64 d.Id, .int .i64 d.Wide, .int .i64 d.High, .int .i64 d.Holds, .slice a nf c] 32)).cell? ⟨w.heap.size + 1, 0, none⟩ = some (.int .i64 d.Id) := by simp [go_sem]
  have yd1 : ((w.alloc (.cells #[.int .i64 f.Id, .int .i64 f.Wide, .int .i64 f.High, .int .i64 f.Grams] 30)).alloc (.cells #[.int .i64 d.Id, .int .i64 d.Wide, .int .i64 d.High, .int .i64 d.Holds, .slice a nf c] 32)).cell? ⟨w.heap.size + 1, 1, none⟩ = some (.int .i64 d.Wide) := by simp [go_sem]
  have yd2 : ((w.alloc (.cells #[.int .i64 f.Id, .int .i64 f.Wide, .int .i64 f.High, .int .i64 f.Grams] 30)).alloc (.cells #[.int .i64 d.Id, .int .i64 d.Wide, .int .i64 d.High, .int .i64 d.Holds, .slice a nf c] 32)).cell? ⟨w.heap.size + 1, 2, none⟩ = some (.int .i64 d.High) := by simp [go_sem]
  have yd3 : ((w.alloc (.cells #[.int .i64 f.Id, .int .i64 f.Wide, .int .i64 f.High, .int .i64 f.Grams] 30)).alloc (.cells #[.int .i64 d.Id, .int .i64 d.Wide, .int .i64 d.High, .int .i64 d.Holds, .slice a nf c] 32)).cell? ⟨w.heap.size + 1, 3, none⟩ = some (.int .i64 d.Holds) := by simp [go_sem]
  have yd4 : ((w.alloc (.cells #[.int .i64 f.Id, .int .i64 f.Wide, .int .i64 f.High, .int .i64 f.Grams] 30)).alloc (.cells #[.int .i64 d.Id, .int .i64 d.Wide, .int .i64 d.High, .int .i64 d.Holds, .slice a nf c] 32)).cell? ⟨w.heap.size + 1, 4, none⟩ = some (.slice a nf c) := by simp [go_sem]
  have l0 : w.heap.size < ((w.alloc (.cells #[.int .i64 f.Id, .int .i64 f.Wide, .int .i64 f.High, .int .i64 f.Grams] 30)).alloc (.cells #[.int .i64 d.Id, .int .i64 d.Wide, .int .i64 d.High, .int .i64 d.Holds, .slice a nf c] 32)).heap.size := by simp; omega
  have l1 : w.heap.size + 1 < ((w.alloc (.cells #[.int .i64 f.Id, .int .i64 f.Wide, .int .i64 f.High, .int .i64 f.Grams] 30)).alloc (.cells #[.int .i64 d.Id, .int .i64 d.Wide, .int .i64 d.High, .int .i64 d.Holds, .slice a nf c] 32)).heap.size := by simp
  have KF := flat_spec f ((w.alloc (.cells #[.int .i64 f.Id, .int .i64 f.Wide, .int .i64 f.High, .int .i64 f.Grams] 30)).alloc (.cells #[.int .i64 d.Id, .int .i64 d.Wide, .int .i64 d.High, .int .i64 d.Holds, .slice a nf c] 32))
  obtain ⟨r1, hr1⟩ : ∃ r, flatB f = r := ⟨_, rfl⟩
  obtain ⟨r2, hr2⟩ : ∃ r, drawerB d = r := ⟨_, rfl⟩
  rw [hr1] at KF
  have HF := hid hr1
  have HD := hid hr2
  clear hr1 hr2
  cases r1 with
  | false =>
    go_enter Try.func15, Try.ntmps15
    go_wp2_with fail
    refine KF.mono ?_
    rintro e w3 ⟨rfl, hb3⟩
    have B3 := Below.on hA hA.size hb3
    go_wp2_with fail
    go_ret2
    exact ⟨df_no (.inl HF.out), B3⟩
  | true =>
    cases r2 with
    | false =>
      go_enter Try.func15, Try.ntmps15
      go_wp2_with fail
      refine KF.mono ?_
      rintro e w3 ⟨rfl, hb3⟩
      have B3 := Below.on hA hA.size hb3
      have zf0 := (hb3.cell l0).trans yf0
      have zf1 := (hb3.cell l0).trans yf1
      have zf2 := (hb3.cell l0).trans yf2
      have zf3 := (hb3.cell l0).trans yf3
      have zd0 := (hb3.cell l1).trans yd0
      have zd1 := (hb3.cell l1).trans yd1
      have zd2 := (hb3.cell l1).trans yd2
      have zd3 := (hb3.cell l1).trans yd3
      have zd4 := (hb3.cell l1).trans yd4
      have KD := drawer_spec d (.slice a nf c) w3 (HH.out.below B3) (by rw [HN.out]; exact hL)
      rw [HD.out] at KD
      go_wp2_with fail
      refine KD.mono ?_
      rintro e w4 ⟨rfl, hb4⟩
      have B4 := Below.on B3 B3.size hb4
      go_wp2_with fail
      go_ret2
      exact ⟨df_no (.inr HD.out), B4⟩
    | true =>
      go_enter Try.func15, Try.ntmps15
      go_wp2_with fail
      refine KF.mono ?_
      rintro e w3 ⟨rfl, hb3⟩
      have B3 := Below.on hA hA.size hb3
      have zf0 := (hb3.cell l0).trans yf0
      have zf1 := (hb3.cell l0).trans yf1
      have zf2 := (hb3.cell l0).trans yf2
      have zf3 := (hb3.cell l0).trans yf3
      have zd0 := (hb3.cell l1).trans yd0
      have zd1 := (hb3.cell l1).trans yd1
      have zd2 := (hb3.cell l1).trans yd2
      have zd3 := (hb3.cell l1).trans yd3
      have zd4 := (hb3.cell l1).trans yd4
      have KD := drawer_spec d (.slice a nf c) w3 (HH.out.below B3) (by rw [HN.out]; exact hL)
      rw [HD.out] at KD
      go_wp2_with fail
      refine KD.mono ?_
      rintro e w4 ⟨rfl, hb4⟩
      have B4 := Below.on B3 B3.size hb4
      have m0 : w.heap.size < w3.heap.size := by have := hb3.size; omega
      have m1 : w.heap.size + 1 < w3.heap.size := by have := hb3.size; omega
      have uf0 := (hb4.cell m0).trans zf0
      have uf1 := (hb4.cell m0).trans zf1
      have uf2 := (hb4.cell m0).trans zf2
      have uf3 := (hb4.cell m0).trans zf3
      have ud0 := (hb4.cell m1).trans zd0
      have ud1 := (hb4.cell m1).trans zd1
      have ud2 := (hb4.cell m1).trans zd2
      have ud3 := (hb4.cell m1).trans zd3
      have ud4 := (hb4.cell m1).trans zd4
      have KI := fits_spec f d (.slice a nf c) w4
      obtain ⟨r, hr⟩ : ∃ r, fitsB f d = r := ⟨_, rfl⟩
      rw [hr] at KI
      have HRR := hid hr
      clear hr
      go_wp2_with fail
      refine KI.mono ?_
      rintro e w5 ⟨rfl, hb5⟩
      go_wp2_with fail
      go_ret2
      exact ⟨df_yes HF.out HD.out HRR.out, Below.on B4 B4.size hb5⟩

set_option maxHeartbeats 2000000 in
theorem doesFit_impl (f : FlatD) (d : DrawerD) (v : Value) (w : World) (h : HasI w v d.Flats) (hL : d.Flats.length ≤ 1048576) :
    Calls Try.prog 18 #[f.val, d.val v] w fun e w' => e = .returned (.tuple #[.bool (dfV f d), .bool (dfB f d)]) ∧ Below w.heap.size w w' := by
  obtain ⟨f0, nf, a, c, g, o, hfe, hfn, rfl, hc, ha, hcell⟩ := h.named
  have HH := hid h
  have HN := hid hfn
  rw [hfn] at hL
  clear hfe hfn ha hcell h
  have hA : Below w.heap.size w ((w.alloc (.cells #[.int .i64 f.Id, .int .i64 f.Wide, .int .i64 f.High, .int .i64 f.Grams] 30)).alloc (.cells #[.int .i64 d.Id, .int .i64 d.Wide, .int .i64 d.High, .int .i64 d.Holds, .slice a nf c] 32)) := by go_grown
  have yf0 : ((w.alloc (.cells #[.int .i64 f.Id, .int .i64 f.Wide, .int .i64 f.High, .int .i64 f.Grams] 30)).alloc (.cells #[.int .i64 d.Id, .int .i64 d.Wide, .int .i64 d.High, .int .i64 d.Holds, .slice a nf c] 32)).cell? ⟨w.heap.size, 0, none⟩ = some (.int .i64 f.Id) := by simp [go_sem]
  have yf1 : ((w.alloc (.cells #[.int .i64 f.Id, .int .i64 f.Wide, .int .i64 f.High, .int .i64 f.Grams] 30)).alloc (.cells #[.int .i64 d.Id, .int .i64 d.Wide, .int .i64 d.High, .int .i64 d.Holds, .slice a nf c] 32)).cell? ⟨w.heap.size, 1, none⟩ = some (.int .i64 f.Wide) := by simp [go_sem]
  have yf2 : ((w.alloc (.cells #[.int .i64 f.Id, .int .i64 f.Wide, .int .i64 f.High, .int .i64 f.Grams] 30)).alloc (.cells #[.int .i64 d.Id, .int .i64 d.Wide, .int .i64 d.High, .int .i64 d.Holds, .slice a nf c] 32)).cell? ⟨w.heap.size, 2, none⟩ = some (.int .i64 f.High) := by simp [go_sem]
  have yf3 : ((w.alloc (.cells #[.int .i64 f.Id, .int .i64 f.Wide, .int .i64 f.High, .int .i64 f.Grams] 30)).alloc (.cells #[.int .i64 d.Id, .int .i64 d.Wide, .int .i64 d.High, .int .i64 d.Holds, .slice a nf c] 32)).cell? ⟨w.heap.size, 3, none⟩ = some (.int .i64 f.Grams) := by simp [go_sem]
  have yd0 : ((w.alloc (.cells #[.int .i64 f.Id, .int .i64 f.Wide, .int .i64 f.High, .int .i64 f.Grams] 30)).alloc (.cells #[.int .i64 d.Id, .int .i64 d.Wide, .int .i64 d.High, .int .i64 d.Holds, .slice a nf c] 32)).cell? ⟨w.heap.size + 1, 0, none⟩ = some (.int .i64 d.Id) := by simp [go_sem]
  have yd1 : ((w.alloc (.cells #[.int .i64 f.Id, .int .i64 f.Wide, .int .i64 f.High, .int .i64 f.Grams] 30)).alloc (.cells #[.int .i64 d.Id, .int .i64 d.Wide, .int .i64 d.High, .int .i64 d.Holds, .slice a nf c] 32)).cell? ⟨w.heap.size + 1, 1, none⟩ = some (.int .i64 d.Wide) := by simp [go_sem]
  have yd2 : ((w.alloc (.cells #[.int .i64 f.Id, .int .i64 f.Wide, .int .i64 f.High, .int .i64 f.Grams] 30)).alloc (.cells #[.int .i64 d.Id, .int .i64 d.Wide, .int .i64 d.High, .int .i64 d.Holds, .slice a nf c] 32)).cell? ⟨w.heap.size + 1, 2, none⟩ = some (.int .i64 d.High) := by simp [go_sem]
  have yd3 : ((w.alloc (.cells #[.int .i64 f.Id, .int .i64 f.Wide, .int .i64 f.High, .int .i64 f.Grams] 30)).alloc (.cells #[.int .i64 d.Id, .int .i64 d.Wide, .int .i64 d.High, .int .i64 d.Holds, .slice a nf c] 32)).cell? ⟨w.heap.size + 1, 3, none⟩ = some (.int .i64 d.Holds) := by simp [go_sem]
  have yd4 : ((w.alloc (.cells #[.int .i64 f.Id, .int .i64 f.Wide, .int .i64 f.High, .int .i64 f.Grams] 30)).alloc (.cells #[.int .i64 d.Id, .int .i64 d.Wide, .int .i64 d.High, .int .i64 d.Holds, .slice a nf c] 32)).cell? ⟨w.heap.size + 1, 4, none⟩ = some (.slice a nf c) := by simp [go_sem]
  have l0 : w.heap.size < ((w.alloc (.cells #[.int .i64 f.Id, .int .i64 f.Wide, .int .i64 f.High, .int .i64 f.Grams] 30)).alloc (.cells #[.int .i64 d.Id, .int .i64 d.Wide, .int .i64 d.High, .int .i64 d.Holds, .slice a nf c] 32)).heap.size := by simp; omega
  have l1 : w.heap.size + 1 < ((w.alloc (.cells #[.int .i64 f.Id, .int .i64 f.Wide, .int .i64 f.High, .int .i64 f.Grams] 30)).alloc (.cells #[.int .i64 d.Id, .int .i64 d.Wide, .int .i64 d.High, .int .i64 d.Holds, .slice a nf c] 32)).heap.size := by simp
  have KF := flat_impl f ((w.alloc (.cells #[.int .i64 f.Id, .int .i64 f.Wide, .int .i64 f.High, .int .i64 f.Grams] 30)).alloc (.cells #[.int .i64 d.Id, .int .i64 d.Wide, .int .i64 d.High, .int .i64 d.Holds, .slice a nf c] 32))
  obtain ⟨r1, hr1⟩ : ∃ r, flatB f = r := ⟨_, rfl⟩
  obtain ⟨r2, hr2⟩ : ∃ r, drawerB d = r := ⟨_, rfl⟩
  rw [hr1] at KF
  have HF := hid hr1
  have HD := hid hr2
  clear hr1 hr2
  cases r1 with
  | false =>
    go_enter Try.func18, Try.ntmps18
    go_wp2_with fail
    refine KF.mono ?_
    rintro e w3 ⟨rfl, hb3⟩
    have B3 := Below.on hA hA.size hb3
    go_wp2_with fail
    go_ret2
    exact ⟨df_no (.inl HF.out), B3⟩
  | true =>
    cases r2 with
    | false =>
      go_enter Try.func18, Try.ntmps18
      go_wp2_with fail
      refine KF.mono ?_
      rintro e w3 ⟨rfl, hb3⟩
      have B3 := Below.on hA hA.size hb3
      have zf0 := (hb3.cell l0).trans yf0
      have zf1 := (hb3.cell l0).trans yf1
      have zf2 := (hb3.cell l0).trans yf2
      have zf3 := (hb3.cell l0).trans yf3
      have zd0 := (hb3.cell l1).trans yd0
      have zd1 := (hb3.cell l1).trans yd1
      have zd2 := (hb3.cell l1).trans yd2
      have zd3 := (hb3.cell l1).trans yd3
      have zd4 := (hb3.cell l1).trans yd4
      have KD := drawer_impl d (.slice a nf c) w3 (HH.out.below B3) (by rw [HN.out]; exact hL)
      rw [HD.out] at KD
      go_wp2_with fail
      refine KD.mono ?_
      rintro e w4 ⟨rfl, hb4⟩
      have B4 := Below.on B3 B3.size hb4
      go_wp2_with fail
      go_ret2
      exact ⟨df_no (.inr HD.out), B4⟩
    | true =>
      go_enter Try.func18, Try.ntmps18
      go_wp2_with fail
      refine KF.mono ?_
      rintro e w3 ⟨rfl, hb3⟩
      have B3 := Below.on hA hA.size hb3
      have zf0 := (hb3.cell l0).trans yf0
      have zf1 := (hb3.cell l0).trans yf1
      have zf2 := (hb3.cell l0).trans yf2
      have zf3 := (hb3.cell l0).trans yf3
      have zd0 := (hb3.cell l1).trans yd0
      have zd1 := (hb3.cell l1).trans yd1
      have zd2 := (hb3.cell l1).trans yd2
      have zd3 := (hb3.cell l1).trans yd3
      have zd4 := (hb3.cell l1).trans yd4
      have KD := drawer_impl d (.slice a nf c) w3 (HH.out.below B3) (by rw [HN.out]; exact hL)
      rw [HD.out] at KD
      go_wp2_with fail
      refine KD.mono ?_
      rintro e w4 ⟨rfl, hb4⟩
      have B4 := Below.on B3 B3.size hb4
      have m0 : w.heap.size < w3.heap.size := by have := hb3.size; omega
      have m1 : w.heap.size + 1 < w3.heap.size := by have := hb3.size; omega
      have uf0 := (hb4.cell m0).trans zf0
      have uf1 := (hb4.cell m0).trans zf1
      have uf2 := (hb4.cell m0).trans zf2
      have uf3 := (hb4.cell m0).trans zf3
      have ud0 := (hb4.cell m1).trans zd0
      have ud1 := (hb4.cell m1).trans zd1
      have ud2 := (hb4.cell m1).trans zd2
      have ud3 := (hb4.cell m1).trans zd3
      have ud4 := (hb4.cell m1).trans zd4
      have KI := fits_impl f d (.slice a nf c) w4
      obtain ⟨r, hr⟩ : ∃ r, fitsB f d = r := ⟨_, rfl⟩
      rw [hr] at KI
      have HRR := hid hr
      clear hr
      go_wp2_with fail
      refine KI.mono ?_
      rintro e w5 ⟨rfl, hb5⟩
      go_wp2_with fail
      go_ret2
      exact ⟨df_yes HF.out HD.out HRR.out, Below.on B4 B4.size hb5⟩

end Go.Proofs.Ytejpmomedclnhaa
