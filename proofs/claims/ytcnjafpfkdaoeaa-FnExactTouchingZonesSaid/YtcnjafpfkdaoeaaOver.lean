/-
  The area that two zones have in common, the pairs that touch; by the program and by the reference. No condition.
-/
import Derived.Test.YtcnjafpfkdaoeaaZones
namespace Go.Proofs.Ytcnjafpfkdaoeaa
open Go.RowKit
set_option linter.unusedVariables false
set_option maxRecDepth 100000

set_option maxHeartbeats 400000 in
theorem idx_zone (w : World) (b off len cap : Nat) (X : Nat → ZoneD) (g : FuncId) (cs : Array Value) (p : Nat → Bool) (hcall : ∀ args w, (callFunc g args).run Try.prog w = .ok (.enter g args) w) (h : Rw w b off 5 len (fun i => (X i).cells)) (hm : len ≤ 1048576) (hlc : len ≤ cap)
    (hg : ∀ (x : Later w) (i : Nat), i < len → Calls Try.prog g (#[(X i).val] ++ cs) x.wd fun e w' => e = .returned (.bool (p i)) ∧ Below x.wd.heap.size x.wd w') :
    Calls Try.prog 54 #[.slice (some ⟨b, off, none⟩) len cap, .func (.func g) #[] cs] w fun e w' => e = .returned (.int .i64 (findI p len)) ∧ Below w.heap.size w w' := by
  have H := hid h.2
  have HG := hid hg
  have hb := h.1
  clear h hg
  go_enter Try.func54, Try.ntmps54
  go_wp2
  go_loopw [8] (fun i wr => ∃ k : Nat, k ≤ len ∧ i = .int .i64 k ∧ Below w.heap.size w wr ∧ Hid (findI p len = findFrom p k (len - k))) (fun i _ => len - (intOf i).toNat)
  case atStart => exact ⟨0, by omega, rfl, Below.refl _ _, rfl⟩
  case round =>
    obtain ⟨k, hk, rfl, hB, hf⟩ := hrel
    by_cases hlt : k < len
    · have c0 : wr.cell? ⟨b, off + k * 5, none⟩ = some (.int .i64 (X k).Id) := (hB.cell hb).trans (H.out k hlt 0 (by omega))
      have c1 : wr.cell? ⟨b, off + k * 5 + 1, none⟩ = some (.int .i64 (X k).West) := (hB.cell hb).trans (H.out k hlt 1 (by omega))
      have c2 : wr.cell? ⟨b, off + k * 5 + 2, none⟩ = some (.int .i64 (X k).South) := (hB.cell hb).trans (H.out k hlt 2 (by omega))
      have c3 : wr.cell? ⟨b, off + k * 5 + 3, none⟩ = some (.int .i64 (X k).East) := (hB.cell hb).trans (H.out k hlt 3 (by omega))
      have c4 : wr.cell? ⟨b, off + k * 5 + 4, none⟩ = some (.int .i64 (X k).North) := (hB.cell hb).trans (H.out k hlt 4 (by omega))
      go_wp2_with fail
      refine (HG.out ⟨wr, hB⟩ k hlt).mono ?_
      rintro e w1 ⟨rfl, hb1⟩
      have hB1 : Below w.heap.size w w1 := Below.on hB hB.size hb1
      by_cases hp : p k = true
      · go_wp2_with fail
        go_ret
        exact ⟨ret_int (findFrom_hit hlt hp hf.out).symm, hB1⟩
      · have hp' : p k = false := by simpa using hp
        clear hp
        go_wp2_with fail
        go_roundw
        case rel => exact ⟨k + 1, by omega, by go_num, hB1, findFrom_miss hlt hp' hf.out⟩
        case measure => simp [intOf]; omega
    · go_wp2_with fail
      go_ret
      exact ⟨ret_int (findFrom_end (by omega) hf.out).symm, hB⟩

theorem zoneAt_impl_1 (s : ZoneD) (id : Int) (b1 : Nat) (w : World) (h1 : w.cell? ⟨b1, 0, none⟩ = some (.int .i64 id)) (l1 : b1 < w.heap.size) :
    Calls Try.prog 55 #[s.val, .pointer (some ⟨b1, 0, none⟩)] w fun e w' => e = .returned (.bool (s.Id == id)) ∧ Below w.heap.size w w' := by
  go_enter Try.func55, Try.ntmps55
  go_wp2
  all_goals go_ret
  all_goals exact ⟨by simp [*], by go_grown⟩

theorem zoneAt_impl (w : World) (b off len cap : Nat) (X : Nat → ZoneD) (id : Int) (h : Rw w b off 5 len (fun i => (X i).cells)) (hm : len ≤ 1048576) (hlc : len ≤ cap) :
    Calls Try.prog 41 #[.slice (some ⟨b, off, none⟩) len cap, .int .i64 id] w fun e w' => e = .returned (.int .i64 (findI (fun i => (X i).Id == id) len)) ∧ Below w.heap.size w w' := by
  go_enter Try.func41, Try.ntmps41
  go_wp2_with fail
  have hB : Below w.heap.size w (w.alloc (.cells #[.int .i64 id] 3)) := by go_grown
  refine (idx_zone _ b off len cap X 55 _ (fun i => (X i).Id == id) (fun _ _ => by kernel_rfl) (h.later' hB) hm hlc ?_).mono ?_
  · intro x i hi
    have hz := x.size
    refine zoneAt_impl_1 (X i) id _ _ ((x.cell _ _ (by simp)).trans ?_) ?_
    · simp [go_sem]
    · simp at hz; omega
  · rintro e w1 ⟨rfl, hb1⟩
    go_wp2_with fail
    go_ret
    exact ⟨rfl, Below.on hB (by simp) hb1⟩

set_option maxHeartbeats 400000 in
theorem zoneFind_spec (w : World) (b off len cap : Nat) (X : Nat → ZoneD) (id : Int) (h : Rw w b off 5 len (fun i => (X i).cells)) (hm : len ≤ 1048576) (hlc : len ≤ cap) :
    Calls Try.prog 39 #[.slice (some ⟨b, off, none⟩) len cap, .int .i64 id] w fun e w' => e = .returned (.int .i64 (findI (fun i => (X i).Id == id) len)) ∧ w = w' := by
  have H := hid h.2
  have hb := h.1
  clear h
  go_enter Try.func39, Try.ntmps39
  go_wp2
  go_loop [5] (fun i => ∃ k : Nat, k ≤ len ∧ i = .int .i64 k ∧ Hid (findI (fun i => (X i).Id == id) len = findFrom (fun i => (X i).Id == id) k (len - k))) (fun i => len - (intOf i).toNat)
  case atStart => exact ⟨0, by omega, rfl, rfl⟩
  case round =>
    obtain ⟨k, hk, rfl, hf⟩ := hrel
    by_cases hlt : k < len
    · have c0 : w.cell? ⟨b, off + k * 5, none⟩ = some (.int .i64 (X k).Id) := H.out k hlt 0 (by omega)
      go_wp2
      all_goals first
        | (go_ret; exact ⟨ret_int (findFrom_hit hlt (by simp [*]) hf.out).symm, rfl⟩)
        | (go_round; (case rel => exact ⟨k + 1, by omega, by go_num, findFrom_miss hlt (by simp [*]) hf.out⟩); (case measure => simp [intOf]; omega))
    · go_wp2
      go_ret
      exact ⟨ret_int (findFrom_end (by omega) hf.out).symm, rfl⟩


def imin (a b : Int) : Int := if b < a then b else a
def imax (a b : Int) : Int := if b > a then b else a
theorem run_min2 (ts : Array TypeId) (t : TypeId) (x y : Int) (w : World) : (Builtin.min_ ts t #[.int .i64 x, .int .i64 y]).run Try.prog w = .ok (.int .i64 (imin x y)) w := by rw [run_min_int2]; rfl
theorem run_max2 (ts : Array TypeId) (t : TypeId) (x y : Int) (w : World) : (Builtin.max_ ts t #[.int .i64 x, .int .i64 y]).run Try.prog w = .ok (.int .i64 (imax x y)) w := by rw [run_max_int2]; rfl
theorem imin_bd {a b l h : Int} (a0 : l ≤ a) (a1 : a ≤ h) (b0 : l ≤ b) (b1 : b ≤ h) : l ≤ imin a b ∧ imin a b ≤ h := by unfold imin; split <;> omega
theorem imax_bd {a b l h : Int} (a0 : l ≤ a) (a1 : a ≤ h) (b0 : l ≤ b) (b1 : b ≤ h) : l ≤ imax a b ∧ imax a b ≤ h := by unfold imax; split <;> omega
theorem mul_bd {p q : Int} (p0 : 0 ≤ p) (p1 : p ≤ 9999) (q0 : 0 ≤ q) (q1 : q ≤ 9999) : 0 ≤ p * q ∧ p * q ≤ 99980001 :=
  ⟨Int.mul_nonneg p0 q0, Int.le_trans (Int.mul_le_mul p1 q1 q0 (by omega)) (by decide)⟩

theorem least_spec (a b : Int) (w : World) : Calls Try.prog 44 #[.int .i64 a, .int .i64 b] w fun e w' => e = .returned (.int .i64 (imin a b)) ∧ w = w' := by
  by_cases h : a < b
  · rw [show imin a b = a by unfold imin; split <;> omega]
    go_enter Try.func44, Try.ntmps44
    go_wp2
    go_ret
    exact ⟨rfl, rfl⟩
  · rw [show imin a b = b by unfold imin; split <;> omega]
    go_enter Try.func44, Try.ntmps44
    go_wp2
    go_ret
    exact ⟨rfl, rfl⟩

theorem most_spec (a b : Int) (w : World) : Calls Try.prog 45 #[.int .i64 a, .int .i64 b] w fun e w' => e = .returned (.int .i64 (imax a b)) ∧ w = w' := by
  by_cases h : a > b
  · rw [show imax a b = a by unfold imax; split <;> omega]
    go_enter Try.func45, Try.ntmps45
    go_wp2
    go_ret
    exact ⟨rfl, rfl⟩
  · rw [show imax a b = b by unfold imax; split <;> omega]
    go_enter Try.func45, Try.ntmps45
    go_wp2
    go_ret
    exact ⟨rfl, rfl⟩

theorem zoneB_bd {s : ZoneD} (h : zoneB s = true) : (1 ≤ s.Id ∧ s.Id ≤ 99) ∧ (0 ≤ s.West ∧ s.West < s.East ∧ s.East ≤ 9999) ∧ (0 ≤ s.South ∧ s.South < s.North ∧ s.North ≤ 9999) := by
  simp [zoneB, inB] at h; omega

/-- The area that two zones have in common. -/
def overI (a b : ZoneD) : Int := imax 0 (imin a.East b.East - imax a.West b.West) * imax 0 (imin a.North b.North - imax a.South b.South)

set_option maxHeartbeats 400000 in
theorem both_spec (a b : ZoneD) (ha : zoneB a = true) (hb : zoneB b = true) (w : World) : Calls Try.prog 40 #[a.val, b.val] w fun e w' => e = .returned (.int .i64 (overI a b)) ∧ Below w.heap.size w w' := by
  obtain ⟨_, ⟨a1, a2, a3⟩, ⟨a4, a5, a6⟩⟩ := zoneB_bd ha
  obtain ⟨_, ⟨b1, b2, b3⟩, ⟨b4, b5, b6⟩⟩ := zoneB_bd hb
  have m1 := imin_bd (a := a.East) (b := b.East) (l := 0) (h := 9999) (by omega) (by omega) (by omega) (by omega)
  have m2 := imax_bd (a := a.West) (b := b.West) (l := 0) (h := 9999) (by omega) (by omega) (by omega) (by omega)
  have m3 := imin_bd (a := a.North) (b := b.North) (l := 0) (h := 9999) (by omega) (by omega) (by omega) (by omega)
  have m4 := imax_bd (a := a.South) (b := b.South) (l := 0) (h := 9999) (by omega) (by omega) (by omega) (by omega)
  have n1 : 0 ≤ imax 0 (imin a.East b.East - imax a.West b.West) ∧ imax 0 (imin a.East b.East - imax a.West b.West) ≤ 9999 := by generalize imin a.East b.East = p at *; generalize imax a.West b.West = q at *; unfold imax; split <;> omega
  have n2 : 0 ≤ imax 0 (imin a.North b.North - imax a.South b.South) ∧ imax 0 (imin a.North b.North - imax a.South b.South) ≤ 9999 := by generalize imin a.North b.North = p at *; generalize imax a.South b.South = q at *; unfold imax; split <;> omega
  have n3 := mul_bd n1.1 n1.2 n2.1 n2.2
  clear ha hb
  have u1 : IntKind.i64.wrap (imin a.East b.East - imax a.West b.West) = imin a.East b.East - imax a.West b.West := IntWalk.i64_in _ (by omega)
  have u2 : IntKind.i64.wrap (imin a.North b.North - imax a.South b.South) = imin a.North b.North - imax a.South b.South := IntWalk.i64_in _ (by omega)
  go_enter Try.func40, Try.ntmps40
  go_wp2_with fail
  have hq := fun x : Later ((w.alloc (.cells #[.int .i64 a.Id, .int .i64 a.West, .int .i64 a.South, .int .i64 a.East, .int .i64 a.North] 44)).alloc (.cells #[.int .i64 b.Id, .int .i64 b.West, .int .i64 b.South, .int .i64 b.East, .int .i64 b.North] 44)) => x.cell
  refine region_later (by kernel_rfl) (by kernel_rfl) ?_
  repeat (go_big_quiet_step (first | (go_at_call 44; refine calls_later_same (least_spec _ _ _)) | (go_at_call 45; refine calls_later_same (most_spec _ _ _))))
  refine wpQuiet_nil ?_
  intro _ hw'
  obtain ⟨x, rfl⟩ := hw'
  have lx : w.heap.size + 1 < x.wd.heap.size := by have := x.size; simp at this; omega
  have lx0 : w.heap.size < x.wd.heap.size := by omega
  have hq2 := fun y : Later x.wd => y.cell
  go_wp2_with fail
  refine region_later (by kernel_rfl) (by kernel_rfl) ?_
  repeat (go_big_quiet_step (first | (go_at_call 44; refine calls_later_same (least_spec _ _ _)) | (go_at_call 45; refine calls_later_same (most_spec _ _ _))))
  refine wpQuiet_nil ?_
  intro _ hw'
  obtain ⟨y, rfl⟩ := hw'
  clear hq hq2 u1 u2
  have B : Below w.heap.size w y.wd := Below.on (Below.on (by go_grown) (by simp; omega) x.below) (by omega) y.below
  go_wp2_with (go_at_call 45; refine (most_spec _ _ _).mono ?_; rintro e w' ⟨rfl, rfl⟩)
  go_ret
  exact ⟨rfl, B⟩

set_option maxHeartbeats 400000 in
theorem overlap_impl (a b : ZoneD) (ha : zoneB a = true) (hb : zoneB b = true) (w : World) : Calls Try.prog 42 #[a.val, b.val] w fun e w' => e = .returned (.int .i64 (overI a b)) ∧ Below w.heap.size w w' := by
  obtain ⟨_, ⟨a1, a2, a3⟩, ⟨a4, a5, a6⟩⟩ := zoneB_bd ha
  obtain ⟨_, ⟨b1, b2, b3⟩, ⟨b4, b5, b6⟩⟩ := zoneB_bd hb
  have m1 := imin_bd (a := a.East) (b := b.East) (l := 0) (h := 9999) (by omega) (by omega) (by omega) (by omega)
  have m2 := imax_bd (a := a.West) (b := b.West) (l := 0) (h := 9999) (by omega) (by omega) (by omega) (by omega)
  have m3 := imin_bd (a := a.North) (b := b.North) (l := 0) (h := 9999) (by omega) (by omega) (by omega) (by omega)
  have m4 := imax_bd (a := a.South) (b := b.South) (l := 0) (h := 9999) (by omega) (by omega) (by omega) (by omega)
  have n1 : 0 ≤ imax 0 (imin a.East b.East - imax a.West b.West) ∧ imax 0 (imin a.East b.East - imax a.West b.West) ≤ 9999 := by generalize imin a.East b.East = p at *; generalize imax a.West b.West = q at *; unfold imax; split <;> omega
  have n2 : 0 ≤ imax 0 (imin a.North b.North - imax a.South b.South) ∧ imax 0 (imin a.North b.North - imax a.South b.South) ≤ 9999 := by generalize imin a.North b.North = p at *; generalize imax a.South b.South = q at *; unfold imax; split <;> omega
  have n3 := mul_bd n1.1 n1.2 n2.1 n2.2
  clear ha hb
  have r1 := run_min2
  have r2 := run_max2
  go_enter Try.func42, Try.ntmps42
  go_wp2
  go_ret
  exact ⟨rfl, by go_grown⟩

/-- The area that the zones with two ids have in common, if the list is valid and they are there. -/
def overR (X : Nat → ZoneD) (n : Nat) (a b : Int) : Int := if zonesB X n = true ∧ 0 ≤ findI (fun i => (X i).Id == a) n ∧ 0 ≤ findI (fun i => (X i).Id == b) n then overI (X (findI (fun i => (X i).Id == a) n).toNat) (X (findI (fun i => (X i).Id == b) n).toNat) else 0
def overOk (X : Nat → ZoneD) (n : Nat) (a b : Int) : Bool := zonesB X n && decide (0 ≤ findI (fun i => (X i).Id == a) n) && decide (0 ≤ findI (fun i => (X i).Id == b) n)
theorem over_hit {X : Nat → ZoneD} {n i j : Nat} {a b : Int} (h : zonesB X n = true) (hi : findI (fun i => (X i).Id == a) n = (i : Int)) (hj : findI (fun i => (X i).Id == b) n = (j : Int)) :
    Ending.returned (.tuple #[.int .i64 (overI (X i) (X j)), .bool true]) = .returned (.tuple #[.int .i64 (overR X n a b), .bool (overOk X n a b)]) := by simp [overR, overOk, h, hi, hj]
theorem over_miss {X : Nat → ZoneD} {n : Nat} {a b : Int} (h : zonesB X n = false ∨ findI (fun i => (X i).Id == a) n = -1 ∨ findI (fun i => (X i).Id == b) n = -1) :
    Ending.returned (.tuple #[.int .i64 0, .bool false]) = .returned (.tuple #[.int .i64 (overR X n a b), .bool (overOk X n a b)]) := by rcases h with h | h | h <;> simp [overR, overOk, h]
theorem zonesB_valid {X : Nat → ZoneD} {n i : Nat} (h : zonesB X n = true) (hi : i < n) : zoneB (X i) = true := by
  have := zonesB_at h hi
  simp [zoneOk] at this; exact this.1


set_option maxHeartbeats 4000000 in
theorem overlapOf_spec (w : World) (b off len cap : Nat) (X : Nat → ZoneD) (ia ib : Int) (h : Rw w b off 5 len (fun i => (X i).cells)) (hm : len ≤ 1048576) (hlc : len ≤ cap) :
    Calls Try.prog 18 #[.slice (some ⟨b, off, none⟩) len cap, .int .i64 ia, .int .i64 ib] w fun e w' => e = .returned (.tuple #[.int .i64 (overR X len ia ib), .bool (overOk X len ia ib)]) ∧ Below w.heap.size w w' := by
  have H := hid h
  have hb := h.1
  clear h
  go_enter Try.func18, Try.ntmps18
  go_wp2_with fail
  refine (zoneFind_spec _ b off len cap X ia H.out hm hlc).mono ?_
  rintro e w1 ⟨he, rfl⟩
  rcases findI_cases (fun i => (X i).Id == ia) len with k1 | ⟨i, hi, k1, hpi⟩
  · skip
    rw [k1] at he
    have Hk1 := hid k1
    clear k1
    subst he
    go_wp2_with fail
    refine (zoneFind_spec _ b off len cap X ib (H.out.below (Below.refl w.heap.size w) hb) hm hlc).mono ?_
    rintro e w2 ⟨he, rfl⟩
    rcases findI_cases (fun i => (X i).Id == ib) len with k2 | ⟨j, hj, k2, hpj⟩
    · skip
      rw [k2] at he
      have Hk2 := hid k2
      clear k2
      subst he
      go_wp2_with fail
      refine (zones_spec _ b off len cap X (H.out.below (Below.refl w.heap.size w) hb) hm hlc).mono ?_
      rintro e w3 ⟨rfl, hb3⟩
      have B3 : Below w.heap.size w w3 := Below.on (Below.refl w.heap.size w) (Below.refl w.heap.size w).size hb3
      by_cases hS : zonesB X len = true
      all_goals
        go_wp2_with fail
        go_ret2
        exact ⟨over_miss (.inr (.inl Hk1.out)), B3⟩
    · clear hpj
      rw [k2] at he
      have Hk2 := hid k2
      clear k2
      subst he
      go_wp2_with fail
      refine (zones_spec _ b off len cap X (H.out.below (Below.refl w.heap.size w) hb) hm hlc).mono ?_
      rintro e w3 ⟨rfl, hb3⟩
      have B3 : Below w.heap.size w w3 := Below.on (Below.refl w.heap.size w) (Below.refl w.heap.size w).size hb3
      by_cases hS : zonesB X len = true
      all_goals
        go_wp2_with fail
        go_ret2
        exact ⟨over_miss (.inr (.inl Hk1.out)), B3⟩
  · clear hpi
    rw [k1] at he
    have Hk1 := hid k1
    clear k1
    subst he
    go_wp2_with fail
    refine (zoneFind_spec _ b off len cap X ib (H.out.below (Below.refl w.heap.size w) hb) hm hlc).mono ?_
    rintro e w2 ⟨he, rfl⟩
    rcases findI_cases (fun i => (X i).Id == ib) len with k2 | ⟨j, hj, k2, hpj⟩
    · skip
      rw [k2] at he
      have Hk2 := hid k2
      clear k2
      subst he
      go_wp2_with fail
      refine (zones_spec _ b off len cap X (H.out.below (Below.refl w.heap.size w) hb) hm hlc).mono ?_
      rintro e w3 ⟨rfl, hb3⟩
      have B3 : Below w.heap.size w w3 := Below.on (Below.refl w.heap.size w) (Below.refl w.heap.size w).size hb3
      by_cases hS : zonesB X len = true
      all_goals
        go_wp2_with fail
        go_ret2
        exact ⟨over_miss (.inr (.inr Hk2.out)), B3⟩
    · clear hpj
      rw [k2] at he
      have Hk2 := hid k2
      clear k2
      subst he
      go_wp2_with fail
      refine (zones_spec _ b off len cap X (H.out.below (Below.refl w.heap.size w) hb) hm hlc).mono ?_
      rintro e w3 ⟨rfl, hb3⟩
      have B3 : Below w.heap.size w w3 := Below.on (Below.refl w.heap.size w) (Below.refl w.heap.size w).size hb3
      by_cases hS : zonesB X len = true
      · have HS := hid hS
        have c0 : w3.cell? ⟨b, off + i * 5, none⟩ = some (.int .i64 (X i).Id) := (B3.cell hb).trans (H.out.2 i hi 0 (by omega))
        have c1 : w3.cell? ⟨b, off + i * 5 + 1, none⟩ = some (.int .i64 (X i).West) := (B3.cell hb).trans (H.out.2 i hi 1 (by omega))
        have c2 : w3.cell? ⟨b, off + i * 5 + 2, none⟩ = some (.int .i64 (X i).South) := (B3.cell hb).trans (H.out.2 i hi 2 (by omega))
        have c3 : w3.cell? ⟨b, off + i * 5 + 3, none⟩ = some (.int .i64 (X i).East) := (B3.cell hb).trans (H.out.2 i hi 3 (by omega))
        have c4 : w3.cell? ⟨b, off + i * 5 + 4, none⟩ = some (.int .i64 (X i).North) := (B3.cell hb).trans (H.out.2 i hi 4 (by omega))
        have d0 : w3.cell? ⟨b, off + j * 5, none⟩ = some (.int .i64 (X j).Id) := (B3.cell hb).trans (H.out.2 j hj 0 (by omega))
        have d1 : w3.cell? ⟨b, off + j * 5 + 1, none⟩ = some (.int .i64 (X j).West) := (B3.cell hb).trans (H.out.2 j hj 1 (by omega))
        have d2 : w3.cell? ⟨b, off + j * 5 + 2, none⟩ = some (.int .i64 (X j).South) := (B3.cell hb).trans (H.out.2 j hj 2 (by omega))
        have d3 : w3.cell? ⟨b, off + j * 5 + 3, none⟩ = some (.int .i64 (X j).East) := (B3.cell hb).trans (H.out.2 j hj 3 (by omega))
        have d4 : w3.cell? ⟨b, off + j * 5 + 4, none⟩ = some (.int .i64 (X j).North) := (B3.cell hb).trans (H.out.2 j hj 4 (by omega))
        have lb : b < w3.heap.size := by have := B3.size; omega
        have e2 : (0 : Int) ≤ (i : Int) := by omega
        have e3 : (i : Int) < (len : Int) := by omega
        have e4 : (0 : Int) ≤ (j : Int) := by omega
        have e5 : (j : Int) < (len : Int) := by omega
        have hq := fun x : Later w3 => x.cell
        have vi := hid (zonesB_valid HS.out hi)
        have vj := hid (zonesB_valid HS.out hj)
        go_wp2_with fail
        refine region_later (by kernel_rfl) (by kernel_rfl) ?_
        repeat (go_big_quiet_step ((go_at_call 40; refine calls_later (both_spec (X i) (X j) vi.out vj.out _))))
        refine wpQuiet_nil ?_
        intro _ hw'
        obtain ⟨x, rfl⟩ := hw'
        clear hq
        have B4 : Below w.heap.size w x.wd := Below.on B3 B3.size x.below
        go_wp2_with fail
        go_ret2
        exact ⟨over_hit HS.out Hk1.out Hk2.out, B4⟩
      · have hS' : zonesB X len = false := by simpa using hS
        clear hS
        go_wp2_with fail
        go_ret2
        exact ⟨over_miss (.inl hS'), B3⟩

set_option maxHeartbeats 4000000 in
theorem overlapOf_impl (w : World) (b off len cap : Nat) (X : Nat → ZoneD) (ia ib : Int) (h : Rw w b off 5 len (fun i => (X i).cells)) (hm : len ≤ 1048576) (hlc : len ≤ cap) :
    Calls Try.prog 19 #[.slice (some ⟨b, off, none⟩) len cap, .int .i64 ia, .int .i64 ib] w fun e w' => e = .returned (.tuple #[.int .i64 (overR X len ia ib), .bool (overOk X len ia ib)]) ∧ Below w.heap.size w w' := by
  have H := hid h
  have hb := h.1
  clear h
  go_enter Try.func19, Try.ntmps19
  go_wp2_with fail
  refine (zoneAt_impl _ b off len cap X ia H.out hm hlc).mono ?_
  rintro e w1 ⟨he, hb1⟩
  have B1 : Below w.heap.size w w1 := Below.on (Below.refl w.heap.size w) (Below.refl w.heap.size w).size hb1
  rcases findI_cases (fun i => (X i).Id == ia) len with k1 | ⟨i, hi, k1, hpi⟩
  · skip
    rw [k1] at he
    have Hk1 := hid k1
    clear k1
    subst he
    go_wp2_with fail
    refine (zoneAt_impl _ b off len cap X ib (H.out.below B1 hb) hm hlc).mono ?_
    rintro e w2 ⟨he, hb2⟩
    have B2 : Below w.heap.size w w2 := Below.on B1 B1.size hb2
    rcases findI_cases (fun i => (X i).Id == ib) len with k2 | ⟨j, hj, k2, hpj⟩
    · skip
      rw [k2] at he
      have Hk2 := hid k2
      clear k2
      subst he
      go_wp2_with fail
      refine (zones_impl _ b off len cap X (H.out.below B2 hb) hm hlc).mono ?_
      rintro e w3 ⟨rfl, hb3⟩
      have B3 : Below w.heap.size w w3 := Below.on B2 B2.size hb3
      by_cases hS : zonesB X len = true
      all_goals
        go_wp2_with fail
        go_ret2
        exact ⟨over_miss (.inr (.inl Hk1.out)), B3⟩
    · clear hpj
      rw [k2] at he
      have Hk2 := hid k2
      clear k2
      subst he
      go_wp2_with fail
      refine (zones_impl _ b off len cap X (H.out.below B2 hb) hm hlc).mono ?_
      rintro e w3 ⟨rfl, hb3⟩
      have B3 : Below w.heap.size w w3 := Below.on B2 B2.size hb3
      by_cases hS : zonesB X len = true
      all_goals
        go_wp2_with fail
        go_ret2
        exact ⟨over_miss (.inr (.inl Hk1.out)), B3⟩
  · clear hpi
    rw [k1] at he
    have Hk1 := hid k1
    clear k1
    subst he
    go_wp2_with fail
    refine (zoneAt_impl _ b off len cap X ib (H.out.below B1 hb) hm hlc).mono ?_
    rintro e w2 ⟨he, hb2⟩
    have B2 : Below w.heap.size w w2 := Below.on B1 B1.size hb2
    rcases findI_cases (fun i => (X i).Id == ib) len with k2 | ⟨j, hj, k2, hpj⟩
    · skip
      rw [k2] at he
      have Hk2 := hid k2
      clear k2
      subst he
      go_wp2_with fail
      refine (zones_impl _ b off len cap X (H.out.below B2 hb) hm hlc).mono ?_
      rintro e w3 ⟨rfl, hb3⟩
      have B3 : Below w.heap.size w w3 := Below.on B2 B2.size hb3
      by_cases hS : zonesB X len = true
      all_goals
        go_wp2_with fail
        go_ret2
        exact ⟨over_miss (.inr (.inr Hk2.out)), B3⟩
    · clear hpj
      rw [k2] at he
      have Hk2 := hid k2
      clear k2
      subst he
      go_wp2_with fail
      refine (zones_impl _ b off len cap X (H.out.below B2 hb) hm hlc).mono ?_
      rintro e w3 ⟨rfl, hb3⟩
      have B3 : Below w.heap.size w w3 := Below.on B2 B2.size hb3
      by_cases hS : zonesB X len = true
      · have HS := hid hS
        have c0 : w3.cell? ⟨b, off + i * 5, none⟩ = some (.int .i64 (X i).Id) := (B3.cell hb).trans (H.out.2 i hi 0 (by omega))
        have c1 : w3.cell? ⟨b, off + i * 5 + 1, none⟩ = some (.int .i64 (X i).West) := (B3.cell hb).trans (H.out.2 i hi 1 (by omega))
        have c2 : w3.cell? ⟨b, off + i * 5 + 2, none⟩ = some (.int .i64 (X i).South) := (B3.cell hb).trans (H.out.2 i hi 2 (by omega))
        have c3 : w3.cell? ⟨b, off + i * 5 + 3, none⟩ = some (.int .i64 (X i).East) := (B3.cell hb).trans (H.out.2 i hi 3 (by omega))
        have c4 : w3.cell? ⟨b, off + i * 5 + 4, none⟩ = some (.int .i64 (X i).North) := (B3.cell hb).trans (H.out.2 i hi 4 (by omega))
        have d0 : w3.cell? ⟨b, off + j * 5, none⟩ = some (.int .i64 (X j).Id) := (B3.cell hb).trans (H.out.2 j hj 0 (by omega))
        have d1 : w3.cell? ⟨b, off + j * 5 + 1, none⟩ = some (.int .i64 (X j).West) := (B3.cell hb).trans (H.out.2 j hj 1 (by omega))
        have d2 : w3.cell? ⟨b, off + j * 5 + 2, none⟩ = some (.int .i64 (X j).South) := (B3.cell hb).trans (H.out.2 j hj 2 (by omega))
        have d3 : w3.cell? ⟨b, off + j * 5 + 3, none⟩ = some (.int .i64 (X j).East) := (B3.cell hb).trans (H.out.2 j hj 3 (by omega))
        have d4 : w3.cell? ⟨b, off + j * 5 + 4, none⟩ = some (.int .i64 (X j).North) := (B3.cell hb).trans (H.out.2 j hj 4 (by omega))
        have lb : b < w3.heap.size := by have := B3.size; omega
        have e2 : (0 : Int) ≤ (i : Int) := by omega
        have e3 : (i : Int) < (len : Int) := by omega
        have e4 : (0 : Int) ≤ (j : Int) := by omega
        have e5 : (j : Int) < (len : Int) := by omega
        have hq := fun x : Later w3 => x.cell
        have vi := hid (zonesB_valid HS.out hi)
        have vj := hid (zonesB_valid HS.out hj)
        go_wp2_with fail
        refine region_later (by kernel_rfl) (by kernel_rfl) ?_
        repeat (go_big_quiet_step ((go_at_call 42; refine calls_later (overlap_impl (X i) (X j) vi.out vj.out _))))
        refine wpQuiet_nil ?_
        intro _ hw'
        obtain ⟨x, rfl⟩ := hw'
        clear hq
        have B4 : Below w.heap.size w x.wd := Below.on B3 B3.size x.below
        go_wp2_with fail
        go_ret2
        exact ⟨over_hit HS.out Hk1.out Hk2.out, B4⟩
      · have hS' : zonesB X len = false := by simpa using hS
        clear hS
        go_wp2_with fail
        go_ret2
        exact ⟨over_miss (.inl hS'), B3⟩
set_option maxHeartbeats 2000000 in
theorem walk_ExactOverlapOf (w : World) (p0 : Option Addr) (len0 cap0 : Nat) (X0 : Nat → ZoneD) (a1 : Int) (a2 : Int) (h0 : Sl w 5 p0 len0 (fun i => (X0 i).cells)) (ok0 : ∀ i, i < len0 → (X0 i).ok) (hm0 : len0 ≤ maxLen) (i1 : isI a1) (i2 : isI a2) :
    Calls Try.prog 5 #[.slice p0 len0 cap0, .int .i64 a1, .int .i64 a2] w fun e w' => e = .returned (.bool true) ∧ Below w.heap.size w w' := by
  clear ok0
  by_cases hL : (len0 : Int) ≤ 1048576
  · go_enter Try.func5, Try.ntmps5
    go_wp2_with fail
    refine (szZoneS_any p0 len0 cap0 _ hm0).mono ?_
    rintro e w0 ⟨rfl, rfl⟩
    rw [if_pos hL]
    go_wp2_with fail
    refine (toZoneS_any p0 len0 cap0 X0 _ (h0.below (Below.refl w.heap.size w)) (by omega)).mono ?_
    rintro e w1 ⟨rfl, hb1, hs1, F1⟩
    have B1 : Below w.heap.size w w1 := Below.on (Below.refl w.heap.size w) (Below.refl w.heap.size w).size hb1
    go_wp2_with fail
    refine (overlapOf_spec _ _ 0 len0 len0 X0 a1 a2 F1.rw (by omega) (Nat.le_refl _)).mono ?_
    rintro e w2 ⟨rfl, hb2⟩
    have B2 : Below w.heap.size w w2 := Below.on B1 B1.size hb2
    go_wp2_with fail
    refine (toZoneS_any p0 len0 cap0 X0 _ (h0.below B2) (by omega)).mono ?_
    rintro e w3 ⟨rfl, hb3, hs3, F3⟩
    have B3 : Below w.heap.size w w3 := Below.on B2 B2.size hb3
    go_wp2_with fail
    refine (overlapOf_impl _ _ 0 len0 len0 X0 a1 a2 F3.rw (by omega) (Nat.le_refl _)).mono ?_
    rintro e w4 ⟨rfl, hb4⟩
    have B4 : Below w.heap.size w w4 := Below.on B3 B3.size hb4
    go_wp2_with fail
    refine (toZoneS_any p0 len0 cap0 X0 _ (h0.below B4) (by omega)).mono ?_
    rintro e w5 ⟨rfl, hb5, hs5, F5⟩
    have B5 : Below w.heap.size w w5 := Below.on B4 B4.size hb5
    go_wp2_with fail
    refine (eqZoneS_same _ _ 0 0 len0 len0 len0 X0 _ ((F3.rw.later' hb4).later' hb5) F5.rw (by omega) (Nat.le_refl _) (Nat.le_refl _)).mono ?_
    rintro e w6 ⟨rfl, hb6⟩
    have B6 : Below w.heap.size w w6 := Below.on B5 B5.size hb6
    go_wp2_with fail
    go_ret
    exact ⟨rfl, B6⟩
  · go_enter Try.func5, Try.ntmps5
    go_wp2_with fail
    refine (szZoneS_any p0 len0 cap0 _ hm0).mono ?_
    rintro e w0 ⟨rfl, rfl⟩
    rw [if_neg (by omega)]
    go_wp2_with fail
    go_ret
    exact ⟨rfl, Below.refl _ _⟩

end Go.Proofs.Ytcnjafpfkdaoeaa
