/-
  The distance of two places: program and reference agree. No condition.
-/
import Derived.Test.YthjjamjhagfolaaRoot
namespace Go.Proofs.Ythjjamjhagfolaa
open Go.RowKit
set_option linter.unusedVariables false

def placeB (x y : Int) : Bool := inB x 0 99999 && inB y 0 99999

theorem placeB_iff (x y : Int) : placeB x y = true ↔ (0 ≤ x ∧ x ≤ 99999) ∧ (0 ≤ y ∧ y ≤ 99999) := by simp [placeB, inB]

theorem place_spec (x y : Int) (w : World) : Calls Try.prog 34 #[.int .i64 x, .int .i64 y] w fun e w' => e = .returned (.bool (placeB x y)) ∧ w = w' := by
  go_enter Try.func34, Try.ntmps34
  go_wp2_with (go_at_call 38; refine (in_spec _ _ _ _).mono ?_; rintro e w' ⟨rfl, rfl⟩)
  all_goals go_ret
  all_goals exact ⟨by simp [placeB, *], rfl⟩

theorem place_impl (x y : Int) (w : World) : Calls Try.prog 36 #[.int .i64 x, .int .i64 y] w fun e w' => e = .returned (.bool (placeB x y)) ∧ w = w' := by
  go_enter Try.func36, Try.ntmps36
  go_wp2_with (go_at_call 26; refine (in_impl _ _ _ _).mono ?_; rintro e w' ⟨rfl, rfl⟩)
  all_goals go_ret
  all_goals exact ⟨by simp [placeB, *], rfl⟩

/-- What PlacesApart hands back. -/
def ApartOf (x y u v : Int) (e : Ending) : Prop :=
  (placeB x y = false ∧ e = .returned (.tuple #[.int .i64 0, .bool false])) ∨ (placeB u v = false ∧ e = .returned (.tuple #[.int .i64 0, .bool false])) ∨
  (placeB x y = true ∧ placeB u v = true ∧ ∃ r, isRoot ((x - u) * (x - u) + (y - v) * (y - v)) r ∧ e = .returned (.tuple #[.int .i64 r, .bool true]))

theorem sq_bd {d : Int} (h0 : -99999 ≤ d) (h1 : d ≤ 99999) : 0 ≤ d * d ∧ d * d ≤ 9999800001 := by
  rcases Int.le_total 0 d with h | h
  · exact ⟨Int.mul_nonneg h h, sq_le h h1⟩
  · have := sq_le (a := -d) (b := 99999) (by omega) (by omega)
    have e : -d * -d = d * d := Int.neg_mul_neg d d
    rw [e] at this
    exact ⟨Int.mul_nonneg_of_nonpos_of_nonpos h h, this⟩

set_option maxHeartbeats 400000 in
theorem apart_spec (x y u v : Int) (w : World) : Calls Try.prog 23 #[.int .i64 x, .int .i64 y, .int .i64 u, .int .i64 v] w fun e w' => ApartOf x y u v e ∧ w = w' := by
  by_cases h1 : placeB x y = true
  · by_cases h2 : placeB u v = true
    · obtain ⟨⟨x0, x1⟩, ⟨y0, y1⟩⟩ := (placeB_iff _ _).1 h1
      obtain ⟨⟨u0, u1⟩, ⟨v0, v1⟩⟩ := (placeB_iff _ _).1 h2
      obtain ⟨p0, p1⟩ := sq_bd (d := x - u) (by omega) (by omega)
      obtain ⟨q0, q1⟩ := sq_bd (d := y - v) (by omega) (by omega)
      go_enter Try.func23, Try.ntmps23
      go_wp2_with (first | (go_at_call 34; refine (place_spec _ _ _).mono ?_; rintro e w' ⟨rfl, rfl⟩) | (go_at_call 35; refine (root_spec _ (by omega) (by omega) _).mono ?_; rintro e w' ⟨⟨r, hr, rfl⟩, rfl⟩))
      go_ret2
      exact ⟨.inr (.inr ⟨h1, h2, r, hr, rfl⟩), rfl⟩
    · have h2' : placeB u v = false := by simpa using h2
      clear h2
      go_enter Try.func23, Try.ntmps23
      go_wp2_with (go_at_call 34; refine (place_spec _ _ _).mono ?_; rintro e w' ⟨rfl, rfl⟩)
      go_ret2
      exact ⟨.inr (.inl ⟨h2', rfl⟩), rfl⟩
  · have h1' : placeB x y = false := by simpa using h1
    clear h1
    go_enter Try.func23, Try.ntmps23
    go_wp2_with (go_at_call 34; refine (place_spec _ _ _).mono ?_; rintro e w' ⟨rfl, rfl⟩)
    go_ret2
    exact ⟨.inl ⟨h1', rfl⟩, rfl⟩

set_option maxHeartbeats 400000 in
theorem apart_impl (x y u v : Int) (w : World) : Calls Try.prog 24 #[.int .i64 x, .int .i64 y, .int .i64 u, .int .i64 v] w fun e w' => ApartOf x y u v e ∧ w = w' := by
  by_cases h1 : placeB x y = true
  · by_cases h2 : placeB u v = true
    · obtain ⟨⟨x0, x1⟩, ⟨y0, y1⟩⟩ := (placeB_iff _ _).1 h1
      obtain ⟨⟨u0, u1⟩, ⟨v0, v1⟩⟩ := (placeB_iff _ _).1 h2
      obtain ⟨p0, p1⟩ := sq_bd (d := x - u) (by omega) (by omega)
      obtain ⟨q0, q1⟩ := sq_bd (d := y - v) (by omega) (by omega)
      go_enter Try.func24, Try.ntmps24
      go_wp2_with (first | (go_at_call 36; refine (place_impl _ _ _).mono ?_; rintro e w' ⟨rfl, rfl⟩) | (go_at_call 37; refine (root_impl _ (by omega) (by omega) _).mono ?_; rintro e w' ⟨⟨r, hr, rfl⟩, rfl⟩))
      go_ret2
      exact ⟨.inr (.inr ⟨h1, h2, r, hr, rfl⟩), rfl⟩
    · have h2' : placeB u v = false := by simpa using h2
      clear h2
      go_enter Try.func24, Try.ntmps24
      go_wp2_with (go_at_call 36; refine (place_impl _ _ _).mono ?_; rintro e w' ⟨rfl, rfl⟩)
      go_ret2
      exact ⟨.inr (.inl ⟨h2', rfl⟩), rfl⟩
  · have h1' : placeB x y = false := by simpa using h1
    clear h1
    go_enter Try.func24, Try.ntmps24
    go_wp2_with (go_at_call 36; refine (place_impl _ _ _).mono ?_; rintro e w' ⟨rfl, rfl⟩)
    go_ret2
    exact ⟨.inl ⟨h1', rfl⟩, rfl⟩

theorem apart_same {x y u v : Int} {e f : Ending} (h : ApartOf x y u v e) (k : ApartOf x y u v f) : e = f := by
  unfold ApartOf at h k
  rcases h with ⟨a, rfl⟩ | ⟨a, rfl⟩ | ⟨a, b, r, hr, rfl⟩ <;> rcases k with ⟨c, rfl⟩ | ⟨c, rfl⟩ | ⟨c, d, s, hs, rfl⟩ <;> first | rfl | (simp_all; done) | (rw [isRoot_unique hr hs])

theorem apart_form {x y u v : Int} {e : Ending} (h : ApartOf x y u v e) : ∃ (r : Int) (b : Bool), e = .returned (.tuple #[.int .i64 r, .bool b]) := by
  rcases h with ⟨_, rfl⟩ | ⟨_, rfl⟩ | ⟨_, _, r, _, rfl⟩
  · exact ⟨_, _, rfl⟩
  · exact ⟨_, _, rfl⟩
  · exact ⟨_, _, rfl⟩

theorem walk_ExactPlacesApart (w : World) (x y u v : Int) (hx : isI x) (hy : isI y) (hu : isI u) (hv : isI v) :
    Calls Try.prog 9 #[.int .i64 x, .int .i64 y, .int .i64 u, .int .i64 v] w fun e w' => e = .returned (.bool true) ∧ Below w.heap.size w w' := by
  go_enter Try.func9, Try.ntmps9
  go_wp2_with fail
  refine (apart_spec x y u v _).mono ?_
  rintro e w1 ⟨h1, rfl⟩
  obtain ⟨r, b, rfl⟩ := apart_form h1
  go_wp2_with fail
  refine (apart_impl x y u v _).mono ?_
  rintro e w2 ⟨h2, rfl⟩
  obtain rfl := apart_same h1 h2
  go_wp2_with fail
  go_ret
  exact ⟨rfl, Below.refl _ _⟩

end Go.Proofs.Ythjjamjhagfolaa
