/-
  Where a chain leads a place: TurnPlace by the program and by the reference, and the law. No condition.
-/
import Derived.Test.YtigiihhfmdgdlaaChain2
namespace Go.Proofs.Ytigiihhfmdgdlaa
open Go.RowKit
set_option linter.unusedVariables false
set_option maxRecDepth 100000

theorem eqSpot_same (s : Sp) (w : World) : Calls Try.prog 18 #[s.val, s.val] w fun e w' => e = .returned (.bool true) ∧ Below w.heap.size w w' := by
  go_enter Try.func18, Try.ntmps18
  go_wp2
  go_ret
  exact ⟨rfl, by go_grown⟩

def tpOk (X : Nat → GridTurnD) (n : Nat) (x y : Int) : Bool := chainB X n && placeB x y
def tpS (X : Nat → GridTurnD) (n : Nat) (x y : Int) : Sp := if tpOk X n x y = true then goS X x y n else ⟨0, 0, 0⟩
def tbS (X : Nat → GridTurnD) (n : Nat) (x y : Int) : Sp := if tpOk X n x y = true then retS X n x y n else ⟨0, 0, 0⟩
theorem tp_ok {X : Nat → GridTurnD} {n : Nat} {x y : Int} (h : chainB X n = true) (hp : placeB x y = true) : tpOk X n x y = true := by simp [tpOk, h, hp]
theorem tp_no {X : Nat → GridTurnD} {n : Nat} {x y : Int} (h : chainB X n = false ∨ placeB x y = false) : tpOk X n x y = false := by unfold tpOk; rcases h with h | h <;> simp [h]
theorem tpS_ok {X : Nat → GridTurnD} {n : Nat} {x y : Int} (h : tpOk X n x y = true) : tpS X n x y = goS X x y n := by unfold tpS; rw [if_pos h]
theorem tpS_no {X : Nat → GridTurnD} {n : Nat} {x y : Int} (h : tpOk X n x y = false) : tpS X n x y = ⟨0, 0, 0⟩ := by unfold tpS; rw [h]; rfl
theorem tbS_ok {X : Nat → GridTurnD} {n : Nat} {x y : Int} (h : tpOk X n x y = true) : tbS X n x y = retS X n x y n := by unfold tbS; rw [if_pos h]
theorem tbS_no {X : Nat → GridTurnD} {n : Nat} {x y : Int} (h : tpOk X n x y = false) : tbS X n x y = ⟨0, 0, 0⟩ := by unfold tbS; rw [h]; rfl

set_option maxHeartbeats 4000000 in
theorem tp_spec (w : World) (b off len cap : Nat) (X : Nat → GridTurnD) (x y : Int) (h : Rw w b off 5 len (fun i => (X i).cells)) (hm : len ≤ 1048576) (hlc : len ≤ cap) :
    Calls Try.prog 19 #[.slice (some ⟨b, off, none⟩) len cap, .int .i64 x, .int .i64 y] w fun e w' => e = .returned (.tuple #[(tpS X len x y).val, .bool (tpOk X len x y)]) ∧ Below w.heap.size w w' := by
  have H := hid h
  have hb := h.1
  clear h
  have hA : Below w.heap.size w (w.alloc (.cells #[.int .i64 0, .int .i64 0, .int .i64 0] 33)) := by go_grown
  go_enter Try.func19, Try.ntmps19
  go_wp2_with fail
  refine (chain_spec _ b off len cap X (H.out.later' hA) hm hlc).mono ?_
  rintro e w1 ⟨rfl, hb1⟩
  have B1 : Below w.heap.size w w1 := Below.on hA hA.size hb1
  have GR : Hid (AtSpot w.heap.size ⟨0, 0, 0⟩ w1) := hid ((AtSpot.new ⟨0, 0, 0⟩ w).below hb1)
  clear hb1 hA
  by_cases hC : chainB X len = true
  · have HC := hid hC
    go_wp2_with fail
    refine (place_spec _ _ _).mono ?_
    rintro e wq ⟨rfl, rfl⟩
    by_cases hP : placeB x y = true
    · have HP := hid hP
      have HO := hid (tp_ok hC hP)
      go_wp2_with fail
      refine (go_spec _ b off len cap X x y (H.out.later' B1) hm hlc HC.out HP.out).mono ?_
      rintro e w2 ⟨rfl, hb2⟩
      obtain ⟨s, hs⟩ : ∃ s, goS X x y len = s := ⟨_, rfl⟩
      rw [hs]
      have HE := hid hs
      clear hs
      have B2 : Below w.heap.size w w2 := Below.on B1 B1.size hb2
      have GR2 := hid (GR.out.below hb2)
      clear GR
      have GR := GR2
      have ul := GR.out.lt
      have u0 := GR.out.c0
      have u1 := GR.out.c1
      have u2 := GR.out.c2
      have uz0 := GR.out.frozen (j := 0)
      have uz1 := GR.out.frozen (j := 1)
      have uz2 := GR.out.frozen (j := 2)
      go_wp2_with fail
      exact bodyPost_ret (v := .tuple #[(s).val, .bool true]) (by simp [results, Try.results19, go_sem, ul, u0, u1, u2]) rfl ⟨by rw [tpS_ok HO.out, HO.out, HE.out], by go_grown⟩
    · have hP' : placeB x y = false := by simpa using hP
      clear hP
      have HO := hid (tp_no (X := X) (n := len) (x := x) (y := y) (.inr hP'))
      have ul := GR.out.lt
      have u0 := GR.out.c0
      have u1 := GR.out.c1
      have u2 := GR.out.c2
      have uz0 := GR.out.frozen (j := 0)
      have uz1 := GR.out.frozen (j := 1)
      have uz2 := GR.out.frozen (j := 2)
      go_wp2_with fail
      exact bodyPost_ret (v := .tuple #[((⟨0, 0, 0⟩ : Sp)).val, .bool false]) (by simp [results, Try.results19, go_sem, ul, u0, u1, u2]) rfl ⟨by rw [tpS_no HO.out, HO.out], by go_grown⟩
  · have hC' : chainB X len = false := by simpa using hC
    clear hC
    have HO := hid (tp_no (X := X) (n := len) (x := x) (y := y) (.inl hC'))
    have ul := GR.out.lt
    have u0 := GR.out.c0
    have u1 := GR.out.c1
    have u2 := GR.out.c2
    have uz0 := GR.out.frozen (j := 0)
    have uz1 := GR.out.frozen (j := 1)
    have uz2 := GR.out.frozen (j := 2)
    go_wp2_with fail
    exact bodyPost_ret (v := .tuple #[((⟨0, 0, 0⟩ : Sp)).val, .bool false]) (by simp [results, Try.results19, go_sem, ul, u0, u1, u2]) rfl ⟨by rw [tpS_no HO.out, HO.out], by go_grown⟩

set_option maxHeartbeats 4000000 in
theorem tp_impl (w : World) (b off len cap : Nat) (X : Nat → GridTurnD) (x y : Int) (h : Rw w b off 5 len (fun i => (X i).cells)) (hm : len ≤ 1048576) (hlc : len ≤ cap) :
    Calls Try.prog 20 #[.slice (some ⟨b, off, none⟩) len cap, .int .i64 x, .int .i64 y] w fun e w' => e = .returned (.tuple #[(tpS X len x y).val, .bool (tpOk X len x y)]) ∧ Below w.heap.size w w' := by
  have H := hid h
  have hb := h.1
  clear h
  have hA : Below w.heap.size w (w.alloc (.cells #[.int .i64 0, .int .i64 0, .int .i64 0] 33)) := by go_grown
  go_enter Try.func20, Try.ntmps20
  go_wp2_with fail
  refine (chain_impl _ b off len cap X (H.out.later' hA) hm hlc).mono ?_
  rintro e w1 ⟨rfl, hb1⟩
  have B1 : Below w.heap.size w w1 := Below.on hA hA.size hb1
  have GR : Hid (AtSpot w.heap.size ⟨0, 0, 0⟩ w1) := hid ((AtSpot.new ⟨0, 0, 0⟩ w).below hb1)
  clear hb1 hA
  by_cases hC : chainB X len = true
  · have HC := hid hC
    go_wp2_with fail
    refine (place_impl _ _ _).mono ?_
    rintro e wq ⟨rfl, rfl⟩
    by_cases hP : placeB x y = true
    · have HP := hid hP
      have HO := hid (tp_ok hC hP)
      go_wp2_with fail
      refine (go_impl _ b off len cap X x y (H.out.later' B1) hm hlc HC.out HP.out).mono ?_
      rintro e w2 ⟨rfl, hb2⟩
      obtain ⟨s, hs⟩ : ∃ s, goS X x y len = s := ⟨_, rfl⟩
      rw [hs]
      have HE := hid hs
      clear hs
      have B2 : Below w.heap.size w w2 := Below.on B1 B1.size hb2
      have GR2 := hid (GR.out.below hb2)
      clear GR
      have GR := GR2
      have ul := GR.out.lt
      have u0 := GR.out.c0
      have u1 := GR.out.c1
      have u2 := GR.out.c2
      have uz0 := GR.out.frozen (j := 0)
      have uz1 := GR.out.frozen (j := 1)
      have uz2 := GR.out.frozen (j := 2)
      go_wp2_with fail
      exact bodyPost_ret (v := .tuple #[(s).val, .bool true]) (by simp [results, Try.results20, go_sem, ul, u0, u1, u2]) rfl ⟨by rw [tpS_ok HO.out, HO.out, HE.out], by go_grown⟩
    · have hP' : placeB x y = false := by simpa using hP
      clear hP
      have HO := hid (tp_no (X := X) (n := len) (x := x) (y := y) (.inr hP'))
      have ul := GR.out.lt
      have u0 := GR.out.c0
      have u1 := GR.out.c1
      have u2 := GR.out.c2
      have uz0 := GR.out.frozen (j := 0)
      have uz1 := GR.out.frozen (j := 1)
      have uz2 := GR.out.frozen (j := 2)
      go_wp2_with fail
      exact bodyPost_ret (v := .tuple #[((⟨0, 0, 0⟩ : Sp)).val, .bool false]) (by simp [results, Try.results20, go_sem, ul, u0, u1, u2]) rfl ⟨by rw [tpS_no HO.out, HO.out], by go_grown⟩
  · have hC' : chainB X len = false := by simpa using hC
    clear hC
    have HO := hid (tp_no (X := X) (n := len) (x := x) (y := y) (.inl hC'))
    have ul := GR.out.lt
    have u0 := GR.out.c0
    have u1 := GR.out.c1
    have u2 := GR.out.c2
    have uz0 := GR.out.frozen (j := 0)
    have uz1 := GR.out.frozen (j := 1)
    have uz2 := GR.out.frozen (j := 2)
    go_wp2_with fail
    exact bodyPost_ret (v := .tuple #[((⟨0, 0, 0⟩ : Sp)).val, .bool false]) (by simp [results, Try.results20, go_sem, ul, u0, u1, u2]) rfl ⟨by rw [tpS_no HO.out, HO.out], by go_grown⟩

set_option maxRecDepth 100000 in
set_option maxHeartbeats 4000000 in
theorem walk_ExactTurnPlace (w : World) (p0 : Option Addr) (len0 cap0 : Nat) (X0 : Nat → GridTurnD) (a1 : Int) (a2 : Int) (h0 : Sl w 5 p0 len0 (fun i => (X0 i).cells)) (ok0 : ∀ i, i < len0 → (X0 i).ok) (hm0 : len0 ≤ maxLen) (i1 : isI a1) (i2 : isI a2) :
    Calls Try.prog 5 #[.slice p0 len0 cap0, .int .i64 a1, .int .i64 a2] w fun e w' => e = .returned (.bool true) ∧ Below w.heap.size w w' := by
  clear ok0
  by_cases hL : (len0 : Int) ≤ 1048576
  · obtain ⟨S, hS⟩ : ∃ S, tpS X0 len0 a1 a2 = S := ⟨_, rfl⟩
    have HS := hid hS
    clear hS
    go_enter Try.func5, Try.ntmps5
    go_wp2_with fail
    refine (szGridTurnS_any p0 len0 cap0 _ hm0).mono ?_
    rintro e w0 ⟨rfl, rfl⟩
    rw [if_pos hL]
    go_wp2_with fail
    refine (toGridTurnS_any p0 len0 cap0 X0 _ (h0.below (Below.refl w.heap.size w)) (by omega)).mono ?_
    rintro e w1 ⟨rfl, hb1, hs1, F1⟩
    have B1 : Below w.heap.size w w1 := Below.on (Below.refl w.heap.size w) (Below.refl w.heap.size w).size hb1
    go_wp2_with fail
    refine (tp_spec _ _ 0 len0 len0 X0 a1 a2 F1.rw (by omega) (Nat.le_refl _)).mono ?_
    rintro e w2 ⟨rfl, hb2⟩
    rw [HS.out]
    have B2 : Below w.heap.size w w2 := Below.on B1 B1.size hb2
    have B3 : Below w.heap.size w (w2.alloc (.cells #[.int .i64 S.X, .int .i64 S.Y, .int .i64 S.Den] 33)) := B2.alloc B2.size _
    have A3 := hid (AtSpot.new S w2)
    go_wp2_with fail
    refine (toGridTurnS_any p0 len0 cap0 X0 _ (h0.below B3) (by omega)).mono ?_
    rintro e w4 ⟨rfl, hb4, hs4, F4⟩
    simp only [World.size_alloc] at F4 hs4
    have B4 : Below w.heap.size w w4 := Below.on B3 B3.size hb4
    have A4 := hid (A3.out.below hb4)
    clear A3
    go_wp2_with fail
    refine (tp_impl _ _ 0 len0 len0 X0 a1 a2 F4.rw (by omega) (Nat.le_refl _)).mono ?_
    rintro e w5 ⟨rfl, hb5⟩
    rw [HS.out]
    have B5 : Below w.heap.size w w5 := Below.on B4 B4.size hb5
    have B6 : Below w.heap.size w (w5.alloc (.cells #[.int .i64 S.X, .int .i64 S.Y, .int .i64 S.Den] 33)) := B5.alloc B5.size _
    have hb6 : Below w5.heap.size w5 (w5.alloc (.cells #[.int .i64 S.X, .int .i64 S.Y, .int .i64 S.Den] 33)) := by go_grown
    have A5 := hid (A4.out.below hb5)
    clear A4
    have l5 := A5.out.lt
    have c0 := A5.out.c0
    have c1 := A5.out.c1
    have c2 := A5.out.c2
    go_wp2_with fail
    refine (eqSpot_same S _).mono ?_
    rintro e w7 ⟨rfl, hb7⟩
    have B7 : Below w.heap.size w w7 := Below.on B6 B6.size hb7
    go_wp2_with fail
    refine (toGridTurnS_any p0 len0 cap0 X0 _ (h0.below B7) (by omega)).mono ?_
    rintro e w8 ⟨rfl, hb8, hs8, F8⟩
    have B8 : Below w.heap.size w w8 := Below.on B7 B7.size hb8
    go_wp2_with fail
    refine (eqGridTurnS_same _ _ 0 0 len0 len0 len0 X0 _ ((((F4.rw.later' hb5).later' hb6).later' hb7).later' hb8) F8.rw (by omega) (Nat.le_refl _) (Nat.le_refl _)).mono ?_
    rintro e w9 ⟨rfl, hb9⟩
    have B9 : Below w.heap.size w w9 := Below.on B8 B8.size hb9
    go_wp2_with fail
    go_ret
    exact ⟨rfl, B9⟩
  · go_enter Try.func5, Try.ntmps5
    go_wp2_with fail
    refine (szGridTurnS_any p0 len0 cap0 _ hm0).mono ?_
    rintro e w0 ⟨rfl, rfl⟩
    rw [if_neg (by omega)]
    go_wp2_with fail
    go_ret
    exact ⟨rfl, Below.refl _ _⟩

end Go.Proofs.Ytigiihhfmdgdlaa
