/-
  Whether two chains lead every place to the same spot, by the program and by the reference. No condition.
-/
import Derived.Test.YtigiihhfmdgdlaaChain2
namespace Go.Proofs.Ytigiihhfmdgdlaa
open Go.RowKit
set_option linter.unusedVariables false
set_option maxRecDepth 100000

def spEq (s t : Sp) : Bool := decide (s.X = t.X) && decide (s.Y = t.Y) && decide (s.Den = t.Den)
theorem eqSp (s t : Sp) (w : World) : (binOp .eql 33 (.agg #[.int .i64 s.X, .int .i64 s.Y, .int .i64 s.Den]) (.agg #[.int .i64 t.X, .int .i64 t.Y, .int .i64 t.Den])).run Try.prog w = .ok (.bool (spEq s t)) w := by
  by_cases h1 : s.X = t.X <;> by_cases h2 : s.Y = t.Y <;> by_cases h3 : s.Den = t.Den <;> simp [go_sem, Try.underlying33, spEq, h1, h2, h3]

theorem szGridTurnS_left (a : Option Addr) (len cap : Nat) (L : Int) (h0 : 0 ≤ L) (h1 : L ≤ 1048576) (w : World) (hm : len ≤ maxLen) :
    Calls Try.prog 10 #[.slice a len cap, .int .i64 L] w fun e w' => e = .returned (.int .i64 (if (len : Int) ≤ L then L - (len : Int) else -1)) ∧ w = w' := by
  unfold maxLen at hm
  by_cases h : (len : Int) ≤ L
  · rw [if_pos h]
    go_enter Try.func10, Try.ntmps10
    go_wp2
    go_ret
    exact ⟨rfl, rfl⟩
  · rw [if_neg h]
    go_enter Try.func10, Try.ntmps10
    go_wp2
    go_ret
    exact ⟨rfl, rfl⟩

def scOk (X : Nat → GridTurnD) (n : Nat) (Y : Nat → GridTurnD) (m : Nat) : Bool := chainB X n && chainB Y m
def scB (X : Nat → GridTurnD) (n : Nat) (Y : Nat → GridTurnD) (m : Nat) : Bool := scOk X n Y m && (spEq (goS X 0 0 n) (goS Y 0 0 m) && spEq (goS X 1 0 n) (goS Y 1 0 m))
theorem sc_no {X : Nat → GridTurnD} {n : Nat} {Y : Nat → GridTurnD} {m : Nat} (h : chainB X n = false ∨ chainB Y m = false) : scOk X n Y m = false ∧ scB X n Y m = false := by
  have h1 : scOk X n Y m = false := by unfold scOk; rcases h with h | h <;> simp [h]
  exact ⟨h1, by unfold scB; rw [h1]; rfl⟩
theorem sc_ok {X : Nat → GridTurnD} {n : Nat} {Y : Nat → GridTurnD} {m : Nat} (h : chainB X n = true) (h' : chainB Y m = true) : scOk X n Y m = true ∧ scB X n Y m = (spEq (goS X 0 0 n) (goS Y 0 0 m) && spEq (goS X 1 0 n) (goS Y 1 0 m)) := by
  have h1 : scOk X n Y m = true := by unfold scOk; simp [h, h']
  exact ⟨h1, by unfold scB; rw [h1]; rfl⟩
theorem place00 : placeB 0 0 = true := by decide
theorem place10 : placeB 1 0 = true := by decide

set_option maxHeartbeats 4000000 in
theorem sc_spec (w : World) (b1 o1 l1 c1 : Nat) (X : Nat → GridTurnD) (b2 o2 l2 c2 : Nat) (Y : Nat → GridTurnD) (h1 : Rw w b1 o1 5 l1 (fun i => (X i).cells)) (hma : l1 ≤ 1048576) (hlca : l1 ≤ c1) (h2 : Rw w b2 o2 5 l2 (fun i => (Y i).cells)) (hmb : l2 ≤ 1048576) (hlcb : l2 ≤ c2) :
    Calls Try.prog 23 #[.slice (some ⟨b1, o1, none⟩) l1 c1, .slice (some ⟨b2, o2, none⟩) l2 c2] w fun e w' => e = .returned (.tuple #[.bool (scB X l1 Y l2), .bool (scOk X l1 Y l2)]) ∧ Below w.heap.size w w' := by
  have H1 := hid h1
  have H2 := hid h2
  have hEq := eqSp
  clear h1 h2
  go_enter Try.func23, Try.ntmps23
  go_wp2_with fail
  refine (chain_spec _ b1 o1 l1 c1 X H1.out hma hlca).mono ?_
  rintro e w1 ⟨rfl, B1⟩
  by_cases hX : chainB X l1 = true
  · have HX := hid hX
    go_wp2_with fail
    refine (chain_spec _ b2 o2 l2 c2 Y (H2.out.later' B1) hmb hlcb).mono ?_
    rintro e w2 ⟨rfl, hb2⟩
    have B2 : Below w.heap.size w w2 := Below.on B1 B1.size hb2
    by_cases hY : chainB Y l2 = true
    · have HY := hid hY
      go_wp2_with fail
      refine (go_spec _ b1 o1 l1 c1 X 0 0 (H1.out.later' B2) hma hlca HX.out place00).mono ?_
      rintro e w3 ⟨rfl, hb3⟩
      obtain ⟨s3, hs3⟩ : ∃ s, goS X 0 0 l1 = s := ⟨_, rfl⟩
      rw [hs3]
      have HS3 := hid hs3
      clear hs3
      have B3 : Below w.heap.size w w3 := Below.on B2 B2.size hb3
      go_wp2_with fail
      refine (go_spec _ b2 o2 l2 c2 Y 0 0 (H2.out.later' B3) hmb hlcb HY.out place00).mono ?_
      rintro e w4 ⟨rfl, hb4⟩
      obtain ⟨s4, hs4⟩ : ∃ s, goS Y 0 0 l2 = s := ⟨_, rfl⟩
      rw [hs4]
      have HS4 := hid hs4
      clear hs4
      have B4 : Below w.heap.size w w4 := Below.on B3 B3.size hb4
      by_cases g : spEq s3 s4 = true
      · go_wp2_with fail
        refine (go_spec _ b1 o1 l1 c1 X 1 0 (H1.out.later' B4) hma hlca HX.out place10).mono ?_
        rintro e w5 ⟨rfl, hb5⟩
        obtain ⟨s5, hs5⟩ : ∃ s, goS X 1 0 l1 = s := ⟨_, rfl⟩
        rw [hs5]
        have HS5 := hid hs5
        clear hs5
        have B5 : Below w.heap.size w w5 := Below.on B4 B4.size hb5
        go_wp2_with fail
        refine (go_spec _ b2 o2 l2 c2 Y 1 0 (H2.out.later' B5) hmb hlcb HY.out place10).mono ?_
        rintro e w6 ⟨rfl, hb6⟩
        obtain ⟨s6, hs6⟩ : ∃ s, goS Y 1 0 l2 = s := ⟨_, rfl⟩
        rw [hs6]
        have HS6 := hid hs6
        clear hs6
        have B6 : Below w.heap.size w w6 := Below.on B5 B5.size hb6
        have hfin : Hid (scB X l1 Y l2 = spEq s5 s6) := by unfold Hid; rw [(sc_ok HX.out HY.out).2, HS3.out, HS4.out, HS5.out, HS6.out, g]; rfl
        go_wp2_with fail
        go_ret2
        exact ⟨by rw [hfin.out, (sc_ok HX.out HY.out).1]; rfl, B6⟩
      · have g' : spEq s3 s4 = false := by simpa using g
        have hfin : Hid (scB X l1 Y l2 = false) := by unfold Hid; rw [(sc_ok HX.out HY.out).2, HS3.out, HS4.out, g']; rfl
        clear g
        go_wp2_with fail
        go_ret2
        exact ⟨by rw [hfin.out, (sc_ok HX.out HY.out).1]; rfl, B4⟩
    · have hY' : chainB Y l2 = false := by simpa using hY
      clear hY
      go_wp2_with fail
      go_ret2
      exact ⟨by rw [(sc_no (.inr hY')).1, (sc_no (.inr hY')).2]; rfl, B2⟩
  · have hX' : chainB X l1 = false := by simpa using hX
    clear hX
    go_wp2_with fail
    go_ret2
    exact ⟨by rw [(sc_no (.inl hX')).1, (sc_no (.inl hX')).2]; rfl, B1⟩

set_option maxHeartbeats 4000000 in
theorem sc_impl (w : World) (b1 o1 l1 c1 : Nat) (X : Nat → GridTurnD) (b2 o2 l2 c2 : Nat) (Y : Nat → GridTurnD) (h1 : Rw w b1 o1 5 l1 (fun i => (X i).cells)) (hma : l1 ≤ 1048576) (hlca : l1 ≤ c1) (h2 : Rw w b2 o2 5 l2 (fun i => (Y i).cells)) (hmb : l2 ≤ 1048576) (hlcb : l2 ≤ c2) :
    Calls Try.prog 24 #[.slice (some ⟨b1, o1, none⟩) l1 c1, .slice (some ⟨b2, o2, none⟩) l2 c2] w fun e w' => e = .returned (.tuple #[.bool (scB X l1 Y l2), .bool (scOk X l1 Y l2)]) ∧ Below w.heap.size w w' := by
  have H1 := hid h1
  have H2 := hid h2
  have hEq := eqSp
  clear h1 h2
  go_enter Try.func24, Try.ntmps24
  go_wp2_with fail
  refine (chain_impl _ b1 o1 l1 c1 X H1.out hma hlca).mono ?_
  rintro e w1 ⟨rfl, B1⟩
  by_cases hX : chainB X l1 = true
  · have HX := hid hX
    go_wp2_with fail
    refine (chain_impl _ b2 o2 l2 c2 Y (H2.out.later' B1) hmb hlcb).mono ?_
    rintro e w2 ⟨rfl, hb2⟩
    have B2 : Below w.heap.size w w2 := Below.on B1 B1.size hb2
    by_cases hY : chainB Y l2 = true
    · have HY := hid hY
      go_wp2_with fail
      refine (go_impl _ b1 o1 l1 c1 X 0 0 (H1.out.later' B2) hma hlca HX.out place00).mono ?_
      rintro e w3 ⟨rfl, hb3⟩
      obtain ⟨s3, hs3⟩ : ∃ s, goS X 0 0 l1 = s := ⟨_, rfl⟩
      rw [hs3]
      have HS3 := hid hs3
      clear hs3
      have B3 : Below w.heap.size w w3 := Below.on B2 B2.size hb3
      go_wp2_with fail
      refine (go_impl _ b2 o2 l2 c2 Y 0 0 (H2.out.later' B3) hmb hlcb HY.out place00).mono ?_
      rintro e w4 ⟨rfl, hb4⟩
      obtain ⟨s4, hs4⟩ : ∃ s, goS Y 0 0 l2 = s := ⟨_, rfl⟩
      rw [hs4]
      have HS4 := hid hs4
      clear hs4
      have B4 : Below w.heap.size w w4 := Below.on B3 B3.size hb4
      by_cases g : spEq s3 s4 = true
      · go_wp2_with fail
        refine (go_impl _ b1 o1 l1 c1 X 1 0 (H1.out.later' B4) hma hlca HX.out place10).mono ?_
        rintro e w5 ⟨rfl, hb5⟩
        obtain ⟨s5, hs5⟩ : ∃ s, goS X 1 0 l1 = s := ⟨_, rfl⟩
        rw [hs5]
        have HS5 := hid hs5
        clear hs5
        have B5 : Below w.heap.size w w5 := Below.on B4 B4.size hb5
        go_wp2_with fail
        refine (go_impl _ b2 o2 l2 c2 Y 1 0 (H2.out.later' B5) hmb hlcb HY.out place10).mono ?_
        rintro e w6 ⟨rfl, hb6⟩
        obtain ⟨s6, hs6⟩ : ∃ s, goS Y 1 0 l2 = s := ⟨_, rfl⟩
        rw [hs6]
        have HS6 := hid hs6
        clear hs6
        have B6 : Below w.heap.size w w6 := Below.on B5 B5.size hb6
        have hfin : Hid (scB X l1 Y l2 = spEq s5 s6) := by unfold Hid; rw [(sc_ok HX.out HY.out).2, HS3.out, HS4.out, HS5.out, HS6.out, g]; rfl
        go_wp2_with fail
        go_ret2
        exact ⟨by rw [hfin.out, (sc_ok HX.out HY.out).1]; rfl, B6⟩
      · have g' : spEq s3 s4 = false := by simpa using g
        have hfin : Hid (scB X l1 Y l2 = false) := by unfold Hid; rw [(sc_ok HX.out HY.out).2, HS3.out, HS4.out, g']; rfl
        clear g
        go_wp2_with fail
        go_ret2
        exact ⟨by rw [hfin.out, (sc_ok HX.out HY.out).1]; rfl, B4⟩
    · have hY' : chainB Y l2 = false := by simpa using hY
      clear hY
      go_wp2_with fail
      go_ret2
      exact ⟨by rw [(sc_no (.inr hY')).1, (sc_no (.inr hY')).2]; rfl, B2⟩
  · have hX' : chainB X l1 = false := by simpa using hX
    clear hX
    go_wp2_with fail
    go_ret2
    exact ⟨by rw [(sc_no (.inl hX')).1, (sc_no (.inl hX')).2]; rfl, B1⟩

set_option maxHeartbeats 4000000 in
theorem walk_ExactSameChains (w : World) (p0 : Option Addr) (len0 cap0 : Nat) (X0 : Nat → GridTurnD) (p1 : Option Addr) (len1 cap1 : Nat) (X1 : Nat → GridTurnD) (h0 : Sl w 5 p0 len0 (fun i => (X0 i).cells)) (ok0 : ∀ i, i < len0 → (X0 i).ok) (hm0 : len0 ≤ maxLen) (h1 : Sl w 5 p1 len1 (fun i => (X1 i).cells)) (ok1 : ∀ i, i < len1 → (X1 i).ok) (hm1 : len1 ≤ maxLen) :
    Calls Try.prog 7 #[.slice p0 len0 cap0, .slice p1 len1 cap1] w fun e w' => e = .returned (.bool true) ∧ Below w.heap.size w w' := by
  clear ok0 ok1
  by_cases hL : (len0 : Int) ≤ 1048576
  · go_enter Try.func7, Try.ntmps7
    go_wp2_with fail
    refine (szGridTurnS_any p0 len0 cap0 _ hm0).mono ?_
    rintro e w0 ⟨rfl, rfl⟩
    rw [if_pos hL]
    go_wp2_with fail
    refine (szGridTurnS_left p1 len1 cap1 (1048576 - (len0 : Int)) (by omega) (by omega) _ hm1).mono ?_
    rintro e w0 ⟨rfl, rfl⟩
    by_cases hL1 : (len1 : Int) ≤ 1048576 - (len0 : Int)
    · rw [if_pos hL1]
      go_wp2_with fail
      refine (toGridTurnS_any p0 len0 cap0 X0 _ (h0.below (Below.refl w.heap.size w)) (by omega)).mono ?_
      rintro e w1 ⟨rfl, hb1, hs1, F1⟩
      have B1 : Below w.heap.size w w1 := Below.on (Below.refl w.heap.size w) (Below.refl w.heap.size w).size hb1
      go_wp2_with fail
      refine (toGridTurnS_any p1 len1 cap1 X1 _ (h1.below B1) (by omega)).mono ?_
      rintro e w2 ⟨rfl, hb2, hs2, F2⟩
      have B2 : Below w.heap.size w w2 := Below.on B1 B1.size hb2
      go_wp2_with fail
      refine (sc_spec _ _ 0 len0 len0 X0 _ 0 len1 len1 X1 (F1.rw.later' hb2) (by omega) (Nat.le_refl _) F2.rw (by omega) (Nat.le_refl _)).mono ?_
      rintro e w3 ⟨rfl, hb3⟩
      have B3 : Below w.heap.size w w3 := Below.on B2 B2.size hb3
      go_wp2_with fail
      refine (toGridTurnS_any p0 len0 cap0 X0 _ (h0.below B3) (by omega)).mono ?_
      rintro e w4 ⟨rfl, hb4, hs4, F4⟩
      have B4 : Below w.heap.size w w4 := Below.on B3 B3.size hb4
      go_wp2_with fail
      refine (toGridTurnS_any p1 len1 cap1 X1 _ (h1.below B4) (by omega)).mono ?_
      rintro e w5 ⟨rfl, hb5, hs5, F5⟩
      have B5 : Below w.heap.size w w5 := Below.on B4 B4.size hb5
      go_wp2_with fail
      refine (sc_impl _ _ 0 len0 len0 X0 _ 0 len1 len1 X1 (F4.rw.later' hb5) (by omega) (Nat.le_refl _) F5.rw (by omega) (Nat.le_refl _)).mono ?_
      rintro e w6 ⟨rfl, hb6⟩
      have B6 : Below w.heap.size w w6 := Below.on B5 B5.size hb6
      go_wp2_with fail
      refine (toGridTurnS_any p0 len0 cap0 X0 _ (h0.below B6) (by omega)).mono ?_
      rintro e w7 ⟨rfl, hb7, hs7, F7⟩
      have B7 : Below w.heap.size w w7 := Below.on B6 B6.size hb7
      go_wp2_with fail
      refine (eqGridTurnS_same _ _ 0 0 len0 len0 len0 X0 _ (((F4.rw.later' hb5).later' hb6).later' hb7) F7.rw (by omega) (Nat.le_refl _) (Nat.le_refl _)).mono ?_
      rintro e w8 ⟨rfl, hb8⟩
      have B8 : Below w.heap.size w w8 := Below.on B7 B7.size hb8
      go_wp2_with fail
      refine (toGridTurnS_any p1 len1 cap1 X1 _ (h1.below B8) (by omega)).mono ?_
      rintro e w9 ⟨rfl, hb9, hs9, F9⟩
      have B9 : Below w.heap.size w w9 := Below.on B8 B8.size hb9
      go_wp2_with fail
      refine (eqGridTurnS_same _ _ 0 0 len1 len1 len1 X1 _ ((((F5.rw.later' hb6).later' hb7).later' hb8).later' hb9) F9.rw (by omega) (Nat.le_refl _) (Nat.le_refl _)).mono ?_
      rintro e w10 ⟨rfl, hb10⟩
      have B10 : Below w.heap.size w w10 := Below.on B9 B9.size hb10
      go_wp2_with fail
      go_ret
      exact ⟨rfl, B10⟩
    · rw [if_neg hL1]
      go_wp2_with fail
      go_ret
      exact ⟨rfl, Below.refl _ _⟩
  · go_enter Try.func7, Try.ntmps7
    go_wp2_with fail
    refine (szGridTurnS_any p0 len0 cap0 _ hm0).mono ?_
    rintro e w0 ⟨rfl, rfl⟩
    rw [if_neg (by omega)]
    go_wp2_with fail
    go_ret
    exact ⟨rfl, Below.refl _ _⟩

end Go.Proofs.Ytigiihhfmdgdlaa
