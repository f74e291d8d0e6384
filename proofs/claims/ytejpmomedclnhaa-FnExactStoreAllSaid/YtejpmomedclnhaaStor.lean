/-
  Flats by their size, the largest first: how two are compared; insertion from the right. No condition.
-/
import Derived.Test.YtejpmomedclnhaaDrawG2
namespace Go.Proofs.Ytejpmomedclnhaa
open Go.RowKit
set_option linter.unusedVariables false
set_option maxRecDepth 100000

def cmpI (x y : Int) : Int := if x < y then -1 else if y < x then 1 else 0
theorem cmpI_lt (x y : Int) : decide (cmpI x y < 0) = decide (x < y) := by
  unfold cmpI
  by_cases h : x < y
  · simp [h]
  · by_cases h2 : y < x
    · simp [h, h2]
    · simp [h, h2]

theorem cmp_any (x y : Int) (w : World) : Calls Try.prog 88 #[.int .i64 x, .int .i64 y] w fun e w' => e = .returned (.int .i64 (cmpI x y)) ∧ Below w.heap.size w w' := by
  by_cases h : x < y
  · have hp : Hid (cmpI x y = -1) := by unfold Hid cmpI; simp [h]
    have d1 : decide (x < y) = true := by simp [h]
    have d2 : decide (y < x) = false := by simp; omega
    clear h
    go_enter Try.func88, Try.ntmps88
    go_wp2
    all_goals go_ret
    all_goals exact ⟨ret_int hp.out.symm, by go_grown⟩
  · by_cases h2 : y < x
    · have hp : Hid (cmpI x y = 1) := by unfold Hid cmpI; simp [h, h2]
      have d1 : decide (x < y) = false := by simp [h]
      have d2 : decide (y < x) = true := by simp [h2]
      clear h h2
      go_enter Try.func88, Try.ntmps88
      go_wp2
      all_goals go_ret
      all_goals exact ⟨ret_int hp.out.symm, by go_grown⟩
    · have hp : Hid (cmpI x y = 0) := by unfold Hid cmpI; simp [h, h2]
      have d1 : decide (x < y) = false := by simp [h]
      have d2 : decide (y < x) = false := by simp [h2]
      clear h h2
      go_enter Try.func88, Try.ntmps88
      go_wp2
      all_goals go_ret
      all_goals exact ⟨ret_int hp.out.symm, by go_grown⟩

theorem grownBy_of_below {w w' : World} (h : Below w.heap.size w w') (row : Option Nat) : w.grownBy w' row := ⟨h.os, h.tape, h.output, h.size, fun k hk _ => h.block k hk⟩
/-- How large a flat is. -/
def FlatD.wh (s : FlatD) : Int := IntKind.i64.wrap (s.Wide * s.High)
set_option maxHeartbeats 1000000 in
theorem sa_1 (s t : FlatD) (w : World) : Calls Try.prog 87 #[s.val, t.val] w fun e w' => e = .returned (.int .i64 (cmpI t.wh s.wh)) ∧ Below w.heap.size w w' := by
  obtain ⟨x, hx⟩ : ∃ x, t.wh = x := ⟨_, rfl⟩
  obtain ⟨y, hy⟩ : ∃ y, s.wh = y := ⟨_, rfl⟩
  have h1 : IntKind.i64.wrap (t.Wide * t.High) = x := hx
  have h2 : IntKind.i64.wrap (s.Wide * s.High) = y := hy
  rw [hx, hy]
  clear hx hy
  go_enter Try.func87, Try.ntmps87
  go_wp2_with fail
  refine (cmp_any x y _).mono ?_
  rintro e w1 ⟨rfl, hb1⟩
  go_wp2_with fail
  go_ret
  exact ⟨rfl, Below.on (by go_grown) (by first | (simp; done) | (simp; omega)) hb1⟩


/-- A flat put into a list behind the last one whose fines are not smaller. -/
def insR (x : FlatD) : List FlatD → List FlatD
  | [] => [x]
  | a :: L => if (a :: L).all (fun s => decide (s.wh < x.wh)) then x :: a :: L else a :: insR x L
/-- The elements in places j and j + 1 change places, and so on to the left, while the right one owes more. -/
def sinkL : Nat → List FlatD → List FlatD
  | 0, L => L
  | j + 1, L => if (L.getD j default).wh < (L.getD (j + 1) default).wh then sinkL j ((L.set (j + 1) (L.getD j default)).set j (L.getD (j + 1) default)) else L
/-- Where the flat comes to stand: behind the last one of A whose fines are not smaller. -/
def cutR (x : FlatD) (A : List FlatD) : Nat → Nat
  | 0 => 0
  | k + 1 => if (A.getD k default).wh < x.wh then cutR x A k else k + 1
theorem cutR_le (x : FlatD) (A : List FlatD) : ∀ k, cutR x A k ≤ k
  | 0 => Nat.le_refl _
  | k + 1 => by
    unfold cutR
    split
    · exact Nat.le_succ_of_le (cutR_le x A k)
    · exact Nat.le_refl _
theorem swap_app (x : FlatD) (A B : List FlatD) (k : Nat) (hk : k + 1 ≤ A.length) :
    (((A.take (k + 1) ++ x :: B).set (k + 1) ((A.take (k + 1) ++ x :: B).getD k default)).set k ((A.take (k + 1) ++ x :: B).getD (k + 1) default)) = A.take k ++ x :: (A.getD k default :: B) := by
  have h0 : (A.take (k + 1)).length = k + 1 := by rw [List.length_take]; omega
  have h1 : (A.take k).length = k := by rw [List.length_take]; omega
  have h2 : A.take (k + 1) = A.take k ++ [A.getD k default] := by
    rw [List.take_add_one]
    simp [List.getD, List.getElem?_eq_getElem (show k < A.length by omega)]
  have g1 : (A.take (k + 1) ++ x :: B).getD (k + 1) default = x := by simp [List.getD, List.getElem?_append_right, h0]
  have g2 : (A.take (k + 1) ++ x :: B).getD k default = A.getD k default := by
    rw [h2, List.append_assoc]
    simp [List.getD, List.getElem?_append_right, h1]
  rw [g1, g2, h2, List.append_assoc]
  generalize A.getD k default = a
  generalize hT : A.take k = T at h1
  rw [List.set_append_right _ _ (by omega), h1, List.set_append_right _ _ (by omega), h1]
  simp
/-- What sinks comes to stand where the insertion puts it. -/
theorem sink_app (x : FlatD) (A : List FlatD) : ∀ (k : Nat) (B : List FlatD), k ≤ A.length → sinkL k (A.take k ++ x :: B) = A.take (cutR x A k) ++ x :: ((A.take k).drop (cutR x A k) ++ B)
  | 0, B, _ => by simp [sinkL, cutR]
  | k + 1, B, hk => by
    have h0 : (A.take (k + 1)).length = k + 1 := by rw [List.length_take]; omega
    have h1 : (A.take k).length = k := by rw [List.length_take]; omega
    have h2 : A.take (k + 1) = A.take k ++ [A.getD k default] := by
      rw [List.take_add_one]
      simp [List.getD, List.getElem?_eq_getElem (show k < A.length by omega)]
    have g1 : (A.take (k + 1) ++ x :: B).getD (k + 1) default = x := by simp [List.getD, List.getElem?_append_right, h0]
    have g2 : (A.take (k + 1) ++ x :: B).getD k default = A.getD k default := by
      rw [h2, List.append_assoc]
      simp [List.getD, List.getElem?_append_right, h1]
    have hc := cutR_le x A k
    unfold sinkL cutR
    rw [g1, g2]
    by_cases h : (A.getD k default).wh < x.wh
    · have hsw := swap_app x A B k hk
      rw [g1, g2] at hsw
      rw [if_pos h, if_pos h, hsw]
      rw [sink_app x A k (A.getD k default :: B) (by omega)]
      rw [h2, List.drop_append_of_le_length (by omega)]
      simp
    · rw [if_neg h, if_neg h]
      simp [List.drop_take]

end Go.Proofs.Ytejpmomedclnhaa
