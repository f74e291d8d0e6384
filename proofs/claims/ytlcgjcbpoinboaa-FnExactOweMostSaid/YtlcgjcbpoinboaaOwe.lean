/-
  Readers by their fines, the greatest first: how two are compared; insertion from the right. No condition.
-/
import Derived.Test.YtlcgjcbpoinboaaCloneReader
import Derived.Test.YtlcgjcbpoinboaaRipe
namespace Go.Proofs.Ytlcgjcbpoinboaa
open Go.RowKit
set_option linter.unusedVariables false
set_option maxRecDepth 100000

def cmpI (x y : Int) : Int := if x < y then -1 else if y < x then 1 else 0
theorem cmpI_lt (x y : Int) : decide (cmpI x y < 0) = decide (x < y) := by
  unfold cmpI
  by_cases h : x < y
  · simp [h]
  · by_cases h2 : y < x
    · simp [h, h2]
    · simp [h, h2]

theorem cmp_any (x y : Int) (w : World) : Calls Try.prog 81 #[.int .i64 x, .int .i64 y] w fun e w' => e = .returned (.int .i64 (cmpI x y)) ∧ Below w.heap.size w w' := by
  by_cases h : x < y
  · have hp : Hid (cmpI x y = -1) := by unfold Hid cmpI; simp [h]
    have d1 : decide (x < y) = true := by simp [h]
    have d2 : decide (y < x) = false := by simp; omega
    clear h
    go_enter Try.func81, Try.ntmps81
    go_wp2
    all_goals go_ret
    all_goals exact ⟨ret_int hp.out.symm, by go_grown⟩
  · by_cases h2 : y < x
    · have hp : Hid (cmpI x y = 1) := by unfold Hid cmpI; simp [h, h2]
      have d1 : decide (x < y) = false := by simp [h]
      have d2 : decide (y < x) = true := by simp [h2]
      clear h h2
      go_enter Try.func81, Try.ntmps81
      go_wp2
      all_goals go_ret
      all_goals exact ⟨ret_int hp.out.symm, by go_grown⟩
    · have hp : Hid (cmpI x y = 0) := by unfold Hid cmpI; simp [h, h2]
      have d1 : decide (x < y) = false := by simp [h]
      have d2 : decide (y < x) = false := by simp [h2]
      clear h h2
      go_enter Try.func81, Try.ntmps81
      go_wp2
      all_goals go_ret
      all_goals exact ⟨ret_int hp.out.symm, by go_grown⟩

theorem owe_1 (s t : ReaderD) (w : World) : Calls Try.prog 80 #[s.val, t.val] w fun e w' => e = .returned (.int .i64 (cmpI t.Fines s.Fines)) ∧ Below w.heap.size w w' := by
  go_enter Try.func80, Try.ntmps80
  go_wp2_with fail
  refine (cmp_any t.Fines s.Fines _).mono ?_
  rintro e w1 ⟨rfl, hb1⟩
  go_wp2_with fail
  go_ret
  exact ⟨rfl, Below.on (by go_grown) (by first | (simp; done) | (simp; omega)) hb1⟩

/-- A reader put into a list behind the last one whose fines are not smaller. -/
def insR (x : ReaderD) : List ReaderD → List ReaderD
  | [] => [x]
  | a :: L => if (a :: L).all (fun s => decide (s.Fines < x.Fines)) then x :: a :: L else a :: insR x L
/-- The elements in places j and j + 1 change places, and so on to the left, while the right one owes more. -/
def sinkL : Nat → List ReaderD → List ReaderD
  | 0, L => L
  | j + 1, L => if (L.getD j default).Fines < (L.getD (j + 1) default).Fines then sinkL j ((L.set (j + 1) (L.getD j default)).set j (L.getD (j + 1) default)) else L
/-- Where the reader comes to stand: behind the last one of A whose fines are not smaller. -/
def cutR (x : ReaderD) (A : List ReaderD) : Nat → Nat
  | 0 => 0
  | k + 1 => if (A.getD k default).Fines < x.Fines then cutR x A k else k + 1
theorem cutR_le (x : ReaderD) (A : List ReaderD) : ∀ k, cutR x A k ≤ k
  | 0 => Nat.le_refl _
  | k + 1 => by
    unfold cutR
    split
    · exact Nat.le_succ_of_le (cutR_le x A k)
    · exact Nat.le_refl _
theorem swap_app (x : ReaderD) (A B : List ReaderD) (k : Nat) (hk : k + 1 ≤ A.length) :
    (((A.take (k + 1) ++ x :: B).set (k + 1) ((A.take (k + 1) ++ x :: B).getD k default)).set k ((A.take (k + 1) ++ x :: B).getD (k + 1) default)) = A.take k ++ x :: (A.getD k default :: B) := by
  have h0 : (A.take (k + 1)).length = k + 1 := by rw [List.length_take]; omega
  have h1 : (A.take k).length = k := by rw [List.length_take]; omega
  have h2 : A.take (k + 1) = A.take k ++ [A.getD k default] := by
    rw [List.take_add_one]
    simp [List.getD, List.getElem?_eq_getElem (show k < A.length by omega)]
  have g1 : (A.take (k + 1) ++ x :: B).getD (k + 1) default = x := by simp [List.getD, List.getElem?_append_right, h0]
  have g2 : (A.take (k + 1) ++ x :: B).getD k default = A.getD k default := by
    rw [h2, List.append_assoc]
    simp [List.getD, List.getElem?_append_right, h1]
  rw [g1, g2, h2, List.append_assoc]
  generalize A.getD k default = a
  generalize hT : A.take k = T at h1
  rw [List.set_append_right _ _ (by omega), h1, List.set_append_right _ _ (by omega), h1]
  simp
/-- What sinks comes to stand where the insertion puts it. -/
theorem sink_app (x : ReaderD) (A : List ReaderD) : ∀ (k : Nat) (B : List ReaderD), k ≤ A.length → sinkL k (A.take k ++ x :: B) = A.take (cutR x A k) ++ x :: ((A.take k).drop (cutR x A k) ++ B)
  | 0, B, _ => by simp [sinkL, cutR]
  | k + 1, B, hk => by
    have h0 : (A.take (k + 1)).length = k + 1 := by rw [List.length_take]; omega
    have h1 : (A.take k).length = k := by rw [List.length_take]; omega
    have h2 : A.take (k + 1) = A.take k ++ [A.getD k default] := by
      rw [List.take_add_one]
      simp [List.getD, List.getElem?_eq_getElem (show k < A.length by omega)]
    have g1 : (A.take (k + 1) ++ x :: B).getD (k + 1) default = x := by simp [List.getD, List.getElem?_append_right, h0]
    have g2 : (A.take (k + 1) ++ x :: B).getD k default = A.getD k default := by
      rw [h2, List.append_assoc]
      simp [List.getD, List.getElem?_append_right, h1]
    have hc := cutR_le x A k
    unfold sinkL cutR
    rw [g1, g2]
    by_cases h : (A.getD k default).Fines < x.Fines
    · have hsw := swap_app x A B k hk
      rw [g1, g2] at hsw
      rw [if_pos h, if_pos h, hsw]
      rw [sink_app x A k (A.getD k default :: B) (by omega)]
      rw [h2, List.drop_append_of_le_length (by omega)]
      simp
    · rw [if_neg h, if_neg h]
      simp [List.drop_take]

end Go.Proofs.Ytlcgjcbpoinboaa
