/-
  The checksum of a string: program and reference agree. No condition.
-/
import Derived.Test.YteklomkncfjdlaaDoorBase
import Derived.Laws.IdiomStrings
namespace Go.Proofs.YteklomkncfjdlaaDoor
open Go.RowKit
set_option linter.unusedVariables false

/-- The checksum of the first k bytes. -/
def sumTo (s : ByteArray) : Nat → Int
  | 0 => 7
  | k + 1 => (41 * sumTo s k + (if h : k < s.size then ((s[k]'h).toNat : Int) else 0) + 1) % 999979

theorem sumTo_bd (s : ByteArray) (k : Nat) : 0 ≤ sumTo s k ∧ sumTo s k < 999979 := by
  cases k with
  | zero => simp [sumTo]
  | succ k => unfold sumTo; omega

theorem sumTo_step (s : ByteArray) (k : Nat) (h : k < s.size) : sumTo s (k + 1) = (41 * sumTo s k + ((s[k]'h).toNat : Int) + 1) % 999979 := by
  rw [sumTo, dif_pos h]

set_option maxHeartbeats 400000 in
theorem sum_spec (s : ByteArray) (w : World) (hs : s.size ≤ 1048576) :
    Calls Tryd.prog 70 #[.string s] w fun e w' => e = .returned (.int .i64 (sumTo s s.size)) ∧ w = w' := by
  go_enter Tryd.func70, Tryd.ntmps70
  go_wp2
  go_loop [3, 4] (fun a i => ∃ k : Nat, k ≤ s.size ∧ i = .int .i64 k ∧ a = .int .i64 (sumTo s k)) (fun _ i => s.size - (intOf i).toNat)
  case atStart => exact ⟨0, Nat.zero_le _, rfl, rfl⟩
  case round =>
    obtain ⟨k, hk, rfl, rfl⟩ := hrel
    obtain ⟨b0, b1⟩ := sumTo_bd s k
    by_cases hlt : k < s.size
    · have hst := hid (sumTo_step s k hlt)
      have hb := (s[k]'hlt).toNat_lt
      go_wp2
      go_round
      case rel => exact ⟨k + 1, by omega, by go_num, by rw [hst.out]⟩
      case measure => simp [intOf]; omega
    · have : k = s.size := by omega
      subst this
      go_wp2
      go_ret
      exact ⟨rfl, rfl⟩

theorem bytes_cell (w : World) (s : ByteArray) (cap k : Nat) (E : TypeId) (m : Nat × Nat) (h : k < s.size) : ((w.alloc (.cells (bytesRow s cap) E m)).drew).cell? ⟨w.heap.size, k, none⟩ = some (.int .u8 ((s[k]'h).toNat : Int)) := by
  have e : (w.alloc (.cells (bytesRow s cap) E m)).heap[w.heap.size]? = some (.cells (bytesRow s cap) E m) := by
    show (w.heap.push _)[w.heap.size]? = _
    simp
  show (match (w.alloc (.cells (bytesRow s cap) E m)).heap[w.heap.size]? with
    | some (.cells c _ _) => if (none : Option Nat).isSome then none else c[k]?
    | _ => none) = _
  rw [e]
  exact bytesRow_at s cap k h

set_option maxHeartbeats 400000 in
theorem sum_impl (s : ByteArray) (w : World) (hs : s.size ≤ 1048576) :
    Calls Tryd.prog 51 #[.string s] w fun e w' => e = .returned (.int .i64 (sumTo s s.size)) ∧ Below w.heap.size w w' := by
  have hcv := fun w => run_bytes_of_string (P := Tryd.prog) w 9 82 5 s Tryd.underlying9 Tryd.underlying82 Tryd.underlying5
  go_enter Tryd.func51, Tryd.ntmps51
  go_wp2
  clear hcv
  go_loop [3, 9] (fun a i => ∃ k : Nat, k ≤ s.size ∧ i = .int .i64 k ∧ a = .int .i64 (sumTo s k)) (fun _ i => s.size - (intOf i).toNat)
  case atStart => exact ⟨0, Nat.zero_le _, rfl, rfl⟩
  case round =>
    obtain ⟨k, hk, rfl, rfl⟩ := hrel
    obtain ⟨b0, b1⟩ := sumTo_bd s k
    by_cases hlt : k < s.size
    · have hst := hid (sumTo_step s k hlt)
      have hb := (s[k]'hlt).toNat_lt
      have hc := bytes_cell w s (grownCap w s.size 0 5) k 5 ((bytesRow s (grownCap w s.size 0 5)).size, (bytesRow s (grownCap w s.size 0 5)).size + 1) hlt
      go_wp2
      go_round
      case rel => exact ⟨k + 1, by omega, by go_num, by rw [hst.out]⟩
      case measure => simp [intOf]; omega
    · have : k = s.size := by omega
      subst this
      go_wp2
      go_ret
      exact ⟨rfl, by go_grown⟩

end Go.Proofs.YteklomkncfjdlaaDoor
