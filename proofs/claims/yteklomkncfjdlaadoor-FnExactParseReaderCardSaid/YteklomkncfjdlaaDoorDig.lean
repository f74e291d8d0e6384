/-
  Decimal numerals: what the reference's own recursion writes. No condition.
-/
import Derived.Test.YteklomkncfjdlaaDoorWalks1
import Derived.Test.YteklomkncfjdlaaDoorMem
import Derived.Lib.ItoaNum
import Derived.Lib.ItoaLen
import Derived.Laws.Concat
import Derived.IntWalk
namespace Go.Proofs.YteklomkncfjdlaaDoor
open Go.RowKit
set_option linter.unusedVariables false

/-- A text out of its bytes. -/
def txt (l : List UInt8) : ByteArray := ⟨l.toArray⟩
theorem txt_append (a b : List UInt8) : txt a ++ txt b = txt (a ++ b) := by
  apply ByteArray.ext
  simp [txt, ByteArray.data_append]
theorem txt_list (s : ByteArray) : txt s.data.toList = s := by
  apply ByteArray.ext
  simp [txt]
theorem txt_size (l : List UInt8) : (txt l).size = l.length := by simp [txt, ByteArray.size]
theorem dec_len {u : Nat} (h : u ≤ 9223372036854775807) : (Lib.decDigits u).length ≤ 20 := by rw [Lib.decDigits_length]; exact Lib.nDigits_le20 u (by omega)
theorem txt_inj {a b : List UInt8} (h : txt a = txt b) : a = b := by
  have := congrArg (fun x : ByteArray => x.data.toList) h
  simpa [txt] using this

def tenDigits : ByteArray := { data := #[48, 49, 50, 51, 52, 53, 54, 55, 56, 57] }
theorem digit_fin : ∀ d : Fin 10, (tenDigits.extract d.val (d.val + 1)).data.toList = [UInt8.ofNat (48 + d.val)] := by decide +kernel
/-- The byte of a digit. -/
def dch (d : Nat) : UInt8 := UInt8.ofNat (48 + d)
theorem dec_small {u : Nat} (h : u < 10) : Lib.decDigits u = [dch u] := Lib.decDigits_one h
theorem dec_big {u : Nat} (h : ¬ u < 10) : Lib.decDigits u = Lib.decDigits (u / 10) ++ [dch (u % 10)] := by rw [Lib.decDigits, dif_neg h]; rfl
theorem digit_at (d : Nat) (h : d < 10) : ({ data := #[48, 49, 50, 51, 52, 53, 54, 55, 56, 57] } : ByteArray).extract d (d + 1) = txt [dch d] := by
  have := digit_fin ⟨d, h⟩
  rw [← txt_list (ByteArray.extract _ _ _)]
  exact congrArg txt this

set_option maxHeartbeats 1000000 in
theorem num_nat (u : Nat) (hu : u ≤ 9223372036854775807) (w : World) : Calls Tryd.prog 43 #[.int .i64 (u : Int)] w fun e w' => e = .returned (.string (txt (Lib.decDigits u))) ∧ Below w.heap.size w w' := by
  induction u using Nat.strongRecOn generalizing w with
  | _ u ih =>
    by_cases h : u < 10
    · have hd := digit_at u h
      rw [dec_small h]
      clear ih
      go_enter Tryd.func43, Tryd.ntmps43
      go_wp2
      go_ret
      exact ⟨rfl, Below.refl _ _⟩
    · rw [dec_big h, ← txt_append]
      obtain ⟨q, hq⟩ : ∃ q, q = u / 10 := ⟨_, rfl⟩
      obtain ⟨d, hd⟩ : ∃ d, d = u % 10 := ⟨_, rfl⟩
      rw [← hq, ← hd]
      have hx := digit_at d (by omega)
      have IH := hid (fun (x : Later w) => ih q (by omega) (by omega) x.wd)
      have q1 : (u : Int).tdiv 10 = (q : Int) := by rw [Int.tdiv_eq_ediv_of_nonneg (by omega)]; omega
      have d1 : (u : Int).tmod 10 = (d : Int) := by rw [Int.tmod_eq_emod_of_nonneg (by omega)]; omega
      have e1 : IntKind.i64.wrap (q : Int) = (q : Int) := IntWalk.i64_in _ (by omega)
      have e2 : IntKind.i64.wrap ((d : Int) + 1) = (d : Int) + 1 := IntWalk.i64_in _ (by omega)
      have e3 : (0 : Int) ≤ (d : Int) := by omega
      have e4 : (d : Int) ≤ (d : Int) + 1 := by omega
      have e5 : (d : Int) + 1 ≤ 10 := by omega
      have e6 : ((d : Int) + 1).toNat = d + 1 := by omega
      have s1 : ((txt (Lib.decDigits q)).size : Int) ≤ 8388608 := by rw [txt_size]; have := dec_len (u := q) (by omega); omega
      have s2 : ((txt [dch d]).size : Int) ≤ 8388608 := by rw [txt_size]; simp
      clear ih hq hd
      go_enter Tryd.func43, Tryd.ntmps43
      go_wp2_with fail
      refine region_later (by kernel_rfl) (by kernel_rfl) ?_
      repeat (go_big_quiet_step ((go_at_call 43; refine calls_later (IH.out _))))
      refine wpQuiet_nil ?_
      intro _ hw'
      obtain ⟨x, rfl⟩ := hw'
      clear q1 d1 e1 e2 e6
      go_wp2_with fail
      go_ret
      exact ⟨rfl, x.below⟩

/-- The reference writes a number's decimal numeral. -/
theorem num_spec (n : Int) (h0 : -9223372036854775807 ≤ n) (h1 : n ≤ 9223372036854775807) (w : World) : Calls Tryd.prog 43 #[.int .i64 n] w fun e w' => e = .returned (.string (txt (Lib.itoa n))) ∧ Below w.heap.size w w' := by
  by_cases h : n < 0
  · obtain ⟨u, rfl⟩ : ∃ u : Nat, n = -(u : Int) := ⟨n.natAbs, by omega⟩
    have hu : u ≤ 9223372036854775807 := by omega
    rw [show Lib.itoa (-(u : Int)) = [45] ++ Lib.decDigits u by unfold Lib.itoa; rw [if_pos h]; simp, ← txt_append]
    have s1 : ((txt (Lib.decDigits u)).size : Int) ≤ 8388608 := by rw [txt_size]; have := dec_len hu; omega
    have s2 : ((txt [45]).size : Int) ≤ 8388608 := by rw [txt_size]; simp
    have e1 : - -(u : Int) = (u : Int) := by omega
    have hcon : ({ data := #[45] } : ByteArray) = txt [45] := rfl
    go_enter Tryd.func43, Tryd.ntmps43
    go_wp2_with fail
    refine (num_nat u hu _).mono ?_
    rintro e w1 ⟨rfl, hb⟩
    go_wp2_with fail
    go_ret
    exact ⟨rfl, hb⟩
  · obtain ⟨u, rfl⟩ : ∃ u : Nat, n = (u : Int) := ⟨n.toNat, by omega⟩
    rw [show Lib.itoa (u : Int) = Lib.decDigits u by unfold Lib.itoa; rw [if_neg h]; simp]
    exact num_nat u (by omega) w
end Go.Proofs.YteklomkncfjdlaaDoor
