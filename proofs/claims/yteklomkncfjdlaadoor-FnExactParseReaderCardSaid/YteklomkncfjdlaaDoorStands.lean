/-
  Whether a byte stands in a text; the parts of a text between a byte: the reference's loops. No condition.
-/
import Derived.Test.YteklomkncfjdlaaDoorSplitP
import Derived.Test.YteklomkncfjdlaaDoorOwnS
import Derived.IntWalk
namespace Go.Proofs.YteklomkncfjdlaaDoor
open Go.RowKit
set_option linter.unusedVariables false
set_option maxRecDepth 100000

theorem stands_spec (s : ByteArray) (c : UInt8) (w : World) (hs : s.size ≤ 16777216) : Calls Tryd.prog 49 #[.string s, .int .u8 (c.toNat : Int)] w fun e w' => e = .returned (.bool (stB s c)) ∧ w = w' := by
  have hcb := c.toNat_lt
  go_enter Tryd.func49, Tryd.ntmps49
  go_wp2
  go_loop [5] (fun i => ∃ k : Nat, k ≤ s.size ∧ i = .int .i64 k ∧ Hid (∀ i (hi : i < s.size), i < k → s[i]'hi ≠ c)) (fun i => s.size - (intOf i).toNat)
  case atStart => exact ⟨0, Nat.zero_le _, rfl, fun i _ hi => absurd hi (by omega)⟩
  case round =>
    obtain ⟨k, hk, rfl, hf⟩ := hrel
    by_cases hlt : k < s.size
    · have hb := (s[k]'hlt).toNat_lt
      by_cases h1 : ((s[k]'hlt).toNat : Int) = (c.toNat : Int)
      · have hp : Hid (s[k]'hlt = c) := UInt8.toNat_inj.1 (by omega)
        go_wp2
        go_ret
        exact ⟨ret_bool (stB_hit hlt hp.out).symm, rfl⟩
      · have hp : Hid (s[k]'hlt ≠ c) := fun e => h1 (by rw [e])
        go_wp2
        go_round
        case rel => exact ⟨k + 1, by omega, by go_num, fun i hi hik => by by_cases e : i = k; subst e; exact hp.out; exact hf.out i hi (by omega)⟩
        case measure => simp [intOf]; omega
    · have hall : Hid (stB s c = false) := stB_none fun i hi => hf.out i hi (by omega)
      go_wp2
      go_ret
      exact ⟨ret_bool hall.out.symm, rfl⟩

set_option maxHeartbeats 1000000 in
theorem split_spec (s : ByteArray) (c : UInt8) (w : World) (hs : s.size ≤ 1048576) :
    Calls Tryd.prog 46 #[.string s, .int .u8 (c.toNat : Int)] w fun e w' => ∃ v, e = .returned v ∧ OwnS w.heap.size w' v (splitP s c) ∧ Below w.heap.size w w' := by
  have hcb := c.toNat_lt
  obtain ⟨i0, hi, hz0, hz1, hz2⟩ := info_parts info_string
  go_enter Tryd.func46, Tryd.ntmps46
  go_wp2
  go_loopw [5, 6, 7] (fun v f i wr => ∃ k fr : Nat, ∃ L : List ByteArray, k ≤ s.size ∧ fr ≤ k ∧ L.length ≤ k ∧ i = .int .i64 k ∧ f = .int .i64 fr ∧ Below w.heap.size w wr ∧ Hid (OwnS w.heap.size wr v L) ∧ Hid (SpR s c k L fr)) (fun _ _ i _ => s.size - (intOf i).toNat)
  case atStart => exact ⟨0, 0, [], Nat.zero_le _, Nat.le_refl _, Nat.le_refl _, rfl, rfl, by go_grown, OwnS.empty w, SpR.zero s c⟩
  case round =>
    obtain ⟨k, fr, L, hk, hfk, hL, rfl, rfl, hB, ho, hR⟩ := hrel
    by_cases hlt : k < s.size
    · have hb := (s[k]'hlt).toNat_lt
      by_cases h1 : ((s[k]'hlt).toNat : Int) = (c.toNat : Int)
      · have hp : Hid (s[k]'hlt = c) := UInt8.toNat_inj.1 (by omega)
        have hR1 := hid (hR.out.hit hlt hp.out)
        have g1 : (0 : Int) ≤ (fr : Int) := by omega
        have g2 : (fr : Int) ≤ (k : Int) := by omega
        have g3 : (k : Int) ≤ (s.size : Int) := by omega
        have g4 : (0 : Int) ≤ (k : Int) := by omega
        go_wp2_with (at_builtin; refine wpList_append_own_at _ rfl _ _ 25 rfl w.heap.size 9 i0 (.string ByteArray.empty) 1 16 Tryd.underlying25 hi hz0 hz1 hz2 rfl (by decide) _ _ _ rfl (World.ownsRow.alloc ho.out _) ⟨wr.heap.size, 0, none⟩ 1 1 [.string (s.extract fr k)] rfl rfl ?c1 ?c2 ?c3 ?c4 ?c5 ?_)
        case c1 => exact cell_one_new _ _ _
        case c2 => intro u hu; simp at hu; subst hu; rfl
        case c3 => unfold maxLen; omega
        case c4 => omega
        case c5 => have := hB.size; simp; omega
        · intro v' w2 hown' hgrow _ _
          have hb2 : Below w.heap.size w w2 := (hB.alloc hB.size _).grown hgrow (by have := hB.size; simp; omega) (fun g hg => by have := (World.ownsRow.lt ho.out g hg).1; omega)
          have ho2 : Hid (OwnS w.heap.size w2 v' (L ++ [s.extract fr k])) := by
            unfold Hid OwnS
            simpa using hown'
          clear hown' hgrow ho
          go_wp2_with fail
          go_roundw
          case rel => exact ⟨k + 1, k + 1, _, by omega, Nat.le_refl _, by simp; omega, by go_num, by go_num, hb2, ho2.out, hR1.out⟩
          case measure => simp [intOf]; omega
      · have hp : Hid (s[k]'hlt ≠ c) := fun e => h1 (by rw [e])
        have hR1 := hid (hR.out.miss hlt hp.out)
        go_wp2_with fail
        go_roundw
        case rel => exact ⟨k + 1, fr, L, by omega, by omega, by omega, by go_num, rfl, hB, ho.out, hR1.out⟩
        case measure => simp [intOf]; omega
    · obtain rfl : k = s.size := by omega
      have hD := hid hR.out.done
      have g1 : (0 : Int) ≤ (fr : Int) := by omega
      have g2 : (fr : Int) ≤ (s.size : Int) := by omega
      have g4 : (0 : Int) ≤ (s.size : Int) := by omega
      go_wp2_with (at_builtin; refine wpList_append_own_at _ rfl _ _ 25 rfl w.heap.size 9 i0 (.string ByteArray.empty) 1 16 Tryd.underlying25 hi hz0 hz1 hz2 rfl (by decide) _ _ _ rfl (World.ownsRow.alloc ho.out _) ⟨wr.heap.size, 0, none⟩ 1 1 [.string (s.extract fr s.size)] rfl rfl ?c1 ?c2 ?c3 ?c4 ?c5 ?_)
      case c1 => exact cell_one_new _ _ _
      case c2 => intro u hu; simp at hu; subst hu; rfl
      case c3 => unfold maxLen; omega
      case c4 => omega
      case c5 => have := hB.size; simp; omega
      · intro v' w2 hown' hgrow _ _
        have hb2 : Below w.heap.size w w2 := (hB.alloc hB.size _).grown hgrow (by have := hB.size; simp; omega) (fun g hg => by have := (World.ownsRow.lt ho.out g hg).1; omega)
        have ho2 : Hid (OwnS w.heap.size w2 v' (splitP s c)) := by
          rw [← hD.out]
          unfold Hid OwnS
          simpa using hown'
        clear hown' hgrow ho
        go_wp2_with fail
        go_ret
        exact ⟨v', rfl, ho2.out, hb2⟩
end Go.Proofs.YteklomkncfjdlaaDoor
