/-
  ParseReader: the law's walk. No condition.
-/
import Derived.Test.YteklomkncfjdlaaDoorRParse1
import Derived.Test.YteklomkncfjdlaaDoorRParse2
namespace Go.Proofs.YteklomkncfjdlaaDoor
open Go.RowKit
set_option linter.unusedVariables false
theorem eqReader_sameP (s : ReaderD) (w : World) : Calls Tryd.prog 41 #[s.val, s.val] w fun e w' => e = .returned (.bool true) ∧ Below w.heap.size w w' := by
  go_enter Tryd.func41, Tryd.ntmps41
  go_wp2
  go_ret
  exact ⟨rfl, by go_grown⟩

set_option maxHeartbeats 1000000 in
theorem walk_ExactParseReader (w : World) (s : ByteArray) (hs : s.size ≤ maxLen) (ht : Tb w.heap.size w) (he : Er w.heap.size w) : Calls Tryd.prog 12 #[.string s] w fun e w' => e = .returned (.bool true) ∧ Below w.heap.size w w' := by
  have HT := hid ht
  have HE := hid he
  clear ht he
  obtain ⟨x, hx⟩ : ∃ x, prV s = x := ⟨_, rfl⟩
  obtain ⟨b, hb⟩ : ∃ b, prB s = b := ⟨_, rfl⟩
  have HS := hid hx
  have HBB := hid hb
  clear hx hb
  by_cases h : s.size ≤ 1048576
  · go_enter Tryd.func12, Tryd.ntmps12
    go_wp2_with fail
    refine (parseReader_spec s _ h).mono ?_
    rw [HS.out, HBB.out]
    rintro e w1 ⟨rfl, hb1⟩
    go_wp2_with fail
    have A1 : Below w.heap.size w (w1.alloc (.cells #[.int .i64 x.Id, .string x.Name, .int .i64 x.Joined, .int .i64 x.Class, .int .i64 x.Fines] 51)) := hb1.alloc hb1.size _
    refine (parseReader_impl s w.heap.size _ A1.size (HT.out.via A1) (HE.out.on (Nat.le_refl _) A1) h).mono ?_
    rw [HS.out, HBB.out]
    rintro e w2 ⟨rfl, hb2⟩
    have BX := BoxIs.new hb2
    have q0 := BX.cell 0 (by simp)
    have q1 := BX.cell 1 (by simp)
    have q2 := BX.cell 2 (by simp)
    have q3 := BX.cell 3 (by simp)
    have q4 := BX.cell 4 (by simp)
    have lN := BX.lt
    have B2 := Below.on A1 A1.size hb2
    go_wp2_with fail
    refine (eqReader_sameP x _).mono ?_
    rintro e w3 ⟨rfl, hb3⟩
    go_wp2_with fail
    go_ret
    exact ⟨rfl, Below.on (B2.alloc B2.size _) (by have := B2.size; simp; omega) hb3⟩
  · unfold maxLen at hs
    go_enter Tryd.func12, Tryd.ntmps12
    go_wp2_with fail
    go_ret
    exact ⟨rfl, Below.refl _ _⟩
end Go.Proofs.YteklomkncfjdlaaDoor
