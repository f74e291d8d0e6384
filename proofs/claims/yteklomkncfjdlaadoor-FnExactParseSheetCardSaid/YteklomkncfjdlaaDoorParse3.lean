/-
  ParseSheet: the law's walk. No condition.
-/
import Derived.Test.YteklomkncfjdlaaDoorParse1
import Derived.Test.YteklomkncfjdlaaDoorParse2
namespace Go.Proofs.YteklomkncfjdlaaDoor
open Go.RowKit
set_option linter.unusedVariables false
theorem eqSheet_same (s : SheetD) (w : World) : Calls Tryd.prog 38 #[s.val, s.val] w fun e w' => e = .returned (.bool true) ∧ Below w.heap.size w w' := by
  go_enter Tryd.func38, Tryd.ntmps38
  go_wp2
  go_ret
  exact ⟨rfl, by go_grown⟩

set_option maxHeartbeats 1000000 in
theorem walk_ExactParseSheet (w : World) (s : ByteArray) (hs : s.size ≤ maxLen) (ht : Tb w.heap.size w) (he : Er w.heap.size w) : Calls Tryd.prog 11 #[.string s] w fun e w' => e = .returned (.bool true) ∧ Below w.heap.size w w' := by
  have HT := hid ht
  have HE := hid he
  clear ht he
  obtain ⟨x, hx⟩ : ∃ x, psV s = x := ⟨_, rfl⟩
  obtain ⟨b, hb⟩ : ∃ b, psB s = b := ⟨_, rfl⟩
  have HS := hid hx
  have HBB := hid hb
  clear hx hb
  by_cases h : s.size ≤ 1048576
  · go_enter Tryd.func11, Tryd.ntmps11
    go_wp2_with fail
    refine (parseSheet_spec s _ h).mono ?_
    rw [HS.out, HBB.out]
    rintro e w1 ⟨rfl, hb1⟩
    go_wp2_with fail
    have A1 : Below w.heap.size w (w1.alloc (.cells #[.int .i64 x.Id, .int .i64 x.Row, .int .i64 x.Col, .int .i64 x.Scale, .int .i64 x.Year] 38)) := hb1.alloc hb1.size _
    refine (parseSheet_impl s w.heap.size _ A1.size (HT.out.via A1) (HE.out.on (Nat.le_refl _) A1) h).mono ?_
    rw [HS.out, HBB.out]
    rintro e w2 ⟨rfl, hb2⟩
    have BX := BoxIs.new hb2
    have q0 := BX.cell 0 (by simp)
    have q1 := BX.cell 1 (by simp)
    have q2 := BX.cell 2 (by simp)
    have q3 := BX.cell 3 (by simp)
    have q4 := BX.cell 4 (by simp)
    have lN := BX.lt
    have B2 := Below.on A1 A1.size hb2
    go_wp2_with fail
    refine (eqSheet_same x _).mono ?_
    rintro e w3 ⟨rfl, hb3⟩
    go_wp2_with fail
    go_ret
    exact ⟨rfl, Below.on (B2.alloc B2.size _) (by have := B2.size; simp; omega) hb3⟩
  · unfold maxLen at hs
    go_enter Tryd.func11, Tryd.ntmps11
    go_wp2_with fail
    go_ret
    exact ⟨rfl, Below.refl _ _⟩
end Go.Proofs.YteklomkncfjdlaaDoor
