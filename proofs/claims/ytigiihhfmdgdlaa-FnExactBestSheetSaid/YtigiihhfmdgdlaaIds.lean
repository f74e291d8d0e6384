/-
  The ids of all sheets for which a test holds. No condition.
-/
import Derived.Test.YtigiihhfmdgdlaaOwn
import Derived.Test.YtigiihhfmdgdlaaShapes
import Derived.Test.YtigiihhfmdgdlaaWalks1
namespace Go.Proofs.Ytigiihhfmdgdlaa
open Go.RowKit
set_option linter.unusedVariables false

set_option maxHeartbeats 1000000 in
theorem idsOf_any (w : World) (b off len cap : Nat) (X : Nat → SheetD) (g : FuncId) (cs : Array Value) (p : Nat → Bool) (hcall : ∀ args w, (callFunc g args).run Try.prog w = .ok (.enter g args) w) (h : Rw w b off 5 len (fun i => (X i).cells)) (hm : len ≤ 1048576) (hlc : len ≤ cap)
    (hg : ∀ (x : Later w) (i : Nat), i < len → Calls Try.prog g (#[(X i).val] ++ cs) x.wd fun e w' => e = .returned (.bool (p i)) ∧ Below x.wd.heap.size x.wd w') :
    Calls Try.prog 58 #[.slice (some ⟨b, off, none⟩) len cap, .func (.func g) #[] cs] w (RetI (selI p (fun i => (X i).Id) len) w) := by
  have H := hid h.2
  have HG := hid hg
  have hb := h.1
  clear h hg
  obtain ⟨i0, hi, hz0, hz1, hz2⟩ := info_parts info_int
  go_enter Try.func58, Try.ntmps58
  go_wp2
  go_loopw [5, 10] (fun v i wr => ∃ k : Nat, k ≤ len ∧ i = .int .i64 k ∧ Below w.heap.size w wr ∧ Hid (OwnI w.heap.size wr v (selI p (fun i => (X i).Id) k))) (fun _ i _ => len - (intOf i).toNat)
  case atStart => exact ⟨0, by omega, rfl, Below.refl _ _, OwnI.nil _ _⟩
  case round =>
    obtain ⟨k, hk, rfl, hB, ho⟩ := hrel
    by_cases hlt : k < len
    · have c0 : wr.cell? ⟨b, off + k * 5, none⟩ = some (.int .i64 (X k).Id) := (hB.cell hb).trans (H.out k hlt 0 (by omega))
      have c1 : wr.cell? ⟨b, off + k * 5 + 1, none⟩ = some (.int .i64 (X k).Row) := (hB.cell hb).trans (H.out k hlt 1 (by omega))
      have c2 : wr.cell? ⟨b, off + k * 5 + 2, none⟩ = some (.int .i64 (X k).Col) := (hB.cell hb).trans (H.out k hlt 2 (by omega))
      have c3 : wr.cell? ⟨b, off + k * 5 + 3, none⟩ = some (.int .i64 (X k).Scale) := (hB.cell hb).trans (H.out k hlt 3 (by omega))
      have c4 : wr.cell? ⟨b, off + k * 5 + 4, none⟩ = some (.int .i64 (X k).Year) := (hB.cell hb).trans (H.out k hlt 4 (by omega))
      have hs := hB.size
      have hB0 : Below w.heap.size w (wr.alloc (.cells #[.int .i64 (X k).Id, .int .i64 (X k).Row, .int .i64 (X k).Col, .int .i64 (X k).Scale, .int .i64 (X k).Year] 73)) := hB.alloc hB.size _
      go_wp2_with fail
      refine (HG.out ⟨_, hB0⟩ k hlt).mono ?_
      rintro e w1 ⟨rfl, hb1⟩
      have hB1 : Below w.heap.size w w1 := Below.on hB0 hB0.size hb1
      have hs1 : wr.heap.size < w1.heap.size := by have := hb1.size; simp at this; omega
      have q0 : w1.cell? ⟨wr.heap.size, 0, none⟩ = some (.int .i64 (X k).Id) := (hb1.cell (by simp)).trans (by simp [go_sem])
      have ho1 := hid ((ho.out.below (Below.refl _ _ |>.alloc (Nat.le_refl _) _)).below hb1)
      have hle := selI_le p (fun i => (X i).Id) k
      clear c0 c1 c2 c3 c4
      by_cases hp : p k = true
      · go_wp2_with (at_builtin; refine wpList_append_own_at _ rfl _ _ 53 rfl w.heap.size 3 i0 (.int .i64 0) 1 8 Try.underlying53 hi hz0 hz1 hz2 rfl (by decide) _ _ _ rfl (World.ownsRow.alloc ho1.out _) ⟨w1.heap.size, 0, none⟩ 1 1 [.int .i64 (X k).Id] rfl rfl ?c1 ?c2 ?c3 ?c4 ?c5 ?_)
        case c1 => exact cell_one_new _ _ _
        case c2 => intro u hu; simp at hu; subst hu; rfl
        case c3 => unfold maxLen; omega
        case c4 => omega
        case c5 => have := hB1.size; simp; omega
        · intro v' w2 hown' hgrow _ _
          have hb2 : Below w.heap.size w w2 := (hB1.alloc hB1.size _).grown hgrow (by have := hB1.size; simp; omega) (fun g hg => by have := (World.ownsRow.lt ho1.out g hg).1; omega)
          have ho2 : Hid (OwnI w.heap.size w2 v' (selI p (fun i => (X i).Id) (k + 1))) := by
            rw [selI_yes hp]
            unfold Hid OwnI
            simpa using hown'
          clear hown' hgrow ho1
          go_wp2_with fail
          go_roundw
          case rel => exact ⟨k + 1, by omega, by go_num, hb2, ho2⟩
          case measure => simp [intOf]; omega
      · have hp' : p k = false := by simpa using hp
        clear hp
        go_wp2_with fail
        go_roundw
        case rel => exact ⟨k + 1, by omega, by go_num, hB1, by rw [selI_no hp']; exact ho1⟩
        case measure => simp [intOf]; omega
    · obtain rfl : k = len := by omega
      go_wp2_with fail
      go_ret
      exact ⟨_, rfl, ho.out, hB⟩

end Go.Proofs.Ytigiihhfmdgdlaa
