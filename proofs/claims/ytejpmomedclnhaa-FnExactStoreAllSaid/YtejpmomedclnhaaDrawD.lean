/-
  Slices of flats copied, by the reference. No condition.
-/
import Derived.Test.YtejpmomedclnhaaOwnD
import Derived.Deep.Cut
namespace Go.Proofs.Ytejpmomedclnhaa
open Go.RowKit
set_option linter.unusedVariables false

set_option maxHeartbeats 1000000 in
theorem own_spec (w : World) (v : Value) (L : List Int) (h : HasI w v L) (hL : L.length ≤ 1048576) : Calls Try.prog 105 #[v] w fun e w' => ∃ u, e = .returned u ∧ OwnJ w.heap.size w' u L ∧ Below w.heap.size w w' := by
  obtain ⟨i0, hi, hz0, hz1, hz2⟩ := info_parts info_int
  have hA : Below w.heap.size w (w.alloc (.cells #[] 3)) := by go_grown
  have hE := hid (ownI_empty w)
  have H := hid (h.below hA)
  obtain ⟨a, cap, rfl, hc, g, off, rfl, hg, _⟩ := h
  have HC : Hid (∀ j u, (L.map (Value.int .i64))[j]? = some u → (w.alloc (.cells #[] 3)).cell? ((⟨g, off, none⟩ : Addr).add j) = some u) := by
    intro j u hu
    have hj : j < L.length := by have := (List.getElem?_eq_some_iff.1 hu).1; simpa using this
    obtain ⟨a, cap, e, _, g', off', e2, _, hcell⟩ := H.out
    cases e
    cases e2
    rw [show ((⟨g, off, none⟩ : Addr).add j) = ⟨g, off + j, none⟩ by simp [Addr.add], hcell j hj]
    simp [hj] at hu
    rw [← hu]
    simp [List.getD, hj]
  clear H
  go_enter Try.func105, Try.ntmps105
  go_wp2_with (at_builtin; refine wpList_append_own_at _ rfl _ _ 24 rfl w.heap.size 3 i0 (.int .i64 0) 1 8 Try.underlying24 hi hz0 hz1 hz2 rfl (by decide) _ 0 [] rfl hE.out ⟨g, off, none⟩ L.length cap (L.map (Value.int .i64)) rfl ?c1 HC.out ?c2 ?c3 ?c4 ?c5 ?_)
  case c1 => simp
  case c2 => intro u hu; simp at hu; obtain ⟨a, _, rfl⟩ := hu; rfl
  case c3 => unfold maxLen; omega
  case c4 => omega
  case c5 => simp
  intro v' w2 hown hgrow hnn hat
  have hb2 : Below w.heap.size w w2 := hA.grown hgrow (by simp) (fun g hg => by simp [Value.ownBlock] at hg; omega)
  have ho : Hid (OwnJ w.heap.size w2 v' L) := by
    refine ⟨by unfold OwnI; simpa using hown, ?_⟩
    rcases hat with h | h
    · exact ⟨_, h⟩
    · exact ⟨_, h⟩
  clear hown hgrow hnn hat
  go_wp2_with fail
  go_ret
  exact ⟨_, rfl, ho.out, hb2⟩

end Go.Proofs.Ytejpmomedclnhaa
