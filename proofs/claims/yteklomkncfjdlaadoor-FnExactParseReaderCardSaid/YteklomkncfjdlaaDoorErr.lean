/-
  What the rows' lists of variables say of the library's two errors. No condition.
-/
import Derived.Test.YteklomkncfjdlaaDoorRead
import Derived.Stop.LaidErr
namespace Go.Proofs.YteklomkncfjdlaaDoor
open Go.ChangeShapes Go.RowKit

theorem name_star : "*" ++ "errors.errorString" = "*errors.errorString" := by decide
theorem name_err (u : TypeId) (h : Tryd.prog.typeName? 3 u = some "*errors.errorString") : u = 117 :=
  typeName_ptr_named (nm := "errors.errorString") (by rw [name_star]; kernel_rfl) (by kernel_rfl) (by decide) u (by rw [name_star]; exact h)

theorem er_of_laid {W : World} {rest : List (String × DataW Unit)} (h : laidMet Tryd.prog (("strconv.ErrRange", Rows.laid_strconv_ErrRange) :: ("strconv.ErrSyntax", Rows.laid_strconv_ErrSyntax) :: rest) W) : Er W.heap.size W := by
  obtain ⟨a1, s1, h1, _⟩ := laid_sentinel h (g := 2) (by kernel_rfl) (by kernel_rfl) Tryd.underlying70 name_err Tryd.underlying117 Tryd.underlying119 rfl rfl Tryd.underlying9 (by kernel_rfl) (by kernel_rfl)
  obtain ⟨a2, s2, h2, _⟩ := laid_sentinel h.tail (g := 1) (by kernel_rfl) (by kernel_rfl) Tryd.underlying70 name_err Tryd.underlying117 Tryd.underlying119 rfl rfl Tryd.underlying9 (by kernel_rfl) (by kernel_rfl)
  have c1 := World.var?_cell (g := 2) (by kernel_rfl) h1 0
  have c2 := World.var?_cell (g := 1) (by kernel_rfl) h2 0
  have d1 : W.cell? ⟨2, 0, none⟩ = some (.iface 117 (.pointer (some a1))) := by simpa using c1
  have d2 : W.cell? ⟨1, 0, none⟩ = some (.iface 117 (.pointer (some a2))) := by simpa using c2
  exact ⟨World.block_lt_of_cell? _ _ d1, ⟨_, d2, .inr ⟨_, _, rfl⟩⟩, ⟨_, d1, .inr ⟨_, _, rfl⟩⟩⟩
end Go.Proofs.YteklomkncfjdlaaDoor
