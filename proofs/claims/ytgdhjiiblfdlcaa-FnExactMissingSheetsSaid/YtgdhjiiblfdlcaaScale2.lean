/-
  ofScale of the program: all sheets of a scale, by their places. No condition.
-/
import Derived.Test.YtgdhjiiblfdlcaaScale
import Derived.Shelf.SlSortCmp.NoneTotal
import Derived.Deep.AppendLies
namespace Go.Proofs.Ytgdhjiiblfdlcaa
open Go.RowKit
set_option linter.unusedVariables false
set_option maxRecDepth 100000

theorem infoSheet : (Try.prog.info? 55).map (fun i => (i.zero, i.size, i.bytes)) = some (some (.agg #[.int .i64 0, .int .i64 0, .int .i64 0, .int .i64 0, .int .i64 0]), 5, 40) := by kernel_rfl

theorem newsSheet (s : SheetD) {w : World} {B : Nat} (h : w.heap[B]? = some (.cells #[.int .i64 s.Id, .int .i64 s.Row, .int .i64 s.Col, .int .i64 s.Scale, .int .i64 s.Year] 55 (0, 0))) : ∀ j u, (s.cells)[j]? = some u → w.cell? ((⟨B, 0, none⟩ : Addr).add j) = some u := World.news_of_block h

theorem OwnSheet.alloc1 {B : Nat} {w : World} {v : Value} {L : List SheetD} (h : OwnSheet B w v L) (o : Obj) : OwnSheet B (w.alloc o) v L := World.ownsRow.alloc h o
theorem OwnSheet.same {B : Nat} {w : World} {v : Value} {L L' : List SheetD} (h : OwnSheet B w v L) (e : L' = L) : OwnSheet B w v L' := by rw [e]; exact h

theorem sort_any (B : Nat) (v : Value) (w : World) (L : List SheetD) (h : OwnSheet B w v L) (hL : L.length ≤ 1048576) :
    Calls Try.prog 48 #[v, .func (.func 49) #[] #[]] w fun e w' =>
      e = .returned (.tuple #[]) ∧ ∃ L', L'.Perm L ∧ (L'.Pairwise fun s t => leB s t = true) ∧ OwnSheet B w' v L' ∧ Below B w w' := by
  rcases h.form with ⟨rfl, rfl⟩ | ⟨g, cap, rfl, _⟩
  · refine Calls.mono (AnyF.slices_SortFunc_none Try.sortSheet none 0 (.func (.func 49) #[] #[]) w) ?_
    rintro e w' ⟨rfl, rfl⟩
    exact ⟨rfl, [], List.Perm.refl _, List.Pairwise.nil, h, Below.refl _ _⟩
  · exact sort_sheets B g cap _ w L h hL

/-- What ofScale returns: a slice of its own with all sheets of the scale, by their places. -/
def RetScale (X : Nat → SheetD) (n : Nat) (sc : Int) (w : World) (e : Ending) (w' : World) : Prop := ∃ v L, e = .returned v ∧ OwnSheet w.heap.size w' v L ∧ Below w.heap.size w w' ∧ Scaled X n sc L

set_option maxHeartbeats 2000000 in
theorem ofScale_impl (w : World) (b off len cap : Nat) (X : Nat → SheetD) (sc : Int) (h : Rw w b off 5 len (fun i => (X i).cells)) (hm : len ≤ 1048576) (hlc : len ≤ cap) :
    Calls Try.prog 32 #[.slice (some ⟨b, off, none⟩) len cap, .int .i64 sc] w (RetScale X len sc w) := by
  have H := hid h.2
  have hb := h.1
  clear h
  obtain ⟨i0, hi, hz0, hz1, hz2⟩ := info_parts infoSheet
  go_enter Try.func32, Try.ntmps32
  go_wp2
  go_loopw [5, 10] (fun v i wr => ∃ k : Nat, k ≤ len ∧ i = .int .i64 k ∧ Below w.heap.size w wr ∧ Hid (OwnSheet w.heap.size wr v (selS X sc k))) (fun _ i _ => len - (intOf i).toNat)
  case atStart => exact ⟨0, by omega, rfl, Below.refl _ _, OwnSheet.nil _ _⟩
  case round =>
    obtain ⟨k, hk, rfl, hB, ho⟩ := hrel
    by_cases hlt : k < len
    · have c0 : wr.cell? ⟨b, off + k * 5, none⟩ = some (.int .i64 (X k).Id) := (hB.cell hb).trans (H.out k hlt 0 (by omega))
      have c1 : wr.cell? ⟨b, off + k * 5 + 1, none⟩ = some (.int .i64 (X k).Row) := (hB.cell hb).trans (H.out k hlt 1 (by omega))
      have c2 : wr.cell? ⟨b, off + k * 5 + 2, none⟩ = some (.int .i64 (X k).Col) := (hB.cell hb).trans (H.out k hlt 2 (by omega))
      have c3 : wr.cell? ⟨b, off + k * 5 + 3, none⟩ = some (.int .i64 (X k).Scale) := (hB.cell hb).trans (H.out k hlt 3 (by omega))
      have c4 : wr.cell? ⟨b, off + k * 5 + 4, none⟩ = some (.int .i64 (X k).Year) := (hB.cell hb).trans (H.out k hlt 4 (by omega))
      have hs := hB.size
      have hle := selS_le X sc k
      by_cases hp : ((X k).Scale == sc) = true
      · have HP := hid hp
        go_wp2_with (at_builtin; refine wpList_append_own_at _ rfl _ _ 27 rfl w.heap.size 55 i0 (.agg #[.int .i64 0, .int .i64 0, .int .i64 0, .int .i64 0, .int .i64 0]) 5 40 Try.underlying27 hi hz0 hz1 hz2 rfl (by decide) _ (selS X sc k).length ((selS X sc k).flatMap SheetD.cells) rfl (World.ownsRow.alloc (World.ownsRow.alloc ho.out _) _) ⟨wr.heap.size + 1, 0, none⟩ 1 1 (X k).cells ?c0 rfl ?c1 ?c2 ?c3 ?c4 ?c5 ?_)
        case c0 => simp [go_sem]
        case c1 => exact newsSheet (X k) (by rw [show wr.heap.size + 1 = (wr.alloc (.cells #[.int .i64 (X k).Id, .int .i64 (X k).Row, .int .i64 (X k).Col, .int .i64 (X k).Scale, .int .i64 (X k).Year] 55)).heap.size by simp]; exact heap_alloc_new _ _)
        case c2 => intro u hu; simp [SheetD.cells] at hu; rcases hu with rfl | rfl | rfl | rfl | rfl <;> rfl
        case c3 => unfold maxLen; omega
        case c4 => omega
        case c5 => simp; omega
        · intro v' w2 hown' hgrow _ _
          have hb2 : Below w.heap.size w w2 := (((hB.alloc hB.size _).alloc (by simp; omega) _)).grown hgrow (by simp; omega) (fun g hg => by have := (World.ownsRow.lt ho.out g hg).1; omega)
          have ho2 : Hid (OwnSheet w.heap.size w2 v' (selS X sc (k + 1))) := by
            rw [selS_yes HP.out]
            unfold Hid OwnSheet
            simpa using hown'
          clear hown' hgrow ho
          go_wp2_with fail
          go_roundw
          case rel => exact ⟨k + 1, by omega, by go_num, hb2, ho2⟩
          case measure => simp [intOf]; omega
      · have hp' : ((X k).Scale == sc) = false := by simpa using hp
        have HP := hid hp'
        clear hp
        have hb2 : Below w.heap.size w (wr.alloc (.cells #[.int .i64 (X k).Id, .int .i64 (X k).Row, .int .i64 (X k).Col, .int .i64 (X k).Scale, .int .i64 (X k).Year] 55)) := hB.alloc hB.size _
        have ho2 := hid ((ho.out.alloc1 (.cells #[.int .i64 (X k).Id, .int .i64 (X k).Row, .int .i64 (X k).Col, .int .i64 (X k).Scale, .int .i64 (X k).Year] 55)).same (selS_no HP.out))
        go_wp2_with fail
        go_roundw
        case rel => exact ⟨k + 1, by omega, by go_num, hb2, ho2⟩
        case measure => simp [intOf]; omega
    · obtain rfl : k = len := by omega
      have hle := selS_le X sc k
      have hs := hB.size
      go_wp2_with fail
      refine (sort_any _ _ _ _ ho.out (by omega)).mono ?_
      rintro e w1 ⟨rfl, L', hp, hsr, ho1, hb1⟩
      have HO := hid ho1
      have B1 := hB.trans hb1
      have HS := hid (Scaled.mk hp hsr)
      clear ho1 hb1 ho hp hsr
      go_wp2_with fail
      go_ret
      exact ⟨_, L', rfl, HO.out, B1, HS.out⟩

end Go.Proofs.Ytgdhjiiblfdlcaa
