/-
  Slices of Flat copied; one element of a slice of the call's own set. No condition.
-/
import Derived.Test.YtejpmomedclnhaaOwnFlat
import Derived.Lib.SliceRun
namespace Go.Proofs.Ytejpmomedclnhaa
open Go.RowKit
set_option linter.unusedVariables false
set_option maxRecDepth 100000

/-- The first n elements, as a list. -/
def lstFlat (X : Nat → FlatD) (n : Nat) : List FlatD := (List.range n).map X
theorem lstFlat_length (X : Nat → FlatD) (n : Nat) : (lstFlat X n).length = n := by simp [lstFlat]
theorem lstFlat_at {X : Nat → FlatD} {n i : Nat} (h : i < n) : (lstFlat X n).getD i default = X i := by simp [lstFlat, List.getD, h]
theorem Rw.flatFlat {w : World} {b off n : Nat} {X : Nat → FlatD} (h : Rw w b off 4 n (fun i => (X i).cells)) : ∀ j u, ((lstFlat X n).flatMap FlatD.cells)[j]? = some u → w.cell? ((⟨b, off, none⟩ : Addr).add j) = some u := by
  intro j u hu
  have hl : j < n * 4 := by
    have h1 := (List.getElem?_eq_some_iff.1 hu).1
    rw [flat_len_Flat, lstFlat_length] at h1
    exact h1
  have hi : j / 4 < n := by omega
  have hr : j % 4 < 4 := Nat.mod_lt _ (by omega)
  have e : j = (j / 4) * 4 + j % 4 := by omega
  have h2 := h.2 (j / 4) hi (j % 4) hr
  have h3 := flat_get_Flat (lstFlat X n) (j / 4) (j % 4) (by rw [lstFlat_length]; exact hi) hr
  rw [← e, lstFlat_at hi] at h3
  rw [← h3, hu] at h2
  have ha : ((⟨b, off, none⟩ : Addr).add j) = ⟨b, off + (j / 4) * 4 + j % 4, none⟩ := by
    rw [show off + (j / 4) * 4 + j % 4 = off + j by omega]; simp [Addr.add]
  rw [ha]
  exact h2

/-- The call returns a slice of its own that holds the elements L. -/
def RetFlat (L : List FlatD) (w : World) (e : Ending) (w' : World) : Prop := ∃ v, e = .returned v ∧ OwnFlat w.heap.size w' v L ∧ Below w.heap.size w w'

set_option maxHeartbeats 1000000 in
theorem cloneFlat (w : World) (b off len cap : Nat) (X : Nat → FlatD) (h : Rw w b off 4 len (fun i => (X i).cells)) (hm : len ≤ 1048576) (hlc : len ≤ cap) :
    Calls Try.prog 103 #[.slice (some ⟨b, off, none⟩) len cap] w (RetFlat (lstFlat X len) w) := by
  obtain ⟨i0, hi, hz0, hz1, hz2⟩ := info_parts info_Flat
  have hE : OwnFlat w.heap.size (w.alloc (.cells #[] 30)) (.slice (some ⟨w.heap.size, 0, none⟩) 0 0) [] := OwnFlat.empty w
  have hA : Below w.heap.size w (w.alloc (.cells #[] 30)) := by go_grown
  have HR := hid (h.later' hA).flatFlat
  have hnil : ∀ w : World, (binOp .eql 41 (.slice (some ⟨b, off, none⟩) len cap) (.slice none 0 0)).run Try.prog w = .ok (.bool false) w := fun w => Lib.run_eql_slice_nil w _ _ _ _ _ _ _ Try.underlying41
  have HE := hid hE
  clear h hE
  go_enter Try.func103, Try.ntmps103
  go_wp2_with (at_builtin; refine wpList_append_own_at _ rfl _ _ 41 rfl w.heap.size 30 i0 (.agg #[.int .i64 0, .int .i64 0, .int .i64 0, .int .i64 0]) 4 32 Try.underlying41 hi hz0 hz1 hz2 rfl (by decide) _ 0 [] rfl HE.out ⟨b, off, none⟩ len cap ((lstFlat X len).flatMap FlatD.cells) rfl ?c1 HR.out ?c2 ?c3 ?c4 ?c5 ?_)
  case c1 => rw [flat_len_Flat, lstFlat_length]
  case c2 => exact flat_one_Flat _
  case c3 => unfold maxLen; omega
  case c4 => omega
  case c5 => simp
  intro v' w2 hown hgrow _ _
  have hb2 : Below w.heap.size w w2 := hA.grown hgrow (by simp) (fun g hg => by simp [Value.ownBlock] at hg; omega)
  have ho : Hid (OwnFlat w.heap.size w2 v' (lstFlat X len)) := by unfold Hid OwnFlat; rw [lstFlat_length]; simpa using hown
  clear hown hgrow
  go_wp2_with fail
  go_ret
  exact ⟨_, rfl, ho.out, hb2⟩

theorem flat_set_Flat_Id (x : Int) : ∀ (L : List FlatD) (s : FlatD) (k : Nat), k < L.length → ((L.set k s).flatMap FlatD.cells).set (k * 4) (.int .i64 x) = (L.set k { s with Id := x }).flatMap FlatD.cells
  | [], s, k, hk => absurd hk (by simp)
  | a :: L, s, 0, hk => by
    simp [List.flatMap_cons, FlatD.cells]
  | a :: L, s, k + 1, hk => by
    rw [List.set_cons_succ, List.set_cons_succ, List.flatMap_cons, List.flatMap_cons, List.set_append_right _ _ (by simp [cells_len_Flat]; omega), cells_len_Flat, show (k + 1) * 4 - 4 = k * 4 by omega, flat_set_Flat_Id x L s k (by simpa using hk)]
theorem OwnFlat.set_Id {B g cap len : Nat} {w : World} {L : List FlatD} {s : FlatD} {k : Nat} (h : OwnFlat B w (.slice (some ⟨g, 0, none⟩) len cap) (L.set k s)) (hl : len = L.length) (hk : k < len) (x : Int) :
    OwnFlat B (w.setCell ⟨g, k * 4, none⟩ (.int .i64 x)) (.slice (some ⟨g, 0, none⟩) len cap) (L.set k { s with Id := x }) := by
  unfold OwnFlat at h ⊢
  simp only [List.length_set] at h ⊢
  rw [← hl] at h ⊢
  rw [← flat_set_Flat_Id x L s k (by omega)]
  exact (World.ownsRow.stored h _ _).1

theorem flat_set_Flat_Wide (x : Int) : ∀ (L : List FlatD) (s : FlatD) (k : Nat), k < L.length → ((L.set k s).flatMap FlatD.cells).set (k * 4 + 1) (.int .i64 x) = (L.set k { s with Wide := x }).flatMap FlatD.cells
  | [], s, k, hk => absurd hk (by simp)
  | a :: L, s, 0, hk => by
    simp [List.flatMap_cons, FlatD.cells]
  | a :: L, s, k + 1, hk => by
    rw [List.set_cons_succ, List.set_cons_succ, List.flatMap_cons, List.flatMap_cons, List.set_append_right _ _ (by simp [cells_len_Flat]; omega), cells_len_Flat, show (k + 1) * 4 + 1 - 4 = k * 4 + 1 by omega, flat_set_Flat_Wide x L s k (by simpa using hk)]
theorem OwnFlat.set_Wide {B g cap len : Nat} {w : World} {L : List FlatD} {s : FlatD} {k : Nat} (h : OwnFlat B w (.slice (some ⟨g, 0, none⟩) len cap) (L.set k s)) (hl : len = L.length) (hk : k < len) (x : Int) :
    OwnFlat B (w.setCell ⟨g, k * 4 + 1, none⟩ (.int .i64 x)) (.slice (some ⟨g, 0, none⟩) len cap) (L.set k { s with Wide := x }) := by
  unfold OwnFlat at h ⊢
  simp only [List.length_set] at h ⊢
  rw [← hl] at h ⊢
  rw [← flat_set_Flat_Wide x L s k (by omega)]
  exact (World.ownsRow.stored h _ _).1

theorem flat_set_Flat_High (x : Int) : ∀ (L : List FlatD) (s : FlatD) (k : Nat), k < L.length → ((L.set k s).flatMap FlatD.cells).set (k * 4 + 2) (.int .i64 x) = (L.set k { s with High := x }).flatMap FlatD.cells
  | [], s, k, hk => absurd hk (by simp)
  | a :: L, s, 0, hk => by
    simp [List.flatMap_cons, FlatD.cells]
  | a :: L, s, k + 1, hk => by
    rw [List.set_cons_succ, List.set_cons_succ, List.flatMap_cons, List.flatMap_cons, List.set_append_right _ _ (by simp [cells_len_Flat]; omega), cells_len_Flat, show (k + 1) * 4 + 2 - 4 = k * 4 + 2 by omega, flat_set_Flat_High x L s k (by simpa using hk)]
theorem OwnFlat.set_High {B g cap len : Nat} {w : World} {L : List FlatD} {s : FlatD} {k : Nat} (h : OwnFlat B w (.slice (some ⟨g, 0, none⟩) len cap) (L.set k s)) (hl : len = L.length) (hk : k < len) (x : Int) :
    OwnFlat B (w.setCell ⟨g, k * 4 + 2, none⟩ (.int .i64 x)) (.slice (some ⟨g, 0, none⟩) len cap) (L.set k { s with High := x }) := by
  unfold OwnFlat at h ⊢
  simp only [List.length_set] at h ⊢
  rw [← hl] at h ⊢
  rw [← flat_set_Flat_High x L s k (by omega)]
  exact (World.ownsRow.stored h _ _).1

theorem flat_set_Flat_Grams (x : Int) : ∀ (L : List FlatD) (s : FlatD) (k : Nat), k < L.length → ((L.set k s).flatMap FlatD.cells).set (k * 4 + 3) (.int .i64 x) = (L.set k { s with Grams := x }).flatMap FlatD.cells
  | [], s, k, hk => absurd hk (by simp)
  | a :: L, s, 0, hk => by
    simp [List.flatMap_cons, FlatD.cells]
  | a :: L, s, k + 1, hk => by
    rw [List.set_cons_succ, List.set_cons_succ, List.flatMap_cons, List.flatMap_cons, List.set_append_right _ _ (by simp [cells_len_Flat]; omega), cells_len_Flat, show (k + 1) * 4 + 3 - 4 = k * 4 + 3 by omega, flat_set_Flat_Grams x L s k (by simpa using hk)]
theorem OwnFlat.set_Grams {B g cap len : Nat} {w : World} {L : List FlatD} {s : FlatD} {k : Nat} (h : OwnFlat B w (.slice (some ⟨g, 0, none⟩) len cap) (L.set k s)) (hl : len = L.length) (hk : k < len) (x : Int) :
    OwnFlat B (w.setCell ⟨g, k * 4 + 3, none⟩ (.int .i64 x)) (.slice (some ⟨g, 0, none⟩) len cap) (L.set k { s with Grams := x }) := by
  unfold OwnFlat at h ⊢
  simp only [List.length_set] at h ⊢
  rw [← hl] at h ⊢
  rw [← flat_set_Flat_Grams x L s k (by omega)]
  exact (World.ownsRow.stored h _ _).1

theorem set_self_Flat (L : List FlatD) (k : Nat) (h : k < L.length) : L.set k (L.getD k default) = L := by
  apply List.ext_getElem?
  intro i
  by_cases hi : k = i
  · subst hi; simp [List.getD, h]
  · simp [List.getElem?_set, hi]
theorem set_get_Flat (L : List FlatD) (s : FlatD) (k i : Nat) (h : k < L.length) : (L.set k s).getD i default = if i = k then s else L.getD i default := by
  by_cases hi : k = i
  · subst hi; simp [List.getD, h]
  · simp [List.getD, List.getElem?_set, hi, Ne.symm hi]

end Go.Proofs.Ytejpmomedclnhaa
