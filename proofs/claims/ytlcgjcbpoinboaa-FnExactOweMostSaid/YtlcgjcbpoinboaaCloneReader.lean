/-
  Slices of Reader copied; one element of a slice of the call's own set. No condition.
-/
import Derived.Test.YtlcgjcbpoinboaaOwnReader
import Derived.Lib.SliceRun
namespace Go.Proofs.Ytlcgjcbpoinboaa
open Go.RowKit
set_option linter.unusedVariables false
set_option maxRecDepth 100000

/-- The first n elements, as a list. -/
def lstReader (X : Nat → ReaderD) (n : Nat) : List ReaderD := (List.range n).map X
theorem lstReader_length (X : Nat → ReaderD) (n : Nat) : (lstReader X n).length = n := by simp [lstReader]
theorem lstReader_at {X : Nat → ReaderD} {n i : Nat} (h : i < n) : (lstReader X n).getD i default = X i := by simp [lstReader, List.getD, h]
theorem Rw.flatReader {w : World} {b off n : Nat} {X : Nat → ReaderD} (h : Rw w b off 5 n (fun i => (X i).cells)) : ∀ j u, ((lstReader X n).flatMap ReaderD.cells)[j]? = some u → w.cell? ((⟨b, off, none⟩ : Addr).add j) = some u := by
  intro j u hu
  have hl : j < n * 5 := by
    have h1 := (List.getElem?_eq_some_iff.1 hu).1
    rw [flat_len_Reader, lstReader_length] at h1
    exact h1
  have hi : j / 5 < n := by omega
  have hr : j % 5 < 5 := Nat.mod_lt _ (by omega)
  have e : j = (j / 5) * 5 + j % 5 := by omega
  have h2 := h.2 (j / 5) hi (j % 5) hr
  have h3 := flat_get_Reader (lstReader X n) (j / 5) (j % 5) (by rw [lstReader_length]; exact hi) hr
  rw [← e, lstReader_at hi] at h3
  rw [← h3, hu] at h2
  have ha : ((⟨b, off, none⟩ : Addr).add j) = ⟨b, off + (j / 5) * 5 + j % 5, none⟩ := by
    rw [show off + (j / 5) * 5 + j % 5 = off + j by omega]; simp [Addr.add]
  rw [ha]
  exact h2

/-- The call returns a slice of its own that holds the elements L. -/
def RetReader (L : List ReaderD) (w : World) (e : Ending) (w' : World) : Prop := ∃ v, e = .returned v ∧ OwnReader w.heap.size w' v L ∧ Below w.heap.size w w'

set_option maxHeartbeats 1000000 in
theorem cloneReader (w : World) (b off len cap : Nat) (X : Nat → ReaderD) (h : Rw w b off 5 len (fun i => (X i).cells)) (hm : len ≤ 1048576) (hlc : len ≤ cap) :
    Calls Try.prog 74 #[.slice (some ⟨b, off, none⟩) len cap] w (RetReader (lstReader X len) w) := by
  obtain ⟨i0, hi, hz0, hz1, hz2⟩ := info_parts info_Reader
  have hE : OwnReader w.heap.size (w.alloc (.cells #[] 33)) (.slice (some ⟨w.heap.size, 0, none⟩) 0 0) [] := OwnReader.empty w
  have hA : Below w.heap.size w (w.alloc (.cells #[] 33)) := by go_grown
  have HR := hid (h.later' hA).flatReader
  have hnil : ∀ w : World, (binOp .eql 39 (.slice (some ⟨b, off, none⟩) len cap) (.slice none 0 0)).run Try.prog w = .ok (.bool false) w := fun w => Lib.run_eql_slice_nil w _ _ _ _ _ _ _ Try.underlying39
  have HE := hid hE
  clear h hE
  go_enter Try.func74, Try.ntmps74
  go_wp2_with (at_builtin; refine wpList_append_own_at _ rfl _ _ 39 rfl w.heap.size 33 i0 (.agg #[.int .i64 0, .string ByteArray.empty, .int .i64 0, .int .i64 0, .int .i64 0]) 5 48 Try.underlying39 hi hz0 hz1 hz2 rfl (by decide) _ 0 [] rfl HE.out ⟨b, off, none⟩ len cap ((lstReader X len).flatMap ReaderD.cells) rfl ?c1 HR.out ?c2 ?c3 ?c4 ?c5 ?_)
  case c1 => rw [flat_len_Reader, lstReader_length]
  case c2 => exact flat_one_Reader _
  case c3 => unfold maxLen; omega
  case c4 => omega
  case c5 => simp
  intro v' w2 hown hgrow _ _
  have hb2 : Below w.heap.size w w2 := hA.grown hgrow (by simp) (fun g hg => by simp [Value.ownBlock] at hg; omega)
  have ho : Hid (OwnReader w.heap.size w2 v' (lstReader X len)) := by unfold Hid OwnReader; rw [lstReader_length]; simpa using hown
  clear hown hgrow
  go_wp2_with fail
  go_ret
  exact ⟨_, rfl, ho.out, hb2⟩

theorem flat_set_Reader_Id (x : Int) : ∀ (L : List ReaderD) (s : ReaderD) (k : Nat), k < L.length → ((L.set k s).flatMap ReaderD.cells).set (k * 5) (.int .i64 x) = (L.set k { s with Id := x }).flatMap ReaderD.cells
  | [], s, k, hk => absurd hk (by simp)
  | a :: L, s, 0, hk => by
    simp [List.flatMap_cons, ReaderD.cells]
  | a :: L, s, k + 1, hk => by
    rw [List.set_cons_succ, List.set_cons_succ, List.flatMap_cons, List.flatMap_cons, List.set_append_right _ _ (by simp [cells_len_Reader]; omega), cells_len_Reader, show (k + 1) * 5 - 5 = k * 5 by omega, flat_set_Reader_Id x L s k (by simpa using hk)]
theorem OwnReader.set_Id {B g cap len : Nat} {w : World} {L : List ReaderD} {s : ReaderD} {k : Nat} (h : OwnReader B w (.slice (some ⟨g, 0, none⟩) len cap) (L.set k s)) (hl : len = L.length) (hk : k < len) (x : Int) :
    OwnReader B (w.setCell ⟨g, k * 5, none⟩ (.int .i64 x)) (.slice (some ⟨g, 0, none⟩) len cap) (L.set k { s with Id := x }) := by
  unfold OwnReader at h ⊢
  simp only [List.length_set] at h ⊢
  rw [← hl] at h ⊢
  rw [← flat_set_Reader_Id x L s k (by omega)]
  exact (World.ownsRow.stored h _ _).1

theorem flat_set_Reader_Name (x : ByteArray) : ∀ (L : List ReaderD) (s : ReaderD) (k : Nat), k < L.length → ((L.set k s).flatMap ReaderD.cells).set (k * 5 + 1) (.string x) = (L.set k { s with Name := x }).flatMap ReaderD.cells
  | [], s, k, hk => absurd hk (by simp)
  | a :: L, s, 0, hk => by
    simp [List.flatMap_cons, ReaderD.cells]
  | a :: L, s, k + 1, hk => by
    rw [List.set_cons_succ, List.set_cons_succ, List.flatMap_cons, List.flatMap_cons, List.set_append_right _ _ (by simp [cells_len_Reader]; omega), cells_len_Reader, show (k + 1) * 5 + 1 - 5 = k * 5 + 1 by omega, flat_set_Reader_Name x L s k (by simpa using hk)]
theorem OwnReader.set_Name {B g cap len : Nat} {w : World} {L : List ReaderD} {s : ReaderD} {k : Nat} (h : OwnReader B w (.slice (some ⟨g, 0, none⟩) len cap) (L.set k s)) (hl : len = L.length) (hk : k < len) (x : ByteArray) :
    OwnReader B (w.setCell ⟨g, k * 5 + 1, none⟩ (.string x)) (.slice (some ⟨g, 0, none⟩) len cap) (L.set k { s with Name := x }) := by
  unfold OwnReader at h ⊢
  simp only [List.length_set] at h ⊢
  rw [← hl] at h ⊢
  rw [← flat_set_Reader_Name x L s k (by omega)]
  exact (World.ownsRow.stored h _ _).1

theorem flat_set_Reader_Joined (x : Int) : ∀ (L : List ReaderD) (s : ReaderD) (k : Nat), k < L.length → ((L.set k s).flatMap ReaderD.cells).set (k * 5 + 2) (.int .i64 x) = (L.set k { s with Joined := x }).flatMap ReaderD.cells
  | [], s, k, hk => absurd hk (by simp)
  | a :: L, s, 0, hk => by
    simp [List.flatMap_cons, ReaderD.cells]
  | a :: L, s, k + 1, hk => by
    rw [List.set_cons_succ, List.set_cons_succ, List.flatMap_cons, List.flatMap_cons, List.set_append_right _ _ (by simp [cells_len_Reader]; omega), cells_len_Reader, show (k + 1) * 5 + 2 - 5 = k * 5 + 2 by omega, flat_set_Reader_Joined x L s k (by simpa using hk)]
theorem OwnReader.set_Joined {B g cap len : Nat} {w : World} {L : List ReaderD} {s : ReaderD} {k : Nat} (h : OwnReader B w (.slice (some ⟨g, 0, none⟩) len cap) (L.set k s)) (hl : len = L.length) (hk : k < len) (x : Int) :
    OwnReader B (w.setCell ⟨g, k * 5 + 2, none⟩ (.int .i64 x)) (.slice (some ⟨g, 0, none⟩) len cap) (L.set k { s with Joined := x }) := by
  unfold OwnReader at h ⊢
  simp only [List.length_set] at h ⊢
  rw [← hl] at h ⊢
  rw [← flat_set_Reader_Joined x L s k (by omega)]
  exact (World.ownsRow.stored h _ _).1

theorem flat_set_Reader_Class (x : Int) : ∀ (L : List ReaderD) (s : ReaderD) (k : Nat), k < L.length → ((L.set k s).flatMap ReaderD.cells).set (k * 5 + 3) (.int .i64 x) = (L.set k { s with Class := x }).flatMap ReaderD.cells
  | [], s, k, hk => absurd hk (by simp)
  | a :: L, s, 0, hk => by
    simp [List.flatMap_cons, ReaderD.cells]
  | a :: L, s, k + 1, hk => by
    rw [List.set_cons_succ, List.set_cons_succ, List.flatMap_cons, List.flatMap_cons, List.set_append_right _ _ (by simp [cells_len_Reader]; omega), cells_len_Reader, show (k + 1) * 5 + 3 - 5 = k * 5 + 3 by omega, flat_set_Reader_Class x L s k (by simpa using hk)]
theorem OwnReader.set_Class {B g cap len : Nat} {w : World} {L : List ReaderD} {s : ReaderD} {k : Nat} (h : OwnReader B w (.slice (some ⟨g, 0, none⟩) len cap) (L.set k s)) (hl : len = L.length) (hk : k < len) (x : Int) :
    OwnReader B (w.setCell ⟨g, k * 5 + 3, none⟩ (.int .i64 x)) (.slice (some ⟨g, 0, none⟩) len cap) (L.set k { s with Class := x }) := by
  unfold OwnReader at h ⊢
  simp only [List.length_set] at h ⊢
  rw [← hl] at h ⊢
  rw [← flat_set_Reader_Class x L s k (by omega)]
  exact (World.ownsRow.stored h _ _).1

theorem flat_set_Reader_Fines (x : Int) : ∀ (L : List ReaderD) (s : ReaderD) (k : Nat), k < L.length → ((L.set k s).flatMap ReaderD.cells).set (k * 5 + 4) (.int .i64 x) = (L.set k { s with Fines := x }).flatMap ReaderD.cells
  | [], s, k, hk => absurd hk (by simp)
  | a :: L, s, 0, hk => by
    simp [List.flatMap_cons, ReaderD.cells]
  | a :: L, s, k + 1, hk => by
    rw [List.set_cons_succ, List.set_cons_succ, List.flatMap_cons, List.flatMap_cons, List.set_append_right _ _ (by simp [cells_len_Reader]; omega), cells_len_Reader, show (k + 1) * 5 + 4 - 5 = k * 5 + 4 by omega, flat_set_Reader_Fines x L s k (by simpa using hk)]
theorem OwnReader.set_Fines {B g cap len : Nat} {w : World} {L : List ReaderD} {s : ReaderD} {k : Nat} (h : OwnReader B w (.slice (some ⟨g, 0, none⟩) len cap) (L.set k s)) (hl : len = L.length) (hk : k < len) (x : Int) :
    OwnReader B (w.setCell ⟨g, k * 5 + 4, none⟩ (.int .i64 x)) (.slice (some ⟨g, 0, none⟩) len cap) (L.set k { s with Fines := x }) := by
  unfold OwnReader at h ⊢
  simp only [List.length_set] at h ⊢
  rw [← hl] at h ⊢
  rw [← flat_set_Reader_Fines x L s k (by omega)]
  exact (World.ownsRow.stored h _ _).1

theorem set_self_Reader (L : List ReaderD) (k : Nat) (h : k < L.length) : L.set k (L.getD k default) = L := by
  apply List.ext_getElem?
  intro i
  by_cases hi : k = i
  · subst hi; simp [List.getD, h]
  · simp [List.getElem?_set, hi]
theorem set_get_Reader (L : List ReaderD) (s : ReaderD) (k i : Nat) (h : k < L.length) : (L.set k s).getD i default = if i = k then s else L.getD i default := by
  by_cases hi : k = i
  · subst hi; simp [List.getD, h]
  · simp [List.getD, List.getElem?_set, hi, Ne.symm hi]

end Go.Proofs.Ytlcgjcbpoinboaa
