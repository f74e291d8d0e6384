/-
  One reader of a list replaced; fines laid and paid, classes raised: by the program and by the reference. No condition.
-/
import Derived.Test.YtlcgjcbpoinboaaCloneReader
import Derived.Test.YtlcgjcbpoinboaaMay
import Derived.Test.YtlcgjcbpoinboaaRipe
namespace Go.Proofs.Ytlcgjcbpoinboaa
open Go.RowKit
set_option linter.unusedVariables false
set_option maxRecDepth 100000

def RetReaderB (L : List ReaderD) (b : Bool) (w : World) (e : Ending) (w' : World) : Prop := ∃ v, e = .returned (.tuple #[v, .bool b]) ∧ OwnReader w.heap.size w' v L ∧ Below w.heap.size w w'
def RetReaderIB (L : List ReaderD) (r : Int) (b : Bool) (w : World) (e : Ending) (w' : World) : Prop := ∃ v, e = .returned (.tuple #[v, .int .i64 r, .bool b]) ∧ OwnReader w.heap.size w' v L ∧ Below w.heap.size w w'

theorem OwnReader.put {B g cap len : Nat} {w : World} {L : List ReaderD} {k : Nat} (h : OwnReader B w (.slice (some ⟨g, 0, none⟩) len cap) L) (hl : len = L.length) (hk : k < len) (s : ReaderD) :
    OwnReader B (((((w.setCell ⟨g, k * 5, none⟩ (.int .i64 s.Id)).setCell ⟨g, k * 5 + 1, none⟩ (.string s.Name)).setCell ⟨g, k * 5 + 2, none⟩ (.int .i64 s.Joined)).setCell ⟨g, k * 5 + 3, none⟩ (.int .i64 s.Class)).setCell ⟨g, k * 5 + 4, none⟩ (.int .i64 s.Fines)) (.slice (some ⟨g, 0, none⟩) len cap) (L.set k s) := by
  have h0 : OwnReader B w (.slice (some ⟨g, 0, none⟩) len cap) (L.set k (L.getD k default)) := by rw [set_self_Reader L k (by omega)]; exact h
  exact ((((h0.set_Id hl hk s.Id).set_Name hl hk s.Name).set_Joined hl hk s.Joined).set_Class hl hk s.Class).set_Fines hl hk s.Fines

/-- Whether the list with element j replaced is valid; and the list, if it is. -/
def chgOk (X : Nat → ReaderD) (n j : Nat) (s : ReaderD) : Bool := readersB (fun i => ((lstReader X n).set j s).getD i default) n
def chgL (X : Nat → ReaderD) (n j : Nat) (s : ReaderD) : List ReaderD := if chgOk X n j s = true then (lstReader X n).set j s else []
theorem chgL_le (X : Nat → ReaderD) (n j : Nat) (s : ReaderD) : (chgL X n j s).length ≤ n := by
  unfold chgL; split
  · simp [lstReader_length]
  · simp
theorem chg_at {X : Nat → ReaderD} {n j i : Nat} {s : ReaderD} (hj : j < n) (hi : i < n) : ((lstReader X n).set j s).getD i default = if i = j then s else X i := by
  rw [set_get_Reader _ _ _ _ (by rw [lstReader_length]; exact hj), lstReader_at hi]
theorem chg_names {X : Nat → ReaderD} {n j : Nat} {s : ReaderD} (hj : j < n) (hnm : ∀ i, i < n → (X i).Name.size ≤ maxLen) (hs : s.Name.size ≤ maxLen) : ∀ i, i < n → (((lstReader X n).set j s).getD i default).Name.size ≤ maxLen := by
  intro i hi
  rw [chg_at hj hi]
  split
  · exact hs
  · exact hnm i hi
/-- A valid list stays valid if a valid reader of the same number comes in another one's place. -/
theorem chg_ok {X : Nat → ReaderD} {n j : Nat} {s : ReaderD} (h : readersB X n = true) (hj : j < n) (hid : s.Id = (X j).Id) (hs : readerB s = true) : chgOk X n j s = true := by
  have hE : ∀ i, i < n → (((lstReader X n).set j s).getD i default).Id = (X i).Id := by
    intro i hi
    rw [chg_at hj hi]
    split
    · rename_i e; rw [e]; exact hid
    · rfl
  refine readersB_true (readersB_le h) fun i hi => ?_
  have h0 := readersB_at h hi
  simp only [readerOk, Bool.and_eq_true] at h0 ⊢
  refine ⟨?_, ?_⟩
  · show readerB (((lstReader X n).set j s).getD i default) = true
    rw [chg_at hj hi]
    split
    · exact hs
    · exact h0.1
  · show (i == 0 || decide ((((lstReader X n).set j s).getD (i - 1) default).Id < (((lstReader X n).set j s).getD i default).Id)) = true
    rw [hE i hi, hE (i - 1) (by omega)]
    exact h0.2

theorem cents_spec (x : Int) (w : World) : Calls Try.prog 75 #[.int .i64 x] w fun e w' => e = .returned (.bool (inB x 1 10000)) ∧ w = w' := by
  go_enter Try.func75, Try.ntmps75
  go_wp2_with (go_at_call 66; refine (in_spec _ _ _ _).mono ?_; rintro e w' ⟨rfl, rfl⟩)
  all_goals go_ret
  all_goals exact ⟨rfl, rfl⟩
theorem cents_impl (x : Int) (w : World) : Calls Try.prog 77 #[.int .i64 x] w fun e w' => e = .returned (.bool (inB x 1 10000)) ∧ w = w' := by
  go_enter Try.func77, Try.ntmps77
  go_wp2_with (go_at_call 55; refine (in_impl _ _ _ _).mono ?_; rintro e w' ⟨rfl, rfl⟩)
  all_goals go_ret
  all_goals exact ⟨rfl, rfl⟩

set_option maxHeartbeats 2000000 in
theorem with_spec (w : World) (b off len cap j : Nat) (X : Nat → ReaderD) (s : ReaderD) (h : Rw w b off 5 len (fun i => (X i).cells)) (hm : len ≤ 1048576) (hlc : len ≤ cap) (hnm : ∀ i, i < len → (X i).Name.size ≤ maxLen) (hj : j < len) (hs : s.Name.size ≤ maxLen) :
    Calls Try.prog 76 #[.slice (some ⟨b, off, none⟩) len cap, .int .i64 (j : Int), s.val] w (RetReaderB (chgL X len j s) (chgOk X len j s) w) := by
  have HN := hid (chg_names hj hnm hs)
  clear hnm
  obtain ⟨i0, hi, hz0, hz1, hz2⟩ := info_parts info_Reader
  have hA1 : Below w.heap.size w (w.alloc (.cells #[.int .i64 s.Id, .string s.Name, .int .i64 s.Joined, .int .i64 s.Class, .int .i64 s.Fines] 33)) := by go_grown
  have hA : Below w.heap.size w ((w.alloc (.cells #[.int .i64 s.Id, .string s.Name, .int .i64 s.Joined, .int .i64 s.Class, .int .i64 s.Fines] 33)).alloc (.cells #[] 33)) := by go_grown
  have hE : OwnReader (w.heap.size + 1) ((w.alloc (.cells #[.int .i64 s.Id, .string s.Name, .int .i64 s.Joined, .int .i64 s.Class, .int .i64 s.Fines] 33)).alloc (.cells #[] 33)) (.slice (some ⟨w.heap.size + 1, 0, none⟩) 0 0) [] := by
    have := OwnReader.empty (w.alloc (.cells #[.int .i64 s.Id, .string s.Name, .int .i64 s.Joined, .int .i64 s.Class, .int .i64 s.Fines] 33))
    simpa only [World.size_alloc] using this
  have HR := hid (h.later' hA).flatReader
  have HE := hid hE
  have e4 : (0 : Int) ≤ (j : Int) := by omega
  have e5 : (j : Int) < (len : Int) := by omega
  clear h hE
  go_enter Try.func76, Try.ntmps76
  go_wp2_with (at_builtin; refine wpList_append_own_at _ rfl _ _ 39 rfl (w.heap.size + 1) 33 i0 (.agg #[.int .i64 0, .string ByteArray.empty, .int .i64 0, .int .i64 0, .int .i64 0]) 5 48 Try.underlying39 hi hz0 hz1 hz2 rfl (by decide) _ 0 [] rfl HE.out ⟨b, off, none⟩ len cap ((lstReader X len).flatMap ReaderD.cells) rfl ?c1 HR.out ?c2 ?c3 ?c4 ?c5 ?_)
  case c1 => rw [flat_len_Reader, lstReader_length]
  case c2 => exact flat_one_Reader _
  case c3 => unfold maxLen; omega
  case c4 => omega
  case c5 => simp
  intro v' w2 hown hgrow _ _
  have hb2 : Below (w.heap.size + 1) ((w.alloc (.cells #[.int .i64 s.Id, .string s.Name, .int .i64 s.Joined, .int .i64 s.Class, .int .i64 s.Fines] 33)).alloc (.cells #[] 33)) w2 := (Below.refl _ _).grown hgrow (by simp) (fun g hg => by simp [Value.ownBlock] at hg; omega)
  have B2 : Below w.heap.size w w2 := hA.trans (hb2.mono (by omega))
  have ho : OwnReader (w.heap.size + 1) w2 v' (lstReader X len) := by unfold OwnReader; rw [lstReader_length]; simpa using hown
  have z2 : w.heap.size + 2 ≤ w2.heap.size := by have := hb2.size; simp at this; omega
  rcases ho.form with ⟨_, h0⟩ | ⟨g, cap', hv, hg, hgl, hc1, hc2, hRw, hBlk⟩
  · have := congrArg List.length h0
    rw [lstReader_length] at this
    simp at this; omega
  · rw [lstReader_length] at hv hc1
    subst hv
    have hp := hid (ho.put (k := j) (by rw [lstReader_length]) hj s)
    obtain ⟨q0, t0⟩ := hBlk.cell (j * 5) (by omega)
    obtain ⟨q1, t1⟩ := hBlk.cell (j * 5 + 1) (by omega)
    obtain ⟨q2, t2⟩ := hBlk.cell (j * 5 + 2) (by omega)
    obtain ⟨q3, t3⟩ := hBlk.cell (j * 5 + 3) (by omega)
    obtain ⟨q4, t4⟩ := hBlk.cell (j * 5 + 4) (by omega)
    have f0 := hBlk.frozen (j * 5)
    have f1 := hBlk.frozen (j * 5 + 1)
    have f2 := hBlk.frozen (j * 5 + 2)
    have f3 := hBlk.frozen (j * 5 + 3)
    have f4 := hBlk.frozen (j * 5 + 4)
    have x0 : w2.cell? ⟨w.heap.size, 0, none⟩ = some (.int .i64 s.Id) := (hb2.cell (by simp)).trans (by simp [go_sem])
    have x1 : w2.cell? ⟨w.heap.size, 1, none⟩ = some (.string s.Name) := (hb2.cell (by simp)).trans (by simp [go_sem])
    have x2 : w2.cell? ⟨w.heap.size, 2, none⟩ = some (.int .i64 s.Joined) := (hb2.cell (by simp)).trans (by simp [go_sem])
    have x3 : w2.cell? ⟨w.heap.size, 3, none⟩ = some (.int .i64 s.Class) := (hb2.cell (by simp)).trans (by simp [go_sem])
    have x4 : w2.cell? ⟨w.heap.size, 4, none⟩ = some (.int .i64 s.Fines) := (hb2.cell (by simp)).trans (by simp [go_sem])
    have hg' : w.heap.size ≤ g := by omega
    clear ho hown hgrow hRw HR HE
    go_wp2_with fail
    have hL : ((lstReader X len).set j s).length = len := by simp [lstReader_length]
    rcases hp.out.form with ⟨hv, _⟩ | ⟨g', cap2, hv, _, _, hc3, _, hRw2, _⟩
    · exact absurd hv (by simp)
    · rw [hL] at hv hRw2
      injection hv with e1 e2 e3
      injection e1 with e1
      injection e1 with e1
      subst e1
      subst e3
      refine (readers_spec _ g 0 len cap' (fun i => ((lstReader X len).set j s).getD i default) hRw2 hm (by omega) HN.out).mono ?_
      rintro e w3 ⟨he, hb3⟩
      change e = .returned (.bool (chgOk X len j s)) at he
      subst he
      have B3 : Below w.heap.size w w3 := Below.on (by go_grown : Below w.heap.size w (((((w2.setCell ⟨g, j * 5, none⟩ (.int .i64 s.Id)).setCell ⟨g, j * 5 + 1, none⟩ (.string s.Name)).setCell ⟨g, j * 5 + 2, none⟩ (.int .i64 s.Joined)).setCell ⟨g, j * 5 + 3, none⟩ (.int .i64 s.Class)).setCell ⟨g, j * 5 + 4, none⟩ (.int .i64 s.Fines))) (by simp; omega) hb3
      have hp3 := hid ((hp.out.below hb3).base (B' := w.heap.size) (by omega))
      clear hRw2 hb3 hp hb2 q0 q1 q2 q3 q4 t0 t1 t2 t3 t4 f0 f1 f2 f3 f4 x0 x1 x2 x3 x4 hA hA1
      by_cases hk : chgOk X len j s = true
      · have HK := hid hk
        go_wp2_with fail
        go_ret2
        exact ⟨_, by rw [HK.out]; rfl, by unfold chgL; rw [if_pos HK.out]; exact hp3.out, B3⟩
      · have hk2 : chgOk X len j s = false := by simpa using hk
        have HK := hid hk2
        clear hk
        go_wp2_with fail
        go_ret2
        exact ⟨_, by rw [HK.out]; rfl, by unfold chgL; rw [HK.out]; exact (OwnReader.empty w3).base B3.size, B3.alloc B3.size _⟩

end Go.Proofs.Ytlcgjcbpoinboaa
