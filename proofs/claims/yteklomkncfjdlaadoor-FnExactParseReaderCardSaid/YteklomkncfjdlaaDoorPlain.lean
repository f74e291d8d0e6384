/-
  Texts as lists of bytes: a byte that stands in a text; parts with a separator between. No program is spoken of. No condition.
-/
import Derived.Test.YteklomkncfjdlaaDoorListString
import Derived.Lib.Join
import Derived.Lib.SplitLaws
import Derived.Laws.IdiomStrings
namespace Go.Proofs.YteklomkncfjdlaaDoor
open Go.RowKit
set_option linter.unusedVariables false

/-- A byte stands in a text. -/
def stB (s : ByteArray) (c : UInt8) : Bool := decide (c ∈ s.data.toList)
theorem byte_at (s : ByteArray) (k : Nat) (h : k < s.size) : s.data.toList[k]? = some (s[k]'h) := by
  exact Lib.data_getElem? s k h
theorem stB_hit {s : ByteArray} {c : UInt8} {k : Nat} (h : k < s.size) (e : s[k]'h = c) : stB s c = true := by
  unfold stB
  rw [decide_eq_true_iff, ← e]
  exact List.mem_of_getElem? (byte_at s k h)
theorem stB_none {s : ByteArray} {c : UInt8} (h : ∀ (k : Nat) (hk : k < s.size), s[k]'hk ≠ c) : stB s c = false := by
  unfold stB
  rw [decide_eq_false_iff_not]
  intro hm
  obtain ⟨k, hk⟩ := List.getElem?_of_mem hm
  have hlt : k < s.size := by have := (List.getElem?_eq_some_iff.1 hk).1; rw [Lib.size_eq]; exact this
  rw [byte_at s k hlt] at hk
  exact h k hlt (Option.some.inj hk)
theorem indexByte_stands (c : UInt8) : ∀ l : List UInt8, decide (0 ≤ Lib.indexByte l c) = decide (c ∈ l)
  | [] => by simp [Lib.indexByte]
  | b :: l => by
    have ih := indexByte_stands c l
    have hg := Lib.indexByte_ge l c
    unfold Lib.indexByte
    by_cases hb : b = c
    · subst hb; simp
    · have hb' : (b == c) = false := by simpa using hb
      rw [hb']
      simp only [Bool.false_eq_true, if_false]
      by_cases hm : c ∈ l
      · have h0 : 0 ≤ Lib.indexByte l c := by simpa [hm] using ih
        rw [if_neg (by simp; omega)]
        simp [hm]; omega
      · have h0 : ¬ 0 ≤ Lib.indexByte l c := by simpa [hm] using ih
        rw [if_pos (by simp; omega)]
        simp [hm, Ne.symm hb]
theorem stB_index (s : ByteArray) (c : UInt8) : decide (0 ≤ Lib.indexByte s.data.toList c) = stB s c := indexByte_stands c _

/-- The first k parts with sep between them. -/
def joinT (X : Nat → ByteArray) (sep : ByteArray) : Nat → ByteArray
  | 0 => ByteArray.empty
  | k + 1 => if k = 0 then X 0 else joinT X sep k ++ sep ++ X k
theorem joinT_one (X : Nat → ByteArray) (sep : ByteArray) : joinT X sep 1 = X 0 := rfl
theorem joinT_succ (X : Nat → ByteArray) (sep : ByteArray) {k : Nat} (h : 0 < k) : joinT X sep (k + 1) = joinT X sep k ++ sep ++ X k := by
  rw [joinT, if_neg (by omega)]
theorem joinT_step (X : Nat → ByteArray) (sep : ByteArray) (k : Nat) : (joinT X sep k).size ≤ (joinT X sep (k + 1)).size := by
  by_cases h : k = 0
  · subst h; simp [joinT]
  · rw [joinT_succ X sep (by omega), ByteArray.size_append, ByteArray.size_append]; omega
theorem joinT_mono (X : Nat → ByteArray) (sep : ByteArray) {k n : Nat} (h : k ≤ n) : (joinT X sep k).size ≤ (joinT X sep n).size := by
  induction n with
  | zero => rw [show k = 0 by omega]; exact Nat.le_refl _
  | succ n ih =>
    by_cases e : k = n + 1
    · rw [e]; exact Nat.le_refl _
    · exact Nat.le_trans (ih (by omega)) (joinT_step X sep n)
theorem joinT_size (X : Nat → ByteArray) (sep : ByteArray) (h1 : sep.size = 1) (n : Nat) : (joinT X sep n).size ≤ sumZ X n + n := by
  induction n with
  | zero => simp [joinT, sumZ]
  | succ n ih =>
    by_cases h : n = 0
    · subst h; simp [joinT, sumZ]
    · rw [joinT_succ X sep (by omega), ByteArray.size_append, ByteArray.size_append, h1, sumZ]; omega
theorem joinT_list (X : Nat → ByteArray) (sep : ByteArray) : ∀ n, Lib.join ((List.range (n + 1)).map fun i => (X i).data.toList) sep.data.toList = (joinT X sep (n + 1)).data.toList
  | 0 => by rw [joinT_one, show List.range 1 = [0] from rfl, List.map_cons, List.map_nil, Lib.join_one]
  | n + 1 => by
    have ih := joinT_list X sep n
    rw [joinT_succ X sep (by omega), List.range_succ, List.map_append, List.map_cons, List.map_nil]
    cases hl : (List.range (n + 1)).map fun i => (X i).data.toList with
    | nil => simp at hl
    | cons x r =>
      rw [hl, Lib.join_cons] at ih
      rw [List.cons_append, Lib.join_cons]
      have ht : Lib.joinTail sep.data.toList (r ++ [(X (n + 1)).data.toList]) = Lib.joinTail sep.data.toList r ++ sep.data.toList ++ (X (n + 1)).data.toList := by
        simp [Lib.joinTail, List.append_assoc]
      rw [ht, ← List.append_assoc, ← List.append_assoc, ih]
      simp [ByteArray.data_append]

/-- The separator's byte. -/
def sepC (sep : ByteArray) : UInt8 := sep.data.toList.headD 0
/-- The parts can be joined. -/
def joinB (X : Nat → ByteArray) (n : Nat) (sep : ByteArray) : Bool := decide (sep.size = 1) && decide (0 < n) && allI (fun i => !stB (X i) (sepC sep)) n && decide ((joinT X sep n).size ≤ 4000)
def joinS (X : Nat → ByteArray) (n : Nat) (sep : ByteArray) : ByteArray := if joinB X n sep = true then joinT X sep n else ByteArray.empty
theorem joinS_no {X : Nat → ByteArray} {n : Nat} {sep : ByteArray} (h : joinB X n sep = false) : joinS X n sep = ByteArray.empty := by unfold joinS; rw [if_neg (by rw [h]; simp)]
theorem joinS_yes {X : Nat → ByteArray} {n : Nat} {sep : ByteArray} (h : joinB X n sep = true) : joinS X n sep = joinT X sep n := by unfold joinS; rw [if_pos h]
theorem joinB_sep {X : Nat → ByteArray} {n : Nat} {sep : ByteArray} (h : sep.size ≠ 1) : joinB X n sep = false := by simp [joinB, h]
theorem joinB_nil {X : Nat → ByteArray} {sep : ByteArray} : joinB X 0 sep = false := by simp [joinB]
theorem joinB_hit {X : Nat → ByteArray} {n k : Nat} {c : UInt8} (hk : k < n) (h : stB (X k) c = true) : joinB X n ⟨#[c]⟩ = false := by
  have : allI (fun i => !stB (X i) (sepC ⟨#[c]⟩)) n = false := allI_false hk (by show (!stB (X k) c) = false; rw [h]; rfl)
  unfold joinB; rw [this]; simp
theorem joinB_long {X : Nat → ByteArray} {n k : Nat} {sep : ByteArray} (hk : k ≤ n) (h : 4000 < (joinT X sep k).size) : joinB X n sep = false := by
  have := joinT_mono X sep hk
  have hd : decide ((joinT X sep n).size ≤ 4000) = false := by simp; omega
  unfold joinB; rw [hd]; simp
theorem joinB_ok {X : Nat → ByteArray} {n : Nat} {c : UInt8} (h0 : 0 < n) (h : ∀ i, i < n → stB (X i) c = false) (h4 : (joinT X ⟨#[c]⟩ n).size ≤ 4000) : joinB X n ⟨#[c]⟩ = true := by
  have h1 : allI (fun i => !stB (X i) (sepC ⟨#[c]⟩)) n = true := allI_true.2 fun i hi => by show (!stB (X i) c) = true; rw [h i hi]; rfl
  unfold joinB; rw [h1]; simp [h0, h4]; rfl
end Go.Proofs.YteklomkncfjdlaaDoor
