/-
  The parts of a text between a byte: as a list law, and what the library's split, cut and the reference's loop make of it. No program is spoken of. No condition.
-/
import Derived.Test.YteklomkncfjdlaaDoorPlain
import Derived.Test.YteklomkncfjdlaaDoorDig
import Derived.Lib.SplitLaws
import Derived.Lib.IndexMore
namespace Go.Proofs.YteklomkncfjdlaaDoor
open Go.RowKit
set_option linter.unusedVariables false

/-- The parts of a list of bytes between a byte. -/
def spl (c : UInt8) : List UInt8 → List (List UInt8)
  | [] => [[]]
  | b :: l => if b = c then [] :: spl c l else (b :: (spl c l).headD []) :: (spl c l).tail
theorem spl_ne (c : UInt8) : ∀ l, spl c l ≠ []
  | [] => by simp [spl]
  | b :: l => by unfold spl; split <;> simp
theorem spl_cons (c : UInt8) (l : List UInt8) : ∃ h t, spl c l = h :: t := by
  cases e : spl c l with
  | nil => exact absurd e (spl_ne c l)
  | cons h t => exact ⟨h, t, rfl⟩
theorem spl_none (c : UInt8) : ∀ l : List UInt8, c ∉ l → spl c l = [l]
  | [], _ => rfl
  | b :: l, h => by
    have h1 : ¬ b = c := fun e => h (by simp [e])
    have h2 : c ∉ l := fun e => h (by simp [e])
    unfold spl
    rw [if_neg h1, spl_none c l h2]
    rfl
theorem spl_step (c b : UInt8) : ∀ (l : List UInt8) (L : List (List UInt8)) (p : List UInt8), spl c l = L ++ [p] → spl c (l ++ [b]) = if b = c then L ++ [p] ++ [[]] else L ++ [p ++ [b]]
  | [], L, p, h => by
    cases L with
    | nil =>
      have hp : p = [] := by simp [spl] at h; exact h
      subst hp
      by_cases hb : b = c <;> simp [spl, hb]
    | cons x L' =>
      have := congrArg List.length h
      simp [spl] at this
  | a :: l, L, p, h => by
    obtain ⟨hd, tl, he⟩ := spl_cons c l
    by_cases ha : a = c
    · have e1 : spl c (a :: l) = [] :: spl c l := by rw [spl, if_pos ha]
      have e2 : spl c (a :: l ++ [b]) = [] :: spl c (l ++ [b]) := by rw [List.cons_append, spl, if_pos ha]
      rw [e1] at h
      rw [e2]
      cases L with
      | nil =>
        have := congrArg List.length h
        rw [he] at this
        simp at this
      | cons x L' =>
        have hx : x = [] := by simp at h; exact h.1
        have hr : spl c l = L' ++ [p] := by simp at h; exact h.2
        rw [spl_step c b l L' p hr, hx]
        split <;> simp
    · have e1 : spl c (a :: l) = (a :: hd) :: tl := by rw [spl, if_neg ha, he]; rfl
      rw [e1] at h
      have e2 : spl c (a :: l ++ [b]) = (a :: (spl c (l ++ [b])).headD []) :: (spl c (l ++ [b])).tail := by rw [List.cons_append, spl, if_neg ha]
      rw [e2]
      cases L with
      | nil =>
        have hp : p = a :: hd := by simp at h; exact h.1.symm
        have ht : tl = [] := by simp at h; exact h.2
        have := spl_step c b l [] hd (by rw [he, ht]; rfl)
        rw [this, hp]
        split <;> simp
      | cons x L' =>
        have hx : x = a :: hd := by simp at h; exact h.1.symm
        have ht : tl = L' ++ [p] := by simp at h; exact h.2
        have := spl_step c b l (hd :: L') p (by rw [he, ht]; rfl)
        rw [this, hx]
        split <;> simp
theorem spl_head (c : UInt8) : ∀ l : List UInt8, (spl c l).headD [] = l.takeWhile (fun b => b != c)
  | [] => rfl
  | b :: l => by
    by_cases h : b = c
    · subst h; simp [spl]
    · have hb : (b != c) = true := by simpa using h
      rw [spl, if_neg h, List.takeWhile_cons, hb, ← spl_head c l]
      rfl
theorem index_one (b c : UInt8) (l : List UInt8) : Lib.index (b :: l) [c] = if b = c then 0 else if Lib.index l [c] == -1 then -1 else Lib.index l [c] + 1 := by
  rw [Lib.index]
  by_cases h : b = c
  · subst h; simp [List.isPrefixOf]
  · have : ([c] : List UInt8).isPrefixOf (b :: l) = false := by simp [List.isPrefixOf, Ne.symm h]
    rw [this, if_neg h]
    simp
theorem cut_head (c : UInt8) : ∀ l : List UInt8, (Lib.cut l [c]).1 = l.takeWhile (fun b => b != c)
  | [] => by simp [Lib.cut, Lib.index]
  | b :: l => by
    have ih := cut_head c l
    have hg := Lib.index_ge l [c]
    unfold Lib.cut at ih ⊢
    rw [index_one]
    by_cases h : b = c
    · subst h; simp
    · have hb : (b != c) = true := by simpa using h
      rw [if_neg h, List.takeWhile_cons, hb, ← ih]
      by_cases hm : Lib.index l [c] = -1
      · rw [hm]; simp
      · have h0 : 0 ≤ Lib.index l [c] := by omega
        have e1 : (Lib.index l [c] == -1) = false := by simpa using hm
        have e2 : (Lib.index l [c] + 1).toNat = (Lib.index l [c]).toNat + 1 := by omega
        rw [e1]
        simp only [Bool.false_eq_true, if_false]
        rw [if_pos h0, if_pos (by omega), e2]
        rfl
theorem index_count (c : UInt8) : ∀ l : List UInt8, 0 < l.count c → 0 ≤ Lib.index l [c]
  | [], h => by simp at h
  | b :: l, h => by
    rw [index_one]
    by_cases hb : b = c
    · rw [if_pos hb]; exact Int.le_refl _
    · rw [if_neg hb]
      have := index_count c l (by rwa [List.count_cons_of_ne (by simpa using hb)] at h)
      rw [if_neg (by simp; omega)]
      omega
theorem splitK_spl (c : UInt8) : ∀ (k : Nat) (l : List UInt8), l.count c = k → Lib.splitK [c] 0 k l = spl c l
  | 0, l, h => by
    rw [spl_none c l (List.count_eq_zero.1 h)]
    rfl
  | k + 1, [], h => by simp at h
  | k + 1, b :: l, h => by
    by_cases hb : b = c
    · subst hb
      have hk : l.count b = k := by simpa using h
      rw [Lib.splitK, index_one, if_pos rfl, spl, if_pos rfl, ← splitK_spl b k l hk]
      simp
    · have hk : l.count c = k + 1 := by rwa [List.count_cons_of_ne (by simpa using hb)] at h
      have ih := splitK_spl c (k + 1) l hk
      have h0 := index_count c l (by omega)
      have e1 : (Lib.index l [c] == -1) = false := by simp; omega
      have e2 : (Lib.index l [c] + 1 == -1) = false := by simp; omega
      have e3 : (Lib.index l [c] + 1).toNat = (Lib.index l [c]).toNat + 1 := by omega
      rw [Lib.splitK, e1] at ih
      simp only [Bool.false_eq_true, if_false, Nat.add_zero, List.length_singleton] at ih
      rw [Lib.splitK, index_one, if_neg hb, e1]
      simp only [Bool.false_eq_true, if_false]
      rw [e2]
      simp only [Bool.false_eq_true, if_false, Nat.add_zero, List.length_singleton]
      rw [e3, spl, if_neg hb, ← ih]
      rfl

/-- The parts of a text between a byte. -/
def splitP (s : ByteArray) (c : UInt8) : List ByteArray := (spl c s.data.toList).map txt
theorem splitP_of {s : ByteArray} {c : UInt8} {L : List ByteArray} (h : L.map (fun x => x.data.toList) = spl c s.data.toList) : L = splitP s c := by
  unfold splitP
  rw [← h, List.map_map]
  conv => lhs; rw [← List.map_id L]
  exact List.map_congr_left fun x _ => (txt_list x).symm
theorem splitB_P (s : ByteArray) (c : UInt8) : Lib.splitB ⟨#[c]⟩ 0 (Lib.countB s ⟨#[c]⟩) s = splitP s c :=
  splitP_of (by rw [Lib.splitB_data]; exact splitK_spl c _ _ (Lib.count_one c s.data.toList).symm)
theorem splitP_len (s : ByteArray) (c : UInt8) : (splitP s c).length = Lib.countB s ⟨#[c]⟩ + 1 := by
  rw [← splitB_P]
  exact Lib.splitB_all ⟨#[c]⟩ (Nat.le_refl 1) 0 _ s rfl
theorem splitP_le (s : ByteArray) (c : UInt8) : (splitP s c).length ≤ s.size + 1 := by
  have := Lib.countB_le ⟨#[c]⟩ (Nat.le_refl 1) s.size s (Nat.le_refl _)
  rw [splitP_len]; omega
theorem splitP_head (s : ByteArray) (c : UInt8) : (splitP s c).getD 0 default = txt (s.data.toList.takeWhile (fun b => b != c)) := by
  obtain ⟨h, t, e⟩ := spl_cons c s.data.toList
  have := spl_head c s.data.toList
  unfold splitP
  rw [e] at this ⊢
  simp at this
  simp [this]

/-- Of the first k bytes: the parts that have ended, and where the last one begins. -/
def SpR (s : ByteArray) (c : UInt8) (k : Nat) (L : List ByteArray) (f : Nat) : Prop := f ≤ k ∧ L.map (fun x => x.data.toList) ++ [(s.data.toList.take k).drop f] = spl c (s.data.toList.take k)
theorem SpR.zero (s : ByteArray) (c : UInt8) : SpR s c 0 [] 0 := ⟨Nat.le_refl _, by simp [spl]⟩
theorem ext_list (s : ByteArray) (a b : Nat) : (s.extract a b).data.toList = (s.data.toList.take b).drop a := by
  simp [ByteArray.data_extract, List.drop_take]
theorem take_snoc (s : ByteArray) (k : Nat) (h : k < s.size) : s.data.toList.take (k + 1) = s.data.toList.take k ++ [s[k]'h] := by
  rw [List.take_add_one, byte_at s k h]; rfl
theorem SpR.hit {s : ByteArray} {c : UInt8} {k f : Nat} {L : List ByteArray} (h : SpR s c k L f) (hk : k < s.size) (hc : s[k]'hk = c) : SpR s c (k + 1) (L ++ [s.extract f k]) (k + 1) := by
  refine ⟨Nat.le_refl _, ?_⟩
  have h1 := spl_step c (s[k]'hk) (s.data.toList.take k) (L.map (fun x => x.data.toList)) _ h.2.symm
  rw [← take_snoc s k hk, if_pos hc] at h1
  rw [h1]
  have hl : (s.data.toList.take (k + 1)).length = k + 1 := by rw [List.length_take, ← Lib.size_eq]; omega
  rw [List.map_append, List.map_cons, List.map_nil, ext_list, List.drop_eq_nil_of_le (show (s.data.toList.take (k + 1)).length ≤ k + 1 by omega)]
theorem SpR.miss {s : ByteArray} {c : UInt8} {k f : Nat} {L : List ByteArray} (h : SpR s c k L f) (hk : k < s.size) (hc : s[k]'hk ≠ c) : SpR s c (k + 1) L f := by
  refine ⟨by have := h.1; omega, ?_⟩
  have h1 := spl_step c (s[k]'hk) (s.data.toList.take k) (L.map (fun x => x.data.toList)) _ h.2.symm
  rw [← take_snoc s k hk, if_neg hc] at h1
  rw [h1]
  have hl : (s.data.toList.take k).length = k := by rw [List.length_take, ← Lib.size_eq]; omega
  have hf := h.1
  rw [take_snoc s k hk, List.drop_append_of_le_length (by omega)]
theorem SpR.done {s : ByteArray} {c : UInt8} {f : Nat} {L : List ByteArray} (h : SpR s c s.size L f) : L ++ [s.extract f s.size] = splitP s c := by
  refine splitP_of ?_
  have h2 := h.2
  have e : s.data.toList.take s.size = s.data.toList := List.take_of_length_le (by rw [← Lib.size_eq]; exact Nat.le_refl _)
  rw [List.map_append, List.map_cons, List.map_nil, ext_list]
  rw [e] at h2 ⊢
  exact h2
end Go.Proofs.YteklomkncfjdlaaDoor
