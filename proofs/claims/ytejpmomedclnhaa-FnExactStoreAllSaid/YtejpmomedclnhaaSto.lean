/-
  All flats stored: the order, the drawers after each flat; the plain law. No condition.
-/
import Derived.Test.YtejpmomedclnhaaStor3
namespace Go.Proofs.Ytejpmomedclnhaa
open Go.RowKit
set_option linter.unusedVariables false
set_option maxRecDepth 100000

/-- The first i flats in their order. -/
def ordL (A : List FlatD) (i : Nat) : List FlatD := (isL A i).take i
theorem ordL_len {A : List FlatD} {i : Nat} (h : i ≤ A.length) : (ordL A i).length = i := by unfold ordL; rw [List.length_take, isL_len]; omega
theorem ordL_split {A : List FlatD} {i : Nat} (h : i < A.length) (hd : (isL A i).drop i = A.drop i) : isL A i = ordL A i ++ A.getD i default :: A.drop (i + 1) := by
  have h1 := List.take_append_drop i (isL A i)
  rw [hd, List.drop_eq_getElem_cons h] at h1
  have h2 : A.getD i default = A[i] := by simp [List.getD, h]
  rw [h2]
  exact h1.symm
theorem isL_step {A : List FlatD} {i : Nat} (h : i < A.length) (hd : (isL A i).drop i = A.drop i) :
    isL A (i + 1) = (ordL A i).take (cutR (A.getD i default) (ordL A i) i) ++ A.getD i default :: ((ordL A i).drop (cutR (A.getD i default) (ordL A i) i) ++ A.drop (i + 1)) := by
  have hl : (ordL A i).length = i := ordL_len (by omega)
  have hs := sink_app (A.getD i default) (ordL A i) i (A.drop (i + 1)) (by omega)
  rw [List.take_of_length_le (show (ordL A i).length ≤ i by omega)] at hs
  rw [← hs, ← ordL_split h hd]
  rfl
theorem isL_drop (A : List FlatD) : ∀ i, i ≤ A.length → (isL A i).drop i = A.drop i
  | 0, _ => rfl
  | i + 1, h => by
    have hd := isL_drop A i (by omega)
    have hl : (ordL A i).length = i := ordL_len (by omega)
    have hc := cutR_le (A.getD i default) (ordL A i) i
    rw [isL_step (by omega) hd]
    generalize cutR (A.getD i default) (ordL A i) i = c at hc
    generalize ordL A i = O at hl
    have h1 : (O.take c).length = c := by rw [List.length_take]; omega
    have h2 : (O.drop c).length = i - c := by rw [List.length_drop]; omega
    rw [List.drop_append, h1, List.drop_eq_nil_of_le (by omega), List.nil_append, show i + 1 - c = (i - c) + 1 by omega, List.drop_succ_cons, List.drop_append, h2, List.drop_eq_nil_of_le (by omega)]
    simp
theorem ordL_succ {A : List FlatD} {i : Nat} (h : i < A.length) :
    ordL A (i + 1) = (ordL A i).take (cutR (A.getD i default) (ordL A i) i) ++ A.getD i default :: (ordL A i).drop (cutR (A.getD i default) (ordL A i) i) := by
  have hl : (ordL A i).length = i := ordL_len (by omega)
  have hc := cutR_le (A.getD i default) (ordL A i) i
  have hst := isL_step h (isL_drop A i (by omega))
  unfold ordL at hst hc hl ⊢
  rw [hst]
  generalize cutR (A.getD i default) (List.take i (isL A i)) i = c at hc
  generalize List.take i (isL A i) = O at hl
  have h1 : (O.take c).length = c := by rw [List.length_take]; omega
  have h2 : (O.drop c).length = i - c := by rw [List.length_drop]; omega
  rw [List.take_append, h1, List.take_of_length_le (l := List.take c O) (by omega), show i + 1 - c = (i - c) + 1 by omega, List.take_succ_cons, List.take_append, h2]
  simp
  exact List.take_of_length_le (by omega)
theorem ordL_full {A : List FlatD} : ordL A A.length = isL A A.length := by unfold ordL; rw [List.take_of_length_le (by rw [isL_len]; omega)]


theorem swap_perm (L : List FlatD) (j : Nat) (h : j + 1 < L.length) : ((L.set (j + 1) (L.getD j default)).set j (L.getD (j + 1) default)).Perm L := by
  have h1 : L.getD j default = L[j] := by simp [List.getD, show j < L.length by omega]
  have h2 : L.getD (j + 1) default = L[j + 1] := by simp [List.getD, h]
  have e := List.take_append_drop j L
  have d1 : L.drop j = L[j] :: L.drop (j + 1) := List.drop_eq_getElem_cons (by omega)
  have d2 : L.drop (j + 1) = L[j + 1] :: L.drop (j + 2) := List.drop_eq_getElem_cons h
  rw [h1, h2]
  generalize L[j] = a at *
  generalize L[j + 1] = c at *
  generalize L.drop (j + 2) = R at *
  rw [d2] at d1
  rw [d1] at e
  have hl : (L.take j).length = j := by rw [List.length_take]; omega
  generalize L.take j = T at *
  subst e
  rw [List.set_append_right _ _ (by omega), hl, List.set_append_right _ _ (by omega), hl]
  simp
  exact List.Perm.append_left _ (List.Perm.swap _ _ _)
theorem sinkL_perm : ∀ (j : Nat) (L : List FlatD), j < L.length → (sinkL j L).Perm L
  | 0, L, _ => List.Perm.refl _
  | j + 1, L, h => by
    unfold sinkL
    split
    · exact (sinkL_perm j _ (by simp; omega)).trans (swap_perm L j h)
    · exact List.Perm.refl _
theorem isL_perm (A : List FlatD) : ∀ k, k ≤ A.length → (isL A k).Perm A
  | 0, _ => List.Perm.refl _
  | k + 1, h => by
    unfold isL
    exact (sinkL_perm k _ (by rw [isL_len]; omega)).trans (isL_perm A k (by omega))
/-- The order in which the loose flats are stored. -/
def ordA (Y : Nat → FlatD) (m : Nat) (X : Nat → DrawerD) (n : Nat) : List FlatD := isL (looseF Y m X n) (looseF Y m X n).length
theorem ordA_len (Y : Nat → FlatD) (m : Nat) (X : Nat → DrawerD) (n : Nat) : (ordA Y m X n).length ≤ m := by unfold ordA; rw [isL_len]; exact looseF_le _ _ _ _
theorem ordA_mem {Y : Nat → FlatD} {m : Nat} {X : Nat → DrawerD} {n : Nat} {s : FlatD} (h : s ∈ ordA Y m X n) : s ∈ looseF Y m X n := (isL_perm (looseF Y m X n) _ (Nat.le_refl _)).mem_iff.1 h
/-- The drawers after one more flat. -/
def stepX (Y : Nat → FlatD) (m n : Nat) (X : Nat → DrawerD) (id : Int) : Nat → DrawerD := if tgI Y m X n id < 0 then X else putX X (tgI Y m X n id).toNat id
def stN (Y : Nat → FlatD) (m n : Nat) (X : Nat → DrawerD) (L : List FlatD) : Nat → Nat → DrawerD
  | 0 => X
  | i + 1 => stepX Y m n (stN Y m n X L i) (L.getD i default).Id
theorem tgF_can {p : Nat → Bool} {X : Nat → DrawerD} {K : List Int} {n : Nat} (hK : ∀ j, j < K.length → ∃ k : Nat, k < n ∧ K.getD j 0 = (k : Int) ∧ p k = true) : ∀ j, j ≤ K.length → tgF X K j = -1 ∨ ∃ b : Nat, b < n ∧ tgF X K j = (b : Int) ∧ p b = true
  | 0, _ => .inl rfl
  | j + 1, hj => by
    obtain ⟨k, hk, hkj, hp⟩ := hK j (by omega)
    rcases tgF_can hK j (by omega) with h | ⟨b, hb, h, hq⟩
    · exact .inr ⟨k, hk, tgF_none hkj h, hp⟩
    · by_cases hl : whD X k < whD X b
      · exact .inr ⟨k, hk, tgF_less hkj h hl, hp⟩
      · exact .inr ⟨b, hb, tgF_more hkj h hl, hq⟩
theorem tgI_can (Y : Nat → FlatD) (m : Nat) (X : Nat → DrawerD) (n : Nat) (flat : Int) : tgI Y m X n flat = -1 ∨ ∃ b : Nat, b < n ∧ tgI Y m X n flat = (b : Int) ∧ canB Y m X n flat b = true ∧ looseB Y m X n flat = true := by
  unfold tgI
  split
  · rename_i hl
    rcases tgF_can (p := canB Y m X n flat) (X := X) (K := dfK Y m X n flat) (fun j hj => dfK_at hj) _ (Nat.le_refl _) with h | ⟨b, h1, h2, h3⟩
    · exact .inl h
    · exact .inr ⟨b, h1, h2, h3, hl⟩
  · exact .inl rfl
theorem stepX_no {Y : Nat → FlatD} {m n : Nat} {X : Nat → DrawerD} {id : Int} (h : tgI Y m X n id = -1) : stepX Y m n X id = X := by unfold stepX; rw [h]; rfl
theorem stepX_yes {Y : Nat → FlatD} {m n b : Nat} {X : Nat → DrawerD} {id : Int} (h : tgI Y m X n id = (b : Int)) : stepX Y m n X id = putX X b id := by unfold stepX; rw [h, if_neg (by omega), Int.toNat_natCast]
theorem stepX_good {Y : Nat → FlatD} {m n : Nat} {X : Nat → DrawerD} {id : Int} (h : goodB Y m X n = true) : goodB Y m (stepX Y m n X id) n = true := by
  rcases tgI_can Y m X n id with h1 | ⟨b, _, h1, h2, _⟩
  · rw [stepX_no h1]; exact h
  · rw [stepX_yes h1]; exact h2
theorem stN_good {Y : Nat → FlatD} {m n : Nat} {X : Nat → DrawerD} {L : List FlatD} (h : goodB Y m X n = true) : ∀ i, goodB Y m (stN Y m n X L i) n = true
  | 0 => h
  | i + 1 => stepX_good (stN_good h i)
theorem insI_mem (x y : Int) (L : List Int) : y ∈ insI x L ↔ y = x ∨ y ∈ L := by
  unfold insI
  rw [List.mem_append, List.mem_cons]
  have := congrArg (y ∈ ·) (List.take_append_drop (cutI x L) L)
  simp only [List.mem_append] at this
  constructor
  · rintro (h | h | h)
    · exact .inr (this ▸ .inl h)
    · exact .inl h
    · exact .inr (this ▸ .inr h)
  · rintro (h | h)
    · exact .inr (.inl h)
    · rcases this.symm ▸ h with h | h
      · exact .inl h
      · exact .inr (.inr h)
theorem whereI_none {X : Nat → DrawerD} {n : Nat} {id : Int} (h : ∀ k, k < n → id ∉ (X k).Flats) : whereI X n id = -1 := by
  rcases findI_cases (fun i => (X i).Flats.contains id) n with h1 | ⟨j, h1, h2, h3⟩
  · exact h1
  · exact absurd (by simpa using h3) (h j h1)
theorem loose_keep {Y : Nat → FlatD} {m n : Nat} {X : Nat → DrawerD} {x y : Int} (h : looseB Y m X n y = true) (hne : y ≠ x) : looseB Y m (stepX Y m n X x) n y = true := by
  have hg := looseB_good h
  have hg2 := stepX_good (id := x) hg
  rcases tgI_can Y m X n x with h1 | ⟨b, hb, h1, h2, _⟩
  · rw [stepX_no h1]; exact h
  · have hnot : ∀ k, k < n → y ∉ (X k).Flats := fun k hk e => by
      have := looseB_not h hk
      simp [e] at this
    have hw : whereI (stepX Y m n X x) n y = -1 := by
      rw [stepX_yes h1]
      refine whereI_none fun k hk e => ?_
      unfold putX wX at e
      split at e
      · rename_i hkb
        have hkb : k = b := by omega
        rw [insI_mem] at e
        rcases e with e | e
        · exact hne e
        · exact hnot b hb e
      · exact hnot k hk e
    have hf : decide (0 ≤ fAt Y m y) = true := by simp [looseB] at h; simpa using h.1.2
    unfold looseB
    rw [hg2, hw, hf]
    rfl
theorem fAt_self {Y : Nat → FlatD} {m k : Nat} (hk : k < m) : 0 ≤ fAt Y m (Y k).Id := by
  rcases findI_cases (fun i => (Y i).Id == (Y k).Id) m with h1 | ⟨j, h1, h2, h3⟩
  · have := findI_none h1 k hk
    simp at this
  · show 0 ≤ findI _ m
    rw [h2]; omega
theorem looseF_loose {Y : Nat → FlatD} {m : Nat} {X : Nat → DrawerD} {n : Nat} {s : FlatD} (hg : goodB Y m X n = true) (h : s ∈ looseF Y m X n) : looseB Y m X n s.Id = true := by
  unfold looseF lstFlat at h
  rw [List.mem_filter, List.mem_map] at h
  obtain ⟨⟨k, hk, rfl⟩, h2⟩ := h
  have hk : k < m := by simpa using hk
  have hw : whereI X n (Y k).Id < 0 := by simp at h2; omega
  unfold looseB
  rw [hg, decide_eq_true (fAt_self hk), decide_eq_true hw]
  rfl
theorem flats_step {Y : Nat → FlatD} {m i : Nat} (h : flatsB Y m = true) (hi : i + 1 < m) : (Y i).Id < (Y (i + 1)).Id := by
  simp [flatsB] at h
  have := allI_true.1 h.2 (i + 1) hi
  simp [flatOk] at this
  exact this.2
theorem flats_lt {Y : Nat → FlatD} {m : Nat} (h : flatsB Y m = true) : ∀ {j i : Nat}, i < j → j < m → (Y i).Id < (Y j).Id
  | j + 1, i, h1, h2 => by
    have s := flats_step h h2
    by_cases e : i = j
    · subst e; exact s
    · have := flats_lt h (j := j) (i := i) (by omega) (by omega); omega
theorem flats_nodup {Y : Nat → FlatD} {m : Nat} (h : flatsB Y m = true) : ((lstFlat Y m).map FlatD.Id).Nodup := by
  unfold lstFlat List.Nodup
  rw [List.map_map, List.pairwise_map]
  refine List.pairwise_lt_range.imp_of_mem fun {i j} hi hj hij => ?_
  have := flats_lt h hij (by simpa using hj)
  simp only [Function.comp]
  omega
theorem ordA_nodup {Y : Nat → FlatD} {m : Nat} {X : Nat → DrawerD} {n : Nat} (hg : goodB Y m X n = true) : ((ordA Y m X n).map FlatD.Id).Nodup := by
  have h1 : ((looseF Y m X n).map FlatD.Id).Nodup := (flats_nodup (goodB_flats hg)).sublist (List.Sublist.map _ List.filter_sublist)
  exact (((isL_perm (looseF Y m X n) _ (Nat.le_refl _)).map FlatD.Id).nodup_iff).2 h1
theorem ordA_ne {Y : Nat → FlatD} {m : Nat} {X : Nat → DrawerD} {n i j : Nat} (hg : goodB Y m X n = true) (hij : i < j) (hj : j < (ordA Y m X n).length) : ((ordA Y m X n).getD j default).Id ≠ ((ordA Y m X n).getD i default).Id := by
  have h := List.pairwise_iff_getElem.1 (ordA_nodup hg) i j (by simp; omega) (by simpa using hj) hij
  simp at h
  have e1 : (ordA Y m X n).getD i default = (ordA Y m X n)[i] := by simp [List.getD, show i < (ordA Y m X n).length by omega]
  have e2 : (ordA Y m X n).getD j default = (ordA Y m X n)[j] := by simp [List.getD, hj]
  rw [e1, e2]
  exact fun e => h e.symm
/-- Before each step the flat at hand is loose. -/
theorem stN_loose {Y : Nat → FlatD} {m : Nat} {X : Nat → DrawerD} {n : Nat} (hg : goodB Y m X n = true) : ∀ i j, i ≤ j → j < (ordA Y m X n).length → looseB Y m (stN Y m n X (ordA Y m X n) i) n ((ordA Y m X n).getD j default).Id = true
  | 0, j, _, hj => looseF_loose hg (ordA_mem (by rw [show (ordA Y m X n).getD j default = (ordA Y m X n)[j] by simp [List.getD, hj]]; exact List.getElem_mem hj))
  | i + 1, j, hij, hj => loose_keep (stN_loose hg i j (by omega) hj) (ordA_ne hg (by omega) hj)
/-- What StoreAll says. -/
def saX (Y : Nat → FlatD) (m : Nat) (X : Nat → DrawerD) (n : Nat) : Nat → DrawerD := stN Y m n X (ordA Y m X n) (ordA Y m X n).length
def saL (Y : Nat → FlatD) (m : Nat) (X : Nat → DrawerD) (n : Nat) : List Int := if goodB Y m X n = true then lfI Y m (saX Y m X n) n else []
theorem sa_small (Y : Nat → FlatD) (m : Nat) (X : Nat → DrawerD) (n : Nat) : (if goodB Y m X n = true then n else 0) ≤ 8 ∧ ∀ i, i < (if goodB Y m X n = true then n else 0) → (saX Y m X n i).Flats.length ≤ 12 := by
  by_cases h : goodB Y m X n = true
  · rw [if_pos h]
    exact ⟨goodB_le h, fun i hi => drawerB_len (goodB_drawer (stN_good h _) hi)⟩
  · rw [if_neg h]
    exact ⟨by omega, fun i hi => absurd hi (by omega)⟩
theorem saL_le (Y : Nat → FlatD) (m : Nat) (X : Nat → DrawerD) (n : Nat) : (saL Y m X n).length ≤ m := by unfold saL; split; exact selI_le _ _ _; exact Nat.zero_le _
/-- Drawers, numbers and a bool: what a contract returns; the numbers' block lies behind the drawers'. -/
def RetDIB (X : Nat → DrawerD) (n : Nat) (L : List Int) (b : Bool) (w : World) (e : Ending) (w' : World) : Prop :=
  ∃ v P u H, e = .returned (.tuple #[v, u, .bool b]) ∧ OwnP w.heap.size w' v P ∧ P.map Prod.fst = lstD X n ∧ w.heap.size ≤ H ∧ OwnI H w' u L ∧ (∀ k, v.ownBlock = some k → k < H) ∧ (∀ i, i < P.length → ∀ k, (P.getD i default).2.ownBlock = some k → k < H) ∧ Below w.heap.size w w'

end Go.Proofs.Ytejpmomedclnhaa
