/-
  Slices of numbers: copied, searched, a number put in; by the library. No condition.
-/
import Derived.Test.YtejpmomedclnhaaShelf4
import Derived.Test.YtejpmomedclnhaaDelFlat
namespace Go.Proofs.Ytejpmomedclnhaa
open Go.RowKit
set_option linter.unusedVariables false

theorem OwnI.has {B : Nat} {w : World} {v : Value} {L : List Int} (h : OwnI B w v L) (hn : v ≠ .slice none 0 0) : HasI w v L := by
  rcases h.form with ⟨h0, _⟩ | ⟨g, cap, rfl, _, hl, hc, _, hcell, _⟩
  · exact absurd h0 hn
  · exact ⟨_, cap, rfl, hc, g, 0, rfl, hl, fun k hk => by rw [Nat.zero_add]; exact hcell k hk⟩

/-- v is a slice of the call's own, not nil, that holds the numbers L. -/
def OwnJ (B : Nat) (w : World) (v : Value) (L : List Int) : Prop := OwnI B w v L ∧ ∃ g, v.ownBlock = some g
theorem OwnJ.form {B : Nat} {w : World} {v : Value} {L : List Int} (h : OwnJ B w v L) :
    ∃ g cap cur, v = .slice (some ⟨g, 0, none⟩) L.length cap ∧ B ≤ g ∧ g < w.heap.size ∧ w.heap[g]? = some (.cells cur 3 (0, 0)) ∧ L.length ≤ cap ∧ cap ≤ maxLen ∧ cur.size = cap ∧ cur.toList.take L.length = L.map (Value.int .i64) := by
  obtain ⟨⟨_, h⟩, g0, hg0⟩ := h
  rcases h with ⟨rfl, _⟩ | ⟨g, cap, cur, rfl, hb, hg, hnc, hcm, hcs, htk⟩
  · cases hg0
  · exact ⟨g, cap, cur, rfl, hb, (Array.getElem?_eq_some_iff.1 hg).1, hg, hnc, hcm, by simpa using hcs, by simpa using htk⟩
theorem OwnJ.of {B g cap n : Nat} {w : World} {L : List Int} {cur : Array Value} (hn : n = L.length) (hB : B ≤ g) (hg : w.heap[g]? = some (.cells cur 3 (0, 0))) (hnc : n ≤ cap) (hcm : cap ≤ maxLen) (hcs : cur.size = cap) (htk : cur.toList.take n = L.map (Value.int .i64)) : OwnJ B w (.slice (some ⟨g, 0, none⟩) n cap) L := by
  subst hn
  exact ⟨⟨by simp, .inr ⟨g, cap, cur, rfl, hB, hg, hnc, hcm, by simpa using hcs, by simpa using htk⟩⟩, g, rfl⟩
theorem OwnJ.has {B : Nat} {w : World} {v : Value} {L : List Int} (h : OwnJ B w v L) : HasI w v L := h.1.has fun e => by obtain ⟨_, g, hg⟩ := h; rw [e] at hg; cases hg
theorem OwnJ.below {B : Nat} {w w' : World} {v : Value} {L : List Int} (h : OwnJ B w v L) (hb : Below w.heap.size w w') : OwnJ B w' v L := ⟨h.1.below hb, h.2⟩
theorem OwnJ.base {B B' : Nat} {w : World} {v : Value} {L : List Int} (h : OwnJ B w v L) (hb : B' ≤ B) : OwnJ B' w v L := ⟨h.1.base hb, h.2⟩
theorem OwnJ.slice {B : Nat} {w : World} {v : Value} {L : List Int} (h : OwnJ B w v L) : ∃ g cap, v = .slice (some ⟨g, 0, none⟩) L.length cap ∧ B ≤ g ∧ g < w.heap.size ∧ L.length ≤ cap := by
  obtain ⟨g, cap, _, h1, h2, h3, _, h4, _⟩ := h.form
  exact ⟨g, cap, h1, h2, h3, h4⟩
theorem OwnJ.only {P : Nat → Prop} {B : Nat} {w w' : World} {v : Value} {L : List Int} (h : OwnJ B w v L) (k : Only P w w') (hp : ∀ i, v.ownBlock = some i → ¬ P i) : OwnJ B w' v L := ⟨h.1.only k hp, h.2⟩

theorem clone_int (w : World) (v : Value) (L : List Int) (h : HasI w v L) (hL : L.length ≤ 1048576) : Calls Try.prog 106 #[v] w fun e w' => ∃ u, e = .returned u ∧ OwnJ w.heap.size w' u L ∧ Below w.heap.size w w' := by
  obtain ⟨a, cap, rfl, hc, g, off, rfl, hg, hcell⟩ := h
  refine (Try.slices_Clone_int g off L.length cap L w (Nat.le_refl _) (by omega) hcell).mono ?_
  rintro e w' ⟨u, rfl, ho, hn, hb⟩
  rw [List.take_length] at ho
  refine ⟨u, rfl, ⟨ho, ?_⟩, hb⟩
  rcases ho.2 with ⟨h0, _⟩ | ⟨g', cap', cur, rfl, _⟩
  · exact absurd h0 hn
  · exact ⟨g', rfl⟩

/-- How many numbers at the head of a list are less than x. -/
def cutI (x : Int) (L : List Int) : Nat := (L.takeWhile (fun a => decide (a < x))).length
theorem cutI_le (x : Int) (L : List Int) : cutI x L ≤ L.length := by
  unfold cutI
  exact (List.takeWhile_prefix _).length_le
theorem cutI_eq {x : Int} : ∀ {L : List Int} {k : Nat}, k ≤ L.length → (∀ i, i < k → L.getD i 0 < x) → (k = L.length ∨ ¬ L.getD k 0 < x) → cutI x L = k
  | [], k, h, _, _ => by simp at h; subst h; rfl
  | a :: L, 0, _, _, h => by
    rcases h with h | h
    · simp at h
    · simp at h; unfold cutI; rw [List.takeWhile_cons, if_neg (by simp; omega)]; rfl
  | a :: L, k + 1, h, h1, h2 => by
    have ha : a < x := h1 0 (by omega)
    have := cutI_eq (x := x) (L := L) (k := k) (by simpa using h) (fun i hi => by have := h1 (i + 1) (by omega); simpa using this) (by rcases h2 with h2 | h2; exact .inl (by simpa using h2); exact .inr (by simpa using h2))
    unfold cutI at this ⊢
    rw [List.takeWhile_cons, if_pos (by simpa using ha)]
    simp [this]
theorem cutI_count {x : Int} : ∀ {L : List Int}, L.Pairwise (· ≤ ·) → L.countP (fun a => decide (a < x)) = cutI x L
  | [], _ => rfl
  | a :: L, h => by
    have h2 := List.pairwise_cons.1 h
    unfold cutI
    by_cases ha : a < x
    · rw [List.countP_cons_of_pos (by simpa using ha), List.takeWhile_cons, if_pos (by simpa using ha), cutI_count h2.2]; rfl
    · rw [List.countP_cons_of_neg (by simpa using ha), List.takeWhile_cons, if_neg (by simpa using ha)]
      simp only [List.length_nil]
      rw [List.countP_eq_zero]
      intro b hb
      have := h2.1 b hb
      simp; omega
/-- A number put in at its place. -/
def insI (x : Int) (L : List Int) : List Int := L.take (cutI x L) ++ x :: L.drop (cutI x L)
theorem insI_len (x : Int) (L : List Int) : (insI x L).length = L.length + 1 := by have := cutI_le x L; simp [insI]; omega

/-- What a run of stores leaves of a block. -/
theorem setCells_arr (b : Nat) (e : TypeId) : ∀ (vs : List Value) (o : Nat) (w : World) (cur : Array Value), w.heap[b]? = some (.cells cur e (0, 0)) → ∃ cur' : Array Value, (w.setCells b o vs).heap[b]? = some (.cells cur' e (0, 0)) ∧ cur'.size = cur.size ∧ ∀ j, j < cur.size → cur'[j]? = if j < o ∨ o + vs.length ≤ j then cur[j]? else vs[j - o]?
  | [], o, w, cur, h => ⟨cur, h, rfl, fun j hj => by rw [if_pos (by simp; omega)]⟩
  | v :: vs, o, w, cur, h => by
    obtain ⟨cur', h1, h2, h3⟩ := setCells_arr b e vs (o + 1) (w.setCell ⟨b, o, none⟩ v) (cur.setIfInBounds o v) (heap_setCell_same w b o cur e v h)
    refine ⟨cur', h1, by simpa using h2, fun j hj => ?_⟩
    rw [h3 j (by simpa using hj)]
    by_cases hjo : j = o
    · subst hjo
      rw [if_pos (.inl (by omega)), if_neg (by simp)]
      simp [Array.getElem?_setIfInBounds, hj]
    · by_cases hlo : j < o
      · rw [if_pos (.inl (by omega)), if_pos (.inl hlo), Array.getElem?_setIfInBounds, if_neg (by omega)]
      · by_cases hhi : o + (vs.length + 1) ≤ j
        · rw [if_pos (.inr (by omega)), if_pos (.inr (by simpa using hhi)), Array.getElem?_setIfInBounds, if_neg (by omega)]
        · rw [if_neg (by omega), if_neg (by simp; omega), show j - o = (j - (o + 1)) + 1 by omega, List.getElem?_cons_succ]
theorem size_cells (b : Nat) : ∀ (vs : List Value) (o : Nat) (w : World), (w.setCells b o vs).heap.size = w.heap.size
  | [], o, w => rfl
  | v :: vs, o, w => by
    show ((w.setCell ⟨b, o, none⟩ v).setCells b (o + 1) vs).heap.size = _
    rw [size_cells b vs (o + 1) _]
    simp
theorem only_cells (b : Nat) (vs : List Value) (o : Nat) (w : World) {P : Nat → Prop} (hp : P b) : Only P w (w.setCells b o vs) := Only.of_grown (grownBy_cells vs o w) hp
theorem ins_get (L : List Int) (x : Int) (k j : Nat) (hk : k ≤ L.length) : (L.take k ++ x :: L.drop k)[j]? = if j < k then L[j]? else if j = k then some x else L[j - 1]? := by
  by_cases h1 : j < k
  · rw [if_pos h1, List.getElem?_append_left (by simp; omega), List.getElem?_take_of_lt h1]
  · rw [if_neg h1, List.getElem?_append_right (by simp; omega)]
    have hl : (L.take k).length = k := by simp; omega
    rw [hl]
    by_cases h2 : j = k
    · subst h2; simp
    · rw [if_neg h2, show j - k = (j - k - 1) + 1 by omega, List.getElem?_cons_succ, List.getElem?_drop]
      congr 1; omega
theorem ins_take {L : List Int} {x : Int} {k n : Nat} {cur : Array Value} (hn : L.length = n) (hk : k ≤ n) (h : ∀ j, j < n + 1 → cur[j]? = if j < k then (L.map (Value.int .i64))[j]? else if j = k then some (.int .i64 x) else (L.map (Value.int .i64))[j - 1]?) : cur.toList.take (n + 1) = (L.take k ++ x :: L.drop k).map (Value.int .i64) := by
  apply List.ext_getElem?
  intro j
  by_cases hj : j < n + 1
  · rw [List.getElem?_take_of_lt hj, Array.getElem?_toList, h j hj, show ((L.take k ++ x :: L.drop k).map (Value.int .i64))[j]? = ((L.take k ++ x :: L.drop k)[j]?).map (Value.int .i64) from List.getElem?_map, ins_get L x k j (by omega)]
    by_cases h1 : j < k
    · rw [if_pos h1, if_pos h1, List.getElem?_map]
    · rw [if_neg h1, if_neg h1]
      by_cases h2 : j = k
      · rw [if_pos h2, if_pos h2]; rfl
      · rw [if_neg h2, if_neg h2, List.getElem?_map]
  · rw [List.getElem?_eq_none (by simp; omega), List.getElem?_eq_none (by simp; omega)]

set_option maxHeartbeats 1000000 in
theorem insert_int (w : World) (B : Nat) (u : Value) (L : List Int) (x : Int) (vb k : Nat) (h : OwnJ B w u L) (hB : B ≤ w.heap.size) (hL : L.length ≤ 1048576) (hx : w.heap[vb]? = some (.cells #[.int .i64 x] 3 (0, 0))) (hvb : ∀ g, u.ownBlock = some g → vb ≠ g) (hk : k ≤ L.length) :
    Calls Try.prog 108 #[u, .int .i64 k, .slice (some ⟨vb, 0, none⟩) 1 1] w fun e w' => ∃ u', e = .returned u' ∧ OwnJ B w' u' (L.take k ++ x :: L.drop k) ∧ Only (fun i => u.ownBlock = some i) w w' ∧ (u'.ownBlock = u.ownBlock ∨ ∃ g, u'.ownBlock = some g ∧ w.heap.size ≤ g) := by
  obtain ⟨g, cap, cur, rfl, hBg, hgl, hg, hnc, hcm, hcs, htk⟩ := h.form
  have hvg : vb ≠ g := hvb g rfl
  obtain ⟨n, hn⟩ : ∃ n, L.length = n := ⟨_, rfl⟩
  have hil : (L.take k ++ x :: L.drop k).length = n + 1 := by simp; omega
  have hml : cap ≤ 9223372036854775807 := by unfold maxLen at hcm; omega
  have hcl : (L.map (Value.int .i64)).length = n := by simp [hn]
  have hcu : ∀ j, j < n → cur[j]? = (L.map (Value.int .i64))[j]? := fun j hj => by rw [← htk, hn, List.getElem?_take_of_lt hj, Array.getElem?_toList]
  have hcc : ∀ j, j < cap → (w.cell? ⟨g, 0 + j, none⟩).isSome = true := fun j hj => by simp [World.cell?, hg, hcs, hj]
  have hff : ∀ j, w.frozen? ⟨g, 0 + j, none⟩ = false := fun j => by simp [World.frozen?, hg]
  have hcell : ∀ j v, (L.map (Value.int .i64))[j]? = some v → w.cell? ⟨g, 0 + j, none⟩ = some v := fun j v hv => by
    have hj : j < n := by rw [← hcl]; exact (List.getElem?_eq_some_iff.1 hv).1
    rw [← hcu j hj] at hv
    simp [World.cell?, hg, hv]
  have hvs : ∀ j v, ([Value.int .i64 x])[j]? = some v → w.cell? ⟨vb, 0 + j, none⟩ = some v := fun j v hv => by
    rcases j with _ | j
    · simp at hv; simp [World.cell?, hx, hv]
    · simp at hv
  have h1v : ∀ v ∈ [Value.int .i64 x], v.oneCell' = true := fun v hv => by simp at hv; subst hv; rfl
  have h1c : ∀ v ∈ L.map (Value.int .i64), v.oneCell' = true := fun v hv => by simp at hv; obtain ⟨a, _, rfl⟩ := hv; rfl
  rw [hn] at hk hL hnc ⊢
  by_cases hkn : k = n
  · subst hkn
    by_cases hroom : k + 1 ≤ cap
    · refine (Try.slices_Insert_int_end_room g 0 k cap vb 0 1 1 [.int .i64 x] w (by omega) hroom hml rfl (fun j hj => by rw [Nat.zero_add, show k + j = 0 + (k + j) by omega]; exact hcc _ (by omega)) (fun j hj => by rw [Nat.zero_add, show k + j = 0 + (k + j) by omega]; exact hff _) hvs h1v).mono ?_
      rintro e w' ⟨rfl, rfl⟩
      obtain ⟨cur', a1, a2, a3⟩ := setCells_arr g 3 [.int .i64 x] (0 + k) w cur hg
      refine ⟨_, rfl, OwnJ.of hil.symm hBg a1 hroom hcm (by omega) (ins_take hn (Nat.le_refl _) fun j hj => ?_), only_cells _ _ _ _ rfl, .inl rfl⟩
      rw [a3 j (by omega), Nat.zero_add]
      by_cases h1 : j < k
      · rw [if_pos (.inl h1), if_pos h1, hcu j h1]
      · rw [if_neg (by simp; omega), if_neg h1, if_pos (by omega), show j - k = 0 by omega]; rfl
    · refine (Try.slices_Insert_int_end_grow (some ⟨g, 0, none⟩) k cap vb 0 1 1 (L.map (Value.int .i64)) [.int .i64 x] w (by omega) hnc (by omega) (by omega) hcl rfl (fun e => by cases e) (fun a ha j v hv => by cases ha; rw [Addr.add_lit]; exact hcell j v hv) hvs h1v).mono ?_
      rintro e w' ⟨rfl, rfl⟩
      have hge := grownCap_ge w (k + 1) cap 3
      have hgm := grownCap_le_maxLen w (k + 1) cap 3 (by unfold maxLen; omega)
      refine ⟨_, rfl, OwnJ.of hil.symm hB (heap_alloc_new w.drew _) hge hgm (by simp [size_zeroCells, Value.cells, hn]; omega) (ins_take hn (Nat.le_refl _) fun j hj => ?_), ⟨rfl, rfl, rfl, by simp, fun i hi _ => heap_alloc_old w.drew _ hi⟩, .inr ⟨_, rfl, Nat.le_refl _⟩⟩
      rw [Array.getElem?_append_left (by simp [hn]; omega)]
      simp only [List.getElem?_toArray]
      by_cases h1 : j < k
      · rw [if_pos h1, List.getElem?_append_left (by omega)]
      · rw [if_neg h1, if_pos (by omega), List.getElem?_append_right (by omega), hcl, show j - k = 0 by omega]; rfl
  · by_cases hroom : n + 1 ≤ cap
    · refine (Try.slices_Insert_int_shift g 0 n cap k vb 0 1 1 (L.map (Value.int .i64)) [.int .i64 x] w (by omega) (by omega) hroom hml hvg hcl rfl hcell (fun j hj => hcc j (by omega)) (fun j hj => hff j) hvs h1c h1v 3 3 1 cap ?_ ?_ ?_ ?_ ?_).mono ?_
      · simp [World.shape?, hx]
      · simp [World.shape?, hg, hcs]
      · omega
      · simp [World.frozen?, hx]
      · simp [World.frozen?, hx]
      rintro e w' ⟨rfl, rfl⟩
      obtain ⟨cur1, a1, a2, a3⟩ := setCells_arr g 3 ((L.map (Value.int .i64)).drop k) (0 + (k + 1)) w.drew cur hg
      obtain ⟨cur2, b1, b2, b3⟩ := setCells_arr g 3 [.int .i64 x] (0 + k) _ cur1 a1
      refine ⟨_, rfl, OwnJ.of hil.symm hBg b1 hroom hcm (by omega) (ins_take hn (by omega) fun j hj => ?_), ?_, .inl rfl⟩
      · rw [b3 j (by omega), Nat.zero_add]
        by_cases h1 : j < k
        · rw [if_pos (.inl h1), if_pos h1, a3 j (by omega), if_pos (.inl (by omega)), hcu j (by omega)]
        · rw [if_neg h1]
          by_cases h2 : j = k
          · rw [if_neg (by simp; omega), if_pos h2, show j - k = 0 by omega]; rfl
          · rw [if_pos (.inr (by simp; omega)), if_neg h2, a3 j (by omega), if_neg (by simp [hn]; omega), List.getElem?_drop]
            congr 1; omega
      · have P0 : ∀ (vs : List Value) (o : Nat) (w' : World), Only (fun i => Value.ownBlock (.slice (some ⟨g, 0, none⟩) n cap) = some i) w' (w'.setCells g o vs) := fun vs o w' => only_cells g vs o w' rfl
        exact (Only.mk (P := fun i => Value.ownBlock (.slice (some ⟨g, 0, none⟩) n cap) = some i) (w := w) (w' := w.drew) rfl rfl rfl (Nat.le_refl _) (fun _ _ _ => rfl)).trans ((P0 _ _ _).trans (P0 _ _ _))
    · refine (Try.slices_Insert_int_grow g 0 n cap k vb 0 1 1 (L.map (Value.int .i64)) [.int .i64 x] w (by omega) (by omega) hnc (by omega) (by omega) hcl rfl hcell hvs h1c h1v).mono ?_
      rintro e w' ⟨rfl, rfl⟩
      have hge := grownCap_ge w (n + 1) cap 3
      have hgm := grownCap_le_maxLen w (n + 1) cap 3 (by unfold maxLen; omega)
      obtain ⟨G, hG⟩ : ∃ G, grownCap w (n + 1) cap 3 = G := ⟨_, rfl⟩
      rw [hG] at hge hgm ⊢
      obtain ⟨arr, harr⟩ : ∃ arr, ((L.map (Value.int .i64)).take k).toArray ++ Builtin.zeroCells (Value.int .i64 0).cells (n + 1 - k) ++ Builtin.zeroCells (Value.int .i64 0).cells (G - (n + 1)) = arr := ⟨_, rfl⟩
      have has : arr.size = G := by rw [← harr]; simp [size_zeroCells, Value.cells, hn]; omega
      have hlo : ∀ j, j < k → arr[j]? = (L.map (Value.int .i64))[j]? := fun j hj => by
        rw [← harr, Array.getElem?_append_left (by simp [hn, size_zeroCells, Value.cells]; omega), Array.getElem?_append_left (by simp [hn]; omega)]
        simp only [List.getElem?_toArray]
        rw [List.getElem?_take_of_lt hj]
      rw [harr]
      obtain ⟨cur1, a1, a2, a3⟩ := setCells_arr w.heap.size 3 [.int .i64 x] k (w.alloc (.cells arr 3)).drew arr (heap_alloc_new w _)
      obtain ⟨cur2, b1, b2, b3⟩ := setCells_arr w.heap.size 3 ((L.map (Value.int .i64)).drop k) (k + 1) ((w.alloc (.cells arr 3)).drew.setCells w.heap.size k [.int .i64 x]).drew cur1 a1
      refine ⟨_, rfl, OwnJ.of hil.symm hB b1 hge hgm (by omega) (ins_take hn (by omega) fun j hj => ?_), ?_, .inr ⟨_, rfl, Nat.le_refl _⟩⟩
      · rw [b3 j (by omega)]
        by_cases h1 : j < k
        · rw [if_pos (.inl (by omega)), if_pos h1, a3 j (by omega), if_pos (.inl h1), hlo j h1]
        · rw [if_neg h1]
          by_cases h2 : j = k
          · rw [if_pos (.inl (by omega)), if_pos h2, a3 j (by omega), if_neg (by simp; omega), show j - k = 0 by omega]; rfl
          · rw [if_neg (by simp [hn]; omega), if_neg h2, List.getElem?_drop]
            congr 1; omega
      · have G1 := grownBy_cells (g := w.heap.size) [.int .i64 x] k (w.alloc (.cells arr 3)).drew
        have G2 := grownBy_cells (g := w.heap.size) ((L.map (Value.int .i64)).drop k) (k + 1) ((w.alloc (.cells arr 3)).drew.setCells w.heap.size k [.int .i64 x]).drew
        exact ⟨G2.os.trans G1.os, G2.tape.trans G1.tape, G2.output.trans G1.output, by have h1 := G1.size; have h2 := G2.size; simp at h1; simp only [World.size_drew] at h2; omega, fun i hi _ => (G2.block i (by have h1 := G1.size; simp at h1; simp only [World.size_drew]; omega) (by simp; omega)).trans ((G1.block i (by simp; omega) (by simp; omega)).trans (heap_alloc_old w _ hi))⟩
end Go.Proofs.Ytejpmomedclnhaa
