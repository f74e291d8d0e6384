/-
  The library's Split and Cut at a separator of one byte; SplitString by the program and by the reference. No condition.
-/
import Derived.Test.YteklomkncfjdlaaDoorStands
import Derived.Test.YteklomkncfjdlaaDoorShelf3
import Derived.Shelf.Strings.SplitCore
namespace Go.Proofs.YteklomkncfjdlaaDoor
open Go.RowKit
set_option linter.unusedVariables false
set_option maxRecDepth 100000

theorem index_byte (c : UInt8) : ∀ l : List UInt8, Lib.indexByte l c = Lib.index l [c]
  | [] => by simp [Lib.indexByte, Lib.index]
  | b :: l => by
    rw [index_one, Lib.indexByte, index_byte c l]
    by_cases h : b = c
    · simp [h]
    · simp [h]
theorem info_string9 : (Tryd.prog.info? 9).map (fun i => (i.zero, i.size, i.bytes)) = some (some (.string ByteArray.empty), 1, 16) := info_string

theorem genSplit_one (s : ByteArray) (c : UInt8) (w : World) (hs : s.size < 4294967281) : Calls Tryd.prog 69 #[.string s, .string ⟨#[c]⟩, .int .i64 ((0 : Nat) : Int), .int .i64 (-1)] w fun e w' =>
    e = .returned (.slice (some ⟨w.heap.size, 0, none⟩) (splitP s c).length (splitP s c).length) ∧ w' = w.alloc (.cells ((splitP s c).map Value.string).toArray 9) := by
  have hle := Lib.countB_le ⟨#[c]⟩ (Nat.le_refl 1) s.size s (Nat.le_refl _)
  have K := Any.strings_genSplit_core (P := Tryd.prog) Tryd.lays221 info_string9 s ⟨#[c]⟩ 0 (-1) (Lib.countB s ⟨#[c]⟩ + 1) w hs (Nat.le_refl 1) (Nat.zero_le _)
    (fun x d _ => (Tryd.strings_Index_one x c _).mono fun e w' h => ⟨by rw [h.1, index_byte], h.2⟩)
    ((Tryd.strings_Count_one s c w).mono fun e w' h => ⟨by rw [h.1]; exact ret_int (by show ((s.data.toList.count c : Nat) : Int) = _; rw [← Lib.count_one]), h.2⟩)
    (by decide) (by decide) (by rw [if_pos (by decide)]; omega)
  rw [Nat.add_sub_cancel, splitB_P] at K
  have hl := splitP_len s c
  rw [← hl, Lib.cellsOf_full] at K
  exact K

theorem split_one (s : ByteArray) (c : UInt8) (w : World) (hs : s.size ≤ 1048576) : Calls Tryd.prog 47 #[.string s, .string ⟨#[c]⟩] w fun e w' => ∃ v, e = .returned v ∧ OwnS w.heap.size w' v (splitP s c) ∧ Below w.heap.size w w' := by
  have K := hid (genSplit_one s c w (by omega))
  have hl := splitP_le s c
  obtain ⟨n, hn⟩ : ∃ n, n = (splitP s c).length := ⟨_, rfl⟩
  have HO : Hid (OwnS w.heap.size (w.alloc (.cells ((splitP s c).map Value.string).toArray 9)) (.slice (some ⟨w.heap.size, 0, none⟩) n n) (splitP s c)) := by
    unfold Hid OwnS
    rw [hn]
    refine ⟨by simp, .inr ⟨w.heap.size, _, _, rfl, Nat.le_refl _, heap_alloc_new w _, Nat.le_refl _, by unfold maxLen; omega, by simp, ?_⟩⟩
    rw [List.take_of_length_le (by simp)]
  rw [← hn] at K
  obtain ⟨A, hA⟩ : ∃ A, A = ((splitP s c).map Value.string).toArray := ⟨_, rfl⟩
  rw [← hA] at K HO
  clear hA hl hn
  go_enter Tryd.func47, Tryd.ntmps47
  go_wp2_with fail
  refine K.out.mono ?_
  rintro e w1 ⟨rfl, rfl⟩
  go_wp2_with fail
  go_ret
  exact ⟨_, rfl, HO.out, by go_grown⟩

/-- What SplitString says. -/
def spB (s sep : ByteArray) : Bool := decide (sep.size = 1) && decide (s.size ≤ 4000)
def spL (s sep : ByteArray) : List ByteArray := if spB s sep = true then splitP s (sepC sep) else []
theorem spL_no {s sep : ByteArray} (h : spB s sep = false) : spL s sep = [] := by unfold spL; rw [if_neg (by rw [h]; simp)]
theorem spL_yes {s : ByteArray} {c : UInt8} (h : s.size ≤ 4000) : spB s ⟨#[c]⟩ = true ∧ spL s ⟨#[c]⟩ = splitP s c := by
  have hb : spB s ⟨#[c]⟩ = true := by unfold spB; simp [h]; rfl
  refine ⟨hb, ?_⟩
  unfold spL; rw [if_pos hb]; rfl
theorem spL_le (s sep : ByteArray) : (spL s sep).length ≤ 4001 := by
  by_cases h : spB s sep = true
  · have h4 : s.size ≤ 4000 := by simp [spB] at h; exact h.2
    have := splitP_le s (sepC sep)
    unfold spL; rw [if_pos h]; omega
  · unfold spL; rw [if_neg h]; simp

set_option maxHeartbeats 1000000 in
theorem splitString_spec (s sep : ByteArray) (w : World) (hs : s.size ≤ 1048576) (hsep : sep.size ≤ 1048576) : Calls Tryd.prog 15 #[.string s, .string sep] w fun e w' => ∃ v, e = .returned (.tuple #[v, .bool (spB s sep)]) ∧ OwnS w.heap.size w' v (spL s sep) ∧ Below w.heap.size w w' := by
  by_cases h1 : sep.size = 1
  · by_cases h4 : s.size ≤ 4000
    · obtain ⟨c, rfl⟩ := Lib.one_byte sep h1
      obtain ⟨y1, y2⟩ := spL_yes (c := c) h4
      have K0 : Hid (∀ w, Calls Tryd.prog 46 #[.string s, .int .u8 (((⟨#[c]⟩ : ByteArray)[0]'(by show 0 < 1; omega)).toNat : Int)] w fun e w' => ∃ v, e = .returned v ∧ OwnS w.heap.size w' v (splitP s c) ∧ Below w.heap.size w w') := fun w => split_spec s c w hs
      have hc0 : (⟨#[c]⟩ : ByteArray)[0]'(by show 0 < 1; omega) = c := rfl
      have HY1 := hid y1
      have HY2 := hid y2
      clear h1 y1 y2 hc0
      go_enter Tryd.func15, Tryd.ntmps15
      go_wp2_with fail
      refine (K0.out _).mono ?_
      rintro e w1 ⟨v, rfl, ho, hb⟩
      have HO := hid ho
      clear ho
      go_wp2_with fail
      go_ret2
      exact ⟨v, by rw [HY1.out]; rfl, by rw [HY2.out]; exact HO.out, hb⟩
    · have hno : Hid (spB s sep = false) := by unfold Hid spB; simp [h4]
      go_enter Tryd.func15, Tryd.ntmps15
      go_wp2_with fail
      go_ret2
      exact ⟨_, by rw [hno.out]; rfl, by rw [spL_no hno.out]; exact OwnS.empty w, by go_grown⟩
  · have hno : Hid (spB s sep = false) := by unfold Hid spB; simp [h1]
    go_enter Tryd.func15, Tryd.ntmps15
    go_wp2_with fail
    go_ret2
    exact ⟨_, by rw [hno.out]; rfl, by rw [spL_no hno.out]; exact OwnS.empty w, by go_grown⟩

set_option maxHeartbeats 1000000 in
theorem splitString_impl (s sep : ByteArray) (w : World) (hs : s.size ≤ 1048576) (hsep : sep.size ≤ 1048576) : Calls Tryd.prog 16 #[.string s, .string sep] w fun e w' => ∃ v, e = .returned (.tuple #[v, .bool (spB s sep)]) ∧ OwnS w.heap.size w' v (spL s sep) ∧ Below w.heap.size w w' := by
  by_cases h4 : s.size ≤ 4000
  · by_cases h1 : sep.size = 1
    · obtain ⟨c, rfl⟩ := Lib.one_byte sep h1
      obtain ⟨y1, y2⟩ := spL_yes (c := c) h4
      have K0 := hid (fun w => split_one s c w hs)
      have HY1 := hid y1
      have HY2 := hid y2
      clear h1 y1 y2
      go_enter Tryd.func16, Tryd.ntmps16
      go_wp2_with fail
      refine (K0.out _).mono ?_
      rintro e w1 ⟨v, rfl, ho, hb⟩
      have HO := hid ho
      clear ho
      go_wp2_with fail
      go_ret2
      exact ⟨v, by rw [HY1.out]; rfl, by rw [HY2.out]; exact HO.out, hb⟩
    · have hno : Hid (spB s sep = false) := by unfold Hid spB; simp [h1]
      have hd : ((sep.size : Int) != 1) = true := by simp; omega
      go_enter Tryd.func16, Tryd.ntmps16
      go_wp2_with fail
      go_ret2
      exact ⟨_, by rw [hno.out]; rfl, by rw [spL_no hno.out]; exact OwnS.nil _ _, Below.refl _ _⟩
  · have hno : Hid (spB s sep = false) := by unfold Hid spB; simp [h4]
    go_enter Tryd.func16, Tryd.ntmps16
    go_wp2_with fail
    go_ret2
    exact ⟨_, by rw [hno.out]; rfl, by rw [spL_no hno.out]; exact OwnS.nil _ _, Below.refl _ _⟩

set_option maxHeartbeats 2000000 in
theorem walk_ExactSplitString (w : World) (a0 a1 : ByteArray) (i0 : a0.size ≤ maxLen) (i1 : a1.size ≤ maxLen) : Calls Tryd.prog 4 #[.string a0, .string a1] w fun e w' => e = .returned (.bool true) ∧ Below w.heap.size w w' := by
  unfold maxLen at i0 i1
  by_cases h0 : a0.size ≤ 1048576
  · by_cases h1 : a1.size ≤ 1048576
    · have hLL := spL_le a0 a1
      obtain ⟨L, hL⟩ : ∃ L, spL a0 a1 = L := ⟨_, rfl⟩
      obtain ⟨B, hB⟩ : ∃ B, spB a0 a1 = B := ⟨_, rfl⟩
      have KS := hid (fun w => splitString_spec a0 a1 w h0 h1)
      have KI := hid (fun w => splitString_impl a0 a1 w h0 h1)
      rw [hL] at hLL
      rw [hL, hB] at KS KI
      clear hL hB
      go_enter Tryd.func4, Tryd.ntmps4
      go_wp2_with fail
      refine (KS.out _).mono ?_
      rintro e w1 ⟨v, rfl, oV0, hb1⟩
      have oV := hid oV0
      clear oV0
      have z1 := hb1.size
      go_wp2_with fail
      refine (KI.out _).mono ?_
      rintro e w2 ⟨g, rfl, oG0, hb2⟩
      have oG := hid oG0
      clear oG0
      have z2 := hb2.size
      have B2 : Below w.heap.size w w2 := Below.on hb1 hb1.size hb2
      go_wp2_with fail
      refine (eqStringS_own g v L _ _ _ oG.out (oV.out.below hb2) (by omega)).mono ?_
      rintro e w3 ⟨rfl, hb3⟩
      have z3 := hb3.size
      have B3 : Below w.heap.size w w3 := Below.on B2 B2.size hb3
      go_wp2_with fail
      refine (markStringS_own g L _ 1 _ (oG.out.below hb3) (by omega) (by omega) (by omega)).mono ?_
      rintro e w4 ⟨rfl, oM0, gr4⟩
      have oM := hid oM0
      clear oM0
      have z4 := gr4.size
      have B4 : Below w.heap.size w w4 := B3.grown gr4 B3.size (fun k hk => by have := oG.out.ge k hk; omega)
      have oV4 := hid (((oV.out.below hb2).below hb3).kept gr4 (own_ne oV.out.lt (fun k hk => by have := oG.out.ge k hk; omega)))
      go_wp2_with fail
      refine (heldStringS_own g L.length _ 1 _ oM.out (by omega) (by omega) (by omega)).mono ?_
      rintro e w5 ⟨rfl, hb5⟩
      have z5 := hb5.size
      have B5 : Below w.heap.size w w5 := Below.on B4 B4.size hb5
      go_wp2_with fail
      refine (KI.out _).mono ?_
      rintro e w6 ⟨u, rfl, oH0, hb6⟩
      have oH := hid oH0
      clear oH0
      have z6 := hb6.size
      have B6 : Below w.heap.size w w6 := Below.on B5 B5.size hb6
      go_wp2_with fail
      refine (eqStringS_own u v L _ _ _ oH.out ((oV4.out.below hb5).below hb6) (by omega)).mono ?_
      rintro e w7 ⟨rfl, hb7⟩
      have z7 := hb7.size
      have B7 : Below w.heap.size w w7 := Below.on B6 B6.size hb7
      go_wp2_with fail
      refine (heldStringS_own g L.length _ 1 _ (((oM.out.below hb5).below hb6).below hb7) (by omega) (by omega) (by omega)).mono ?_
      rintro e w8 ⟨rfl, hb8⟩
      have B8 : Below w.heap.size w w8 := Below.on B7 B7.size hb8
      go_wp2_with fail
      go_ret
      exact ⟨rfl, B8⟩
    · go_enter Tryd.func4, Tryd.ntmps4
      go_wp2_with fail
      go_ret
      exact ⟨rfl, Below.refl _ _⟩
  · go_enter Tryd.func4, Tryd.ntmps4
    go_wp2_with fail
    go_ret
    exact ⟨rfl, Below.refl _ _⟩
end Go.Proofs.YteklomkncfjdlaaDoor
