/-
  The readers that owe the most: the order that both lay, by the plain law; the program's own. No condition.
-/
import Derived.Test.YtlcgjcbpoinboaaOwe3
import Derived.Deep.AppendLies
import Derived.Deep.RegionLaw
namespace Go.Proofs.Ytlcgjcbpoinboaa
open Go.RowKit
set_option linter.unusedVariables false
set_option maxRecDepth 100000

/-- The first i readers in their order. -/
def ordL (A : List ReaderD) (i : Nat) : List ReaderD := (isL A i).take i
theorem ordL_len {A : List ReaderD} {i : Nat} (h : i ≤ A.length) : (ordL A i).length = i := by unfold ordL; rw [List.length_take, isL_len]; omega
theorem ordL_split {A : List ReaderD} {i : Nat} (h : i < A.length) (hd : (isL A i).drop i = A.drop i) : isL A i = ordL A i ++ A.getD i default :: A.drop (i + 1) := by
  have h1 := List.take_append_drop i (isL A i)
  rw [hd, List.drop_eq_getElem_cons h] at h1
  have h2 : A.getD i default = A[i] := by simp [List.getD, h]
  rw [h2]
  exact h1.symm
theorem isL_step {A : List ReaderD} {i : Nat} (h : i < A.length) (hd : (isL A i).drop i = A.drop i) :
    isL A (i + 1) = (ordL A i).take (cutR (A.getD i default) (ordL A i) i) ++ A.getD i default :: ((ordL A i).drop (cutR (A.getD i default) (ordL A i) i) ++ A.drop (i + 1)) := by
  have hl : (ordL A i).length = i := ordL_len (by omega)
  have hs := sink_app (A.getD i default) (ordL A i) i (A.drop (i + 1)) (by omega)
  rw [List.take_of_length_le (show (ordL A i).length ≤ i by omega)] at hs
  rw [← hs, ← ordL_split h hd]
  rfl
theorem isL_drop (A : List ReaderD) : ∀ i, i ≤ A.length → (isL A i).drop i = A.drop i
  | 0, _ => rfl
  | i + 1, h => by
    have hd := isL_drop A i (by omega)
    have hl : (ordL A i).length = i := ordL_len (by omega)
    have hc := cutR_le (A.getD i default) (ordL A i) i
    rw [isL_step (by omega) hd]
    generalize cutR (A.getD i default) (ordL A i) i = c at hc
    generalize ordL A i = O at hl
    have h1 : (O.take c).length = c := by rw [List.length_take]; omega
    have h2 : (O.drop c).length = i - c := by rw [List.length_drop]; omega
    rw [List.drop_append, h1, List.drop_eq_nil_of_le (by omega), List.nil_append, show i + 1 - c = (i - c) + 1 by omega, List.drop_succ_cons, List.drop_append, h2, List.drop_eq_nil_of_le (by omega)]
    simp
theorem ordL_succ {A : List ReaderD} {i : Nat} (h : i < A.length) :
    ordL A (i + 1) = (ordL A i).take (cutR (A.getD i default) (ordL A i) i) ++ A.getD i default :: (ordL A i).drop (cutR (A.getD i default) (ordL A i) i) := by
  have hl : (ordL A i).length = i := ordL_len (by omega)
  have hc := cutR_le (A.getD i default) (ordL A i) i
  have hst := isL_step h (isL_drop A i (by omega))
  unfold ordL at hst hc hl ⊢
  rw [hst]
  generalize cutR (A.getD i default) (List.take i (isL A i)) i = c at hc
  generalize List.take i (isL A i) = O at hl
  have h1 : (O.take c).length = c := by rw [List.length_take]; omega
  have h2 : (O.drop c).length = i - c := by rw [List.length_drop]; omega
  rw [List.take_append, h1, List.take_of_length_le (l := List.take c O) (by omega), show i + 1 - c = (i - c) + 1 by omega, List.take_succ_cons, List.take_append, h2]
  simp
  exact List.take_of_length_le (by omega)
theorem ordL_full {A : List ReaderD} : ordL A A.length = isL A A.length := by unfold ordL; rw [List.take_of_length_le (by rw [isL_len]; omega)]

def oweOk (X : Nat → ReaderD) (n : Nat) (m : Int) : Bool := readersB X n && inB m 0 10
/-- The ids of the first k readers of a list. -/
def idsN (L : List ReaderD) (k : Nat) : List Int := (L.take k).map (·.Id)
theorem idsN_succ {L : List ReaderD} {k : Nat} (h : k < L.length) : idsN L (k + 1) = idsN L k ++ [(L.getD k default).Id] := by
  have h1 : L.take (k + 1) = L.take k ++ [L.getD k default] := by rw [List.take_add_one]; simp [List.getD, h]
  unfold idsN
  rw [h1, List.map_append]
  rfl
theorem idsN_len (L : List ReaderD) (k : Nat) : (idsN L k).length ≤ k := by unfold idsN; rw [List.length_map, List.length_take]; omega
theorem idsN_all {L : List ReaderD} {k : Nat} (h : L.length ≤ k) : idsN L k = idsN L L.length := by unfold idsN; rw [List.take_of_length_le h, List.take_of_length_le (Nat.le_refl _)]
def oweL (X : Nat → ReaderD) (n : Nat) (m : Int) : List Int := if oweOk X n m = true then idsN (isL (lstReader X n) n) (min m.toNat n) else []
theorem oweL_le (X : Nat → ReaderD) (n : Nat) (m : Int) : (oweL X n m).length ≤ n := by
  unfold oweL
  split
  · exact Nat.le_trans (idsN_len _ _) (Nat.min_le_right _ _)
  · simp
theorem ownI_empty' (w : World) : OwnI w.heap.size (w.alloc (.cells #[] 3)) (.slice (some ⟨w.heap.size, 0, none⟩) 0 0) [] :=
  World.ownsRow_made w #[] 0 (Nat.le_refl _) (by simp [maxLen]) rfl

set_option maxHeartbeats 4000000 in
theorem owe_impl (w : World) (b off len cap : Nat) (X : Nat → ReaderD) (m : Int) (h : Rw w b off 5 len (fun i => (X i).cells)) (hm : len ≤ 1048576) (hlc : len ≤ cap) (hnm : ∀ i, i < len → (X i).Name.size ≤ maxLen) :
    Calls Try.prog 53 #[.slice (some ⟨b, off, none⟩) len cap, .int .i64 m] w (RetIB (oweL X len m) (oweOk X len m) w) := by
  have H := hid h
  have HN := hid hnm
  have hb := h.1
  clear h hnm
  obtain ⟨i0, hi, hz0, hz1, hz2⟩ := info_parts info_int
  go_enter Try.func53, Try.ntmps53
  go_wp2_with fail
  refine (readers_impl _ b off len cap X H.out hm hlc HN.out).mono ?_
  rintro e w0 ⟨rfl, hb0⟩
  by_cases hS : readersB X len = true
  · by_cases hd : inB m 0 10 = true
    · have hd1 : 0 ≤ m ∧ m ≤ 10 := by simp [inB] at hd; omega
      have hP : Hid (oweOk X len m = true) := by simp [Hid, oweOk, hS, hd]
      have hQ : Hid (oweL X len m = idsN (isL (lstReader X len) len) (min m.toNat len)) := by unfold Hid oweL; rw [if_pos hP.out]
      have h10 : len ≤ 10 := readersB_le hS
      obtain ⟨mm, rfl⟩ : ∃ mm : Nat, m = (mm : Int) := ⟨m.toNat, by omega⟩
      have HS := hid hS
      clear hS
      go_wp2_with (go_at_call 55; refine (in_impl _ _ _ _).mono ?_; rintro e w' ⟨rfl, rfl⟩)
      refine (cloneReader _ b off len cap X (H.out.later' hb0) hm hlc).mono ?_
      rintro e w1 ⟨v1, rfl, ho1, hb1⟩
      have B1 : Below w.heap.size w w1 := Below.on hb0 hb0.size hb1
      have ho1 := ho1.base (B' := w.heap.size) hb0.size
      have hmin := run_min2
      rcases ho1.form with ⟨rfl, h0⟩ | ⟨g, cap', hv, hg1, hg2, hc1, hc2, _, _⟩
      · have hl0 : len = 0 := by have := congrArg List.length h0; rw [lstReader_length] at this; simpa using this
        subst hl0
        have h0' : Hid (idsN (isL (lstReader X 0) 0) (min ((mm : Int)).toNat 0) = []) := by unfold Hid; rw [Nat.min_zero]; rfl
        have e1 : imin (mm : Int) 0 = 0 := by unfold imin; split <;> omega
        clear ho1 hb1
        go_wp2_with fail
        refine (sorted_nil _).mono ?_
        rintro e w2 ⟨rfl, rfl⟩
        go_wp2_with fail
        refine wp_loop_rounds 1 ?_
        rw [rounds_succ]
        go_wp2_with fail
        go_ret2
        exact ⟨_, by rw [hP.out]; rfl, by rw [hQ.out, h0'.out]; exact OwnI.nil _ _, B1⟩
      · rw [lstReader_length] at hv
        subst hv
        have HO1 := hid ho1
        rw [lstReader_length] at hc1
        clear ho1
        go_wp2_with fail
        refine (sorted_any _ w.heap.size g len cap' (lstReader X len) HO1.out (lstReader_length _ _) h10 B1.size).mono ?_
        rintro e w2 ⟨rfl, ho2, hg2'⟩
        have B2 : Below w.heap.size w w2 := B1.grown hg2' B1.size (fun k hk => by cases hk; omega)
        have hsz2 := hg2'.size
        obtain ⟨L, hL⟩ : ∃ L, isL (lstReader X len) len = L := ⟨_, rfl⟩
        have hLl : L.length = len := by rw [← hL, isL_len, lstReader_length]
        rw [hL] at ho2 hQ
        have HOL := hid ho2
        have HLl := hid hLl
        clear hL ho2 hg2' hLl hb1
        obtain ⟨q, hq⟩ : ∃ q : Nat, min mm len = q := ⟨_, rfl⟩
        have hq1 : q ≤ len := by omega
        have hq2 : imin (mm : Int) (len : Int) = (q : Int) := by unfold imin; split <;> omega
        have hQ2 : Hid (oweL X len (mm : Int) = idsN L q) := by unfold Hid; rw [hQ.out, ← hq]; rfl
        have hqc : q ≤ cap' := by omega
        clear hQ hq
        rcases HOL.out.form with ⟨hv, _⟩ | ⟨g', cap2, hv, _, hg2, _, _, hRw, _⟩
        · exact absurd hv (by simp)
        injection hv with e1 e2 e3
        injection e1 with e1
        injection e1 with e1
        subst e1
        subst e3
        clear e2
        rw [HLl.out] at hRw
        have HRw := hid hRw
        clear hRw
        go_wp2_with fail
        go_loopw [7, 29] (fun v i wr => ∃ k : Nat, k ≤ q ∧ i = .int .i64 k ∧ Below w2.heap.size w2 wr ∧ Hid (OwnI w2.heap.size wr v (idsN L k))) (fun _ i _ => q - (intOf i).toNat)
        case atStart => exact ⟨0, by omega, rfl, Below.refl _ _, OwnI.nil _ _⟩
        case round =>
          obtain ⟨k, hk, rfl, hB, ho⟩ := hrel
          by_cases hlt : k < q
          · have hle := idsN_len L k
            obtain ⟨s, hs⟩ : ∃ s, L.getD k default = s := ⟨_, rfl⟩
            have c0 : wr.cell? ⟨g, k * 5, none⟩ = some (.int .i64 s.Id) := by have hh := HRw.out.2 k (by omega) 0 (by omega); simp only [hs, Nat.zero_add] at hh; exact (hB.cell hg2).trans hh
            have c1 : wr.cell? ⟨g, k * 5 + 1, none⟩ = some (.string s.Name) := by have hh := HRw.out.2 k (by omega) 1 (by omega); simp only [hs, Nat.zero_add] at hh; exact (hB.cell hg2).trans hh
            have c2 : wr.cell? ⟨g, k * 5 + 2, none⟩ = some (.int .i64 s.Joined) := by have hh := HRw.out.2 k (by omega) 2 (by omega); simp only [hs, Nat.zero_add] at hh; exact (hB.cell hg2).trans hh
            have c3 : wr.cell? ⟨g, k * 5 + 3, none⟩ = some (.int .i64 s.Class) := by have hh := HRw.out.2 k (by omega) 3 (by omega); simp only [hs, Nat.zero_add] at hh; exact (hB.cell hg2).trans hh
            have c4 : wr.cell? ⟨g, k * 5 + 4, none⟩ = some (.int .i64 s.Fines) := by have hh := HRw.out.2 k (by omega) 4 (by omega); simp only [hs, Nat.zero_add] at hh; exact (hB.cell hg2).trans hh
            have HSuc : Hid (idsN L (k + 1) = idsN L k ++ [s.Id]) := by unfold Hid; rw [idsN_succ (by rw [HLl.out]; omega), hs]
            clear hs
            have z0 : wr.heap.size ≥ w2.heap.size := hB.size
            have HO2 := hid (World.ownsRow.alloc ho.out (.cells #[.int .i64 s.Id, .string s.Name, .int .i64 s.Joined, .int .i64 s.Class, .int .i64 s.Fines] 33))
            go_wp2_with (at_builtin; refine wpList_append_own_at _ rfl _ _ 53 rfl w2.heap.size 3 i0 (.int .i64 0) 1 8 Try.underlying53 hi hz0 hz1 hz2 rfl (by decide) _ _ _ rfl (World.ownsRow.alloc HO2.out _) ⟨wr.heap.size + 1, 0, none⟩ 1 1 [.int .i64 s.Id] rfl rfl ?c1 ?c2 ?c3 ?c4 ?c5 ?_)
            case c1 => exact World.news_of_block (by rw [show wr.heap.size + 1 = (wr.alloc (.cells #[.int .i64 s.Id, .string s.Name, .int .i64 s.Joined, .int .i64 s.Class, .int .i64 s.Fines] 33)).heap.size from by simp]; exact heap_alloc_new _ _)
            case c2 => intro u hu; simp at hu; subst hu; rfl
            case c3 => unfold maxLen; omega
            case c4 => omega
            case c5 => have := hB.size; simp; omega
            intro v' w3 hown' hgrow _ _
            have hb2 : Below w2.heap.size w2 w3 := ((hB.alloc hB.size _).alloc (by have := hB.size; simp; omega) _).grown hgrow (by have := hB.size; simp; omega) (fun g hg => by have := (World.ownsRow.lt HO2.out g hg).1; omega)
            have ho3 : Hid (OwnI w2.heap.size w3 v' (idsN L (k + 1))) := by
              rw [HSuc.out]
              unfold Hid OwnI
              simpa using hown'
            clear hown' hgrow HO2 HSuc
            go_wp2_with fail
            go_roundw
            case rel => exact ⟨k + 1, by omega, by go_num, hb2, ho3⟩
            case measure => simp [intOf]; omega
          · obtain rfl : k = q := by omega
            go_wp2_with fail
            go_ret2
            exact ⟨_, by rw [hP.out]; rfl, by rw [hQ2.out]; exact ho.out.base B2.size, Below.on B2 B2.size hB⟩
    · have hd' : inB m 0 10 = false := by simpa using hd
      have hP : oweOk X len m = false := by simp [oweOk, hd']
      have hQ : oweL X len m = [] := by unfold oweL; rw [hP]; rfl
      have hP := hid hP
      have hQ := hid hQ
      clear hd
      go_wp2_with (go_at_call 55; refine (in_impl _ _ _ _).mono ?_; rintro e w' ⟨rfl, rfl⟩)
      go_ret2
      exact ⟨_, by rw [hP.out]; rfl, by rw [hQ.out]; exact OwnI.nil _ _, hb0⟩
  · have hS' : readersB X len = false := by simpa using hS
    have hP : oweOk X len m = false := by simp [oweOk, hS']
    have hQ : oweL X len m = [] := by unfold oweL; rw [hP]; rfl
    have hP := hid hP
    have hQ := hid hQ
    clear hS
    go_wp2_with fail
    go_ret2
    exact ⟨_, by rw [hP.out]; rfl, by rw [hQ.out]; exact OwnI.nil _ _, hb0⟩

end Go.Proofs.Ytlcgjcbpoinboaa
