/-
  The index of a reader of a valid list; how many sheets a reader may take. No condition.
-/
import Derived.Test.YtlcgjcbpoinboaaReaders2
import Derived.Test.YtlcgjcbpoinboaaGcd
namespace Go.Proofs.Ytlcgjcbpoinboaa
open Go.RowKit
set_option linter.unusedVariables false
set_option maxRecDepth 100000

set_option maxHeartbeats 400000 in
theorem idx_reader (w : World) (b off len cap : Nat) (X : Nat → ReaderD) (g : FuncId) (cs : Array Value) (p : Nat → Bool) (hcall : ∀ args w, (callFunc g args).run Try.prog w = .ok (.enter g args) w) (h : Rw w b off 5 len (fun i => (X i).cells)) (hm : len ≤ 1048576) (hlc : len ≤ cap)
    (hg : ∀ (x : Later w) (i : Nat), i < len → Calls Try.prog g (#[(X i).val] ++ cs) x.wd fun e w' => e = .returned (.bool (p i)) ∧ Below x.wd.heap.size x.wd w') :
    Calls Try.prog 89 #[.slice (some ⟨b, off, none⟩) len cap, .func (.func g) #[] cs] w fun e w' => e = .returned (.int .i64 (findI p len)) ∧ Below w.heap.size w w' := by
  have H := hid h.2
  have HG := hid hg
  have hb := h.1
  clear h hg
  go_enter Try.func89, Try.ntmps89
  go_wp2
  go_loopw [8] (fun i wr => ∃ k : Nat, k ≤ len ∧ i = .int .i64 k ∧ Below w.heap.size w wr ∧ Hid (findI p len = findFrom p k (len - k))) (fun i _ => len - (intOf i).toNat)
  case atStart => exact ⟨0, by omega, rfl, Below.refl _ _, rfl⟩
  case round =>
    obtain ⟨k, hk, rfl, hB, hf⟩ := hrel
    by_cases hlt : k < len
    · have c0 : wr.cell? ⟨b, off + k * 5, none⟩ = some (.int .i64 (X k).Id) := (hB.cell hb).trans (H.out k hlt 0 (by omega))
      have c1 : wr.cell? ⟨b, off + k * 5 + 1, none⟩ = some (.string (X k).Name) := (hB.cell hb).trans (H.out k hlt 1 (by omega))
      have c2 : wr.cell? ⟨b, off + k * 5 + 2, none⟩ = some (.int .i64 (X k).Joined) := (hB.cell hb).trans (H.out k hlt 2 (by omega))
      have c3 : wr.cell? ⟨b, off + k * 5 + 3, none⟩ = some (.int .i64 (X k).Class) := (hB.cell hb).trans (H.out k hlt 3 (by omega))
      have c4 : wr.cell? ⟨b, off + k * 5 + 4, none⟩ = some (.int .i64 (X k).Fines) := (hB.cell hb).trans (H.out k hlt 4 (by omega))
      go_wp2_with fail
      refine (HG.out ⟨wr, hB⟩ k hlt).mono ?_
      rintro e w1 ⟨rfl, hb1⟩
      have hB1 : Below w.heap.size w w1 := Below.on hB hB.size hb1
      by_cases hp : p k = true
      · go_wp2_with fail
        go_ret
        exact ⟨ret_int (findFrom_hit hlt hp hf.out).symm, hB1⟩
      · have hp' : p k = false := by simpa using hp
        clear hp
        go_wp2_with fail
        go_roundw
        case rel => exact ⟨k + 1, by omega, by go_num, hB1, findFrom_miss hlt hp' hf.out⟩
        case measure => simp [intOf]; omega
    · go_wp2_with fail
      go_ret
      exact ⟨ret_int (findFrom_end (by omega) hf.out).symm, hB⟩

theorem rat_impl_1 (s : ReaderD) (id : Int) (b1 : Nat) (w : World) (h1 : w.cell? ⟨b1, 0, none⟩ = some (.int .i64 id)) (l1 : b1 < w.heap.size) :
    Calls Try.prog 90 #[s.val, .pointer (some ⟨b1, 0, none⟩)] w fun e w' => e = .returned (.bool (s.Id == id)) ∧ Below w.heap.size w w' := by
  go_enter Try.func90, Try.ntmps90
  go_wp2
  all_goals go_ret
  all_goals exact ⟨by simp [*], by go_grown⟩

theorem rat_impl (w : World) (b off len cap : Nat) (X : Nat → ReaderD) (id : Int) (h : Rw w b off 5 len (fun i => (X i).cells)) (hm : len ≤ 1048576) (hlc : len ≤ cap) :
    Calls Try.prog 68 #[.slice (some ⟨b, off, none⟩) len cap, .int .i64 id] w fun e w' => e = .returned (.int .i64 (findI (fun i => (X i).Id == id) len)) ∧ Below w.heap.size w w' := by
  go_enter Try.func68, Try.ntmps68
  go_wp2_with fail
  have hB : Below w.heap.size w (w.alloc (.cells #[.int .i64 id] 3)) := by go_grown
  refine (idx_reader _ b off len cap X 90 _ (fun i => (X i).Id == id) (fun _ _ => by kernel_rfl) (h.later' hB) hm hlc ?_).mono ?_
  · intro x i hi
    have hz := x.size
    refine rat_impl_1 (X i) id _ _ ((x.cell _ _ (by simp)).trans ?_) ?_
    · simp [go_sem]
    · simp at hz; omega
  · rintro e w1 ⟨rfl, hb1⟩
    go_wp2_with fail
    go_ret
    exact ⟨rfl, Below.on hB (by simp) hb1⟩

/-- The index of the reader with an id in a valid list, or -1. -/
def findR (X : Nat → ReaderD) (n : Nat) (id : Int) : Int := if readersB X n = true then findI (fun i => (X i).Id == id) n else -1
theorem findR_cases (X : Nat → ReaderD) (n : Nat) (id : Int) : (findR X n id = -1 ∧ (readersB X n = false ∨ findI (fun i => (X i).Id == id) n = -1)) ∨ ∃ j, j < n ∧ findR X n id = (j : Int) ∧ readersB X n = true ∧ findI (fun i => (X i).Id == id) n = (j : Int) := by
  unfold findR
  by_cases h : readersB X n = true
  · rw [if_pos h]
    rcases findI_cases (fun i => (X i).Id == id) n with hK | ⟨j, hj, hK, _⟩
    · exact .inl ⟨hK, .inr hK⟩
    · exact .inr ⟨j, hj, hK, h, hK⟩
  · rw [if_neg h]
    exact .inl ⟨rfl, .inl (by simpa using h)⟩

theorem readersB_bd {X : Nat → ReaderD} {n k : Nat} (h : readersB X n = true) (hk : k < n) : (1 ≤ (X k).Id ∧ (X k).Id ≤ 999) ∧ (0 ≤ (X k).Joined ∧ (X k).Joined ≤ 4000) ∧ (1 ≤ (X k).Class ∧ (X k).Class ≤ 3) ∧ (0 ≤ (X k).Fines ∧ (X k).Fines ≤ 10000) := by
  have := readersB_at h hk
  simp [readerOk, readerB, inB] at this
  omega

set_option maxHeartbeats 1000000 in
theorem find3_spec (w : World) (b off len cap : Nat) (X : Nat → ReaderD) (id : Int) (h : Rw w b off 5 len (fun i => (X i).cells)) (hm : len ≤ 1048576) (hlc : len ≤ cap) (hnm : ∀ i, i < len → (X i).Name.size ≤ maxLen) :
    Calls Try.prog 65 #[.slice (some ⟨b, off, none⟩) len cap, .int .i64 id] w fun e w' => e = .returned (.int .i64 (findR X len id)) ∧ Below w.heap.size w w' := by
  have H := hid h
  have HN := hid hnm
  have hb := h.1
  clear h hnm
  by_cases hS : readersB X len = true
  · have hF : findR X len id = findI (fun i => (X i).Id == id) len := by simp [findR, hS]
    rw [hF]
    clear hF
    go_enter Try.func65, Try.ntmps65
    go_wp2
    go_loopw [5] (fun i wr => ∃ k : Nat, k ≤ len ∧ i = .int .i64 k ∧ Below w.heap.size w wr ∧ Hid (findI (fun i => (X i).Id == id) len = findFrom (fun i => (X i).Id == id) k (len - k))) (fun i _ => len - (intOf i).toNat)
    case atStart => exact ⟨0, by omega, rfl, Below.refl _ _, rfl⟩
    case round =>
      obtain ⟨k, hk, rfl, hB, hf⟩ := hrel
      by_cases hlt : k < len
      · go_wp2_with fail
        refine (readers_spec _ b off len cap X (H.out.below hB hb) hm hlc HN.out).mono ?_
        rintro e w1 ⟨rfl, hb1⟩
        have hB1 : Below w.heap.size w w1 := Below.on hB hB.size hb1
        have c0 : w1.cell? ⟨b, off + k * 5, none⟩ = some (.int .i64 (X k).Id) := (hB1.cell hb).trans (H.out.2 k hlt 0 (by omega))
        go_wp2_with fail
        all_goals first
          | (go_ret; exact ⟨ret_int (findFrom_hit hlt (by simp [*]) hf.out).symm, hB1⟩)
          | (go_roundw; (case rel => exact ⟨k + 1, by omega, by go_num, hB1, findFrom_miss hlt (by simp [*]) hf.out⟩); (case measure => simp [intOf]; omega))
      · go_wp2_with fail
        go_ret
        exact ⟨ret_int (findFrom_end (by omega) hf.out).symm, hB⟩
  · have hS' : readersB X len = false := by simpa using hS
    have hF : findR X len id = -1 := by simp [findR, hS']
    rw [hF]
    clear hF hS
    go_enter Try.func65, Try.ntmps65
    go_wp2
    go_loopw [5] (fun i wr => i = .int .i64 0 ∧ Below w.heap.size w wr) (fun i _ => 0)
    case atStart => exact ⟨rfl, Below.refl _ _⟩
    case round =>
      obtain ⟨rfl, hB⟩ := hrel
      by_cases hlt : (0 : Int) < (len : Int)
      · go_wp2_with fail
        refine (readers_spec _ b off len cap X (H.out.below hB hb) hm hlc HN.out).mono ?_
        rintro e w1 ⟨rfl, hb1⟩
        have hB1 : Below w.heap.size w w1 := Below.on hB hB.size hb1
        go_wp2_with fail
        go_ret
        exact ⟨rfl, hB1⟩
      · go_wp2_with fail
        go_ret
        exact ⟨rfl, hB⟩

/-- How many more sheets a reader with some at home may take. -/
def mayH (s : ReaderD) : Int := if 500 ≤ s.Fines then 0 else if s.Class = 1 then 2 else if s.Class = 2 then 5 else 10
def mayB (X : Nat → ReaderD) (n : Nat) (id home : Int) : Bool := decide (0 ≤ findR X n id) && inB home 0 99
def mayI (X : Nat → ReaderD) (n : Nat) (id home : Int) : Int := if mayB X n id home = true then imax 0 (mayH (X (findR X n id).toNat) - home) else 0
theorem may_miss {X : Nat → ReaderD} {n : Nat} {id home : Int} (h : findR X n id = -1 ∨ inB home 0 99 = false) :
    Ending.returned (.tuple #[.int .i64 0, .bool false]) = .returned (.tuple #[.int .i64 (mayI X n id home), .bool (mayB X n id home)]) := by
  have : mayB X n id home = false := by rcases h with h | h <;> simp [mayB, h]
  simp [mayI, this]
theorem may_hit {X : Nat → ReaderD} {n j : Nat} {id home v : Int} (h : findR X n id = (j : Int)) (hh : inB home 0 99 = true) (hv : v = imax 0 (mayH (X j) - home)) :
    Ending.returned (.tuple #[.int .i64 v, .bool true]) = .returned (.tuple #[.int .i64 (mayI X n id home), .bool (mayB X n id home)]) := by
  simp [mayI, mayB, h, hh, hv]

set_option maxHeartbeats 2000000 in
theorem may_spec (w : World) (b off len cap : Nat) (X : Nat → ReaderD) (id home : Int) (h : Rw w b off 5 len (fun i => (X i).cells)) (hm : len ≤ 1048576) (hlc : len ≤ cap) (hnm : ∀ i, i < len → (X i).Name.size ≤ maxLen) :
    Calls Try.prog 33 #[.slice (some ⟨b, off, none⟩) len cap, .int .i64 id, .int .i64 home] w fun e w' => e = .returned (.tuple #[.int .i64 (mayI X len id home), .bool (mayB X len id home)]) ∧ Below w.heap.size w w' := by
  have H := hid h
  have HN := hid hnm
  have hb := h.1
  clear h hnm
  go_enter Try.func33, Try.ntmps33
  go_wp2_with fail
  refine (find3_spec _ b off len cap X id H.out hm hlc HN.out).mono ?_
  rintro e w1 ⟨he, hb1⟩
  rcases findR_cases X len id with ⟨hK, _⟩ | ⟨j, hj, hK, hS, _⟩
  · rw [hK] at he
    have HK := hid hK
    clear hK
    subst he
    go_wp2_with fail
    go_ret2
    exact ⟨may_miss (.inl HK.out), hb1⟩
  · rw [hK] at he
    have HK := hid hK
    clear hK
    subst he
    obtain ⟨_, _, ⟨hc1, hc2⟩, hf1, hf2⟩ := readersB_bd hS hj
    have e4 : (0 : Int) ≤ (j : Int) := by omega
    have e5 : (j : Int) < (len : Int) := by omega
    have c4 : w1.cell? ⟨b, off + j * 5 + 4, none⟩ = some (.int .i64 (X j).Fines) := (hb1.cell hb).trans (H.out.2 j hj 4 (by omega))
    by_cases hh : inB home 0 99 = true
    · have hh1 : 0 ≤ home ∧ home ≤ 99 := by simp [inB] at hh; omega
      by_cases hF : 500 ≤ (X j).Fines
      · have hv : Hid ((0 : Int) = imax 0 (mayH (X j) - home)) := by unfold Hid mayH imax; rw [if_pos hF]; split <;> omega
        go_wp2_with (go_at_call 66; refine (in_spec _ _ _ _).mono ?_; rintro e w' ⟨rfl, rfl⟩)
        go_ret2
        exact ⟨may_hit HK.out hh hv.out, hb1⟩
      · have hcl : (X j).Class = 1 ∨ (X j).Class = 2 ∨ (X j).Class = 3 := by omega
        have c3 : w1.cell? ⟨b, off + j * 5 + 3, none⟩ = some (.int .i64 (X j).Class) := (hb1.cell hb).trans (H.out.2 j hj 3 (by omega))
        have hjb : b < w1.heap.size := by have := hb1.size; omega
        clear hc1 hc2
        rcases hcl with hcl | hcl | hcl
        all_goals
          have hv : Hid (mayH (X j) = if (X j).Class = 1 then 2 else if (X j).Class = 2 then 5 else 10) := by unfold Hid mayH; rw [if_neg hF]
          rw [hcl] at c3 hv
          clear hcl
          go_wp2_with (first | (go_at_call 66; refine (in_spec _ _ _ _).mono ?_; rintro e w' ⟨rfl, rfl⟩) | (go_at_call 67; refine (most_spec _ _ _).mono ?_; rintro e w' ⟨rfl, rfl⟩))
          go_ret2
          exact ⟨may_hit HK.out hh (by rw [hv.out]; rfl), by have hz1 := hb1.size; go_grown; try omega⟩
    · have hh' : inB home 0 99 = false := by simpa using hh
      clear hh
      go_wp2_with (go_at_call 66; refine (in_spec _ _ _ _).mono ?_; rintro e w' ⟨rfl, rfl⟩)
      go_ret2
      exact ⟨may_miss (.inr hh'), hb1⟩

set_option maxHeartbeats 1000000 in
theorem mayHave_impl (s : ReaderD) (h : readerB s = true) (w : World) : Calls Try.prog 69 #[s.val] w fun e w' => e = .returned (.int .i64 (mayH s)) ∧ Below w.heap.size w w' := by
  have hb : 1 ≤ s.Class ∧ s.Class ≤ 3 := by simp [readerB, inB] at h; omega
  clear h
  by_cases hF : 500 ≤ s.Fines
  · rw [show mayH s = 0 by unfold mayH; rw [if_pos hF]]
    go_enter Try.func69, Try.ntmps69
    go_wp2
    go_ret
    exact ⟨rfl, by go_grown⟩
  · have hv : mayH s = if s.Class = 1 then 2 else if s.Class = 2 then 5 else 10 := by unfold mayH; rw [if_neg hF]
    have hcl : s.Class = 1 ∨ s.Class = 2 ∨ s.Class = 3 := by omega
    clear hb
    rw [hv]
    obtain ⟨sid, snm, sj, sc, sf⟩ := s
    simp only at hcl hv hF ⊢
    clear hv
    rcases hcl with rfl | rfl | rfl
    all_goals
      go_enter Try.func69, Try.ntmps69
      go_wp2
      go_ret
      exact ⟨rfl, by go_grown⟩

theorem may_impl (w : World) (b off len cap : Nat) (X : Nat → ReaderD) (id home : Int) (h : Rw w b off 5 len (fun i => (X i).cells)) (hm : len ≤ 1048576) (hlc : len ≤ cap) (hnm : ∀ i, i < len → (X i).Name.size ≤ maxLen) :
    Calls Try.prog 34 #[.slice (some ⟨b, off, none⟩) len cap, .int .i64 id, .int .i64 home] w fun e w' => e = .returned (.tuple #[.int .i64 (mayI X len id home), .bool (mayB X len id home)]) ∧ Below w.heap.size w w' := by
  have H := hid h
  have HN := hid hnm
  have hb := h.1
  clear h hnm
  have hmx := run_max2
  go_enter Try.func34, Try.ntmps34
  go_wp2_with fail
  refine (rat_impl _ b off len cap X id H.out hm hlc).mono ?_
  rintro e w1 ⟨he, hb1⟩
  rcases findR_cases X len id with ⟨hK, hK2⟩ | ⟨j, hj, hK, hS, hK2⟩
  · have HK := hid hK
    clear hK
    by_cases hS : readersB X len = true
    · have hk : findI (fun i => (X i).Id == id) len = -1 := by rcases hK2 with h | h; rw [h] at hS; cases hS; exact h
      clear hK2
      rw [hk] at he
      clear hk
      subst he
      go_wp2_with fail
      refine (readers_impl _ b off len cap X (H.out.below hb1 hb) hm hlc HN.out).mono ?_
      rintro e w2 ⟨rfl, hb2⟩
      have B2 := Below.on hb1 hb1.size hb2
      go_wp2_with fail
      go_ret2
      exact ⟨may_miss (.inl HK.out), B2⟩
    · have hS' : readersB X len = false := by simpa using hS
      have Hk2 := hid hK2
      clear hS hK2
      subst he
      go_wp2_with fail
      refine (readers_impl _ b off len cap X (H.out.below hb1 hb) hm hlc HN.out).mono ?_
      rintro e w2 ⟨rfl, hb2⟩
      have B2 := Below.on hb1 hb1.size hb2
      go_wp2_with fail
      go_ret2
      exact ⟨may_miss (.inl HK.out), B2⟩
  · rw [hK2] at he
    have HK := hid hK
    clear hK hK2
    subst he
    go_wp2_with fail
    refine (readers_impl _ b off len cap X (H.out.below hb1 hb) hm hlc HN.out).mono ?_
    rintro e w2 ⟨rfl, hb2⟩
    have B2 := Below.on hb1 hb1.size hb2
    have e4 : (0 : Int) ≤ (j : Int) := by omega
    have e5 : (j : Int) < (len : Int) := by omega
    have c0 : w2.cell? ⟨b, off + j * 5, none⟩ = some (.int .i64 (X j).Id) := (B2.cell hb).trans (H.out.2 j hj 0 (by omega))
    have c1 : w2.cell? ⟨b, off + j * 5 + 1, none⟩ = some (.string (X j).Name) := (B2.cell hb).trans (H.out.2 j hj 1 (by omega))
    have c2 : w2.cell? ⟨b, off + j * 5 + 2, none⟩ = some (.int .i64 (X j).Joined) := (B2.cell hb).trans (H.out.2 j hj 2 (by omega))
    have c3 : w2.cell? ⟨b, off + j * 5 + 3, none⟩ = some (.int .i64 (X j).Class) := (B2.cell hb).trans (H.out.2 j hj 3 (by omega))
    have c4 : w2.cell? ⟨b, off + j * 5 + 4, none⟩ = some (.int .i64 (X j).Fines) := (B2.cell hb).trans (H.out.2 j hj 4 (by omega))
    have hR : readerB (X j) = true := by have := readersB_at hS hj; simp [readerOk] at this; exact this.1
    by_cases hh : inB home 0 99 = true
    · go_wp2_with (go_at_call 55; refine (in_impl _ _ _ _).mono ?_; rintro e w' ⟨rfl, rfl⟩)
      refine (mayHave_impl (X j) hR _).mono ?_
      rintro e w3 ⟨rfl, hb3⟩
      have hv : IntKind.i64.wrap (mayH (X j) - home) = mayH (X j) - home := IntWalk.i64_in _ (by simp [inB] at hh; unfold mayH; split; omega; split; omega; split <;> omega)
      go_wp2_with fail
      go_ret2
      exact ⟨may_hit HK.out hh rfl, Below.on B2 B2.size hb3⟩
    · have hh' : inB home 0 99 = false := by simpa using hh
      clear hh
      go_wp2_with (go_at_call 55; refine (in_impl _ _ _ _).mono ?_; rintro e w' ⟨rfl, rfl⟩)
      go_ret2
      exact ⟨may_miss (.inr hh'), B2⟩

set_option maxHeartbeats 2000000 in
theorem walk_ExactMayTake (w : World) (p0 : Option Addr) (len0 cap0 : Nat) (X0 : Nat → ReaderD) (a1 : Int) (a2 : Int) (h0 : Sl w 5 p0 len0 (fun i => (X0 i).cells)) (ok0 : ∀ i, i < len0 → (X0 i).ok) (hm0 : len0 ≤ maxLen) (i1 : isI a1) (i2 : isI a2) :
    Calls Try.prog 7 #[.slice p0 len0 cap0, .int .i64 a1, .int .i64 a2] w fun e w' => e = .returned (.bool true) ∧ Below w.heap.size w w' := by
  go_enter Try.func7, Try.ntmps7
  go_wp2_with fail
  refine (szReaderS_any p0 len0 cap0 X0 _ h0 ok0 hm0).mono ?_
  rintro e w0 ⟨r, rfl, hb0, hr⟩
  clear ok0
  by_cases hr0 : r < 0
  · go_wp2_with fail
    go_ret
    exact ⟨rfl, hb0⟩
  · obtain ⟨hL, hnm⟩ := hr (by omega)
    clear hr
    go_wp2_with fail
    refine (toReaderS_any p0 len0 cap0 X0 _ (h0.below hb0) (by omega)).mono ?_
    rintro e w1 ⟨rfl, hb1, hs1, F1⟩
    have B1 : Below w.heap.size w w1 := Below.on hb0 hb0.size hb1
    go_wp2_with fail
    refine (may_spec _ _ 0 len0 len0 X0 a1 a2 F1.rw (by omega) (Nat.le_refl _) (fun i hi => by have := hnm i hi; unfold maxLen; omega)).mono ?_
    rintro e w2 ⟨rfl, hb2⟩
    have B2 : Below w.heap.size w w2 := Below.on B1 B1.size hb2
    go_wp2_with fail
    refine (toReaderS_any p0 len0 cap0 X0 _ (h0.below B2) (by omega)).mono ?_
    rintro e w3 ⟨rfl, hb3, hs3, F3⟩
    have B3 : Below w.heap.size w w3 := Below.on B2 B2.size hb3
    go_wp2_with fail
    refine (may_impl _ _ 0 len0 len0 X0 a1 a2 F3.rw (by omega) (Nat.le_refl _) (fun i hi => by have := hnm i hi; unfold maxLen; omega)).mono ?_
    rintro e w4 ⟨rfl, hb4⟩
    have B4 : Below w.heap.size w w4 := Below.on B3 B3.size hb4
    go_wp2_with fail
    refine (toReaderS_any p0 len0 cap0 X0 _ (h0.below B4) (by omega)).mono ?_
    rintro e w5 ⟨rfl, hb5, hs5, F5⟩
    have B5 : Below w.heap.size w w5 := Below.on B4 B4.size hb5
    go_wp2_with fail
    refine (eqReaderS_same _ _ 0 0 len0 len0 len0 X0 _ ((F3.rw.later' hb4).later' hb5) F5.rw (by omega) (Nat.le_refl _) (Nat.le_refl _)).mono ?_
    rintro e w6 ⟨rfl, hb6⟩
    have B6 : Below w.heap.size w w6 := Below.on B5 B5.size hb6
    go_wp2_with fail
    go_ret
    exact ⟨rfl, B6⟩

end Go.Proofs.Ytlcgjcbpoinboaa
