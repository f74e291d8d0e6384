/-
  JoinStrings, by the program and by the reference. No condition.
-/
import Derived.Test.YteklomkncfjdlaaPlain
import Derived.Test.YteklomkncfjdlaaShelf2
import Derived.Laws.Concat
import Derived.IntWalk
namespace Go.Proofs.Yteklomkncfjdlaa
open Go.RowKit
set_option linter.unusedVariables false
set_option maxRecDepth 100000

theorem stands_spec (s : ByteArray) (c : UInt8) (w : World) (hs : s.size ≤ 16777216) : Calls Try.prog 9 #[.string s, .int .u8 (c.toNat : Int)] w fun e w' => e = .returned (.bool (stB s c)) ∧ w = w' := by
  have hcb := c.toNat_lt
  go_enter Try.func9, Try.ntmps9
  go_wp2
  go_loop [5] (fun i => ∃ k : Nat, k ≤ s.size ∧ i = .int .i64 k ∧ Hid (∀ i (hi : i < s.size), i < k → s[i]'hi ≠ c)) (fun i => s.size - (intOf i).toNat)
  case atStart => exact ⟨0, Nat.zero_le _, rfl, fun i _ hi => absurd hi (by omega)⟩
  case round =>
    obtain ⟨k, hk, rfl, hf⟩ := hrel
    by_cases hlt : k < s.size
    · have hb := (s[k]'hlt).toNat_lt
      by_cases h1 : ((s[k]'hlt).toNat : Int) = (c.toNat : Int)
      · have hp : Hid (s[k]'hlt = c) := UInt8.toNat_inj.1 (by omega)
        go_wp2
        go_ret
        exact ⟨ret_bool (stB_hit hlt hp.out).symm, rfl⟩
      · have hp : Hid (s[k]'hlt ≠ c) := fun e => h1 (by rw [e])
        go_wp2
        go_round
        case rel => exact ⟨k + 1, by omega, by go_num, fun i hi hik => by by_cases e : i = k; subst e; exact hp.out; exact hf.out i hi (by omega)⟩
        case measure => simp [intOf]; omega
    · have hall : Hid (stB s c = false) := stB_none fun i hi => hf.out i hi (by omega)
      go_wp2
      go_ret
      exact ⟨ret_bool hall.out.symm, rfl⟩

set_option maxHeartbeats 2000000 in
theorem join_spec (b n : Nat) (X : Nat → ByteArray) (sep : ByteArray) (w : World) (h : Rw w b 0 1 n (strC X)) (hz : n + sumZ X n ≤ 1048576) (hsep : sep.size ≤ 1048576) :
    Calls Try.prog 5 #[.slice (some ⟨b, 0, none⟩) n n, .string sep] w fun e w' => e = .returned (.tuple #[.string (joinS X n sep), .bool (joinB X n sep)]) ∧ Below w.heap.size w w' := by
  by_cases h1 : sep.size = 1
  · by_cases h0 : n = 0
    · have hB : Hid (joinB X n sep = false) := by unfold Hid; rw [h0]; exact joinB_nil
      go_enter Try.func5, Try.ntmps5
      go_wp2_with fail
      go_ret2
      exact ⟨by rw [hB.out, joinS_no hB.out]; rfl, Below.refl _ _⟩
    · obtain ⟨c, rfl⟩ := Lib.one_byte sep h1
      have H := hid h
      have hb := h.1
      clear h h1 hsep
      have hn0 : ((n : Int) == 0) = false := by simp; omega
      have hc0 : (⟨#[c]⟩ : ByteArray)[0]'(by show 0 < 1; omega) = c := rfl
      have hcs : (((⟨#[c]⟩ : ByteArray)).size : Int) ≤ 8388608 := by show ((1 : Nat) : Int) ≤ _; omega
      have HZ := hid hz
      have hn : n ≤ 1048576 := by omega
      clear hz
      go_enter Try.func5, Try.ntmps5
      go_wp2_with fail
      go_loopw [6, 7] (fun o i wr => ∃ k : Nat, ∃ t : ByteArray, k ≤ n ∧ i = .int .i64 k ∧ o = .string t ∧ Below w.heap.size w wr ∧ (t.size : Int) ≤ 4000 ∧ Hid (t = joinT X ⟨#[c]⟩ k) ∧ Hid (∀ i, i < k → stB (X i) c = false)) (fun _ i _ => n - (intOf i).toNat)
      case atStart => exact ⟨0, ByteArray.empty, by omega, rfl, rfl, Below.refl _ _, by simp, rfl, fun i hi => absurd hi (by omega)⟩
      case round =>
        obtain ⟨k, t, hk, rfl, rfl, hB, ht, hT, hS⟩ := hrel
        by_cases hlt : k < n
        · have c0 : wr.cell? ⟨b, k, none⟩ = some (.string (X k)) := (hB.cell hb).trans (by simpa using H.out.str hlt)
          have hx : (X k).size ≤ 1048576 := by have h1 := sumZ_le X (show k + 1 ≤ n from hlt); have h2 := HZ.out; have h3 : sumZ X (k + 1) = sumZ X k + (X k).size := rfl; omega
          have hbr : b < wr.heap.size := by have := hB.size; omega
          have hq := fun x : Later wr => x.cell
          obtain ⟨x, hxx⟩ : ∃ x, X k = x := ⟨_, rfl⟩
          have HX := hid hxx
          rw [hxx] at c0 hx
          clear hxx
          have e2 : (0 : Int) ≤ (k : Int) := by omega
          have e3 : (k : Int) < (n : Int) := by omega
          by_cases hs : stB x c = true
          · have K0 : Hid (∀ w, Calls Try.prog 9 #[.string x, .int .u8 (((⟨#[c]⟩ : ByteArray)[0]'(by show 0 < 1; omega)).toNat : Int)] w fun e w' => e = .returned (.bool true) ∧ w = w') := fun w => by have h := stands_spec x c w (by omega); rw [hs] at h; exact h
            have hno : Hid (joinB X n ⟨#[c]⟩ = false) := joinB_hit hlt (by rw [HX.out]; exact hs)
            go_wp2_with fail
            refine region_later (by kernel_rfl) (by kernel_rfl) ?_
            repeat (go_big_quiet_step ((go_at_call 9; refine calls_later_same (K0.out _))))
            refine wpQuiet_nil ?_
            intro _ hw'
            obtain ⟨z, rfl⟩ := hw'
            have hB1 : Below w.heap.size w z.wd := Below.on hB hB.size z.below
            clear hq
            go_wp2_with fail
            go_ret2
            exact ⟨by rw [hno.out, joinS_no hno.out]; rfl, hB1⟩
          · have hs' : stB x c = false := by simpa using hs
            clear hs
            have HSX := hid hs'
            have K0 : Hid (∀ w, Calls Try.prog 9 #[.string x, .int .u8 (((⟨#[c]⟩ : ByteArray)[0]'(by show 0 < 1; omega)).toNat : Int)] w fun e w' => e = .returned (.bool false) ∧ w = w') := fun w => by have h := stands_spec x c w (by omega); rw [hs'] at h; exact h
            clear hs'
            have c1 := fun z : Later wr => (z.cell b k hbr).trans c0
            by_cases hk0 : 0 < k
            · obtain ⟨p, hp, hpz⟩ : ∃ p, t ++ (⟨#[c]⟩ : ByteArray) = p ∧ (p.size : Int) ≤ 4001 := ⟨_, rfl, by rw [ByteArray.size_append]; have : (⟨#[c]⟩ : ByteArray).size = 1 := rfl; rw [this]; omega⟩
              obtain ⟨q, hqq⟩ : ∃ q, p ++ x = q := ⟨_, rfl⟩
              have HQ : Hid (q = joinT X ⟨#[c]⟩ (k + 1)) := by unfold Hid; rw [joinT_succ X _ hk0, ← hqq, ← hp, ← HX.out, hT.out]
              have hqz : (q.size : Int) ≤ 1052577 := by rw [← hqq, ByteArray.size_append]; omega
              have w1 : (t.size : Int) ≤ 8388608 := by omega
              have w2 : (p.size : Int) ≤ 8388608 := by omega
              have w3 : (x.size : Int) ≤ 8388608 := by omega
              by_cases h4 : (4000 : Int) < (q.size : Int)
              · have hno : Hid (joinB X n ⟨#[c]⟩ = false) := joinB_long (show k + 1 ≤ n from hlt) (by rw [← HQ.out]; omega)
                go_wp2_with fail
                refine region_later (by kernel_rfl) (by kernel_rfl) ?_
                repeat (go_big_quiet_step ((go_at_call 9; refine calls_later_same (K0.out _))))
                refine wpQuiet_nil ?_
                intro _ hw'
                obtain ⟨z, rfl⟩ := hw'
                have hB1 : Below w.heap.size w z.wd := Below.on hB hB.size z.below
                have c2 := c1 z
                clear hq c1
                go_wp2_with fail
                go_ret2
                exact ⟨by rw [hno.out, joinS_no hno.out]; rfl, hB1⟩
              · go_wp2_with fail
                refine region_later (by kernel_rfl) (by kernel_rfl) ?_
                repeat (go_big_quiet_step ((go_at_call 9; refine calls_later_same (K0.out _))))
                refine wpQuiet_nil ?_
                intro _ hw'
                obtain ⟨z, rfl⟩ := hw'
                have hB1 : Below w.heap.size w z.wd := Below.on hB hB.size z.below
                have c2 := c1 z
                clear hq c1
                go_wp2_with fail
                go_roundw
                case rel => exact ⟨k + 1, q, by omega, by go_num, rfl, hB1, by omega, HQ.out, fun i hi => by by_cases e : i = k; rw [e, HX.out]; exact HSX.out; exact hS.out i (by omega)⟩
                case measure => simp [intOf]; omega
            · obtain ⟨q, hqq⟩ : ∃ q, t ++ x = q := ⟨_, rfl⟩
              have HQ : Hid (q = joinT X ⟨#[c]⟩ (k + 1)) := by
                unfold Hid
                have : k = 0 := by omega
                subst this
                rw [joinT_one, ← hqq, HX.out, hT.out]
                simp [joinT]
              have hqz : (q.size : Int) ≤ 1052577 := by rw [← hqq, ByteArray.size_append]; omega
              have w1 : (t.size : Int) ≤ 8388608 := by omega
              have w3 : (x.size : Int) ≤ 8388608 := by omega
              by_cases h4 : (4000 : Int) < (q.size : Int)
              · have hno : Hid (joinB X n ⟨#[c]⟩ = false) := joinB_long (show k + 1 ≤ n from hlt) (by rw [← HQ.out]; omega)
                go_wp2_with fail
                refine region_later (by kernel_rfl) (by kernel_rfl) ?_
                repeat (go_big_quiet_step ((go_at_call 9; refine calls_later_same (K0.out _))))
                refine wpQuiet_nil ?_
                intro _ hw'
                obtain ⟨z, rfl⟩ := hw'
                have hB1 : Below w.heap.size w z.wd := Below.on hB hB.size z.below
                have c2 := c1 z
                clear hq c1
                go_wp2_with fail
                go_ret2
                exact ⟨by rw [hno.out, joinS_no hno.out]; rfl, hB1⟩
              · go_wp2_with fail
                refine region_later (by kernel_rfl) (by kernel_rfl) ?_
                repeat (go_big_quiet_step ((go_at_call 9; refine calls_later_same (K0.out _))))
                refine wpQuiet_nil ?_
                intro _ hw'
                obtain ⟨z, rfl⟩ := hw'
                have hB1 : Below w.heap.size w z.wd := Below.on hB hB.size z.below
                have c2 := c1 z
                clear hq c1
                go_wp2_with fail
                go_roundw
                case rel => exact ⟨k + 1, q, by omega, by go_num, rfl, hB1, by omega, HQ.out, fun i hi => by by_cases e : i = k; rw [e, HX.out]; exact HSX.out; exact hS.out i (by omega)⟩
                case measure => simp [intOf]; omega
        · obtain rfl : k = n := by omega
          have hyes : Hid (joinB X k ⟨#[c]⟩ = true) := joinB_ok (by omega) hS.out (by rw [← hT.out]; omega)
          go_wp2_with fail
          go_ret2
          exact ⟨by rw [hyes.out, joinS_yes hyes.out, ← hT.out]; rfl, hB⟩
  · have hB : Hid (joinB X n sep = false) := joinB_sep h1
    have hd : decide ((sep.size : Int) = 1) = false := by simp; omega
    go_enter Try.func5, Try.ntmps5
    go_wp2_with fail
    go_ret2
    exact ⟨by rw [hB.out, joinS_no hB.out]; rfl, Below.refl _ _⟩
theorem contains_one (s : ByteArray) (c : UInt8) (w : World) : Calls Try.prog 10 #[.string s, .string ⟨#[c]⟩] w fun e w' => e = .returned (.bool (stB s c)) ∧ w = w' :=
  (Try.strings_Contains_one s c w).mono fun e w' h => ⟨by rw [h.1, stB_index], h.2.symm⟩

theorem strings_join (b n : Nat) (X : Nat → ByteArray) (sep : ByteArray) (w : World) (h : Rw w b 0 1 n (strC X)) (hz : n + sumZ X n ≤ 1048576) (hsep : sep.size = 1) (hn : 0 < n) :
    Calls Try.prog 11 #[.slice (some ⟨b, 0, none⟩) n n, .string sep] w fun e w' => e = .returned (.string (joinT X sep n)) ∧ Below w.heap.size w w' := by
  obtain ⟨m, rfl⟩ : ∃ m, n = m + 1 := ⟨n - 1, by omega⟩
  have hl : ((List.range (m + 1)).map X).length = m + 1 := by simp
  have e1 : ((List.range (m + 1)).map X).map (fun x => x.data.toList) = (List.range (m + 1)).map fun i => (X i).data.toList := by rw [List.map_map]; rfl
  have e2 := joinT_list X sep m
  have hlen : (Lib.join (((List.range (m + 1)).map X).map (fun x => x.data.toList)) sep.data.toList).length ≤ 140737488355328 := by
    rw [e1, e2, ← Lib.size_eq]
    have := joinT_size X sep hsep (m + 1)
    omega
  have K := Try.strings_Join b 0 (m + 1) ((List.range (m + 1)).map X) sep w (fun j x hx => by
    have hj : j < m + 1 := by
      have := (List.getElem?_eq_some_iff.1 hx).1
      simpa using this
    have hxx : X j = x := by simpa [hj] using hx
    rw [← hxx]
    exact h.str hj) h.1 (by rw [hl]; omega) (by rw [hl]; exact Nat.le_refl _) hlen
  rw [e1, e2, hl] at K
  refine K.mono fun e w' ⟨he, hb⟩ => ⟨?_, hb⟩
  rw [he]

set_option maxHeartbeats 2000000 in
theorem join_impl (b n : Nat) (X : Nat → ByteArray) (sep : ByteArray) (w : World) (h : Rw w b 0 1 n (strC X)) (hz : n + sumZ X n ≤ 1048576) (hsep : sep.size ≤ 1048576) :
    Calls Try.prog 7 #[.slice (some ⟨b, 0, none⟩) n n, .string sep] w fun e w' => e = .returned (.tuple #[.string (joinS X n sep), .bool (joinB X n sep)]) ∧ Below w.heap.size w w' := by
  by_cases h0 : n = 0
  · have hB : Hid (joinB X n sep = false) := by unfold Hid; rw [h0]; exact joinB_nil
    subst h0
    go_enter Try.func7, Try.ntmps7
    go_wp2_with fail
    go_ret2
    exact ⟨by rw [hB.out, joinS_no hB.out]; rfl, Below.refl _ _⟩
  · have hn0 : ((n : Int) == 0) = false := by simp; omega
    by_cases h1 : sep.size = 1
    · obtain ⟨c, rfl⟩ := Lib.one_byte sep h1
      have H := hid h
      have hb := h.1
      have KJ := hid (strings_join b n X ⟨#[c]⟩ w h hz h1 (by omega))
      have hjz := joinT_size X ⟨#[c]⟩ h1 n
      have hnn : n ≤ 1048576 := by omega
      have hjz2 : (joinT X ⟨#[c]⟩ n).size ≤ 1048576 := by omega
      clear h h1 hsep hjz hz
      go_enter Try.func7, Try.ntmps7
      go_wp2_with fail
      go_loop [19] (fun i => ∃ k : Nat, k ≤ n ∧ i = .int .i64 k ∧ Hid (∀ i, i < k → stB (X i) c = false)) (fun i => n - (intOf i).toNat)
      case atStart => exact ⟨0, by omega, rfl, fun i hi => absurd hi (by omega)⟩
      case round =>
        obtain ⟨k, hk, rfl, hS⟩ := hrel
        by_cases hlt : k < n
        · have c0 : w.cell? ⟨b, k, none⟩ = some (.string (X k)) := by simpa using H.out.str hlt
          have K0 := hid (contains_one (X k) c w)
          have e3 : (k : Int) < (n : Int) := by omega
          by_cases hs : stB (X k) c = true
          · have hno : Hid (joinB X n ⟨#[c]⟩ = false) := joinB_hit hlt hs
            rw [hs] at K0
            clear hs
            go_wp2_with fail
            refine K0.out.mono ?_
            rintro e w1 ⟨rfl, rfl⟩
            go_wp2_with fail
            go_ret2
            exact ⟨by rw [hno.out, joinS_no hno.out]; rfl, Below.refl _ _⟩
          · have hs' : stB (X k) c = false := by simpa using hs
            have HSX := hid hs'
            rw [hs'] at K0
            clear hs hs'
            go_wp2_with fail
            refine K0.out.mono ?_
            rintro e w1 ⟨rfl, rfl⟩
            go_wp2_with fail
            go_round
            case rel => exact ⟨k + 1, by omega, by go_num, fun i hi => by by_cases e : i = k; rw [e]; exact HSX.out; exact hS.out i (by omega)⟩
            case measure => simp [intOf]; omega
        · obtain rfl : k = n := by omega
          obtain ⟨t, ht⟩ : ∃ t, joinT X ⟨#[c]⟩ k = t := ⟨_, rfl⟩
          have HT := hid ht
          rw [ht] at KJ hjz2
          by_cases h4 : t.size ≤ 4000
          · have hyes : Hid (joinB X k ⟨#[c]⟩ = true) := joinB_ok (by omega) hS.out (by rw [ht]; exact h4)
            clear ht
            go_wp2_with fail
            refine KJ.out.mono ?_
            rintro e w1 ⟨rfl, hb1⟩
            go_wp2_with fail
            go_ret2
            exact ⟨by rw [hyes.out, joinS_yes hyes.out, HT.out]; rfl, hb1⟩
          · have hno : Hid (joinB X k ⟨#[c]⟩ = false) := joinB_long (Nat.le_refl k) (by rw [ht]; omega)
            clear ht
            go_wp2_with fail
            refine KJ.out.mono ?_
            rintro e w1 ⟨rfl, hb1⟩
            go_wp2_with fail
            go_ret2
            exact ⟨by rw [hno.out, joinS_no hno.out]; rfl, hb1⟩
    · have hB : Hid (joinB X n sep = false) := joinB_sep h1
      go_enter Try.func7, Try.ntmps7
      go_wp2_with fail
      go_ret2
      exact ⟨by rw [hB.out, joinS_no hB.out]; rfl, Below.refl _ _⟩

set_option maxHeartbeats 2000000 in
theorem walk_ExactJoinStrings (w : World) (p0 : Option Addr) (len0 cap0 : Nat) (X0 : Nat → ByteArray) (sep : ByteArray) (h0 : Sl w 1 p0 len0 (strC X0)) (ok0 : ∀ i, i < len0 → (X0 i).size ≤ maxLen) (hm0 : len0 ≤ maxLen) (hs : sep.size ≤ maxLen) :
    Calls Try.prog 3 #[.slice p0 len0 cap0, .string sep] w fun e w' => e = .returned (.bool true) ∧ Below w.heap.size w w' := by
  unfold maxLen at hs
  by_cases hS : (sep.size : Int) ≤ 1048576
  · go_enter Try.func3, Try.ntmps3
    go_wp2_with fail
    refine (szStringS_any p0 len0 cap0 X0 _ h0 ok0 hm0).mono ?_
    rintro e w0 ⟨r, rfl, rfl, hr⟩
    by_cases hr0 : r < 0
    · go_wp2_with fail
      go_ret
      exact ⟨rfl, Below.refl _ _⟩
    have hz := hr (by omega)
    have HZ := hid hz
    have hm : len0 ≤ 1048576 := by omega
    clear hr hz ok0
    obtain ⟨S, hSS⟩ : ∃ S, S = joinS X0 len0 sep := ⟨_, rfl⟩
    obtain ⟨B, hBB⟩ : ∃ B, B = joinB X0 len0 sep := ⟨_, rfl⟩
    have HS := hid hSS
    have HB := hid hBB
    clear hSS hBB
    go_wp2_with fail
    refine (toStringS_any p0 len0 cap0 X0 _ h0 (by omega)).mono ?_
    rintro e w1 ⟨rfl, hb1, hs1, F1⟩
    have z1 := hb1.size
    go_wp2_with fail
    refine (join_spec _ len0 X0 sep _ F1.rw HZ.out (by omega)).mono ?_
    rw [← HS.out, ← HB.out]
    rintro e w2 ⟨rfl, hb2⟩
    have z2 := hb2.size
    have B2 : Below w.heap.size w w2 := Below.on hb1 hb1.size hb2
    go_wp2_with fail
    refine (toStringS_any p0 len0 cap0 X0 _ (h0.below B2) (by omega)).mono ?_
    rintro e w3 ⟨rfl, hb3, hs3, F3⟩
    have z3 := hb3.size
    have B3 : Below w.heap.size w w3 := Below.on B2 B2.size hb3
    go_wp2_with fail
    refine (join_impl _ len0 X0 sep _ F3.rw HZ.out (by omega)).mono ?_
    rw [← HS.out, ← HB.out]
    rintro e w4 ⟨rfl, hb4⟩
    have z4 := hb4.size
    have B4 : Below w.heap.size w w4 := Below.on B3 B3.size hb4
    go_wp2_with fail
    refine (toStringS_any p0 len0 cap0 X0 _ (h0.below B4) (by omega)).mono ?_
    rintro e w5 ⟨rfl, hb5, hs5, F5⟩
    have z5 := hb5.size
    have B5 : Below w.heap.size w w5 := Below.on B4 B4.size hb5
    go_wp2_with fail
    refine (eqStringS_same _ _ 0 0 len0 len0 len0 X0 _ ((F3.rw.later' hb4).later' hb5) F5.rw (by omega) (Nat.le_refl _) (Nat.le_refl _)).mono ?_
    rintro e w6 ⟨rfl, hb6⟩
    have B6 : Below w.heap.size w w6 := Below.on B5 B5.size hb6
    go_wp2_with fail
    go_ret
    exact ⟨rfl, B6⟩
  · go_enter Try.func3, Try.ntmps3
    go_wp2_with fail
    go_ret
    exact ⟨rfl, Below.refl _ _⟩
end Go.Proofs.Yteklomkncfjdlaa
