/-
  Words: one to ten small letters; by the program and by the reference. No condition.
-/
import Derived.Test.YteklomkncfjdlaaDoorWalks1
import Derived.Test.YteklomkncfjdlaaDoorMem
import Derived.Laws.IdiomStrings
namespace Go.Proofs.YteklomkncfjdlaaDoor
open Go.RowKit
set_option linter.unusedVariables false

/-- Byte i of a text is a small letter. -/
def lowB (s : ByteArray) (i : Nat) : Bool := if h : i < s.size then decide (97 ≤ ((s[i]'h).toNat : Int)) && decide (((s[i]'h).toNat : Int) ≤ 122) else true
theorem lowB_at {s : ByteArray} {i : Nat} (h : i < s.size) : lowB s i = (decide (97 ≤ ((s[i]'h).toNat : Int)) && decide (((s[i]'h).toNat : Int) ≤ 122)) := by simp [lowB, h]
/-- A text is a word. -/
def wordB (s : ByteArray) : Bool := decide (1 ≤ s.size) && decide (s.size ≤ 10) && allI (lowB s) s.size

set_option maxHeartbeats 400000 in
theorem word_spec (s : ByteArray) (w : World) (hs : s.size ≤ maxLen) : Calls Tryd.prog 82 #[.string s] w fun e w' => e = .returned (.bool (wordB s)) ∧ w = w' := by
  unfold maxLen at hs
  go_enter Tryd.func82, Tryd.ntmps82
  go_wp2
  go_loop [3] (fun i => ∃ k : Nat, k ≤ s.size ∧ i = .int .i64 k ∧ Hid (∀ i, i < k → lowB s i = true)) (fun i => s.size - (intOf i).toNat)
  case atStart => exact ⟨0, Nat.zero_le _, rfl, fun i hi => absurd hi (by omega)⟩
  case round =>
    obtain ⟨k, hk, rfl, hf⟩ := hrel
    by_cases hlt : k < s.size
    · have hb := (s[k]'hlt).toNat_lt
      by_cases h1 : ((s[k]'hlt).toNat : Int) < 97
      · have hp : Hid (lowB s k = false) := by unfold Hid; rw [lowB_at hlt]; simp; omega
        go_wp2
        go_ret
        exact ⟨ret_bool (by simp [wordB, allI_false hlt hp.out]), rfl⟩
      · by_cases h2 : ((s[k]'hlt).toNat : Int) > 122
        · have hp : Hid (lowB s k = false) := by unfold Hid; rw [lowB_at hlt]; simp; omega
          go_wp2
          go_ret
          exact ⟨ret_bool (by simp [wordB, allI_false hlt hp.out]), rfl⟩
        · have hp : Hid (lowB s k = true) := by unfold Hid; rw [lowB_at hlt]; simp; omega
          go_wp2
          go_round
          case rel => exact ⟨k + 1, by omega, by go_num, fun i hi => by by_cases hik : i < k; exact hf.out i hik; rw [show i = k by omega]; exact hp.out⟩
          case measure => simp [intOf]; omega
    · have hall := hid (allI_true.2 (fun i hi => hf.out i (by omega) : ∀ i, i < s.size → lowB s i = true))
      go_wp2_with (go_at_call 42; refine (in_spec _ _ _ _).mono ?_; rintro e w' ⟨rfl, rfl⟩)
      go_ret
      exact ⟨ret_bool (by unfold wordB; rw [hall.out]; simp [inB]; rw [Bool.eq_iff_iff]; simp; omega), rfl⟩

set_option maxHeartbeats 400000 in
theorem idx_bytes (w : World) (b len cap : Nat) (f : Nat → Int) (g : FuncId) (cs : Array Value) (p : Nat → Bool) (hcall : ∀ args w, (callFunc g args).run Tryd.prog w = .ok (.enter g args) w) (hb : b < w.heap.size) (hc : ∀ i, i < len → w.cell? ⟨b, i, none⟩ = some (.int .u8 (f i))) (hm : len ≤ 1048576) (hlc : len ≤ cap)
    (hg : ∀ (x : Later w) (i : Nat), i < len → Calls Tryd.prog g (#[.int .u8 (f i)] ++ cs) x.wd fun e w' => e = .returned (.bool (p i)) ∧ Below x.wd.heap.size x.wd w') :
    Calls Tryd.prog 112 #[.slice (some ⟨b, 0, none⟩) len cap, .func (.func g) #[] cs] w fun e w' => e = .returned (.int .i64 (findI p len)) ∧ Below w.heap.size w w' := by
  have H := hid hc
  have HG := hid hg
  clear hc hg
  go_enter Tryd.func112, Tryd.ntmps112
  go_wp2
  go_loopw [8] (fun i wr => ∃ k : Nat, k ≤ len ∧ i = .int .i64 k ∧ Below w.heap.size w wr ∧ Hid (findI p len = findFrom p k (len - k))) (fun i _ => len - (intOf i).toNat)
  case atStart => exact ⟨0, by omega, rfl, Below.refl _ _, rfl⟩
  case round =>
    obtain ⟨k, hk, rfl, hB, hf⟩ := hrel
    by_cases hlt : k < len
    · have c0 : wr.cell? ⟨b, k, none⟩ = some (.int .u8 (f k)) := (hB.cell hb).trans (H.out k hlt)
      go_wp2_with fail
      refine (HG.out ⟨wr, hB⟩ k hlt).mono ?_
      rintro e w1 ⟨rfl, hb1⟩
      have hB1 : Below w.heap.size w w1 := Below.on hB hB.size hb1
      by_cases hp : p k = true
      · go_wp2_with fail
        go_ret
        exact ⟨ret_int (findFrom_hit hlt hp hf.out).symm, hB1⟩
      · have hp' : p k = false := by simpa using hp
        clear hp
        go_wp2_with fail
        go_roundw
        case rel => exact ⟨k + 1, by omega, by go_num, hB1, findFrom_miss hlt hp' hf.out⟩
        case measure => simp [intOf]; omega
    · go_wp2_with fail
      go_ret
      exact ⟨ret_int (findFrom_end (by omega) hf.out).symm, hB⟩

theorem word_1 (c : Int) (w : World) : Calls Tryd.prog 98 #[.int .u8 c] w fun e w' => e = .returned (.bool (!(decide (97 ≤ c) && decide (c ≤ 122)))) ∧ Below w.heap.size w w' := by
  by_cases h1 : c < 97
  · go_enter Tryd.func98, Tryd.ntmps98
    go_wp2
    go_ret
    exact ⟨ret_bool (by simp <;> omega), Below.refl _ _⟩
  · by_cases h2 : c > 122
    · go_enter Tryd.func98, Tryd.ntmps98
      go_wp2
      go_ret
      exact ⟨ret_bool (by simp <;> omega), Below.refl _ _⟩
    · go_enter Tryd.func98, Tryd.ntmps98
      go_wp2
      go_ret
      exact ⟨ret_bool (by simp <;> omega), Below.refl _ _⟩

theorem bytesW_cell (w : World) (s : ByteArray) (cap k : Nat) (E : TypeId) (m : Nat × Nat) (h : k < s.size) : ((w.alloc (.cells (bytesRow s cap) E m)).drew).cell? ⟨w.heap.size, k, none⟩ = some (.int .u8 ((s[k]'h).toNat : Int)) := by
  have e : (w.alloc (.cells (bytesRow s cap) E m)).heap[w.heap.size]? = some (.cells (bytesRow s cap) E m) := by
    show (w.heap.push _)[w.heap.size]? = _
    simp
  show (match (w.alloc (.cells (bytesRow s cap) E m)).heap[w.heap.size]? with
    | some (.cells c _ _) => if (none : Option Nat).isSome then none else c[k]?
    | _ => none) = _
  rw [e]
  exact bytesRow_at s cap k h

theorem allI_find {p : Nat → Bool} {n : Nat} : (!decide (0 ≤ findI (fun i => !p i) n)) = allI p n := by
  rcases findI_cases (fun i => !p i) n with h | ⟨j, hj, h, hp⟩
  · rw [h, allI_true.2 (fun i hi => by simpa using findI_none h i hi)]; rfl
  · rw [h, allI_false hj (by simpa using hp)]; simp

theorem contains_bytes (w : World) (b len cap : Nat) (f : Nat → Int) (g : FuncId) (cs : Array Value) (p : Nat → Bool) (hcall : ∀ args w, (callFunc g args).run Tryd.prog w = .ok (.enter g args) w) (hb : b < w.heap.size) (hc : ∀ i, i < len → w.cell? ⟨b, i, none⟩ = some (.int .u8 (f i))) (hm : len ≤ 1048576) (hlc : len ≤ cap)
    (hg : ∀ (x : Later w) (i : Nat), i < len → Calls Tryd.prog g (#[.int .u8 (f i)] ++ cs) x.wd fun e w' => e = .returned (.bool (p i)) ∧ Below x.wd.heap.size x.wd w') :
    Calls Tryd.prog 97 #[.slice (some ⟨b, 0, none⟩) len cap, .func (.func g) #[] cs] w fun e w' => e = .returned (.bool (decide (0 ≤ findI p len))) ∧ Below w.heap.size w w' := by
  have H := hid hc
  have HG := hid hg
  clear hc hg
  go_enter Tryd.func97, Tryd.ntmps97
  go_wp2_with fail
  refine (idx_bytes _ b len cap f g cs p hcall hb H.out hm hlc HG.out).mono ?_
  rintro e w1 ⟨rfl, hb1⟩
  go_wp2_with fail
  go_ret
  exact ⟨rfl, hb1⟩

set_option maxHeartbeats 1000000 in
theorem word_impl (s : ByteArray) (w : World) (hs : s.size ≤ maxLen) : Calls Tryd.prog 84 #[.string s] w fun e w' => e = .returned (.bool (wordB s)) ∧ Below w.heap.size w w' := by
  unfold maxLen at hs
  by_cases h1 : 1 ≤ s.size
  · by_cases h2 : s.size ≤ 10
    · have hcv := fun w => run_bytes_of_string (P := Tryd.prog) w 9 82 5 s Tryd.underlying9 Tryd.underlying82 Tryd.underlying5
      have hA : ∀ cap m, Below w.heap.size w ((w.alloc (.cells (bytesRow s cap) 5 m)).drew) := fun cap m => ((Below.refl _ w).alloc (Nat.le_refl _) _).drew
      have HA := hid hA
      clear hA
      go_enter Tryd.func84, Tryd.ntmps84
      go_wp2_with fail
      refine (contains_bytes _ w.heap.size s.size _ (fun i => if h : i < s.size then ((s[i]'h).toNat : Int) else 0) 98 #[] (fun i => !lowB s i) (fun _ _ => by kernel_rfl) (by simp) (fun i hi => by rw [dif_pos hi]; exact bytesW_cell w s _ i _ _ hi) (by omega) (by have := grownCap_ge w s.size 0 5; omega) (fun x i hi => by
        have := word_1 (if h : i < s.size then ((s[i]'h).toNat : Int) else 0) x.wd
        rw [dif_pos hi, ← lowB_at hi] at this
        rw [dif_pos hi]
        exact this)).mono ?_
      rintro e w1 ⟨rfl, hb1⟩
      have B1 : Below w.heap.size w w1 := Below.on (HA.out _ _) (by simp) hb1
      clear hcv
      go_wp2_with fail
      go_ret
      exact ⟨ret_bool (by rw [allI_find]; simp [wordB, h1, h2]), B1⟩
    · go_enter Tryd.func84, Tryd.ntmps84
      go_wp2_with fail
      go_ret
      exact ⟨ret_bool (by simp [wordB, h2]), Below.refl _ _⟩
  · go_enter Tryd.func84, Tryd.ntmps84
    go_wp2_with fail
    go_ret
    exact ⟨ret_bool (by simp [wordB, h1]), Below.refl _ _⟩

end Go.Proofs.YteklomkncfjdlaaDoor
