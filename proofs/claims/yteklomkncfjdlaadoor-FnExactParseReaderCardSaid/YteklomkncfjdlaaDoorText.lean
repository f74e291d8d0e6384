/-
  A number's text, by the program (over the library's Itoa) and by the reference; FormatInt by both. No condition.
-/
import Derived.Test.YteklomkncfjdlaaDoorDig
import Derived.Test.YteklomkncfjdlaaDoorShelf1
import Derived.Lib.AppendIntMem
namespace Go.Proofs.YteklomkncfjdlaaDoor
open Go.RowKit
set_option linter.unusedVariables false

/-- The library's table of powers of ten lies in memory, whatever is made from block B on. -/
def Tb (B : Nat) (w : World) : Prop := Lib.TabBelow Tryd.prog B w "internal/strconv.uint64pow10" .u64 Lib.pow10Tab
theorem Tb.on {B : Nat} {w w1 : World} (h : Tb B w) (hB : B ≤ w.heap.size) (hb : Below w.heap.size w w1) : Tb B w1 := Lib.TabBelow.on h (hb.mono hB)
theorem Tb.of {w : World} (h : Lib.TabIs Tryd.prog w "internal/strconv.uint64pow10" .u64 Lib.pow10Tab) : Tb w.heap.size w := Lib.tabBelow_of_tabIs h
theorem Tb.via {B : Nat} {w w1 : World} (h : Tb B w) (hb : Below B w w1) : Tb B w1 := Lib.TabBelow.on h hb

theorem itoa_len {n : Int} (h0 : -9223372036854775808 ≤ n) (h1 : n ≤ 9223372036854775807) : (Lib.itoa n).length ≤ 21 := Lib.itoa_length_le n h0 h1

theorem itoa_any (n : Int) (h0 : -9223372036854775808 ≤ n) (h1 : n ≤ 9223372036854775807) (B : Nat) (w : World) (ht : Tb B w) : Calls Tryd.prog 68 #[.int .i64 n] w fun e w' => e = .returned (.string (txt (Lib.itoa n))) ∧ Below w.heap.size w w' := by
  refine (Tryd.strconv_Itoa n h0 h1 w (Lib.TabBelow.here ht)).mono ?_
  rintro e w' ⟨rfl, k, os, rfl⟩
  exact ⟨rfl, Lib.below_grow _ _ (Nat.le_refl _) _ _⟩

theorem text_impl (n : Int) (h0 : -9223372036854775808 ≤ n) (h1 : n ≤ 9223372036854775807) (B : Nat) (w : World) (ht : Tb B w) : Calls Tryd.prog 45 #[.int .i64 n] w fun e w' => e = .returned (.string (txt (Lib.itoa n))) ∧ Below w.heap.size w w' := by
  have HT := hid ht
  clear ht
  go_enter Tryd.func45, Tryd.ntmps45
  go_wp2_with fail
  refine (itoa_any n h0 h1 B _ HT.out).mono ?_
  rintro e w1 ⟨rfl, hb⟩
  go_wp2_with fail
  go_ret
  exact ⟨rfl, hb⟩

def fmtB (n : Int) : Bool := inB n (-999999) 999999
def fmtS (n : Int) : ByteArray := if fmtB n = true then txt (Lib.itoa n) else ByteArray.empty

theorem format_spec (n : Int) (w : World) : Calls Tryd.prog 13 #[.int .i64 n] w fun e w' => e = .returned (.tuple #[.string (fmtS n), .bool (fmtB n)]) ∧ Below w.heap.size w w' := by
  by_cases h : fmtB n = true
  · have hb : -999999 ≤ n ∧ n ≤ 999999 := by simpa [fmtB, inB] using h
    have HS : Hid (fmtS n = txt (Lib.itoa n) ∧ fmtB n = true) := ⟨by unfold fmtS; rw [if_pos h], h⟩
    have h' : inB n (-999999) 999999 = true := h
    clear h
    go_enter Tryd.func13, Tryd.ntmps13
    go_wp2_with fail
    refine (in_spec _ _ _ _).mono ?_
    rintro e w1 ⟨rfl, rfl⟩
    go_wp2_with fail
    refine (num_spec n (by omega) (by omega) _).mono ?_
    rintro e w1 ⟨rfl, hb⟩
    go_wp2_with fail
    go_ret2
    exact ⟨by rw [HS.out.1, HS.out.2]; rfl, hb⟩
  · have h' : inB n (-999999) 999999 = false := by simpa [fmtB] using h
    have HS : Hid (fmtS n = ByteArray.empty ∧ fmtB n = false) := ⟨by unfold fmtS; rw [if_neg h], h'⟩
    clear h
    go_enter Tryd.func13, Tryd.ntmps13
    go_wp2_with fail
    refine (in_spec _ _ _ _).mono ?_
    rintro e w1 ⟨rfl, rfl⟩
    go_wp2_with fail
    go_ret2
    exact ⟨by rw [HS.out.1, HS.out.2]; rfl, Below.refl _ _⟩

theorem format_impl (n : Int) (B : Nat) (w : World) (ht : Tb B w) : Calls Tryd.prog 14 #[.int .i64 n] w fun e w' => e = .returned (.tuple #[.string (fmtS n), .bool (fmtB n)]) ∧ Below w.heap.size w w' := by
  have HT := hid ht
  clear ht
  by_cases h : fmtB n = true
  · have hb : -999999 ≤ n ∧ n ≤ 999999 := by simpa [fmtB, inB] using h
    have HS : Hid (fmtS n = txt (Lib.itoa n) ∧ fmtB n = true) := ⟨by unfold fmtS; rw [if_pos h], h⟩
    have h' : inB n (-999999) 999999 = true := h
    clear h
    go_enter Tryd.func14, Tryd.ntmps14
    go_wp2_with fail
    refine (in_impl _ _ _ _).mono ?_
    rintro e w1 ⟨rfl, rfl⟩
    go_wp2_with fail
    refine (text_impl n (by omega) (by omega) B _ HT.out).mono ?_
    rintro e w1 ⟨rfl, hb⟩
    go_wp2_with fail
    go_ret2
    exact ⟨by rw [HS.out.1, HS.out.2]; rfl, hb⟩
  · have h' : inB n (-999999) 999999 = false := by simpa [fmtB] using h
    have HS : Hid (fmtS n = ByteArray.empty ∧ fmtB n = false) := ⟨by unfold fmtS; rw [if_neg h], h'⟩
    clear h
    go_enter Tryd.func14, Tryd.ntmps14
    go_wp2_with fail
    refine (in_impl _ _ _ _).mono ?_
    rintro e w1 ⟨rfl, rfl⟩
    go_wp2_with fail
    go_ret2
    exact ⟨by rw [HS.out.1, HS.out.2]; rfl, Below.refl _ _⟩

theorem walk_ExactFormatInt (w : World) (a0 : Int) (i0 : isI a0) (ht : Tb w.heap.size w) : Calls Tryd.prog 3 #[.int .i64 a0] w fun e w' => e = .returned (.bool true) ∧ Below w.heap.size w w' := by
  have HT := hid ht
  clear ht i0
  go_enter Tryd.func3, Tryd.ntmps3
  go_wp2_with fail
  refine (format_spec a0 _).mono ?_
  rintro e w1 ⟨rfl, hb1⟩
  go_wp2_with fail
  refine (format_impl a0 w.heap.size _ (HT.out.via hb1)).mono ?_
  rintro e w2 ⟨rfl, hb2⟩
  go_wp2_with fail
  go_ret
  exact ⟨rfl, Below.on hb1 hb1.size hb2⟩
end Go.Proofs.YteklomkncfjdlaaDoor
