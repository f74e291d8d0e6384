/-
  A number read out of a part of a text: l2Cut of the reference, number of the program. No condition.
-/
import Derived.Test.YteklomkncfjdlaaDoorRead
namespace Go.Proofs.YteklomkncfjdlaaDoor
open Go.RowKit
set_option linter.unusedVariables false
set_option maxRecDepth 100000

/-- The number of a word without some first and some last bytes. -/
def cutN (s : ByteArray) (f l : Nat) : Int := if s.size ≤ f + l then -1 else if rdB ((s.data.toList.take (s.size - l)).drop f) = true then rdN ((s.data.toList.take (s.size - l)).drop f) else -1
/-- The number of a text, or one that is valid nowhere. -/
def numN (s : List UInt8) : Int := if rdB s = true then rdN s else -1000000
theorem rdN_bd (l : List UInt8) : -999999 ≤ rdN l ∧ rdN l ≤ 999999 := by
  by_cases h : rdB l = true
  · have := cand_bd h
    rw [rdN_yes h]
    exact ⟨this.1, this.2.1⟩
  · rw [rdN_no (by simpa using h)]; omega
theorem cutN_bd (s : ByteArray) (f l : Nat) : -999999 ≤ cutN s f l ∧ cutN s f l ≤ 999999 := by
  unfold cutN
  split
  · omega
  · split
    · exact rdN_bd _
    · omega
theorem numN_bd (l : List UInt8) : -1000000 ≤ numN l ∧ numN l ≤ 999999 := by
  unfold numN
  split
  · have := rdN_bd l; omega
  · omega

set_option maxHeartbeats 1000000 in
theorem l2Cut_spec (s : ByteArray) (f l : Nat) (hs : s.size ≤ 1048576) (hf : f ≤ 10) (hl : l ≤ 10) (w : World) : Calls Tryd.prog 64 #[.string s, .int .i64 (f : Int), .int .i64 (l : Int)] w fun e w' => e = .returned (.int .i64 (cutN s f l)) ∧ Below w.heap.size w w' := by
  have e1 : IntKind.i64.wrap ((f : Int) + (l : Int)) = (f : Int) + (l : Int) := IntWalk.i64_in _ (by omega)
  have e2 : IntKind.i64.wrap ((s.size : Int) - (l : Int)) = (s.size : Int) - (l : Int) := IntWalk.i64_in _ (by omega)
  by_cases h : s.size ≤ f + l
  · have HR : Hid (cutN s f l = -1) := by unfold Hid cutN; rw [if_pos h]
    have g1 : (s.size : Int) ≤ (f : Int) + (l : Int) := by omega
    clear h
    go_enter Tryd.func64, Tryd.ntmps64
    go_wp2_with fail
    go_ret
    exact ⟨by rw [HR.out]; rfl, Below.refl _ _⟩
  · obtain ⟨m, hm⟩ : ∃ m : Nat, s.size = m + l := ⟨s.size - l, by omega⟩
    have e3 : (s.size : Int) - (l : Int) = (m : Int) := by omega
    obtain ⟨t, ht⟩ : ∃ t, s.extract f m = t := ⟨_, rfl⟩
    have hte : t.data.toList = (s.data.toList.take (s.size - l)).drop f := by rw [← ht, ext_list, hm]; simp
    have htz : t.size ≤ 1048576 := by rw [← ht, ByteArray.size_extract]; omega
    have HR : Hid (cutN s f l = if rdB t.data.toList = true then rdN t.data.toList else -1) := by unfold Hid cutN; rw [if_neg h, hte]
    obtain ⟨n, hn⟩ : ∃ n, rdN t.data.toList = n := ⟨_, rfl⟩
    obtain ⟨b, hb⟩ : ∃ b, rdB t.data.toList = b := ⟨_, rfl⟩
    have K := hid (fun w => read_spec t w htz)
    rw [hn, hb] at K HR
    have g1 : ¬ (s.size : Int) ≤ (f : Int) + (l : Int) := by omega
    have g1' : (f : Int) + (l : Int) < (s.size : Int) := by omega
    have g2 : (0 : Int) ≤ (f : Int) := by omega
    have g3 : (f : Int) ≤ (m : Int) := by omega
    have g4 : (m : Int) ≤ (s.size : Int) := by omega
    have g5 : (0 : Int) ≤ (m : Int) := by omega
    rw [e3] at e2
    clear hn hb hte h hm g1
    cases b with
    | true =>
      go_enter Tryd.func64, Tryd.ntmps64
      go_wp2_with fail
      refine (K.out _).mono ?_
      rintro e w1 ⟨rfl, hb1⟩
      go_wp2_with fail
      go_ret
      exact ⟨by rw [HR.out]; rfl, hb1⟩
    | false =>
      go_enter Tryd.func64, Tryd.ntmps64
      go_wp2_with fail
      refine (K.out _).mono ?_
      rintro e w1 ⟨rfl, hb1⟩
      go_wp2_with fail
      go_ret
      exact ⟨by rw [HR.out]; rfl, hb1⟩

set_option maxHeartbeats 1000000 in
theorem number_impl (s : ByteArray) (B : Nat) (w : World) (hB : B ≤ w.heap.size) (ht : Tb B w) (he : Er B w) (hs : s.size ≤ 1048576) : Calls Tryd.prog 65 #[.string s] w fun e w' => e = .returned (.int .i64 (numN s.data.toList)) ∧ Below w.heap.size w w' := by
  have K := hid (parseInt_impl s B w hB ht he hs)
  clear ht he
  obtain ⟨n, hn⟩ : ∃ n, rdN s.data.toList = n := ⟨_, rfl⟩
  obtain ⟨b, hb⟩ : ∃ b, rdB s.data.toList = b := ⟨_, rfl⟩
  have HR : Hid (numN s.data.toList = if b = true then n else -1000000) := by unfold Hid numN; rw [hn, hb]
  rw [hn, hb] at K
  clear hn hb
  cases b with
  | true =>
    go_enter Tryd.func65, Tryd.ntmps65
    go_wp2_with fail
    refine K.out.mono ?_
    rintro e w1 ⟨rfl, hb1⟩
    go_wp2_with fail
    go_ret
    exact ⟨by rw [HR.out]; rfl, hb1⟩
  | false =>
    go_enter Tryd.func65, Tryd.ntmps65
    go_wp2_with fail
    refine K.out.mono ?_
    rintro e w1 ⟨rfl, hb1⟩
    go_wp2_with fail
    go_ret
    exact ⟨by rw [HR.out]; rfl, hb1⟩
end Go.Proofs.YteklomkncfjdlaaDoor
