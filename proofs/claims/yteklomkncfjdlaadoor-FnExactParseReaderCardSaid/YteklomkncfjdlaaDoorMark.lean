/-
  The texts of the marks. No condition.
-/
import Derived.Test.YteklomkncfjdlaaDoorMem
namespace Go.Proofs.YteklomkncfjdlaaDoor
open Go.RowKit
set_option linter.unusedVariables false
set_option maxRecDepth 100000

/-- The decimal digits of k (none of 0), with fuel. -/
def markD : Nat → Nat → ByteArray
  | 0, _ => ByteArray.empty
  | f + 1, k => if k = 0 then ByteArray.empty else markD f (k / 10) ++ ByteArray.mk #[UInt8.ofNat (48 + k % 10)]
def markT (k : Int) : ByteArray := ByteArray.mk #[109] ++ markD k.toNat k.toNat

theorem grownBy_of_below {w w' : World} (h : Below w.heap.size w w') (row : Option Nat) : w.grownBy w' row := ⟨h.os, h.tape, h.output, h.size, fun k hk _ => h.block k hk⟩
theorem Blk.below {E : TypeId} {H m : Nat} {w w' : World} (h : Blk E H m w) (hb : Below w.heap.size w w') (hH : H < w.heap.size) : Blk E H m w' := by
  obtain ⟨arr, h1, h2⟩ := h
  exact ⟨arr, (hb.block H hH).trans h1, h2⟩

theorem cell_set_same {w : World} {H o : Nat} {q v : Value} (h : w.cell? ⟨H, o, none⟩ = some q) : (w.setCell ⟨H, o, none⟩ v).cell? ⟨H, o, none⟩ = some v := World.cell?_setCell_same _ _ _ h
theorem cell_set_other {w : World} {H o o' : Nat} {v : Value} (h : o ≠ o') : (w.setCell ⟨H, o, none⟩ v).cell? ⟨H, o', none⟩ = w.cell? ⟨H, o', none⟩ := World.cell?_setCell_other _ _ _ _ (fun e => h (congrArg Addr.off e))

theorem markText_any (k : Int) (h0 : 0 < k) (h1 : k ≤ 4611686018427387904) (w : World) : Calls Tryd.prog 48 #[.int .i64 k] w fun e w' => e = .returned (.string (markT k)) ∧ Below w.heap.size w w' := by
  go_enter Tryd.func48, Tryd.ntmps48
  go_wp2
  go_loopw [0, 3] (fun p q wr => ∃ (f x : Nat) (s : ByteArray), p = .int .i64 x ∧ q = .string s ∧ x ≤ f ∧ x + s.size ≤ 4611686018427387904 ∧ Below w.heap.size w wr ∧ Hid (markD k.toNat k.toNat = markD f x ++ s)) (fun p _ _ => (intOf p).toNat)
  case atStart => exact ⟨k.toNat, k.toNat, ByteArray.empty, by congr 1; omega, rfl, Nat.le_refl _, by simp; omega, Below.refl _ _, by unfold Hid; simp⟩
  case round =>
    obtain ⟨f, x, s, rfl, rfl, hf, hs, hB, hd⟩ := hrel
    by_cases hx : 0 < x
    · have hcv : (convert 82 9 (.slice (some ⟨wr.heap.size, 0, none⟩) 1 1)).run Tryd.prog (wr.alloc (.cells #[.int .u8 (48 + (x : Int) % 10)] 5)) = .ok (.string (ByteArray.mk #[UInt8.ofNat (48 + x % 10)])) (wr.alloc (.cells #[.int .u8 (48 + (x : Int) % 10)] 5)) := by
        refine run_convert_bytes_back (P := Tryd.prog) _ 82 9 5 ⟨wr.heap.size, 0, none⟩ 1 [UInt8.ofNat (48 + x % 10)] Tryd.underlying82 Tryd.underlying5 Tryd.underlying9 ?_
        intro j hj
        have hj0 : j = 0 := by simpa using hj
        subst hj0
        have hm : (48 + x % 10) % 256 = 48 + x % 10 := by omega
        simp [Addr.add, hm]
      obtain ⟨c, hc⟩ : ∃ c, c = ByteArray.mk #[UInt8.ofNat (48 + x % 10)] := ⟨_, rfl⟩
      have hlen : (c ++ s).size = s.size + 1 := by rw [hc, ByteArray.size_append]; show 1 + _ = _; omega
      rw [← hc] at hcv
      have hc1 : c.size = 1 := by rw [hc]; rfl
      have HC := hid hc
      clear hc
      go_wp2_with fail
      go_roundw
      case rel =>
        obtain ⟨f', rfl⟩ : ∃ f', f = f' + 1 := ⟨f - 1, by omega⟩
        refine ⟨f', x / 10, _, by go_num, rfl, by omega, by omega, hB.alloc hB.size _, ?_⟩
        have := hd.out
        unfold Hid
        rw [this, markD, if_neg (by omega), ← HC.out, ByteArray.append_assoc]
      case measure => simp [intOf]; omega
    · go_wp2_with fail
      go_ret
      obtain rfl : x = 0 := by omega
      refine ⟨?_, hB⟩
      have h3 : markD f 0 = ByteArray.empty := by cases f <;> simp [markD]
      have := hd.out
      rw [h3] at this
      simp at this
      simp [markT, this]
end Go.Proofs.YteklomkncfjdlaaDoor
