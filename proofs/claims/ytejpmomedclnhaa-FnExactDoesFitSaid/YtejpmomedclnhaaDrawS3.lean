/-
  Where a flat lies, by the reference. No condition.
-/
import Derived.Test.YtejpmomedclnhaaDrawS2
namespace Go.Proofs.Ytejpmomedclnhaa
open Go.RowKit
set_option linter.unusedVariables false

set_option maxHeartbeats 400000 in
theorem where_spec (b off n cap : Nat) (X : Nat → DrawerD) (S : Nat → Value) (id : Int) (w : World) (h : Drs w b off n X S) (hL : ∀ i, i < n → (X i).Flats.length ≤ 1048576) (hm : n ≤ 1048576) (hlc : n ≤ cap) :
    Calls Try.prog 68 #[.slice (some ⟨b, off, none⟩) n cap, .int .i64 id] w fun e w' => e = .returned (.int .i64 (whereI X n id)) ∧ w = w' := by
  have H := hid h
  have HL := hid hL
  have hb := h.rw.1
  clear h hL
  go_enter Try.func68, Try.ntmps68
  go_wp2
  go_loop [5] (fun i => ∃ k : Nat, k ≤ n ∧ i = .int .i64 k ∧ Hid (whereI X n id = findFrom (fun i => (X i).Flats.contains id) k (n - k))) (fun i => n - (intOf i).toNat)
  case atStart => exact ⟨0, by omega, rfl, rfl⟩
  case round =>
    obtain ⟨k, hk, rfl, hf⟩ := hrel
    by_cases hlt : k < n
    · have c4 : w.cell? ⟨b, off + k * 5 + 4, none⟩ = some (S k) := H.out.rw.2 k hlt 4 (by omega)
      obtain ⟨r, hr⟩ : ∃ r, (X k).Flats.contains id = r := ⟨_, rfl⟩
      have K := has_spec (S k) (X k).Flats id w (H.out.has k hlt) (HL.out k hlt)
      rw [hr] at K
      have HR := hid hr
      clear hr
      go_wp2_with fail
      refine K.mono ?_
      rintro e w' ⟨rfl, rfl⟩
      cases r with
      | true =>
        go_wp2_with fail
        go_ret
        exact ⟨ret_int (findFrom_hit hlt HR.out hf.out).symm, rfl⟩
      | false =>
        go_wp2_with fail
        go_round
        case rel => exact ⟨k + 1, by omega, by go_num, findFrom_miss hlt HR.out hf.out⟩
        case measure => simp [intOf]; omega
    · go_wp2_with fail
      go_ret
      exact ⟨ret_int (findFrom_end (by omega) hf.out).symm, rfl⟩

end Go.Proofs.Ytejpmomedclnhaa
