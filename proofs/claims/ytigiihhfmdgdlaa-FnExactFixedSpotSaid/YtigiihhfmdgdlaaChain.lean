/-
  Chains of turns: their validity, and where a chain leads a place, by the program and by the reference. No condition.
-/
import Derived.Test.YtigiihhfmdgdlaaSpot3
import Derived.Test.YtigiihhfmdgdlaaPlace
import Derived.Test.YtigiihhfmdgdlaaListGridTurn
namespace Go.Proofs.Ytigiihhfmdgdlaa
open Go.RowKit
set_option linter.unusedVariables false
set_option maxRecDepth 100000

/-- A list is a chain. -/
def chainB (X : Nat → GridTurnD) (n : Nat) : Bool := allI (fun i => turnB (X i)) n && decide (n ≤ 4)
theorem chainB_bad {X : Nat → GridTurnD} {n k : Nat} (h : k < n) (hp : turnB (X k) = false) : chainB X n = false := by
  have h2 : allI (fun i => turnB (X i)) n = false := allI_false h hp
  simp [chainB, h2]
theorem chainB_end {X : Nat → GridTurnD} {n : Nat} (hh : ∀ i, i < n → turnB (X i) = true) : decide ((n : Int) ≤ 4) = chainB X n := by
  unfold chainB
  rw [allI_true.2 hh]
  simp; omega
theorem chainB_at {X : Nat → GridTurnD} {n k : Nat} (h : chainB X n = true) (hk : k < n) : turnB (X k) = true := by
  unfold chainB at h
  rw [Bool.and_eq_true] at h
  exact allI_true.1 h.1 k hk
theorem chainB_le {X : Nat → GridTurnD} {n : Nat} (h : chainB X n = true) : n ≤ 4 := by
  unfold chainB at h
  rw [Bool.and_eq_true] at h
  simpa using h.2

set_option maxHeartbeats 1000000 in
theorem chain_spec (w : World) (b off len cap : Nat) (X : Nat → GridTurnD) (h : Rw w b off 5 len (fun i => (X i).cells)) (hm : len ≤ 1048576) (hlc : len ≤ cap) :
    Calls Try.prog 36 #[.slice (some ⟨b, off, none⟩) len cap] w fun e w' => e = .returned (.bool (chainB X len)) ∧ Below w.heap.size w w' := by
  have H := hid h
  have hb := h.1
  clear h
  go_enter Try.func36, Try.ntmps36
  go_wp2_with fail
  go_loopw [3] (fun i wr => ∃ k : Nat, k ≤ len ∧ i = .int .i64 k ∧ Below w.heap.size w wr ∧ Hid (∀ i, i < k → turnB (X i) = true)) (fun i _ => len - (intOf i).toNat)
  case atStart => exact ⟨0, by omega, rfl, Below.refl _ _, fun i hi => absurd hi (by omega)⟩
  case round =>
    obtain ⟨k, hk, rfl, hB, hf⟩ := hrel
    by_cases hlt : k < len
    · have c0 : wr.cell? ⟨b, off + k * 5, none⟩ = some (.int .i64 (X k).Quarters) := (hB.cell hb).trans (H.out.2 k hlt 0 (by omega))
      have c1 : wr.cell? ⟨b, off + k * 5 + 1, none⟩ = some (.int .i64 (X k).Num) := (hB.cell hb).trans (H.out.2 k hlt 1 (by omega))
      have c2 : wr.cell? ⟨b, off + k * 5 + 2, none⟩ = some (.int .i64 (X k).Den) := (hB.cell hb).trans (H.out.2 k hlt 2 (by omega))
      have c3 : wr.cell? ⟨b, off + k * 5 + 3, none⟩ = some (.int .i64 (X k).East) := (hB.cell hb).trans (H.out.2 k hlt 3 (by omega))
      have c4 : wr.cell? ⟨b, off + k * 5 + 4, none⟩ = some (.int .i64 (X k).North) := (hB.cell hb).trans (H.out.2 k hlt 4 (by omega))
      have lb : b < wr.heap.size := by have := hB.size; omega
      go_wp2_with fail
      refine (turn_spec (X k) _).mono ?_
      rintro e w1 ⟨rfl, hb1⟩
      have hB1 : Below w.heap.size w w1 := Below.on hB hB.size hb1
      by_cases hp : turnB (X k) = true
      · have HP := hid hp
        go_wp2_with fail
        go_roundw
        case rel => exact ⟨k + 1, by omega, by go_num, hB1, fun i hi => by by_cases hik : i < k; exact hf.out i hik; rw [show i = k by omega]; exact HP.out⟩
        case measure => simp [intOf]; omega
      · have hp' : turnB (X k) = false := by simpa using hp
        have HP := hid hp'
        clear hp
        go_wp2_with fail
        go_ret
        exact ⟨ret_bool (chainB_bad hlt HP.out).symm, hB1⟩
    · go_wp2_with fail
      go_ret
      exact ⟨ret_bool (chainB_end (fun i hi => hf.out i (by omega))), hB⟩

set_option maxHeartbeats 1000000 in
theorem chain_impl (w : World) (b off len cap : Nat) (X : Nat → GridTurnD) (h : Rw w b off 5 len (fun i => (X i).cells)) (hm : len ≤ 1048576) (hlc : len ≤ cap) :
    Calls Try.prog 38 #[.slice (some ⟨b, off, none⟩) len cap] w fun e w' => e = .returned (.bool (chainB X len)) ∧ Below w.heap.size w w' := by
  have H := hid h
  have hb := h.1
  clear h
  go_enter Try.func38, Try.ntmps38
  go_wp2_with fail
  go_loopw [7] (fun i wr => ∃ k : Nat, k ≤ len ∧ i = .int .i64 k ∧ Below w.heap.size w wr ∧ Hid (∀ i, i < k → turnB (X i) = true)) (fun i _ => len - (intOf i).toNat)
  case atStart => exact ⟨0, by omega, rfl, Below.refl _ _, fun i hi => absurd hi (by omega)⟩
  case round =>
    obtain ⟨k, hk, rfl, hB, hf⟩ := hrel
    by_cases hlt : k < len
    · have c0 : wr.cell? ⟨b, off + k * 5, none⟩ = some (.int .i64 (X k).Quarters) := (hB.cell hb).trans (H.out.2 k hlt 0 (by omega))
      have c1 : wr.cell? ⟨b, off + k * 5 + 1, none⟩ = some (.int .i64 (X k).Num) := (hB.cell hb).trans (H.out.2 k hlt 1 (by omega))
      have c2 : wr.cell? ⟨b, off + k * 5 + 2, none⟩ = some (.int .i64 (X k).Den) := (hB.cell hb).trans (H.out.2 k hlt 2 (by omega))
      have c3 : wr.cell? ⟨b, off + k * 5 + 3, none⟩ = some (.int .i64 (X k).East) := (hB.cell hb).trans (H.out.2 k hlt 3 (by omega))
      have c4 : wr.cell? ⟨b, off + k * 5 + 4, none⟩ = some (.int .i64 (X k).North) := (hB.cell hb).trans (H.out.2 k hlt 4 (by omega))
      have lb : b < wr.heap.size := by have := hB.size; omega
      go_wp2_with fail
      refine (turn_impl (X k) _).mono ?_
      rintro e w1 ⟨rfl, hb1⟩
      have hB1 : Below w.heap.size w w1 := Below.on (hB.alloc hB.size _) (by have := hB.size; simp; omega) hb1
      by_cases hp : turnB (X k) = true
      · have HP := hid hp
        go_wp2_with fail
        go_roundw
        case rel => exact ⟨k + 1, by omega, by go_num, hB1, fun i hi => by by_cases hik : i < k; exact hf.out i hik; rw [show i = k by omega]; exact HP.out⟩
        case measure => simp [intOf]; omega
      · have hp' : turnB (X k) = false := by simpa using hp
        have HP := hid hp'
        clear hp
        go_wp2_with fail
        go_ret
        exact ⟨ret_bool (chainB_bad hlt HP.out).symm, hB1⟩
    · go_wp2_with fail
      go_ret
      exact ⟨ret_bool (chainB_end (fun i hi => hf.out i (by omega))), hB⟩

/-- Bounds of a spot. -/
def SpIn (M N : Nat) (s : Sp) : Prop := (-(M : Int) ≤ s.X ∧ s.X ≤ M) ∧ (-(M : Int) ≤ s.Y ∧ s.Y ≤ M) ∧ 1 ≤ s.Den ∧ s.Den ≤ N
theorem rotS_in (M N : Nat) : ∀ (q : Nat) {s : Sp}, SpIn M N s → SpIn M N (rotS q s)
  | 0, s, h => h
  | q + 1, s, h => rotS_in M N q (s := rot1 s) (by unfold SpIn rot1 at *; simp only; omega)
theorem lowP_in (M N : Nat) {x y : Int} {D : Nat} (hx : -(M : Int) ≤ x ∧ x ≤ M) (hy : -(M : Int) ≤ y ∧ y ≤ M) (h0 : 0 < D) (h1 : D ≤ N) : SpIn M N (lowP x y D) := by
  have b1 := tdiv_bd x (gS x y D)
  have b2 := tdiv_bd y (gS x y D)
  have g1 := gS_pos x y h0
  have b3 := ediv_bd D g1
  have b4 : 1 ≤ (D : Int) / gS x y D := by
    have h2 := Nat.div_pos (Nat.le_of_dvd h0 (Nat.gcd_dvd_right (Nat.gcd x.natAbs y.natAbs) D)) (gcd_pos (Nat.gcd x.natAbs y.natAbs) D h0)
    have h3 : (D : Int) / gS x y D = ((D / Nat.gcd (Nat.gcd x.natAbs y.natAbs) D : Nat) : Int) := by simp [gS, gcdI]
    omega
  unfold SpIn lowP
  simp only
  omega
theorem ledS_in {t : GridTurnD} {s : Sp} (M N M' N' : Nat) (ht : turnB t = true) (hs : SpIn M N s) (hM : M * 20 + 99999 * (N * 20) ≤ M') (hN : N * 20 ≤ N') : SpIn M' N' (ledS t s) := by
  obtain ⟨⟨q0, q1⟩, ⟨tn0, tn1⟩, ⟨td0, td1⟩, ⟨te0, te1⟩, to0, to1⟩ := turnB_bd ht
  obtain ⟨r, hr⟩ : ∃ r, rotS t.Quarters.toNat s = r := ⟨_, rfl⟩
  obtain ⟨⟨r0, r1⟩, ⟨y0, y1⟩, d0, d1⟩ : SpIn M N r := hr ▸ rotS_in M N _ hs
  have pa := mul_bd M 20 (M * 20) (a := r.X) (b := t.Num) (by omega) (by omega) rfl
  have pb := mul_bd M 20 (M * 20) (a := r.Y) (b := t.Num) (by omega) (by omega) rfl
  have pd := mul_bd N 20 (N * 20) (a := r.Den) (b := t.Den) (by omega) (by omega) rfl
  have pd0 : 1 ≤ r.Den * t.Den := by have := Int.mul_le_mul d0 td0 (by omega) (by omega : (0 : Int) ≤ r.Den); omega
  have pe := mul_bd 99999 (N * 20) (99999 * (N * 20)) (a := t.East) (b := r.Den * t.Den) (by omega) (by omega) rfl
  have pf := mul_bd 99999 (N * 20) (99999 * (N * 20)) (a := t.North) (b := r.Den * t.Den) (by omega) (by omega) rfl
  unfold ledS
  rw [hr]
  refine lowP_in M' N' ?_ ?_ ?_ ?_ <;> omega
theorem backS_in {t : GridTurnD} {s : Sp} (M N M' N' : Nat) (ht : turnB t = true) (hs : SpIn M N s) (hM : M * 20 + 99999 * (N * 20) ≤ M') (hN : N * 20 ≤ N') : SpIn M' N' (backS t s) := by
  obtain ⟨⟨q0, q1⟩, ⟨tn0, tn1⟩, ⟨td0, td1⟩, ⟨te0, te1⟩, to0, to1⟩ := turnB_bd ht
  obtain ⟨⟨r0, r1⟩, ⟨y0, y1⟩, d0, d1⟩ := hs
  have pe := mul_bd 99999 N (99999 * N) (a := t.East) (b := s.Den) (by omega) (by omega) rfl
  have pf := mul_bd 99999 N (99999 * N) (a := t.North) (b := s.Den) (by omega) (by omega) rfl
  have pa := mul_bd (M + 99999 * N) 20 ((M + 99999 * N) * 20) (a := s.X - t.East * s.Den) (b := t.Den) (by omega) (by omega) rfl
  have pb := mul_bd (M + 99999 * N) 20 ((M + 99999 * N) * 20) (a := s.Y - t.North * s.Den) (b := t.Den) (by omega) (by omega) rfl
  have pd := mul_bd N 20 (N * 20) (a := s.Den) (b := t.Num) (by omega) (by omega) rfl
  have pd0 : 1 ≤ s.Den * t.Num := by have := Int.mul_le_mul d0 tn0 (by omega) (by omega : (0 : Int) ≤ s.Den); omega
  have hpre : SpIn M' N' (preS t s) := by unfold SpIn preS; simp only; omega
  obtain ⟨r, hr⟩ : ∃ r, rotS (4 - t.Quarters.toNat) (preS t s) = r := ⟨_, rfl⟩
  obtain ⟨h1, h2, h3, h4⟩ : SpIn M' N' r := hr ▸ rotS_in M' N' _ hpre
  unfold backS
  rw [hr]
  refine lowP_in M' N' h1 h2 ?_ ?_ <;> omega
def bM : Nat → Nat
  | 0 => 100000
  | 1 => 4000000
  | 2 => 120000000
  | 3 => 3200000000
  | _ => 80000000000
def bN : Nat → Nat
  | 0 => 1
  | 1 => 20
  | 2 => 400
  | 3 => 8000
  | _ => 160000
theorem b_step {k : Nat} (h : k < 4) : bM k * 20 + 99999 * (bN k * 20) ≤ bM (k + 1) ∧ bN k * 20 ≤ bN (k + 1) := by
  have hk : k = 0 ∨ k = 1 ∨ k = 2 ∨ k = 3 := by omega
  rcases hk with rfl | rfl | rfl | rfl <;> decide
theorem b_sm {k : Nat} {s : Sp} (h : SpIn (bM k) (bN k) s) : SpSm s := by
  have h1 : bM k ≤ 1099511627776 := by unfold bM; split <;> omega
  have h2 : bN k ≤ 1048576 := by unfold bN; split <;> omega
  unfold SpIn at h
  unfold SpSm
  omega

/-- Where k turns of a chain lead a place; and what the last k turns lead there. -/
def goS (X : Nat → GridTurnD) (x y : Int) : Nat → Sp
  | 0 => ⟨x, y, 1⟩
  | k + 1 => ledS (X k) (goS X x y k)
def retS (X : Nat → GridTurnD) (n : Nat) (x y : Int) : Nat → Sp
  | 0 => ⟨x, y, 1⟩
  | k + 1 => backS (X (n - 1 - k)) (retS X n x y k)
theorem goS_in {X : Nat → GridTurnD} {n : Nat} {x y : Int} (h : chainB X n = true) (hp : placeB x y = true) : ∀ k, k ≤ n → SpIn (bM k) (bN k) (goS X x y k)
  | 0, _ => by
    have := (placeB_iff x y).1 hp
    unfold SpIn goS bM bN; simp only; omega
  | k + 1, hk => by
    have h4 := chainB_le h
    have hs := b_step (k := k) (by omega)
    exact ledS_in _ _ _ _ (chainB_at h hk) (goS_in h hp k (by omega)) hs.1 hs.2
theorem retS_in {X : Nat → GridTurnD} {n : Nat} {x y : Int} (h : chainB X n = true) (hp : placeB x y = true) : ∀ k, k ≤ n → SpIn (bM k) (bN k) (retS X n x y k)
  | 0, _ => by
    have := (placeB_iff x y).1 hp
    unfold SpIn retS bM bN; simp only; omega
  | k + 1, hk => by
    have h4 := chainB_le h
    have hs := b_step (k := k) (by omega)
    exact backS_in _ _ _ _ (chainB_at h (by omega)) (retS_in h hp k (by omega)) hs.1 hs.2

end Go.Proofs.Ytigiihhfmdgdlaa
