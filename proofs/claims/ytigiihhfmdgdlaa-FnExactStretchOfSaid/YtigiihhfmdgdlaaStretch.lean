/-
  By how many quarters a chain turns and by what it multiplies lengths, by the program and by the reference. No condition.
-/
import Derived.Test.YtigiihhfmdgdlaaChain
namespace Go.Proofs.Ytigiihhfmdgdlaa
open Go.RowKit
set_option linter.unusedVariables false
set_option maxRecDepth 100000

theorem results_tmp4 {fn : Func} {t u v x : Tmp} (h : fn.results = #[.tmp t, .tmp u, .tmp v, .tmp x]) (tmps : Array Value) (P : Program) (w : World) :
    (results fn tmps).run P w = .ok (.tuple #[tmps.getD t undef, tmps.getD u undef, tmps.getD v undef, tmps.getD x undef]) w := by
  simp [results, h]

def qS (X : Nat → GridTurnD) : Nat → Nat
  | 0 => 0
  | k + 1 => qS X k + (X k).Quarters.toNat
def nS (X : Nat → GridTurnD) : Nat → Nat
  | 0 => 1
  | k + 1 => nS X k * (X k).Num.toNat
def dS (X : Nat → GridTurnD) : Nat → Nat
  | 0 => 1
  | k + 1 => dS X k * (X k).Den.toNat
def rN (n d : Nat) : Nat := n / Nat.gcd n d
def rD (n d : Nat) : Nat := d / Nat.gcd n d
theorem redN_nat (n d : Nat) : redN (n : Int) d = (rN n d : Int) := by unfold redN rN gcdI; rw [Int.natAbs_natCast]; exact tdiv_nat _ _
theorem redD_nat2 (n d : Nat) : redD (n : Int) d = (rD n d : Int) := by rw [redD_nat]; rfl
theorem r_step (n d a c : Nat) (hn : 0 < n) : rN (rN n d * a) (rD n d * c) = rN (n * a) (d * c) ∧ rD (rN n d * a) (rD n d * c) = rD (n * a) (d * c) := by
  obtain ⟨g, hg⟩ : ∃ g, Nat.gcd n d = g := ⟨_, rfl⟩
  have hg0 : 0 < g := hg ▸ Nat.gcd_pos_of_pos_left d hn
  obtain ⟨n', hn'⟩ : ∃ n', n = g * n' := hg ▸ Nat.gcd_dvd_left n d
  obtain ⟨d', hd'⟩ : ∃ d', d = g * d' := hg ▸ Nat.gcd_dvd_right n d
  have e1 : rN n d = n' := by unfold rN; rw [hg, hn']; exact Nat.mul_div_cancel_left _ hg0
  have e2 : rD n d = d' := by unfold rD; rw [hg, hd']; exact Nat.mul_div_cancel_left _ hg0
  have e3 : Nat.gcd (n * a) (d * c) = g * Nat.gcd (n' * a) (d' * c) := by rw [hn', hd', Nat.mul_assoc, Nat.mul_assoc, Nat.gcd_mul_left]
  rw [e1, e2]
  unfold rN rD
  rw [e3, hn', hd', Nat.mul_assoc, Nat.mul_assoc]
  exact ⟨(Nat.mul_div_mul_left _ _ hg0).symm, (Nat.mul_div_mul_left _ _ hg0).symm⟩
theorem S_bd {X : Nat → GridTurnD} {n : Nat} (h : chainB X n = true) : ∀ k, k ≤ n → qS X k ≤ 3 * k ∧ (1 ≤ nS X k ∧ nS X k ≤ bN k) ∧ (1 ≤ dS X k ∧ dS X k ≤ bN k)
  | 0, _ => by simp [qS, nS, dS, bN]
  | k + 1, hk => by
    have h4 := chainB_le h
    obtain ⟨i1, ⟨i2, i3⟩, i4, i5⟩ := S_bd h k (by omega)
    obtain ⟨⟨q0, q1⟩, ⟨a0, a1⟩, ⟨c0, c1⟩, _⟩ := turnB_bd (chainB_at h hk)
    have hs := (b_step (k := k) (by omega)).2
    have m1 : nS X k * (X k).Num.toNat ≤ bN k * 20 := Nat.mul_le_mul i3 (by omega)
    have m2 : dS X k * (X k).Den.toNat ≤ bN k * 20 := Nat.mul_le_mul i5 (by omega)
    have m3 : 1 * 1 ≤ nS X k * (X k).Num.toNat := Nat.mul_le_mul i2 (by omega)
    have m4 : 1 * 1 ≤ dS X k * (X k).Den.toNat := Nat.mul_le_mul i4 (by omega)
    simp only [qS, nS, dS]
    omega
theorem bN_le (k : Nat) : bN k ≤ 160000 := by unfold bN; split <;> omega
theorem r_bd (n d : Nat) (hn : 1 ≤ n) (hd : 1 ≤ d) : (1 ≤ rN n d ∧ rN n d ≤ n) ∧ (1 ≤ rD n d ∧ rD n d ≤ d) := by
  have h1 := Nat.div_pos (Nat.le_of_dvd hn (Nat.gcd_dvd_left n d)) (Nat.gcd_pos_of_pos_left d hn)
  have h2 := Nat.div_pos (Nat.le_of_dvd hd (Nat.gcd_dvd_right n d)) (Nat.gcd_pos_of_pos_left d hn)
  exact ⟨⟨h1, Nat.div_le_self _ _⟩, h2, Nat.div_le_self _ _⟩
def stq (X : Nat → GridTurnD) (n : Nat) : Int := if chainB X n = true then ((qS X n % 4 : Nat) : Int) else 0
def stn (X : Nat → GridTurnD) (n : Nat) : Int := if chainB X n = true then (rN (nS X n) (dS X n) : Int) else 0
def std (X : Nat → GridTurnD) (n : Nat) : Int := if chainB X n = true then (rD (nS X n) (dS X n) : Int) else 0
theorem st_ok {X : Nat → GridTurnD} {n : Nat} (h : chainB X n = true) : stq X n = ((qS X n % 4 : Nat) : Int) ∧ stn X n = (rN (nS X n) (dS X n) : Int) ∧ std X n = (rD (nS X n) (dS X n) : Int) := by
  unfold stq stn std; simp only [if_pos h]; exact ⟨trivial, trivial, trivial⟩
theorem st_no {X : Nat → GridTurnD} {n : Nat} (h : chainB X n = false) : stq X n = 0 ∧ stn X n = 0 ∧ std X n = 0 := by
  unfold stq stn std; rw [h]; exact ⟨rfl, rfl, rfl⟩

set_option maxHeartbeats 4000000 in
theorem st_spec (w : World) (b off len cap : Nat) (X : Nat → GridTurnD) (h : Rw w b off 5 len (fun i => (X i).cells)) (hm : len ≤ 1048576) (hlc : len ≤ cap) :
    Calls Try.prog 11 #[.slice (some ⟨b, off, none⟩) len cap] w fun e w' => e = .returned (.tuple #[.int .i64 (stq X len), .int .i64 (stn X len), .int .i64 (std X len), .bool (chainB X len)]) ∧ Below w.heap.size w w' := by
  have H := hid h
  have hb := h.1
  clear h
  go_enter Try.func11, Try.ntmps11
  go_wp2_with fail
  refine (chain_spec _ b off len cap X H.out hm hlc).mono ?_
  rintro e w1 ⟨rfl, B1⟩
  by_cases hC : chainB X len = true
  · have HC := hid hC
    go_wp2_with fail
    go_loopw [6, 7, 8, 9] (fun v6 v7 v8 i wr => ∃ k : Nat, k ≤ len ∧ i = .int .i64 k ∧ v6 = .int .i64 ((qS X k % 4 : Nat) : Int) ∧ v7 = .int .i64 (nS X k : Int) ∧ v8 = .int .i64 (dS X k : Int) ∧ Below w.heap.size w wr) (fun _ _ _ i _ => len - (intOf i).toNat)
    case atStart => exact ⟨0, by omega, rfl, rfl, rfl, rfl, B1⟩
    case round =>
      clear hC
      obtain ⟨k, hk, rfl, rfl, rfl, rfl, hB⟩ := hrel
      obtain ⟨i1, ⟨i2, i3⟩, i4, i5⟩ := S_bd HC.out k hk
      have ib := bN_le k
      obtain ⟨Q, hQ⟩ : ∃ Q, qS X k = Q := ⟨_, rfl⟩
      obtain ⟨N0, hN⟩ : ∃ N0, nS X k = N0 := ⟨_, rfl⟩
      obtain ⟨D0, hD⟩ : ∃ D0, dS X k = D0 := ⟨_, rfl⟩
      have HQ := hid hQ
      have HN := hid hN
      have HD := hid hD
      rw [hQ] at i1 ⊢
      rw [hN] at i2 i3 ⊢
      rw [hD] at i4 i5 ⊢
      by_cases hlt : k < len
      · obtain ⟨⟨q0, q1⟩, ⟨a0, a1⟩, ⟨c0', c1'⟩, _⟩ := turnB_bd (chainB_at HC.out hlt)
        obtain ⟨q, hq⟩ : ∃ q : Nat, (X k).Quarters = (q : Int) := ⟨(X k).Quarters.toNat, by omega⟩
        obtain ⟨a, ha⟩ : ∃ a : Nat, (X k).Num = (a : Int) := ⟨(X k).Num.toNat, by omega⟩
        obtain ⟨c, hc⟩ : ∃ c : Nat, (X k).Den = (c : Int) := ⟨(X k).Den.toNat, by omega⟩
        have c0 : wr.cell? ⟨b, off + k * 5, none⟩ = some (.int .i64 (X k).Quarters) := (hB.cell hb).trans (H.out.2 k hlt 0 (by omega))
        have c1 : wr.cell? ⟨b, off + k * 5 + 1, none⟩ = some (.int .i64 (X k).Num) := (hB.cell hb).trans (H.out.2 k hlt 1 (by omega))
        have c2 : wr.cell? ⟨b, off + k * 5 + 2, none⟩ = some (.int .i64 (X k).Den) := (hB.cell hb).trans (H.out.2 k hlt 2 (by omega))
        have c3 : wr.cell? ⟨b, off + k * 5 + 3, none⟩ = some (.int .i64 (X k).East) := (hB.cell hb).trans (H.out.2 k hlt 3 (by omega))
        have c4 : wr.cell? ⟨b, off + k * 5 + 4, none⟩ = some (.int .i64 (X k).North) := (hB.cell hb).trans (H.out.2 k hlt 4 (by omega))
        rw [hq] at c0 q0 q1
        rw [ha] at c1 a0 a1
        rw [hc] at c2 c0' c1'
        have hn1 : Hid (qS X (k + 1) = Q + q) := by unfold Hid; simp only [qS]; rw [hQ, hq, Int.toNat_natCast]
        have hn2 : Hid (nS X (k + 1) = N0 * a) := by unfold Hid; simp only [nS]; rw [hN, ha, Int.toNat_natCast]
        have hn3 : Hid (dS X (k + 1) = D0 * c) := by unfold Hid; simp only [dS]; rw [hD, hc, Int.toNat_natCast]
        clear hq ha hc hQ hN hD
        have lb : b < wr.heap.size := by have := hB.size; omega
        have e4 : (0 : Int) ≤ (k : Int) := by omega
        have e5 : (k : Int) < (len : Int) := by omega
        obtain ⟨P, hP⟩ : ∃ P, Q % 4 = P := ⟨_, rfl⟩
        obtain ⟨T, hT⟩ : ∃ T, P + q = T := ⟨_, rfl⟩
        obtain ⟨U, hU⟩ : ∃ U, T % 4 = U := ⟨_, rfl⟩
        obtain ⟨M, hM⟩ : ∃ M, N0 * a = M := ⟨_, rfl⟩
        obtain ⟨E, hE⟩ : ∃ E, D0 * c = E := ⟨_, rfl⟩
        have hM2 : M ≤ 160000 * 20 := by rw [← hM]; exact Nat.mul_le_mul (by omega) (by omega)
        have hE2 : E ≤ 160000 * 20 := by rw [← hE]; exact Nat.mul_le_mul (by omega) (by omega)
        rw [hP]
        have n1 : IntKind.i64.wrap ((P : Int) + (q : Int)) = (T : Int) := (IntWalk.i64_in _ (by omega)).trans (by omega)
        have n2 : IntKind.i64.wrap ((T : Int) % 4) = (U : Int) := (IntWalk.i64_in _ (by omega)).trans (by omega)
        have n3 : IntKind.i64.wrap ((N0 : Int) * (a : Int)) = (M : Int) := by rw [← Int.natCast_mul, hM]; exact IntWalk.i64_in _ (by omega)
        have n4 : IntKind.i64.wrap ((D0 : Int) * (c : Int)) = (E : Int) := by rw [← Int.natCast_mul, hE]; exact IntWalk.i64_in _ (by omega)
        have HU : Hid ((T : Int) % 4 = ((qS X (k + 1) % 4 : Nat) : Int)) := by unfold Hid; rw [hn1.out]; omega
        have HM := hid hM
        have HE := hid hE
        clear hP hT hU hM hE
        go_wp2_with fail
        go_roundw
        case rel => exact ⟨k + 1, by omega, by go_num, val_int HU.out, by rw [hn2.out, HM.out], by rw [hn3.out, HE.out], hB⟩
        case measure => simp [intOf]; omega
      · obtain rfl : k = len := by omega
        go_wp2_with fail
        refine (reduce_spec (N0 : Int) D0 (by omega) (by omega) (by omega) (by omega) _).mono ?_
        rintro e w2 ⟨rfl, hb2⟩
        rw [redN_nat, redD_nat2]
        have B2 := Below.on hB hB.size hb2
        go_wp2_with fail
        refine bodyPost_ret (results_tmp4 rfl _ _ _) rfl ?_
        exact ⟨by rw [(st_ok HC.out).1, (st_ok HC.out).2.1, (st_ok HC.out).2.2, HC.out, HQ.out, HN.out, HD.out]; rfl, B2⟩
  · have hC' : chainB X len = false := by simpa using hC
    have HC := hid hC'
    clear hC
    go_wp2_with fail
    refine bodyPost_ret (results_tmp4 rfl _ _ _) rfl ?_
    exact ⟨by rw [(st_no HC.out).1, (st_no HC.out).2.1, (st_no HC.out).2.2, HC.out]; rfl, B1⟩

set_option maxHeartbeats 4000000 in
theorem st_impl (w : World) (b off len cap : Nat) (X : Nat → GridTurnD) (h : Rw w b off 5 len (fun i => (X i).cells)) (hm : len ≤ 1048576) (hlc : len ≤ cap) :
    Calls Try.prog 13 #[.slice (some ⟨b, off, none⟩) len cap] w fun e w' => e = .returned (.tuple #[.int .i64 (stq X len), .int .i64 (stn X len), .int .i64 (std X len), .bool (chainB X len)]) ∧ Below w.heap.size w w' := by
  have H := hid h
  have hb := h.1
  clear h
  go_enter Try.func13, Try.ntmps13
  go_wp2_with fail
  refine (chain_impl _ b off len cap X H.out hm hlc).mono ?_
  rintro e w1 ⟨rfl, B1⟩
  by_cases hC : chainB X len = true
  · have HC := hid hC
    go_wp2_with fail
    go_loopw [6, 7, 8, 16] (fun v6 v7 v8 i wr => ∃ k : Nat, k ≤ len ∧ i = .int .i64 k ∧ v6 = .int .i64 (qS X k : Int) ∧ v7 = .int .i64 (rN (nS X k) (dS X k) : Int) ∧ v8 = .int .i64 (rD (nS X k) (dS X k) : Int) ∧ Below w.heap.size w wr) (fun _ _ _ i _ => len - (intOf i).toNat)
    case atStart => exact ⟨0, by omega, rfl, rfl, by show _ = Value.int .i64 ((rN 1 1 : Nat) : Int); unfold rN; simp, by show _ = Value.int .i64 ((rD 1 1 : Nat) : Int); unfold rD; simp, B1⟩
    case round =>
      clear hC
      obtain ⟨k, hk, rfl, rfl, rfl, rfl, hB⟩ := hrel
      obtain ⟨i1, ⟨i2, i3⟩, i4, i5⟩ := S_bd HC.out k hk
      have ib := bN_le k
      have hr := r_bd (nS X k) (dS X k) i2 i4
      obtain ⟨Q, hQ⟩ : ∃ Q, qS X k = Q := ⟨_, rfl⟩
      obtain ⟨N0, hN⟩ : ∃ N0, nS X k = N0 := ⟨_, rfl⟩
      obtain ⟨D0, hD⟩ : ∃ D0, dS X k = D0 := ⟨_, rfl⟩
      have HQ := hid hQ
      have HN := hid hN
      have HD := hid hD
      rw [hQ] at i1 ⊢
      rw [hN] at i2 i3 hr ⊢
      rw [hD] at i4 i5 hr ⊢
      obtain ⟨N1, hN1⟩ : ∃ N1, rN N0 D0 = N1 := ⟨_, rfl⟩
      obtain ⟨D1, hD1⟩ : ∃ D1, rD N0 D0 = D1 := ⟨_, rfl⟩
      have HN1 := hid hN1
      have HD1 := hid hD1
      rw [hN1, hD1] at hr
      rw [hN1, hD1]
      clear hN1 hD1
      by_cases hlt : k < len
      · obtain ⟨⟨q0, q1⟩, ⟨a0, a1⟩, ⟨c0', c1'⟩, _⟩ := turnB_bd (chainB_at HC.out hlt)
        obtain ⟨q, hq⟩ : ∃ q : Nat, (X k).Quarters = (q : Int) := ⟨(X k).Quarters.toNat, by omega⟩
        obtain ⟨a, ha⟩ : ∃ a : Nat, (X k).Num = (a : Int) := ⟨(X k).Num.toNat, by omega⟩
        obtain ⟨c, hc⟩ : ∃ c : Nat, (X k).Den = (c : Int) := ⟨(X k).Den.toNat, by omega⟩
        have c0 : wr.cell? ⟨b, off + k * 5, none⟩ = some (.int .i64 (X k).Quarters) := (hB.cell hb).trans (H.out.2 k hlt 0 (by omega))
        have c1 : wr.cell? ⟨b, off + k * 5 + 1, none⟩ = some (.int .i64 (X k).Num) := (hB.cell hb).trans (H.out.2 k hlt 1 (by omega))
        have c2 : wr.cell? ⟨b, off + k * 5 + 2, none⟩ = some (.int .i64 (X k).Den) := (hB.cell hb).trans (H.out.2 k hlt 2 (by omega))
        have c3 : wr.cell? ⟨b, off + k * 5 + 3, none⟩ = some (.int .i64 (X k).East) := (hB.cell hb).trans (H.out.2 k hlt 3 (by omega))
        have c4 : wr.cell? ⟨b, off + k * 5 + 4, none⟩ = some (.int .i64 (X k).North) := (hB.cell hb).trans (H.out.2 k hlt 4 (by omega))
        rw [hq] at c0 q0 q1
        rw [ha] at c1 a0 a1
        rw [hc] at c2 c0' c1'
        have hn1 : Hid (qS X (k + 1) = Q + q) := by unfold Hid; simp only [qS]; rw [hQ, hq, Int.toNat_natCast]
        have hn2 : Hid (nS X (k + 1) = N0 * a) := by unfold Hid; simp only [nS]; rw [hN, ha, Int.toNat_natCast]
        have hn3 : Hid (dS X (k + 1) = D0 * c) := by unfold Hid; simp only [dS]; rw [hD, hc, Int.toNat_natCast]
        clear hq ha hc hQ hN hD
        have lb : b < wr.heap.size := by have := hB.size; omega
        have e4 : (0 : Int) ≤ (k : Int) := by omega
        have e5 : (k : Int) < (len : Int) := by omega
        have hst := hid (r_step N0 D0 a c i2)
        obtain ⟨T, hT⟩ : ∃ T, Q + q = T := ⟨_, rfl⟩
        obtain ⟨M, hM⟩ : ∃ M, N1 * a = M := ⟨_, rfl⟩
        obtain ⟨E, hE⟩ : ∃ E, D1 * c = E := ⟨_, rfl⟩
        have hM2 : M ≤ 160000 * 20 := by rw [← hM]; exact Nat.mul_le_mul (by omega) (by omega)
        have hE2 : E ≤ 160000 * 20 := by rw [← hE]; exact Nat.mul_le_mul (by omega) (by omega)
        have hE3 : 1 * 1 ≤ E := by rw [← hE]; exact Nat.mul_le_mul (by omega) (by omega)
        have n1 : IntKind.i64.wrap ((Q : Int) + (q : Int)) = (T : Int) := (IntWalk.i64_in _ (by omega)).trans (by omega)
        have n3 : IntKind.i64.wrap ((N1 : Int) * (a : Int)) = (M : Int) := by rw [← Int.natCast_mul, hM]; exact IntWalk.i64_in _ (by omega)
        have n4 : IntKind.i64.wrap ((D1 : Int) * (c : Int)) = (E : Int) := by rw [← Int.natCast_mul, hE]; exact IntWalk.i64_in _ (by omega)
        have HT := hid hT
        have HM := hid hM
        have HE := hid hE
        clear hT hM hE
        have hA2 : Below w.heap.size w (wr.alloc (.cells #[.int .i64 (q : Int), .int .i64 (a : Int), .int .i64 (c : Int), .int .i64 (X k).East, .int .i64 (X k).North] 36)) := hB.alloc hB.size _
        go_wp2_with fail
        refine (fraction_impl (M : Int) E (by omega) (by omega) (by omega) (by omega) _).mono ?_
        rintro e w2 ⟨rfl, hb2⟩
        rw [redN_nat, redD_nat2]
        have B2 := Below.on hA2 hA2.size hb2
        go_wp2_with fail
        go_roundw
        case rel => exact ⟨k + 1, by omega, by go_num, by rw [hn1.out, HT.out], by rw [hn2.out, hn3.out, ← hst.out.1, HN1.out, HD1.out, HM.out, HE.out], by rw [hn2.out, hn3.out, ← hst.out.2, HN1.out, HD1.out, HM.out, HE.out], B2⟩
        case measure => simp [intOf]; omega
      · obtain rfl : k = len := by omega
        have HU : Hid (((Q % 4 : Nat) : Int) = (Q : Int) % 4) := by unfold Hid; omega
        go_wp2_with fail
        refine bodyPost_ret (results_tmp4 rfl _ _ _) rfl ?_
        exact ⟨by rw [(st_ok HC.out).1, (st_ok HC.out).2.1, (st_ok HC.out).2.2, HC.out, HQ.out, HN.out, HD.out, HN1.out, HD1.out, HU.out]; rfl, hB⟩
  · have hC' : chainB X len = false := by simpa using hC
    have HC := hid hC'
    clear hC
    go_wp2_with fail
    refine bodyPost_ret (results_tmp4 rfl _ _ _) rfl ?_
    exact ⟨by rw [(st_no HC.out).1, (st_no HC.out).2.1, (st_no HC.out).2.2, HC.out]; rfl, B1⟩

set_option maxHeartbeats 2000000 in
theorem walk_ExactStretchOf (w : World) (p0 : Option Addr) (len0 cap0 : Nat) (X0 : Nat → GridTurnD) (h0 : Sl w 5 p0 len0 (fun i => (X0 i).cells)) (ok0 : ∀ i, i < len0 → (X0 i).ok) (hm0 : len0 ≤ maxLen) :
    Calls Try.prog 3 #[.slice p0 len0 cap0] w fun e w' => e = .returned (.bool true) ∧ Below w.heap.size w w' := by
  clear ok0
  by_cases hL : (len0 : Int) ≤ 1048576
  · go_enter Try.func3, Try.ntmps3
    go_wp2_with fail
    refine (szGridTurnS_any p0 len0 cap0 _ hm0).mono ?_
    rintro e w0 ⟨rfl, rfl⟩
    rw [if_pos hL]
    go_wp2_with fail
    refine (toGridTurnS_any p0 len0 cap0 X0 _ (h0.below (Below.refl w.heap.size w)) (by omega)).mono ?_
    rintro e w1 ⟨rfl, hb1, hs1, F1⟩
    have B1 : Below w.heap.size w w1 := Below.on (Below.refl w.heap.size w) (Below.refl w.heap.size w).size hb1
    go_wp2_with fail
    refine (st_spec _ _ 0 len0 len0 X0 F1.rw (by omega) (Nat.le_refl _)).mono ?_
    rintro e w2 ⟨rfl, hb2⟩
    have B2 : Below w.heap.size w w2 := Below.on B1 B1.size hb2
    go_wp2_with fail
    refine (toGridTurnS_any p0 len0 cap0 X0 _ (h0.below B2) (by omega)).mono ?_
    rintro e w3 ⟨rfl, hb3, hs3, F3⟩
    have B3 : Below w.heap.size w w3 := Below.on B2 B2.size hb3
    go_wp2_with fail
    refine (st_impl _ _ 0 len0 len0 X0 F3.rw (by omega) (Nat.le_refl _)).mono ?_
    rintro e w4 ⟨rfl, hb4⟩
    have B4 : Below w.heap.size w w4 := Below.on B3 B3.size hb4
    go_wp2_with fail
    refine (toGridTurnS_any p0 len0 cap0 X0 _ (h0.below B4) (by omega)).mono ?_
    rintro e w5 ⟨rfl, hb5, hs5, F5⟩
    have B5 : Below w.heap.size w w5 := Below.on B4 B4.size hb5
    go_wp2_with fail
    refine (eqGridTurnS_same _ _ 0 0 len0 len0 len0 X0 _ ((F3.rw.later' hb4).later' hb5) F5.rw (by omega) (Nat.le_refl _) (Nat.le_refl _)).mono ?_
    rintro e w6 ⟨rfl, hb6⟩
    have B6 : Below w.heap.size w w6 := Below.on B5 B5.size hb6
    go_wp2_with fail
    go_ret
    exact ⟨rfl, B6⟩
  · go_enter Try.func3, Try.ntmps3
    go_wp2_with fail
    refine (szGridTurnS_any p0 len0 cap0 _ hm0).mono ?_
    rintro e w0 ⟨rfl, rfl⟩
    rw [if_neg (by omega)]
    go_wp2_with fail
    go_ret
    exact ⟨rfl, Below.refl _ _⟩

end Go.Proofs.Ytigiihhfmdgdlaa
