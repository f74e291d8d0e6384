/-
  Decimal numerals, read: what a numeral's digits spell; the reference's reading and strconv.Atoi's agree. No program is spoken of. No condition.
-/
import Derived.Test.YteklomkncfjdlaaDoorPlain
import Derived.Test.YteklomkncfjdlaaDoorDig
import Derived.Test.YteklomkncfjdlaaDoorSplitP
import Derived.Lib.AtoiAll
namespace Go.Proofs.YteklomkncfjdlaaDoor
open Go.RowKit
set_option linter.unusedVariables false

/-- A byte is a digit. -/
def isDg (b : UInt8) : Bool := decide (48 ≤ b.toNat) && decide (b.toNat ≤ 57)
/-- What digits spell, on top of a number. -/
def digL (a : Nat) (l : List UInt8) : Nat := l.foldl (fun n b => 10 * n + (b.toNat - 48)) a
theorem digL_snoc (a : Nat) (l : List UInt8) (b : UInt8) : digL a (l ++ [b]) = 10 * digL a l + (b.toNat - 48) := by simp [digL, List.foldl_append]
theorem digL_cons (a : Nat) (b : UInt8) (l : List UInt8) : digL a (b :: l) = digL (10 * a + (b.toNat - 48)) l := by unfold digL; rw [List.foldl_cons]
theorem digL_ge (l : List UInt8) : ∀ (a : Nat), a ≤ digL a l := by
  induction l with
  | nil => intro a; exact Nat.le_refl _
  | cons b l ih => intro a; rw [digL_cons]; have := ih (10 * a + (b.toNat - 48)); omega
theorem digL_bound (l : List UInt8) : ∀ (a : Nat), (∀ b ∈ l, isDg b = true) → digL a l < (a + 1) * 10 ^ l.length := by
  induction l with
  | nil => intro a _; rw [List.length_nil, Nat.pow_zero]; show a < (a + 1) * 1; omega
  | cons b l ih =>
    intro a h
    rw [digL_cons]
    have hb := h b (by simp)
    simp [isDg] at hb
    have ih := ih (10 * a + (b.toNat - 48)) (fun x hx => h x (by simp [hx]))
    rw [List.length_cons, Nat.pow_succ]
    generalize 10 ^ l.length = P at ih ⊢
    have h1 : (10 * a + (b.toNat - 48) + 1) * P ≤ ((a + 1) * 10) * P := Nat.mul_le_mul_right _ (by omega)
    have h2 : (a + 1) * (P * 10) = ((a + 1) * 10) * P := by rw [Nat.mul_comm P 10, Nat.mul_assoc]
    omega
theorem digL_six {l : List UInt8} (h : ∀ b ∈ l, isDg b = true) (h6 : l.length ≤ 6) : digL 0 l ≤ 999999 := by
  have h1 := digL_bound l 0 h
  have h2 : 10 ^ l.length ≤ 10 ^ 6 := Nat.pow_le_pow_right (by omega) h6
  have h3 : (10 : Nat) ^ 6 = 1000000 := rfl
  omega
theorem parse_dig : ∀ (l : List UInt8) (a : Nat), (∀ b ∈ l, isDg b = true) → digL a l ≤ 999999 → Lib.parseUint10 a l = .ok (digL a l)
  | [], a, _, _ => rfl
  | b :: l, a, h, hb => by
    have h1 := h b (by simp)
    simp [isDg] at h1
    have hg := digL_ge l (10 * a + (b.toNat - 48))
    rw [digL_cons] at hb ⊢
    have ih := parse_dig l (10 * a + (b.toNat - 48)) (fun x hx => h x (by simp [hx])) hb
    rw [Lib.parseUint10, if_pos h1, if_neg (by omega), if_neg (by omega), Nat.mul_comm a 10]
    exact ih
theorem dch_dg {d : Nat} (h : d < 10) : isDg (dch d) = true ∧ (dch d).toNat - 48 = d := by
  have e : (dch d).toNat = 48 + d := by
    unfold dch
    rw [UInt8.toNat_ofNat']
    omega
  rw [isDg, e]
  simp
  omega
theorem dec_dg (u : Nat) : (∀ b ∈ Lib.decDigits u, isDg b = true) ∧ digL 0 (Lib.decDigits u) = u := by
  induction u using Nat.strongRecOn with
  | _ u ih =>
    by_cases h : u < 10
    · rw [dec_small h]
      obtain ⟨h1, h2⟩ := dch_dg h
      refine ⟨fun b hb => by simp at hb; rw [hb]; exact h1, ?_⟩
      rw [digL_cons, h2]
      simp [digL]
    · rw [dec_big h]
      obtain ⟨i1, i2⟩ := ih (u / 10) (by omega)
      obtain ⟨h1, h2⟩ := dch_dg (show u % 10 < 10 by omega)
      refine ⟨fun b hb => by rcases List.mem_append.1 hb with hb | hb; exact i1 b hb; simp at hb; rw [hb]; exact h1, ?_⟩
      rw [digL_snoc, i2, h2]
      omega
theorem dec_ne (u : Nat) : Lib.decDigits u ≠ [] := by
  intro h
  have := congrArg List.length h
  rw [Lib.decDigits_length] at this
  have := Lib.nDigits_pos u
  simp at *
  omega
theorem dec_len_pow : ∀ (k u : Nat), u < 10 ^ (k + 1) → (Lib.decDigits u).length ≤ k + 1
  | 0, u, h => by rw [dec_small (by simpa using h)]; simp
  | k + 1, u, h => by
    by_cases hu : u < 10
    · rw [dec_small hu]; simp
    · rw [dec_big hu]
      have := dec_len_pow k (u / 10) (by rw [Nat.pow_succ] at h; omega)
      simp; omega
theorem dec_len6 {u : Nat} (h : u ≤ 999999) : (Lib.decDigits u).length ≤ 6 := dec_len_pow 5 u (by have : (10 : Nat) ^ (5 + 1) = 1000000 := rfl; omega)
theorem dec_len1 (u : Nat) : 1 ≤ (Lib.decDigits u).length := by rw [Lib.decDigits_length]; exact Lib.nDigits_pos u
theorem dec_head (u : Nat) : ∃ b r, Lib.decDigits u = b :: r ∧ isDg b = true := by
  cases h : Lib.decDigits u with
  | nil => exact absurd h (dec_ne u)
  | cons b r => exact ⟨b, r, rfl, (dec_dg u).1 b (by rw [h]; simp)⟩

/-- The magnitude's bytes: behind a sign, if there is one and more. -/
def negL (l : List UInt8) : Bool := decide (1 < l.length) && decide (l.headD 0 = 45)
def magL (l : List UInt8) : List UInt8 := if negL l = true then l.tail else l
def cand (l : List UInt8) : Int := if negL l = true then -(digL 0 (magL l) : Int) else (digL 0 (magL l) : Int)
/-- A text is a number's. -/
def rdB (l : List UInt8) : Bool := decide (1 ≤ (magL l).length) && decide ((magL l).length ≤ 6) && (magL l).all isDg && decide (Lib.itoa (cand l) = l)
def rdN (l : List UInt8) : Int := if rdB l = true then cand l else 0
theorem rdN_no {l : List UInt8} (h : rdB l = false) : rdN l = 0 := by unfold rdN; rw [if_neg (by rw [h]; simp)]
theorem rdN_yes {l : List UInt8} (h : rdB l = true) : rdN l = cand l := by unfold rdN; rw [if_pos h]
theorem itoa_pos (u : Nat) : Lib.itoa (u : Int) = Lib.decDigits u := by unfold Lib.itoa; rw [if_neg (by omega)]; simp
theorem itoa_minus {u : Nat} (h : 0 < u) : Lib.itoa (-(u : Int)) = 45 :: Lib.decDigits u := by unfold Lib.itoa; rw [if_pos (by omega)]; simp
theorem cand_bd {l : List UInt8} (h : rdB l = true) : -999999 ≤ cand l ∧ cand l ≤ 999999 ∧ Lib.itoa (cand l) = l := by
  simp [rdB] at h
  have h6 := digL_six (l := magL l) (fun b hb => h.1.2 b hb) h.1.1.2
  refine ⟨?_, ?_, h.2⟩
  all_goals unfold cand; split <;> omega
theorem negL_dec (u : Nat) : negL (Lib.decDigits u) = false := by
  obtain ⟨b, r, e, hb⟩ := dec_head u
  rw [e]
  have : b ≠ 45 := by intro e; subst e; simp [isDg] at hb
  simp [negL, this]
theorem negL_minus (u : Nat) : negL (45 :: Lib.decDigits u) = true := by
  have := dec_len1 u
  simp [negL]
  omega
/-- Every number's own text is read as that number. -/
theorem rd_itoa {n : Int} (h0 : -999999 ≤ n) (h1 : n ≤ 999999) : rdB (Lib.itoa n) = true ∧ cand (Lib.itoa n) = n := by
  by_cases hn : n < 0
  · obtain ⟨u, rfl⟩ : ∃ u : Nat, n = -(u : Int) := ⟨n.natAbs, by omega⟩
    have hc : cand (45 :: Lib.decDigits u) = -(u : Int) := by
      unfold cand magL
      rw [negL_minus, if_pos rfl, if_pos rfl, List.tail_cons, (dec_dg u).2]
    rw [itoa_minus (by omega)]
    refine ⟨?_, hc⟩
    unfold rdB
    rw [hc, itoa_minus (by omega)]
    unfold magL
    rw [negL_minus, if_pos rfl, List.tail_cons]
    have h2 := dec_len6 (u := u) (by omega)
    have h3 := dec_len1 u
    have h4 := (dec_dg u).1
    simp [h2, h3]
    exact h4
  · obtain ⟨u, rfl⟩ : ∃ u : Nat, n = (u : Int) := ⟨n.toNat, by omega⟩
    have hc : cand (Lib.decDigits u) = (u : Int) := by
      unfold cand magL
      rw [negL_dec, if_neg (by simp), if_neg (by simp), (dec_dg u).2]
    rw [itoa_pos]
    refine ⟨?_, hc⟩
    unfold rdB
    rw [hc, itoa_pos]
    unfold magL
    rw [negL_dec, if_neg (by simp)]
    have h2 := dec_len6 (u := u) (by omega)
    have h3 := dec_len1 u
    have h4 := (dec_dg u).1
    simp [h2, h3]
    exact h4
theorem atoi_dec {u : Nat} (h : u ≤ 999999) : Lib.parseMag (Lib.decDigits u) = .ok u := by
  unfold Lib.parseMag
  rw [if_neg (dec_ne u), parse_dig _ _ (dec_dg u).1 (by rw [(dec_dg u).2]; exact h), (dec_dg u).2]
theorem atoi_itoa {n : Int} (h0 : -999999 ≤ n) (h1 : n ≤ 999999) : Lib.atoiAll (Lib.itoa n) = .ok n := by
  by_cases hn : n < 0
  · obtain ⟨u, rfl⟩ : ∃ u : Nat, n = -(u : Int) := ⟨n.natAbs, by omega⟩
    rw [itoa_minus (by omega)]
    unfold Lib.atoiAll
    simp only
    rw [if_pos (by right; rfl), atoi_dec (by omega)]
    simp only
    rw [if_neg (by intro h; exact h.1 rfl), if_neg (by omega), if_pos (show (45 : UInt8).toNat = 45 from rfl)]
  · obtain ⟨u, rfl⟩ : ∃ u : Nat, n = (u : Int) := ⟨n.toNat, by omega⟩
    rw [itoa_pos]
    obtain ⟨b, r, e, hb⟩ := dec_head u
    have hm := atoi_dec (u := u) (by omega)
    rw [e] at hm ⊢
    simp [isDg] at hb
    unfold Lib.atoiAll
    simp only
    rw [if_neg (by omega), hm]
    simp only
    rw [if_neg (by omega), if_neg (by omega), if_neg (by omega)]
/-- How Atoi ends at a text that is a number's, and at one that is none. -/
theorem atoi_yes {l : List UInt8} (h : rdB l = true) : Lib.atoiAll l = .ok (cand l) := by
  obtain ⟨h0, h1, h2⟩ := cand_bd h
  have := atoi_itoa h0 h1
  rwa [h2] at this
theorem atoi_no {l : List UInt8} {n : Int} (h : rdB l = false) (hn : Lib.atoiAll l = .ok n) : ¬ (-999999 ≤ n ∧ n ≤ 999999) ∨ Lib.itoa n ≠ l := by
  by_cases hb : -999999 ≤ n ∧ n ≤ 999999
  · right
    intro e
    have := (rd_itoa hb.1 hb.2).1
    rw [e, h] at this
    cases this
  · exact .inl hb
end Go.Proofs.YteklomkncfjdlaaDoor
