/-
  The smallest drawer for a flat, by the reference. No condition.
-/
import Derived.Test.YtejpmomedclnhaaDrawF2
namespace Go.Proofs.Ytejpmomedclnhaa
open Go.RowKit
set_option linter.unusedVariables false

/-- How large a drawer is. -/
def whD (X : Nat → DrawerD) (k : Nat) : Int := IntKind.i64.wrap ((X k).Wide * (X k).High)
/-- The smallest drawer of the first j of a list; or -1. -/
def tgF (X : Nat → DrawerD) (K : List Int) : Nat → Int
  | 0 => -1
  | j + 1 => if (decide (tgF X K j < 0) || decide (whD X (K.getD j 0).toNat < whD X (tgF X K j).toNat)) = true then K.getD j 0 else tgF X K j
theorem tgF_none {X : Nat → DrawerD} {K : List Int} {j k : Nat} (hk : K.getD j 0 = (k : Int)) (h : tgF X K j = -1) : tgF X K (j + 1) = (k : Int) := by unfold tgF; rw [h, hk]; simp
theorem tgF_less {X : Nat → DrawerD} {K : List Int} {j k b : Nat} (hk : K.getD j 0 = (k : Int)) (h : tgF X K j = (b : Int)) (hl : whD X k < whD X b) : tgF X K (j + 1) = (k : Int) := by unfold tgF; rw [h, hk]; simp [hl]
theorem tgF_more {X : Nat → DrawerD} {K : List Int} {j k b : Nat} (hk : K.getD j 0 = (k : Int)) (h : tgF X K j = (b : Int)) (hl : ¬ whD X k < whD X b) : tgF X K (j + 1) = (b : Int) := by unfold tgF; rw [h, hk]; simp [hl]; omega
theorem tgF_cases {X : Nat → DrawerD} {K : List Int} {n : Nat} (hK : ∀ j, j < K.length → ∃ k : Nat, k < n ∧ K.getD j 0 = (k : Int)) : ∀ j, j ≤ K.length → tgF X K j = -1 ∨ ∃ b : Nat, b < n ∧ tgF X K j = (b : Int)
  | 0, _ => .inl rfl
  | j + 1, hj => by
    obtain ⟨k, hk, hkj⟩ := hK j (by omega)
    rcases tgF_cases hK j (by omega) with h | ⟨b, hb, h⟩
    · exact .inr ⟨k, hk, tgF_none hkj h⟩
    · by_cases hl : whD X k < whD X b
      · exact .inr ⟨k, hk, tgF_less hkj h hl⟩
      · exact .inr ⟨b, hb, tgF_more hkj h hl⟩
/-- The smallest drawer into which a flat can be put; or -1. -/
def tgK (Y : Nat → FlatD) (m : Nat) (X : Nat → DrawerD) (n : Nat) (flat : Int) : Int := tgF X (dfK Y m X n flat) (dfK Y m X n flat).length
def tgI (Y : Nat → FlatD) (m : Nat) (X : Nat → DrawerD) (n : Nat) (flat : Int) : Int := if looseB Y m X n flat = true then tgK Y m X n flat else -1
def tgV (Y : Nat → FlatD) (m : Nat) (X : Nat → DrawerD) (n : Nat) (flat : Int) : Int := if tgI Y m X n flat < 0 then 0 else (X (tgI Y m X n flat).toNat).Id
def tgOk (Y : Nat → FlatD) (m : Nat) (X : Nat → DrawerD) (n : Nat) (flat : Int) : Bool := decide (0 ≤ tgI Y m X n flat)
theorem tgK_cases (Y : Nat → FlatD) (m : Nat) (X : Nat → DrawerD) (n : Nat) (flat : Int) : tgK Y m X n flat = -1 ∨ ∃ b : Nat, b < n ∧ tgK Y m X n flat = (b : Int) := tgF_cases (fun j hj => by obtain ⟨k, h1, h2, _⟩ := dfK_at hj; exact ⟨k, h1, h2⟩) _ (Nat.le_refl _)
theorem tg_no {Y : Nat → FlatD} {m : Nat} {X : Nat → DrawerD} {n : Nat} {flat : Int} (h : looseB Y m X n flat = false) : tgI Y m X n flat = -1 := by unfold tgI; rw [h]; rfl
theorem tg_yes {Y : Nat → FlatD} {m : Nat} {X : Nat → DrawerD} {n : Nat} {flat : Int} (h : looseB Y m X n flat = true) : tgI Y m X n flat = tgK Y m X n flat := by unfold tgI; rw [h]; rfl
theorem tgR_no {Y : Nat → FlatD} {m : Nat} {X : Nat → DrawerD} {n : Nat} {flat : Int} (h : tgI Y m X n flat = -1) : Ending.returned (.tuple #[.int .i64 0, .bool false]) = .returned (.tuple #[.int .i64 (tgV Y m X n flat), .bool (tgOk Y m X n flat)]) := by unfold tgV tgOk; rw [h]; rfl
theorem tgR_yes {Y : Nat → FlatD} {m : Nat} {X : Nat → DrawerD} {n b : Nat} {flat : Int} (h : tgI Y m X n flat = (b : Int)) : Ending.returned (.tuple #[.int .i64 (X b).Id, .bool true]) = .returned (.tuple #[.int .i64 (tgV Y m X n flat), .bool (tgOk Y m X n flat)]) := by unfold tgV tgOk; rw [h, if_neg (by omega), Int.toNat_natCast]; simp
theorem drawer_pos {Y : Nat → FlatD} {m : Nat} {X : Nat → DrawerD} {n k : Nat} (h : goodB Y m X n = true) (hk : k < n) : 0 < (X k).Id := by
  have := goodB_drawer h hk
  simp [drawerB, inB] at this
  omega

set_option maxRecDepth 100000 in
set_option maxHeartbeats 4000000 in
theorem tight_spec (b1 o1 m c1 b off n cap : Nat) (Y : Nat → FlatD) (X : Nat → DrawerD) (S : Nat → Value) (flat : Int) (w : World) (h1 : Rw w b1 o1 4 m (fun i => (Y i).cells)) (hm1 : m ≤ 1048576) (hlc1 : m ≤ c1) (h : Drs w b off n X S) (hL : ∀ i, i < n → (X i).Flats.length ≤ 1048576) (hm : n ≤ 1048576) (hlc : n ≤ cap) :
    Calls Try.prog 44 #[.slice (some ⟨b1, o1, none⟩) m c1, .slice (some ⟨b, off, none⟩) n cap, .int .i64 flat] w fun e w' => e = .returned (.tuple #[.int .i64 (tgV Y m X n flat), .bool (tgOk Y m X n flat)]) ∧ Below w.heap.size w w' := by
  have hb := h.rw.1
  have KD := df_spec b1 o1 m c1 b off n cap Y X S flat w h1 hm1 hlc1 h hL hm hlc
  have H := hid h
  have HL := hid hL
  clear h1 h hL
  obtain ⟨R, hR⟩ : ∃ R, looseB Y m X n flat = R := ⟨_, rfl⟩
  have hL : Hid (dfL Y m X n flat = if R = true then dfI Y m X n flat else []) := by unfold Hid dfL; rw [hR]
  rw [hR] at KD
  have HRR := hid hR
  clear hR
  cases R with
  | false =>
    have hl0 : dfL Y m X n flat = [] := by rw [hL.out]; simp
    rw [hl0] at KD
    clear hl0
    go_enter Try.func44, Try.ntmps44
    go_wp2_with fail
    refine KD.mono ?_
    rintro e w1 ⟨v, rfl, ho, B1⟩
    obtain ⟨ao, cp, rfl, _⟩ := ho.slice
    clear ho
    rw [show ([] : List Int).length = 0 from rfl]
    go_wp2_with fail
    refine wp_loop_rounds 1 ?_
    rw [rounds_succ]
    go_wp2_with fail
    go_ret2
    exact ⟨tgR_no (tg_no HRR.out), B1⟩
  | true =>
    have hI := hid (tg_yes HRR.out)
    have hg := hid (looseB_good HRR.out)
    have hres : dfL Y m X n flat = (dfK Y m X n flat).map (fun x => (X x.toNat).Id) := by
      have h9 : dfL Y m X n flat = dfI Y m X n flat := by rw [hL.out]; simp
      exact h9.trans (dfK_map _ (fun i => (X i).Id) n).symm
    have hKl : (dfK Y m X n flat).length ≤ n := selI_le _ _ _
    have hKat : Hid (∀ j, j < (dfK Y m X n flat).length → ∃ k, k < n ∧ (dfK Y m X n flat).getD j 0 = (k : Int) ∧ canB Y m X n flat k = true) := fun j hj => dfK_at hj
    have hK2 : Hid (tgK Y m X n flat = tgF X (dfK Y m X n flat) (dfK Y m X n flat).length) := rfl
    rw [hres] at KD
    obtain ⟨K, hK⟩ : ∃ K, dfK Y m X n flat = K := ⟨_, rfl⟩
    rw [hK] at KD hKl hKat hK2
    clear hK hres
    go_enter Try.func44, Try.ntmps44
    go_wp2_with fail
    refine KD.mono ?_
    rintro e w1 ⟨v, rfl, ho, B1⟩
    rcases ho.form with ⟨rfl, hnil⟩ | ⟨g, cp, rfl, _, hgl, hcc, _, hcell, _⟩
    · clear ho
      have hnil : K = [] := by simpa using hnil
      have hk9 := hid hnil
      clear hnil
      go_wp2_with fail
      refine wp_loop_rounds 1 ?_
      rw [rounds_succ]
      go_wp2_with fail
      go_ret2
      exact ⟨tgR_no (hI.out.trans (hK2.out.trans (by rw [hk9.out]; rfl))), B1⟩
    · clear ho
      rw [List.length_map] at hcc hcell ⊢
      obtain ⟨N, hN⟩ : ∃ N, K.length = N := ⟨_, rfl⟩
      have HC : Hid (∀ j, j < N → w1.cell? ⟨g, j, none⟩ = some (.int .i64 (X (K.getD j 0).toNat).Id)) := fun j hj => by
        rw [hcell j (by omega)]
        simp [List.getD, show j < K.length by omega]
      have HN := hid hN
      rw [hN] at hcc hKl ⊢
      clear hcell hN KD
      go_wp2_with fail
      go_loopw [10, 11, 12] (fun p q i wr => ∃ (j : Nat) (bv lv : Int), j ≤ N ∧ p = .int .i64 bv ∧ q = .int .i64 lv ∧ i = .int .i64 j ∧ Below w1.heap.size w1 wr ∧ Hid ((tgF X K j = -1 ∧ bv = 0 ∧ lv = 0) ∨ ∃ b : Nat, b < n ∧ tgF X K j = (b : Int) ∧ bv = (X b).Id ∧ lv = whD X b)) (fun _ _ i _ => N - (intOf i).toNat)
      case atStart => exact ⟨0, 0, 0, by omega, rfl, rfl, rfl, Below.refl _ _, .inl ⟨rfl, rfl, rfl⟩⟩
      case round =>
        obtain ⟨j, bv, lv, hj, rfl, rfl, rfl, hC, hrl⟩ := hrel
        have hB := Below.on B1 B1.size hC
        by_cases hlt : j < N
        · obtain ⟨k, hk, hkj, _⟩ := hKat.out j (by rw [HN.out]; exact hlt)
          have KI := dIndex_spec wr b off n cap X S (X k).Id (H.out.below hB) hm hlc
          rw [dAt_self hg.out hk] at KI
          have hkj := hid hkj
          obtain ⟨sa, sc, hS⟩ : ∃ a c, S k = .slice a (X k).Flats.length c := by obtain ⟨a, c, h, _⟩ := H.out.has k hk; exact ⟨a, c, h⟩
          obtain ⟨nf, hnf⟩ : ∃ nf, (X k).Flats.length = nf := ⟨_, rfl⟩
          rw [hnf] at hS
          have c0 : wr.cell? ⟨g, j, none⟩ = some (.int .i64 (X k).Id) := by
            have := (hC.cell hgl).trans (HC.out j hlt)
            rw [hkj.out, Int.toNat_natCast] at this
            exact this
          have x0 : wr.cell? ⟨b, off + k * 5, none⟩ = some (.int .i64 (X k).Id) := (hB.cell hb).trans (H.out.rw.2 k hk 0 (by omega))
          have x1 : wr.cell? ⟨b, off + k * 5 + 1, none⟩ = some (.int .i64 (X k).Wide) := (hB.cell hb).trans (H.out.rw.2 k hk 1 (by omega))
          have x2 : wr.cell? ⟨b, off + k * 5 + 2, none⟩ = some (.int .i64 (X k).High) := (hB.cell hb).trans (H.out.rw.2 k hk 2 (by omega))
          have x3 : wr.cell? ⟨b, off + k * 5 + 3, none⟩ = some (.int .i64 (X k).Holds) := (hB.cell hb).trans (H.out.rw.2 k hk 3 (by omega))
          have x4 : wr.cell? ⟨b, off + k * 5 + 4, none⟩ = some (.slice sa nf sc) := by rw [← hS]; exact (hB.cell hb).trans (H.out.rw.2 k hk 4 (by omega))
          clear hS hnf
          have e1 : (0 : Int) ≤ (k : Int) := by omega
          have e2 : (k : Int) < (n : Int) := by omega
          have e3 : (0 : Int) ≤ (j : Int) := by omega
          have e4 : (j : Int) < (N : Int) := by omega
          obtain ⟨x, hx⟩ : ∃ x, whD X k = x := ⟨_, rfl⟩
          have hw : IntKind.i64.wrap ((X k).Wide * (X k).High) = x := hx
          have HX := hid hx
          clear hx
          have hBA : Below w1.heap.size w1 (wr.alloc (.cells #[.int .i64 (X k).Id, .int .i64 (X k).Wide, .int .i64 (X k).High, .int .i64 (X k).Holds, .slice sa nf sc] 32)) := hC.alloc hC.size _
          rcases hrl.out with ⟨ht, rfl, rfl⟩ | ⟨bb, hbb, ht, rfl, rfl⟩
          · have ht := hid ht
            clear hrl
            go_wp2_with fail
            refine KI.mono ?_
            rintro e w' ⟨rfl, rfl⟩
            go_wp2_with fail
            go_roundw
            case rel => exact ⟨j + 1, _, _, by omega, rfl, rfl, by go_num, hBA, .inr ⟨k, hk, tgF_none hkj.out ht.out, rfl, HX.out.symm⟩⟩
            case measure => simp [intOf]; omega
          · have ht := hid ht
            have d1 : ((X bb).Id == 0) = false := by have := drawer_pos hg.out hbb; simp; omega
            obtain ⟨y, hy⟩ : ∃ y, whD X bb = y := ⟨_, rfl⟩
            have HY := hid hy
            rw [hy]
            clear hy
            by_cases hl : x < y
            · have hl2 : Hid (whD X k < whD X bb) := by unfold Hid; rw [HX.out, HY.out]; exact hl
              have d2 : decide (x < y) = true := by simpa using hl
              clear hl
              clear hrl
              go_wp2_with fail
              refine KI.mono ?_
              rintro e w' ⟨rfl, rfl⟩
              go_wp2_with fail
              go_roundw
              case rel => exact ⟨j + 1, _, _, by omega, rfl, rfl, by go_num, hBA, .inr ⟨k, hk, tgF_less hkj.out ht.out hl2.out, rfl, HX.out.symm⟩⟩
              case measure => simp [intOf]; omega
            · have hl2 : Hid (whD X bb ≤ whD X k) := by unfold Hid; rw [HX.out, HY.out]; omega
              have d2 : decide (x < y) = false := by simpa using hl
              clear hl
              clear hrl
              go_wp2_with fail
              refine KI.mono ?_
              rintro e w' ⟨rfl, rfl⟩
              go_wp2_with fail
              go_roundw
              case rel => exact ⟨j + 1, _, _, by omega, rfl, rfl, by go_num, hBA, .inr ⟨bb, hbb, tgF_more hkj.out ht.out (Int.not_lt.2 hl2.out), rfl, HY.out.symm⟩⟩
              case measure => simp [intOf]; omega
        · obtain rfl : j = N := by omega
          have hKK : Hid (tgI Y m X n flat = tgF X K j) := hI.out.trans (hK2.out.trans (by rw [HN.out]))
          rcases hrl.out with ⟨ht, rfl, rfl⟩ | ⟨bb, hbb, ht, rfl, rfl⟩
          · have ht := hid ht
            go_wp2_with fail
            go_ret2
            exact ⟨tgR_no (hKK.out.trans ht.out), hB⟩
          · have ht := hid ht
            have d1 : decide (0 < (X bb).Id) = true := by have := drawer_pos hg.out hbb; simpa using this
            go_wp2_with fail
            go_ret2
            exact ⟨tgR_yes (hKK.out.trans ht.out), hB⟩

end Go.Proofs.Ytejpmomedclnhaa
