/-
  Results of drawers compared, marked, held. No condition.
-/
import Derived.Test.YtejpmomedclnhaaOwnD
namespace Go.Proofs.Ytejpmomedclnhaa
open Go.RowKit
set_option linter.unusedVariables false
set_option maxRecDepth 100000

set_option maxHeartbeats 1000000 in
theorem eqDrawerS_own (v1 v2 : Value) (P1 P2 : List DrP) (B1 B2 : Nat) (w : World) (h1 : OwnP B1 w v1 P1) (h2 : OwnP B2 w v2 P2) (he : P1.map Prod.fst = P2.map Prod.fst) (hm : P1.length ≤ 1048576) (hn : ∀ d ∈ P1.map Prod.fst, d.Flats.length ≤ 1048576) :
    Calls Try.prog 27 #[v1, v2] w fun e w' => e = .returned (.bool true) ∧ Below w.heap.size w w' := by
  have hl : P1.length = P2.length := by have := congrArg List.length he; simpa using this
  have hzero : ∀ (a1 a2 : Option Addr) (c1 c2 : Nat), Calls Try.prog 27 #[.slice a1 0 c1, .slice a2 0 c2] w fun e w' => e = .returned (.bool true) ∧ Below w.heap.size w w' := by
    intro a1 a2 c1 c2
    go_enter Try.func27, Try.ntmps27
    go_wp2
    refine wp_loop_rounds 1 ?_
    rw [rounds_succ]
    go_wp2
    go_ret
    exact ⟨rfl, Below.refl _ _⟩
  rcases h1.form with ⟨rfl, hp1⟩ | ⟨g1, c1, rfl, _, _, hc1, _, d1, _⟩
  · rcases h2.form with ⟨rfl, hp2⟩ | ⟨g2, c2, rfl, _, _, hc2, _, d2, _⟩
    · exact hzero _ _ _ _
    · rw [hp1] at hl
      rw [← hl]
      exact hzero _ _ _ _
  · rcases h2.form with ⟨rfl, hp2⟩ | ⟨g2, c2, rfl, _, _, hc2, _, d2, _⟩
    · rw [hp2] at hl
      rw [hl]
      exact hzero _ _ _ _
    · have hfst : ∀ i, i < P1.length → (P1.getD i default).1 = (P2.getD i default).1 := fun i hi => by
        have h9 : (P1.map Prod.fst)[i]? = (P2.map Prod.fst)[i]? := by rw [he]
        rw [List.getElem?_map, List.getElem?_map, List.getElem?_eq_getElem hi, List.getElem?_eq_getElem (by omega)] at h9
        simp at h9
        simp [List.getD, hi, show i < P2.length by omega, h9]
      rw [← hl] at d2 hc2 ⊢
      exact eqDrawerS_same g1 g2 0 0 c1 c2 P1.length (fun i => (P1.getD i default).1) _ _ w d1 ⟨⟨d2.rw.1, fun i hi j hj => by have := d2.rw.2 i hi j hj; rw [this]; show _ = ((P1.getD i default).1.cells _)[j]?; rw [hfst i hi]⟩, fun i hi => by have := d2.has i hi; show HasI w _ (P1.getD i default).1.Flats; rw [hfst i hi]; exact this⟩ (fun i hi => hn _ (by rw [List.mem_map]; exact ⟨P1.getD i default, by simp [List.getD, hi], rfl⟩)) hm hc1 hc2

theorem OwnP.set_Id {B g n cap k : Nat} {w : World} {P : List DrP} (h : OwnP B w (.slice (some ⟨g, 0, none⟩) n cap) P) (hn : P.length = n) (hk : k < n) (x : Int) : OwnP B (w.setCell ⟨g, k * 5, none⟩ (.int .i64 x)) (.slice (some ⟨g, 0, none⟩) n cap) (P.set k ({ (P.getD k default).1 with Id := x }, (P.getD k default).2)) := by
  have hk' : k < P.length := by omega
  have hO : Only (fun i => i = g) w (w.setCell ⟨g, k * 5, none⟩ (.int .i64 x)) := Only.of_grown (grownBy_set _ _ _ _) rfl
  have hgt : ∀ i, ((P.set k ({ (P.getD k default).1 with Id := x }, (P.getD k default).2)).getD i default).2 = (P.getD i default).2 ∧ ((P.set k ({ (P.getD k default).1 with Id := x }, (P.getD k default).2)).getD i default).1.Flats = (P.getD i default).1.Flats := fun i => by
    rw [getP_set _ _ _ _ hk']
    split
    · next h1 => subst h1; exact ⟨rfl, rfl⟩
    · exact ⟨rfl, rfl⟩
  refine ⟨?_, fun i hi => ?_, fun i hi q hq => ?_, fun i j hi hj hij => ?_⟩
  · rw [List.length_set, ← flat_setP 0 (.int .i64 x) (by omega) (fun p => ({ p.1 with Id := x }, p.2)) (fun p => rfl) P k hk', hn]
    have h9 := h.row
    rw [hn] at h9
    exact (World.ownsRow.stored h9 _ _).1
  · rw [List.length_set] at hi
    rw [(hgt i).1, (hgt i).2]
    exact (h.inn i hi).only hO fun q hq e => h.ne i hi g rfl (by rw [hq, e])
  · rw [List.length_set] at hi
    rw [(hgt i).1]
    exact h.ne i hi q hq
  · rw [List.length_set] at hi hj
    rw [(hgt i).1, (hgt j).1]
    exact h.pw i j hi hj hij
theorem OwnP.set_Wide {B g n cap k : Nat} {w : World} {P : List DrP} (h : OwnP B w (.slice (some ⟨g, 0, none⟩) n cap) P) (hn : P.length = n) (hk : k < n) (x : Int) : OwnP B (w.setCell ⟨g, k * 5 + 1, none⟩ (.int .i64 x)) (.slice (some ⟨g, 0, none⟩) n cap) (P.set k ({ (P.getD k default).1 with Wide := x }, (P.getD k default).2)) := by
  have hk' : k < P.length := by omega
  have hO : Only (fun i => i = g) w (w.setCell ⟨g, k * 5 + 1, none⟩ (.int .i64 x)) := Only.of_grown (grownBy_set _ _ _ _) rfl
  have hgt : ∀ i, ((P.set k ({ (P.getD k default).1 with Wide := x }, (P.getD k default).2)).getD i default).2 = (P.getD i default).2 ∧ ((P.set k ({ (P.getD k default).1 with Wide := x }, (P.getD k default).2)).getD i default).1.Flats = (P.getD i default).1.Flats := fun i => by
    rw [getP_set _ _ _ _ hk']
    split
    · next h1 => subst h1; exact ⟨rfl, rfl⟩
    · exact ⟨rfl, rfl⟩
  refine ⟨?_, fun i hi => ?_, fun i hi q hq => ?_, fun i j hi hj hij => ?_⟩
  · rw [List.length_set, ← flat_setP 1 (.int .i64 x) (by omega) (fun p => ({ p.1 with Wide := x }, p.2)) (fun p => rfl) P k hk', hn]
    have h9 := h.row
    rw [hn] at h9
    exact (World.ownsRow.stored h9 _ _).1
  · rw [List.length_set] at hi
    rw [(hgt i).1, (hgt i).2]
    exact (h.inn i hi).only hO fun q hq e => h.ne i hi g rfl (by rw [hq, e])
  · rw [List.length_set] at hi
    rw [(hgt i).1]
    exact h.ne i hi q hq
  · rw [List.length_set] at hi hj
    rw [(hgt i).1, (hgt j).1]
    exact h.pw i j hi hj hij
theorem OwnP.set_High {B g n cap k : Nat} {w : World} {P : List DrP} (h : OwnP B w (.slice (some ⟨g, 0, none⟩) n cap) P) (hn : P.length = n) (hk : k < n) (x : Int) : OwnP B (w.setCell ⟨g, k * 5 + 2, none⟩ (.int .i64 x)) (.slice (some ⟨g, 0, none⟩) n cap) (P.set k ({ (P.getD k default).1 with High := x }, (P.getD k default).2)) := by
  have hk' : k < P.length := by omega
  have hO : Only (fun i => i = g) w (w.setCell ⟨g, k * 5 + 2, none⟩ (.int .i64 x)) := Only.of_grown (grownBy_set _ _ _ _) rfl
  have hgt : ∀ i, ((P.set k ({ (P.getD k default).1 with High := x }, (P.getD k default).2)).getD i default).2 = (P.getD i default).2 ∧ ((P.set k ({ (P.getD k default).1 with High := x }, (P.getD k default).2)).getD i default).1.Flats = (P.getD i default).1.Flats := fun i => by
    rw [getP_set _ _ _ _ hk']
    split
    · next h1 => subst h1; exact ⟨rfl, rfl⟩
    · exact ⟨rfl, rfl⟩
  refine ⟨?_, fun i hi => ?_, fun i hi q hq => ?_, fun i j hi hj hij => ?_⟩
  · rw [List.length_set, ← flat_setP 2 (.int .i64 x) (by omega) (fun p => ({ p.1 with High := x }, p.2)) (fun p => rfl) P k hk', hn]
    have h9 := h.row
    rw [hn] at h9
    exact (World.ownsRow.stored h9 _ _).1
  · rw [List.length_set] at hi
    rw [(hgt i).1, (hgt i).2]
    exact (h.inn i hi).only hO fun q hq e => h.ne i hi g rfl (by rw [hq, e])
  · rw [List.length_set] at hi
    rw [(hgt i).1]
    exact h.ne i hi q hq
  · rw [List.length_set] at hi hj
    rw [(hgt i).1, (hgt j).1]
    exact h.pw i j hi hj hij
theorem OwnP.set_Holds {B g n cap k : Nat} {w : World} {P : List DrP} (h : OwnP B w (.slice (some ⟨g, 0, none⟩) n cap) P) (hn : P.length = n) (hk : k < n) (x : Int) : OwnP B (w.setCell ⟨g, k * 5 + 3, none⟩ (.int .i64 x)) (.slice (some ⟨g, 0, none⟩) n cap) (P.set k ({ (P.getD k default).1 with Holds := x }, (P.getD k default).2)) := by
  have hk' : k < P.length := by omega
  have hO : Only (fun i => i = g) w (w.setCell ⟨g, k * 5 + 3, none⟩ (.int .i64 x)) := Only.of_grown (grownBy_set _ _ _ _) rfl
  have hgt : ∀ i, ((P.set k ({ (P.getD k default).1 with Holds := x }, (P.getD k default).2)).getD i default).2 = (P.getD i default).2 ∧ ((P.set k ({ (P.getD k default).1 with Holds := x }, (P.getD k default).2)).getD i default).1.Flats = (P.getD i default).1.Flats := fun i => by
    rw [getP_set _ _ _ _ hk']
    split
    · next h1 => subst h1; exact ⟨rfl, rfl⟩
    · exact ⟨rfl, rfl⟩
  refine ⟨?_, fun i hi => ?_, fun i hi q hq => ?_, fun i j hi hj hij => ?_⟩
  · rw [List.length_set, ← flat_setP 3 (.int .i64 x) (by omega) (fun p => ({ p.1 with Holds := x }, p.2)) (fun p => rfl) P k hk', hn]
    have h9 := h.row
    rw [hn] at h9
    exact (World.ownsRow.stored h9 _ _).1
  · rw [List.length_set] at hi
    rw [(hgt i).1, (hgt i).2]
    exact (h.inn i hi).only hO fun q hq e => h.ne i hi g rfl (by rw [hq, e])
  · rw [List.length_set] at hi
    rw [(hgt i).1]
    exact h.ne i hi q hq
  · rw [List.length_set] at hi hj
    rw [(hgt i).1, (hgt j).1]
    exact h.pw i j hi hj hij
theorem OwnP.set4 {B g n cap k : Nat} {w : World} {P : List DrP} (h : OwnP B w (.slice (some ⟨g, 0, none⟩) n cap) P) (hn : P.length = n) (hk : k < n) (a b c d : Int) : OwnP B ((((w.setCell ⟨g, k * 5, none⟩ (.int .i64 a)).setCell ⟨g, k * 5 + 1, none⟩ (.int .i64 b)).setCell ⟨g, k * 5 + 2, none⟩ (.int .i64 c)).setCell ⟨g, k * 5 + 3, none⟩ (.int .i64 d)) (.slice (some ⟨g, 0, none⟩) n cap) (P.set k (⟨a, b, c, d, (P.getD k default).1.Flats⟩, (P.getD k default).2)) := by
  have hk' : k < P.length := by omega
  have S1 := h.set_Id hn hk a
  have S2 := S1.set_Wide (by rw [List.length_set]; exact hn) hk b
  rw [getP_set _ _ _ _ hk', if_pos rfl, List.set_set] at S2
  have S3 := S2.set_High (by rw [List.length_set]; exact hn) hk c
  rw [getP_set _ _ _ _ hk', if_pos rfl, List.set_set] at S3
  have S4 := S3.set_Holds (by rw [List.length_set]; exact hn) hk d
  rw [getP_set _ _ _ _ hk', if_pos rfl, List.set_set] at S4
  exact S4
theorem flat_sameP : ∀ (P : List DrP) (k : Nat) (q : DrP), k < P.length → cellsP q = cellsP (P.getD k default) → (P.set k q).flatMap cellsP = P.flatMap cellsP
  | [], k, q, hk, _ => absurd hk (by simp)
  | a :: P, 0, q, hk, h => by
    simp at h
    simp [List.flatMap_cons, h]
  | a :: P, k + 1, q, hk, h => by
    rw [List.set_cons_succ, List.flatMap_cons, List.flatMap_cons, flat_sameP P k q (by simpa using hk) (by simpa using h)]
theorem OwnP.inner {B g n cap k : Nat} {w w' : World} {P : List DrP} {F : List Int} (h : OwnP B w (.slice (some ⟨g, 0, none⟩) n cap) P) (hn : P.length = n) (hk : k < n) (hg : w.grownBy w' (P.getD k default).2.ownBlock) (ho : OwnI B w' (P.getD k default).2 F) : OwnP B w' (.slice (some ⟨g, 0, none⟩) n cap) (P.set k ({ (P.getD k default).1 with Flats := F }, (P.getD k default).2)) := by
  have hk' : k < P.length := by omega
  have hO : Only (fun i => (P.getD k default).2.ownBlock = some i) w w' := Only.of_grown' hg fun q hq => hq
  have hgt : ∀ i, ((P.set k ({ (P.getD k default).1 with Flats := F }, (P.getD k default).2)).getD i default).2 = (P.getD i default).2 := fun i => by
    rw [getP_set _ _ _ _ hk']
    split
    · next h1 => subst h1; rfl
    · rfl
  refine ⟨?_, fun i hi => ?_, fun i hi q hq => ?_, fun i j hi hj hij => ?_⟩
  · have hq := flat_sameP P k ({ (P.getD k default).1 with Flats := F }, (P.getD k default).2) hk' rfl
    rw [List.length_set]
    rw [hq]
    exact ownsRow_only h.row hO fun i hi e => h.ne k hk' i hi e
  · rw [List.length_set] at hi
    by_cases hik : i = k
    · subst hik
      rw [getP_set _ _ _ _ hk', if_pos rfl]
      exact ⟨ho, (h.inn i hk').2⟩
    · rw [getP_set _ _ _ _ hk', if_neg hik]
      exact (h.inn i hi).only hO fun q hq e => h.pw i k hi hk' hik (hq.trans e.symm)
  · rw [List.length_set] at hi
    rw [hgt i]
    exact h.ne i hi q hq
  · rw [List.length_set] at hi hj
    rw [hgt i, hgt j]
    exact h.pw i j hi hj hij

/-- The marks of drawer i, whose first mark is b. -/
def mkDr (b : Int) (n : Nat) : DrawerD := ⟨b, b + 1, b + 2, b + 3, marks (b + 4) n⟩
/-- The first mark of drawer i. -/
def kb (k0 : Int) (N : Nat → Nat) (i : Nat) : Int := k0 + 4 * (i : Int) + (sumK N i : Int)
theorem kb_succ (k0 : Int) (N : Nat → Nat) (i : Nat) : kb k0 N (i + 1) = kb k0 N i + 4 + (N i : Int) := by unfold kb; simp [sumK]; omega
/-- The first k drawers are marked, the others as they were. -/
def mixP (k0 : Int) (N : Nat → Nat) (P : List DrP) (k : Nat) : List DrP := (List.range P.length).map fun i => if i < k then (mkDr (kb k0 N i) (N i), (P.getD i default).2) else P.getD i default
theorem mixP_len (k0 : Int) (N : Nat → Nat) (P : List DrP) (k : Nat) : (mixP k0 N P k).length = P.length := by simp [mixP]
theorem mixP_zero (k0 : Int) (N : Nat → Nat) (P : List DrP) : mixP k0 N P 0 = P := by
  apply List.ext_getElem?
  intro t
  by_cases h : t < P.length <;> simp [mixP, h, List.getD]
theorem mixP_at {k0 : Int} {N : Nat → Nat} {P : List DrP} {k i : Nat} (hi : i < P.length) : (mixP k0 N P k).getD i default = if i < k then (mkDr (kb k0 N i) (N i), (P.getD i default).2) else P.getD i default := by
  simp [mixP, List.getD, hi]
theorem mixP_step {k0 : Int} {N : Nat → Nat} {P : List DrP} {k : Nat} (hk : k < P.length) : (mixP k0 N P k).set k (mkDr (kb k0 N k) (N k), (P.getD k default).2) = mixP k0 N P (k + 1) := by
  apply List.ext_getElem?
  intro t
  by_cases ht : t < P.length
  · by_cases htk : k = t
    · subst htk
      rw [List.getElem?_set_self (by rw [mixP_len]; exact ht)]
      simp [mixP, ht]
    · rw [List.getElem?_set_ne htk]
      have e : (t < k) = (t < k + 1) := by simp; omega
      simp [mixP, ht, e]
  · rw [List.getElem?_eq_none (by rw [List.length_set, mixP_len]; omega), List.getElem?_eq_none (by rw [mixP_len]; omega)]

set_option maxHeartbeats 4000000 in
theorem markDrawerS_own (v : Value) (P : List DrP) (B : Nat) (k0 : Int) (w : World) (h : OwnP B w v P) (N : Nat → Nat) (hN : ∀ i, i < P.length → (P.getD i default).1.Flats.length = N i) (hL : P.length + sumK N P.length ≤ 2097152) (hk0 : 0 ≤ k0) (hk1 : k0 ≤ 536870912) :
    Calls Try.prog 36 #[v, .int .i64 k0] w fun e w' => e = .returned (.int .i64 (kb k0 N P.length)) ∧ OwnP B w' v (mixP k0 N P P.length) ∧ Only (fun i => B ≤ i) w w' := by
  rcases h.form with ⟨rfl, rfl⟩ | ⟨g, cap, rfl, hgB, hgl, hnc, hcm, _, _⟩
  · go_enter Try.func36, Try.ntmps36
    go_wp2
    refine wp_loop_rounds 1 ?_
    rw [rounds_succ]
    go_wp2
    go_ret
    exact ⟨by simp [kb, sumK], OwnP.nil _ _, Only.refl _ _⟩
  · have HO := hid h
    have HNN := hid hN
    obtain ⟨n, hn⟩ : ∃ n, P.length = n := ⟨_, rfl⟩
    have HN := hid hn
    rw [hn] at hL hnc HO ⊢
    have HL := hid hL
    have hln : n ≤ 2097152 := by omega
    clear h hN hn hL
    go_enter Try.func36, Try.ntmps36
    go_wp2
    go_loopw [1, 5] (fun q i wr => ∃ (k : Nat) (b : Int), k ≤ n ∧ i = .int .i64 k ∧ q = .int .i64 b ∧ 0 ≤ b ∧ b ≤ 600000000 ∧ Hid (b = kb k0 N k) ∧ Hid (Only (fun i => B ≤ i) w wr) ∧ Hid (OwnP B wr (.slice (some ⟨g, 0, none⟩) n cap) (mixP k0 N P k))) (fun _ i _ => n - (intOf i).toNat)
    case atStart => exact ⟨0, k0, by omega, rfl, rfl, by omega, by omega, by unfold Hid; simp [kb, sumK], Only.refl _ _, by unfold Hid; rw [mixP_zero]; exact HO.out⟩
    case round =>
      obtain ⟨k, b, hk, rfl, rfl, hb0, hb1, hbk, hg, ho⟩ := hrel
      by_cases hlt : k < n
      · have hPk : k < P.length := by rw [HN.out]; exact hlt
        have hnk : N k ≤ 2097152 := by have h1 := HL.out; have := sumK_le (N := N) hlt; omega
        have hkb2 : b + 4 + (N k : Int) ≤ 600000000 ∧ b + 4 + (N k : Int) = kb k0 N (k + 1) := by
          have h1 := HL.out
          have h2 := sumK_le (N := N) hlt
          have h3 := hbk.out
          have h4 := kb_succ k0 N k
          refine ⟨?_, by rw [h4, ← h3]⟩
          rw [h3]; unfold kb; omega
        obtain ⟨hb2, hb3⟩ := hkb2
        have HB3 := hid hb3
        clear hb3
        have hml : (mixP k0 N P k).length = n := by rw [mixP_len, HN.out]
        have hat : (mixP k0 N P k).getD k default = P.getD k default := by rw [mixP_at hPk, if_neg (by omega)]
        obtain ⟨gi, ci, hgi, hgiB, hgil, hcil⟩ := (ho.out.inn k (by rw [hml]; exact hlt)).slice
        have hblk : Blk 32 g (cap * 5) wr := by
          rcases ho.out.form with ⟨h9, _⟩ | ⟨g9, cp9, h9, _, _, _, _, _, h10⟩
          · cases h9
          · cases h9; exact h10
        have x4 : wr.cell? ⟨g, k * 5 + 4, none⟩ = some ((mixP k0 N P k).getD k default).2 := by
          have := flat_getP (mixP k0 N P k) k 4 (by rw [hml]; exact hlt) (by omega)
          have hrow := ho.out.row
          rw [hml] at hrow
          have h9 := World.ownsRow.cellAt hrow (k * 5 + 4) (by have := Nat.mul_le_mul_right 5 (show k + 1 ≤ n from hlt); omega)
          rw [h9, this]; rfl
        rw [hgi] at x4
        have hlen : ((mixP k0 N P k).getD k default).1.Flats.length = N k := by rw [hat]; exact HNN.out k hPk
        rw [hlen] at x4 hcil hgi
        obtain ⟨nk, hnk'⟩ : ∃ nk, N k = nk := ⟨_, rfl⟩
        rw [hnk'] at x4 hcil hnk hgi HB3 hb2
        have HNK := hid hnk'
        have HGI := hid hgi
        have hkc : k * 5 + 4 < cap * 5 := by have := Nat.mul_le_mul_right 5 (show k + 1 ≤ cap by omega); omega
        obtain ⟨q0, t0⟩ := hblk.cell (k * 5) (by omega)
        obtain ⟨q1, t1⟩ := hblk.cell (k * 5 + 1) (by omega)
        obtain ⟨q2, t2⟩ := hblk.cell (k * 5 + 2) (by omega)
        obtain ⟨q3, t3⟩ := hblk.cell (k * 5 + 3) (by omega)
        have z0 := hblk.frozen (k * 5)
        have z1 := hblk.frozen (k * 5 + 1)
        have z2 := hblk.frozen (k * 5 + 2)
        have z3 := hblk.frozen (k * 5 + 3)
        have S4 := ho.out.set4 hml hlt b (b + 1) (b + 1 + 1) (b + 1 + 1 + 1)
        have HS4 := hid S4
        have hI : Hid (OwnI B ((((wr.setCell ⟨g, k * 5, none⟩ (.int .i64 b)).setCell ⟨g, k * 5 + 1, none⟩ (.int .i64 (b + 1))).setCell ⟨g, k * 5 + 2, none⟩ (.int .i64 (b + 1 + 1))).setCell ⟨g, k * 5 + 3, none⟩ (.int .i64 (b + 1 + 1 + 1))) (.slice (some ⟨gi, 0, none⟩) nk ci) ((mixP k0 N P k).getD k default).1.Flats) := by
          have := (S4.inn k (by rw [List.length_set, hml]; exact hlt)).1
          rw [getP_set _ _ _ _ (by rw [hml]; exact hlt), if_pos rfl] at this
          rw [hgi] at this
          exact this
        have hfl : ((mixP k0 N P k).getD k default).1.Flats.length = nk := hlen.trans hnk'
        have HFL := hid hfl
        have HAT := hid hat
        have HML := hid hml
        have O4 : Hid (Only (fun i => B ≤ i) wr ((((wr.setCell ⟨g, k * 5, none⟩ (.int .i64 b)).setCell ⟨g, k * 5 + 1, none⟩ (.int .i64 (b + 1))).setCell ⟨g, k * 5 + 2, none⟩ (.int .i64 (b + 1 + 1))).setCell ⟨g, k * 5 + 3, none⟩ (.int .i64 (b + 1 + 1 + 1)))) := (((Only.of_grown (grownBy_set _ _ _ _) hgB).trans (Only.of_grown (grownBy_set _ _ _ _) hgB)).trans (Only.of_grown (grownBy_set _ _ _ _) hgB)).trans (Only.of_grown (grownBy_set _ _ _ _) hgB)
        clear S4 hfl hat hml hlen hnk' hgi hblk
        go_wp2_with fail
        refine (markIntS_own (.slice (some ⟨gi, 0, none⟩) nk ci) ((mixP k0 N P k).getD k default).1.Flats B _ _ hI.out (by rw [HFL.out]; omega) (by omega) (by omega)).mono ?_
        rw [HFL.out]
        rintro e w1 ⟨rfl, oM, gr⟩
        have hinner := HS4.out.inner (k := k) (F := marks (b + 4) nk) (by rw [List.length_set]; exact HML.out) hlt (w' := w1) (by rw [getP_set _ _ _ _ (by rw [HML.out]; exact hlt), if_pos rfl, HGI.out]; exact gr) (by rw [getP_set _ _ _ _ (by rw [HML.out]; exact hlt), if_pos rfl, HGI.out]; first | exact oM | (rw [show b + 4 = b + 1 + 1 + 1 + 1 by omega]; exact oM))
        have hQ : Hid (OwnP B w1 (.slice (some ⟨g, 0, none⟩) n cap) (mixP k0 N P (k + 1))) := by
          unfold Hid
          rw [← mixP_step hPk, ← hbk.out, HNK.out]
          rw [getP_set _ _ _ _ (by rw [HML.out]; exact hlt), if_pos rfl, List.set_set, HAT.out] at hinner
          rw [show b + 1 + 1 = b + 2 by omega, show b + 2 + 1 = b + 3 by omega] at hinner
          exact hinner
        have hO1 : Hid (Only (fun i => B ≤ i) w w1) := (hg.out.trans O4.out).trans (Only.of_grown' gr fun q hq => by simp [Value.ownBlock] at hq; omega)
        clear t0 t1 t2 t3 z0 z1 z2 z3 x4 oM gr hinner O4 HS4 hI
        go_wp2_with fail
        go_roundw
        case rel => exact ⟨k + 1, b + 4 + (nk : Int), by omega, by go_num, val_int (by omega), by omega, by omega, HB3.out, hO1, hQ⟩
        case measure => simp [intOf]; omega
      · obtain rfl : k = n := by omega
        go_wp2_with fail
        go_ret
        exact ⟨by rw [← hbk.out]; rfl, ho.out, hg.out⟩
theorem mixP_all {k0 : Int} {N : Nat → Nat} {P : List DrP} {n i : Nat} (hn : P.length = n) (hi : i < n) : ((mixP k0 N P n).getD i default).1 = mkDr (kb k0 N i) (N i) := by rw [mixP_at (by omega), if_pos hi]

set_option maxHeartbeats 4000000 in
theorem heldDrawerS_own (v : Value) (P : List DrP) (n B : Nat) (k0 : Int) (w : World) (h : OwnP B w v P) (hn : P.length = n) (N : Nat → Nat) (hN : ∀ i, i < n → (P.getD i default).1 = mkDr (kb k0 N i) (N i)) (hL : n + sumK N n ≤ 2097152) (hk0 : 0 ≤ k0) (hk1 : k0 ≤ 536870912) :
    Calls Try.prog 43 #[v, .int .i64 k0] w fun e w' => e = .returned (.int .i64 (kb k0 N n)) ∧ w = w' := by
  rcases h.form with ⟨rfl, rfl⟩ | ⟨g, cap, rfl, hgB, hgl, hnc, hcm, hdrs, _⟩
  · simp at hn
    subst hn
    go_enter Try.func43, Try.ntmps43
    go_wp2
    refine wp_loop_rounds 1 ?_
    rw [rounds_succ]
    go_wp2
    go_ret
    exact ⟨by simp [kb, sumK], rfl⟩
  · rw [hn] at hnc hdrs ⊢
    have HO := hid h
    have HNN := hid hN
    have HD := hid hdrs
    have HN := hid hn
    have HL := hid hL
    have hln : n ≤ 2097152 := by omega
    clear h hN hn hL hdrs
    go_enter Try.func43, Try.ntmps43
    go_wp2
    go_loop [1, 5] (fun q i => ∃ (k : Nat) (b : Int), k ≤ n ∧ i = .int .i64 k ∧ q = .int .i64 b ∧ 0 ≤ b ∧ b ≤ 600000000 ∧ Hid (b = kb k0 N k)) (fun _ i => n - (intOf i).toNat)
    case atStart => exact ⟨0, k0, by omega, rfl, rfl, by omega, by omega, by unfold Hid; simp [kb, sumK]⟩
    case round =>
      obtain ⟨k, b, hk, rfl, rfl, hb0, hb1, hbk⟩ := hrel
      by_cases hlt : k < n
      · have hnk : N k ≤ 2097152 := by have h1 := HL.out; have := sumK_le (N := N) hlt; omega
        have hkb2 : b + 4 + (N k : Int) ≤ 600000000 ∧ b + 4 + (N k : Int) = kb k0 N (k + 1) := by
          have h1 := HL.out
          have h2 := sumK_le (N := N) hlt
          have h3 := hbk.out
          have h4 := kb_succ k0 N k
          refine ⟨?_, by rw [h4, ← h3]⟩
          rw [h3]; unfold kb; omega
        obtain ⟨hb2, hb3⟩ := hkb2
        have HB3 := hid hb3
        clear hb3
        obtain ⟨gi, ci, hgi, _⟩ := (HO.out.inn k (by rw [HN.out]; exact hlt)).slice
        have hoi := (HO.out.inn k (by rw [HN.out]; exact hlt)).1
        have hmk := HNN.out k hlt
        rw [← hbk.out] at hmk
        have hrow := fun j hj => HD.out.rw.2 k hlt j hj
        simp only [hmk, Nat.zero_add] at hrow
        rw [hmk] at hgi hoi
        have hml : (mkDr b (N k)).Flats.length = N k := by simp [mkDr, marks]
        rw [hml] at hgi
        obtain ⟨nk, hnk'⟩ : ∃ nk, N k = nk := ⟨_, rfl⟩
        rw [hnk'] at hgi hoi hb2 HB3 hnk hrow
        have x0 : w.cell? ⟨g, k * 5, none⟩ = some (.int .i64 b) := hrow 0 (by omega)
        have x1 : w.cell? ⟨g, k * 5 + 1, none⟩ = some (.int .i64 (b + 1)) := hrow 1 (by omega)
        have x2 : w.cell? ⟨g, k * 5 + 2, none⟩ = some (.int .i64 (b + 1 + 1)) := by rw [show b + 1 + 1 = b + 2 by omega]; exact hrow 2 (by omega)
        have x3 : w.cell? ⟨g, k * 5 + 3, none⟩ = some (.int .i64 (b + 1 + 1 + 1)) := by rw [show b + 1 + 1 + 1 = b + 3 by omega]; exact hrow 3 (by omega)
        have x4 : w.cell? ⟨g, k * 5 + 4, none⟩ = some (.slice (some ⟨gi, 0, none⟩) nk ci) := by rw [← hgi]; exact hrow 4 (by omega)
        rw [hgi] at hoi
        have HI : Hid (OwnI B w (.slice (some ⟨gi, 0, none⟩) nk ci) (marks (b + 1 + 1 + 1 + 1) nk)) := by rw [show b + 1 + 1 + 1 + 1 = b + 4 by omega]; exact hoi
        have K := heldIntS_own (.slice (some ⟨gi, 0, none⟩) nk ci) nk B (b + 1 + 1 + 1 + 1) w HI.out (by omega) (by omega) (by omega)
        have hkn : decide (b + 1 + 1 + 1 + 1 + (nk : Int) < 0) = false := by simp; omega
        clear hrow hgi hoi hmk hml hnk'
        go_wp2_with fail
        refine K.mono ?_
        rintro e w1 ⟨rfl, rfl⟩
        clear x0 x1 x2 x3 x4
        go_wp2_with fail
        go_round
        case rel => exact ⟨k + 1, b + 4 + (nk : Int), by omega, by go_num, val_int (by omega), by omega, by omega, HB3.out⟩
        case measure => simp [intOf]; omega
      · obtain rfl : k = n := by omega
        go_wp2_with fail
        go_ret
        exact ⟨by rw [← hbk.out]; rfl, rfl⟩
theorem sum12 {N : Nat → Nat} : ∀ {n : Nat}, (∀ i, i < n → N i ≤ 12) → sumK N n ≤ 12 * n
  | 0, _ => by simp [sumK]
  | n + 1, h => by have h1 := sum12 (N := N) (n := n) fun i hi => h i (by omega); have h2 := h n (by omega); simp [sumK]; omega
end Go.Proofs.Ytejpmomedclnhaa
