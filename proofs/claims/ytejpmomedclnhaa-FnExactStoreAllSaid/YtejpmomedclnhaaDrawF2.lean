/-
  The drawers for a flat, by the program. No condition.
-/
import Derived.Test.YtejpmomedclnhaaDrawF
namespace Go.Proofs.Ytejpmomedclnhaa
open Go.RowKit
set_option linter.unusedVariables false

set_option maxRecDepth 100000 in
set_option maxHeartbeats 4000000 in
theorem dfK_impl (b1 o1 m c1 b off n cap : Nat) (Y : Nat → FlatD) (X : Nat → DrawerD) (S : Nat → Value) (flat : Int) (w : World) (h1 : Rw w b1 o1 4 m (fun i => (Y i).cells)) (hm1 : m ≤ 1048576) (hlc1 : m ≤ c1) (h : Drs w b off n X S) (hL : ∀ i, i < n → (X i).Flats.length ≤ 1048576) (hm : n ≤ 1048576) (hlc : n ≤ cap) (hlo : looseB Y m X n flat = true) :
    Calls Try.prog 83 #[.slice (some ⟨b1, o1, none⟩) m c1, .slice (some ⟨b, off, none⟩) n cap, .int .i64 flat] w (RetI (dfK Y m X n flat) w) := by
  obtain ⟨i0, hi, hz0, hz1, hz2⟩ := info_parts info_int
  have hbb := h1.1
  have HR := hid h1
  have H := hid h
  have HL := hid hL
  have HLO := hid hlo
  clear h1 h hL hlo
  go_enter Try.func83, Try.ntmps83
  go_wp2_with fail
  go_loopw [7, 13] (fun v i wr => ∃ k : Nat, k ≤ n ∧ i = .int .i64 k ∧ Below w.heap.size w wr ∧ Hid (OwnI w.heap.size wr v (selI (canB Y m X n flat) (fun i => (i : Int)) k))) (fun _ i _ => n - (intOf i).toNat)
  case atStart => exact ⟨0, by omega, rfl, Below.refl _ _, OwnI.nil _ _⟩
  case round =>
    obtain ⟨k, hk, rfl, hB, ho⟩ := hrel
    by_cases hlt : k < n
    · have hle := selI_le (canB Y m X n flat) (fun i => (i : Int)) k
      have KP := putFlat_impl b1 o1 m c1 b off n cap Y X S flat k wr (HR.out.below hB hbb) hm1 hlc1 (H.out.below hB) HL.out hm hlc hlt HLO.out
      obtain ⟨r, hr⟩ : ∃ r, canB Y m X n flat k = r := ⟨_, rfl⟩
      rw [hr] at KP
      have HC := hid hr
      clear hr
      cases r with
      | false =>
        go_wp2_with fail
        refine KP.mono ?_
        rintro e w2 ⟨v, P, rfl, hop, _, hb2⟩
        have hv : ∃ a l c, v = .slice a l c := by rcases hop.form with ⟨rfl, _⟩ | ⟨g, cp, rfl, _⟩ <;> exact ⟨_, _, _, rfl⟩
        obtain ⟨va, vl, vc, rfl⟩ := hv
        have B2 := Below.on hB hB.size hb2
        have ho2 := hid (ho.out.below hb2)
        clear hop
        go_wp2_with fail
        go_roundw
        case rel => exact ⟨k + 1, by omega, by go_num, B2, by rw [selI_no HC.out]; exact ho2⟩
        case measure => simp [intOf]; omega
      | true =>
        go_wp2_with fail
        refine KP.mono ?_
        rintro e w2 ⟨v, P, rfl, hop, _, hb2⟩
        have hv : ∃ a l c, v = .slice a l c := by rcases hop.form with ⟨rfl, _⟩ | ⟨g, cp, rfl, _⟩ <;> exact ⟨_, _, _, rfl⟩
        obtain ⟨va, vl, vc, rfl⟩ := hv
        have B2 := Below.on hB hB.size hb2
        have hoq := hid (ho.out.below hb2)
        clear hop hb2
        go_wp2_with (at_builtin; refine wpList_append_own_at _ rfl _ _ 24 rfl w.heap.size 3 i0 (.int .i64 0) 1 8 Try.underlying24 hi hz0 hz1 hz2 rfl (by decide) _ _ _ rfl (World.ownsRow.alloc hoq.out _) ⟨w2.heap.size, 0, none⟩ 1 1 [.int .i64 (k : Int)] rfl rfl ?c1 ?c2 ?c3 ?c4 ?c5 ?_)
        case c1 => exact cell_one_new _ _ _
        case c2 => intro u hu; simp at hu; subst hu; rfl
        case c3 => unfold maxLen; omega
        case c4 => omega
        case c5 => have := B2.size; simp; omega
        · intro v' w3 hown' hgrow _ _
          have hb2 : Below w.heap.size w w3 := (B2.alloc B2.size _).grown hgrow (by have := B2.size; simp; omega) (fun g hg => by have := (World.ownsRow.lt hoq.out g hg).1; omega)
          have ho2 : Hid (OwnI w.heap.size w3 v' (selI (canB Y m X n flat) (fun i => (i : Int)) (k + 1))) := by
            rw [selI_yes HC.out]
            unfold Hid OwnI
            simpa using hown'
          clear hown' hgrow
          go_wp2_with fail
          go_roundw
          case rel => exact ⟨k + 1, by omega, by go_num, hb2, ho2⟩
          case measure => simp [intOf]; omega
    · obtain rfl : k = n := by omega
      go_wp2_with fail
      go_ret
      exact ⟨_, rfl, ho.out, hB⟩

set_option maxRecDepth 100000 in
set_option maxHeartbeats 4000000 in
theorem df_impl (b1 o1 m c1 b off n cap : Nat) (Y : Nat → FlatD) (X : Nat → DrawerD) (S : Nat → Value) (flat : Int) (w : World) (h1 : Rw w b1 o1 4 m (fun i => (Y i).cells)) (hm1 : m ≤ 1048576) (hlc1 : m ≤ c1) (h : Drs w b off n X S) (hL : ∀ i, i < n → (X i).Flats.length ≤ 1048576) (hm : n ≤ 1048576) (hlc : n ≤ cap) :
    Calls Try.prog 47 #[.slice (some ⟨b1, o1, none⟩) m c1, .slice (some ⟨b, off, none⟩) n cap, .int .i64 flat] w (RetIB (dfL Y m X n flat) (looseB Y m X n flat) w) := by
  obtain ⟨i0, hi, hz0, hz1, hz2⟩ := info_parts info_int
  have hbb := h1.1
  have hb := h.rw.1
  have KL := isLoose_impl b1 o1 m c1 b off n cap Y X S flat w h1 hm1 hlc1 h hL hm hlc
  have HR := hid h1
  have H := hid h
  have HL := hid hL
  clear h1 h hL
  obtain ⟨R, hR⟩ : ∃ R, looseB Y m X n flat = R := ⟨_, rfl⟩
  have hL : Hid (dfL Y m X n flat = if R = true then dfI Y m X n flat else []) := by unfold Hid dfL; rw [hR]
  rw [hR]
  have HRR := hid hR
  clear hR
  rw [HRR.out] at KL
  cases R with
  | false =>
    go_enter Try.func47, Try.ntmps47
    go_wp2_with fail
    refine KL.mono ?_
    rintro e w1 ⟨rfl, B1⟩
    go_wp2_with fail
    go_ret2
    exact ⟨_, rfl, by rw [hL.out]; exact OwnI.nil _ _, B1⟩
  | true =>
    go_enter Try.func47, Try.ntmps47
    go_wp2_with fail
    refine KL.mono ?_
    rintro e w1 ⟨rfl, B1⟩
    have KK := dfK_impl b1 o1 m c1 b off n cap Y X S flat w1 (HR.out.below B1 hbb) hm1 hlc1 (H.out.below B1) HL.out hm hlc HRR.out
    go_wp2_with fail
    refine KK.mono ?_
    rintro e w2 ⟨v, rfl, ho, hb2⟩
    have B2 := Below.on B1 B1.size hb2
    have hres : Hid (dfL Y m X n flat = (dfK Y m X n flat).map (fun x => (X x.toNat).Id)) := by
      have h9 : dfL Y m X n flat = dfI Y m X n flat := by rw [hL.out]; simp
      exact h9.trans (dfK_map _ (fun i => (X i).Id) n).symm
    have hKl : (dfK Y m X n flat).length ≤ n := selI_le _ _ _
    have hKat : Hid (∀ j, j < (dfK Y m X n flat).length → ∃ k, k < n ∧ (dfK Y m X n flat).getD j 0 = (k : Int) ∧ canB Y m X n flat k = true) := fun j hj => dfK_at hj
    obtain ⟨K, hK⟩ : ∃ K, dfK Y m X n flat = K := ⟨_, rfl⟩
    rw [hK] at ho hres hKl hKat
    clear hK KK KL
    rcases ho.form with ⟨rfl, rfl⟩ | ⟨g, cp, rfl, _, hg, hc, _, hcell, _⟩
    · clear ho
      go_wp2_with fail
      refine wp_loop_rounds 1 ?_
      rw [rounds_succ]
      go_wp2_with fail
      go_ret2
      exact ⟨_, rfl, by rw [hres.out]; exact OwnI.nil _ _, B2⟩
    · clear ho
      obtain ⟨N, hN⟩ : ∃ N, K.length = N := ⟨_, rfl⟩
      have HC : Hid (∀ j, j < N → w2.cell? ⟨g, j, none⟩ = some (.int .i64 (K.getD j 0))) := fun j hj => hcell j (by omega)
      have HN := hid hN
      rw [hN] at hc hKl ⊢
      clear hcell hN
      go_wp2_with fail
      go_loopw [8, 21] (fun v i wr => ∃ j : Nat, j ≤ N ∧ i = .int .i64 j ∧ Below w2.heap.size w2 wr ∧ Hid (OwnI w2.heap.size wr v ((K.take j).map (fun x => (X x.toNat).Id)))) (fun _ i _ => N - (intOf i).toNat)
      case atStart => exact ⟨0, by omega, rfl, Below.refl _ _, OwnI.nil _ _⟩
      case round =>
        obtain ⟨j, hj, rfl, hC, ho⟩ := hrel
        have hB := Below.on B2 B2.size hC
        by_cases hlt : j < N
        · obtain ⟨k, hk, hkj, _⟩ := hKat.out j (by rw [HN.out]; exact hlt)
          have hnew : Hid ((K.take (j + 1)).map (fun x => (X x.toNat).Id) = (K.take j).map (fun x => (X x.toNat).Id) ++ [(X k).Id]) := by
            unfold Hid
            rw [take_next K _ (by rw [HN.out]; exact hlt), hkj, Int.toNat_natCast]
          have hle : ((K.take j).map (fun x => (X x.toNat).Id)).length ≤ j := by simp; omega
          have c0 : wr.cell? ⟨g, j, none⟩ = some (.int .i64 (k : Int)) := by rw [← hkj]; exact (hC.cell hg).trans (HC.out j hlt)
          have c1 : wr.cell? ⟨b, off + k * 5, none⟩ = some (.int .i64 (X k).Id) := (hB.cell hb).trans (H.out.rw.2 k hk 0 (by omega))
          have e1 : (0 : Int) ≤ (k : Int) := by omega
          have e2 : (k : Int) < (n : Int) := by omega
          have e3 : (0 : Int) ≤ (j : Int) := by omega
          have e4 : (j : Int) < (N : Int) := by omega
          clear hkj
          go_wp2_with (at_builtin; refine wpList_append_own_at _ rfl _ _ 24 rfl w2.heap.size 3 i0 (.int .i64 0) 1 8 Try.underlying24 hi hz0 hz1 hz2 rfl (by decide) _ _ _ rfl (World.ownsRow.alloc ho.out _) ⟨wr.heap.size, 0, none⟩ 1 1 [.int .i64 (X k).Id] rfl rfl ?c1 ?c2 ?c3 ?c4 ?c5 ?_)
          case c1 => exact cell_one_new _ _ _
          case c2 => intro u hu; simp at hu; subst hu; rfl
          case c3 => unfold maxLen; omega
          case c4 => omega
          case c5 => have := hC.size; simp; omega
          · intro v' w3 hown' hgrow _ _
            have hb2 : Below w2.heap.size w2 w3 := (hC.alloc hC.size _).grown hgrow (by have := hC.size; simp; omega) (fun g hg => by have := (World.ownsRow.lt ho.out g hg).1; omega)
            have ho2 : Hid (OwnI w2.heap.size w3 v' ((K.take (j + 1)).map (fun x => (X x.toNat).Id))) := by
              rw [hnew.out]
              unfold Hid OwnI
              simpa using hown'
            clear hown' hgrow
            go_wp2_with fail
            go_roundw
            case rel => exact ⟨j + 1, by omega, by go_num, hb2, ho2⟩
            case measure => simp [intOf]; omega
        · obtain rfl : j = N := by omega
          have hall : Hid (K.take j = K) := List.take_of_length_le (by rw [HN.out]; exact Nat.le_refl _)
          go_wp2_with fail
          go_ret2
          exact ⟨_, rfl, by have := ho.out; rw [hall.out] at this; rw [hres.out]; exact this.base B2.size, hB⟩

end Go.Proofs.Ytejpmomedclnhaa
