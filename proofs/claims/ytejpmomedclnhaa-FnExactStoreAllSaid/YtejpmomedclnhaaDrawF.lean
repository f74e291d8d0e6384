/-
  The drawers for a flat, by the reference. No condition.
-/
import Derived.Test.YtejpmomedclnhaaDrawQ2
namespace Go.Proofs.Ytejpmomedclnhaa
open Go.RowKit
set_option linter.unusedVariables false

/-- The ids of the drawers into which a flat can be put. -/
def dfK (Y : Nat → FlatD) (m : Nat) (X : Nat → DrawerD) (n : Nat) (flat : Int) : List Int := selI (canB Y m X n flat) (fun i => (i : Int)) n
def dfI (Y : Nat → FlatD) (m : Nat) (X : Nat → DrawerD) (n : Nat) (flat : Int) : List Int := selI (canB Y m X n flat) (fun i => (X i).Id) n
def dfL (Y : Nat → FlatD) (m : Nat) (X : Nat → DrawerD) (n : Nat) (flat : Int) : List Int := if looseB Y m X n flat = true then dfI Y m X n flat else []
theorem dfL_le (Y : Nat → FlatD) (m : Nat) (X : Nat → DrawerD) (n : Nat) (flat : Int) : (dfL Y m X n flat).length ≤ n := by unfold dfL; split; exact selI_le _ _ _; exact Nat.zero_le _
theorem dAt_self {Y : Nat → FlatD} {m : Nat} {X : Nat → DrawerD} {n k : Nat} (h : goodB Y m X n = true) (hk : k < n) : dAt X n (X k).Id = (k : Int) := by
  rcases dAt_cases X n (X k).Id with h1 | ⟨j, hj, h1, h2⟩
  · have := findI_none h1 k hk
    simp at this
  · rw [h1, goodB_inj h hj hk h2]
theorem pf_self {Y : Nat → FlatD} {m : Nat} {X : Nat → DrawerD} {n k : Nat} {flat : Int} (h : looseB Y m X n flat = true) (hk : k < n) : pfOk Y m X n flat (X k).Id = canB Y m X n flat k := pf_at h (dAt_self (looseB_good h) hk)
theorem dfK_at {p : Nat → Bool} : ∀ {n j : Nat}, j < (selI p (fun i => (i : Int)) n).length → ∃ k, k < n ∧ (selI p (fun i => (i : Int)) n).getD j 0 = (k : Int) ∧ p k = true
  | 0, j, h => absurd h (by simp [selI])
  | n + 1, j, h => by
    by_cases hp : p n = true
    · rw [selI_yes hp] at h ⊢
      by_cases hj : j < (selI p (fun i => (i : Int)) n).length
      · obtain ⟨k, h1, h2, h3⟩ := dfK_at hj
        exact ⟨k, by omega, by rw [← h2]; simp [List.getD, List.getElem?_append_left hj], h3⟩
      · have : j = (selI p (fun i => (i : Int)) n).length := by simp at h; omega
        subst this
        exact ⟨n, by omega, by simp [List.getD], hp⟩
    · have hp : p n = false := by simpa using hp
      rw [selI_no hp] at h ⊢
      obtain ⟨k, h1, h2, h3⟩ := dfK_at h
      exact ⟨k, by omega, h2, h3⟩
theorem dfK_map (p : Nat → Bool) (f : Nat → Int) (n : Nat) : (selI p (fun i => (i : Int)) n).map (fun x => f x.toNat) = selI p f n := by
  unfold selI
  rw [List.map_map]
  exact List.map_congr_left fun i _ => by simp
theorem take_next (L : List Int) (f : Int → Int) {j : Nat} (h : j < L.length) : (L.take (j + 1)).map f = (L.take j).map f ++ [f (L.getD j 0)] := by
  rw [List.take_add_one, List.map_append]
  simp [List.getD, h]

set_option maxRecDepth 100000 in
set_option maxHeartbeats 4000000 in
theorem df_spec (b1 o1 m c1 b off n cap : Nat) (Y : Nat → FlatD) (X : Nat → DrawerD) (S : Nat → Value) (flat : Int) (w : World) (h1 : Rw w b1 o1 4 m (fun i => (Y i).cells)) (hm1 : m ≤ 1048576) (hlc1 : m ≤ c1) (h : Drs w b off n X S) (hL : ∀ i, i < n → (X i).Flats.length ≤ 1048576) (hm : n ≤ 1048576) (hlc : n ≤ cap) :
    Calls Try.prog 46 #[.slice (some ⟨b1, o1, none⟩) m c1, .slice (some ⟨b, off, none⟩) n cap, .int .i64 flat] w (RetIB (dfL Y m X n flat) (looseB Y m X n flat) w) := by
  obtain ⟨i0, hi, hz0, hz1, hz2⟩ := info_parts info_int
  have hE := hid (ownI_empty w)
  have hA : Below w.heap.size w (w.alloc (.cells #[] 3)) := by go_grown
  have hbb := h1.1
  have hb := h.rw.1
  have KG : Calls Try.prog 60 #[.slice (some ⟨b1, o1, none⟩) m c1, .slice (some ⟨b, off, none⟩) n cap] (w.alloc (.cells #[] 3)) fun e w'' => e = .returned (.bool (goodB Y m X n)) ∧ Below (w.alloc (.cells #[] 3)).heap.size (w.alloc (.cells #[] 3)) w'' := good_spec b1 o1 m c1 b off n cap Y X S _ (h1.below hA hbb) hm1 hlc1 (h.below hA) hL hm hlc
  have HR := hid h1
  have H := hid h
  have HL := hid hL
  clear h1 h hL
  obtain ⟨R, hR⟩ : ∃ R, looseB Y m X n flat = R := ⟨_, rfl⟩
  have hL : Hid (dfL Y m X n flat = if R = true then dfI Y m X n flat else []) := by unfold Hid dfL; rw [hR]
  rw [hR]
  have HRR := hid hR
  clear hR
  obtain ⟨r, hr⟩ : ∃ r, goodB Y m X n = r := ⟨_, rfl⟩
  rw [hr] at KG
  have HG := hid hr
  clear hr
  cases r with
  | false =>
    have hno : Hid (R = false) := HRR.out.symm.trans (loose_no1 HG.out)
    go_enter Try.func46, Try.ntmps46
    go_wp2_with fail
    refine KG.mono ?_
    rintro e w1 ⟨rfl, hb1⟩
    have B1 := Below.on hA hA.size hb1
    have ho1 := hid (hE.out.below hb1)
    go_wp2_with fail
    go_ret2
    exact ⟨_, by rw [hno.out]; rfl, by rw [hL.out, hno.out]; exact ho1.out, B1⟩
  | true =>
    rcases fAt_cases Y m flat with hf | ⟨i, hii, hf, hid1⟩
    · have HF := hid hf
      clear hf
      have hno : Hid (R = false) := HRR.out.symm.trans (loose_no2 HF.out)
      go_enter Try.func46, Try.ntmps46
      go_wp2_with fail
      refine KG.mono ?_
      rintro e w1 ⟨rfl, hb1⟩
      have B1 := Below.on hA hA.size hb1
      have ho1 := hid (hE.out.below hb1)
      have KF : Calls Try.prog 67 #[.slice (some ⟨b1, o1, none⟩) m c1, .int .i64 flat] w1 fun e w' => e = .returned (.int .i64 (fAt Y m flat)) ∧ w1 = w' := flatFind_spec w1 b1 o1 m c1 Y flat (HR.out.below B1 hbb) hm1 hlc1
      rw [HF.out] at KF
      go_wp2_with fail
      refine KF.mono ?_
      rintro e w' ⟨rfl, rfl⟩
      go_wp2_with fail
      go_ret2
      exact ⟨_, by rw [hno.out]; rfl, by rw [hL.out, hno.out]; exact ho1.out, B1⟩
    · clear hid1
      have HF := hid hf
      clear hf
      have e7 : decide ((i : Int) < 0) = false := by simp
      rcases whereI_cases X n flat with hw | ⟨t, ht, hw⟩
      · have HW := hid hw
        clear hw
        have HLO := hid (loose_yes HG.out HF.out HW.out)
        have hyes : Hid (R = true) := HRR.out.symm.trans HLO.out
        go_enter Try.func46, Try.ntmps46
        go_wp2_with fail
        refine KG.mono ?_
        rintro e w1 ⟨rfl, hb1⟩
        have B1 := Below.on hA hA.size hb1
        have ho1 := hid (hE.out.below hb1)
        have KF : Calls Try.prog 67 #[.slice (some ⟨b1, o1, none⟩) m c1, .int .i64 flat] w1 fun e w' => e = .returned (.int .i64 (fAt Y m flat)) ∧ w1 = w' := flatFind_spec w1 b1 o1 m c1 Y flat (HR.out.below B1 hbb) hm1 hlc1
        rw [HF.out] at KF
        go_wp2_with fail
        refine KF.mono ?_
        rintro e w' ⟨rfl, rfl⟩
        have KW := where_spec b off n cap X S flat w1 (H.out.below B1) HL.out hm hlc
        rw [HW.out] at KW
        go_wp2_with fail
        refine KW.mono ?_
        rintro e w' ⟨rfl, rfl⟩
        go_wp2_with fail
        go_loopw [8, 9] (fun v i wr => ∃ k : Nat, k ≤ n ∧ i = .int .i64 k ∧ Below w.heap.size w wr ∧ Hid (OwnI w.heap.size wr v (selI (canB Y m X n flat) (fun i => (X i).Id) k))) (fun _ i _ => n - (intOf i).toNat)
        case atStart => exact ⟨0, by omega, rfl, B1, ho1⟩
        case round =>
          clear hb1 B1 ho1 hA
          obtain ⟨k, hk, rfl, hB, ho⟩ := hrel
          by_cases hlt : k < n
          · have hle := selI_le (canB Y m X n flat) (fun i => (X i).Id) k
            have c0 : wr.cell? ⟨b, off + k * 5, none⟩ = some (.int .i64 (X k).Id) := (hB.cell hb).trans (H.out.rw.2 k hlt 0 (by omega))
            have KP := pf_spec b1 o1 m c1 b off n cap Y X S flat (X k).Id wr (HR.out.below hB hbb) hm1 hlc1 (H.out.below hB) HL.out hm hlc
            rw [pf_self HLO.out hlt] at KP
            obtain ⟨r, hr⟩ : ∃ r, canB Y m X n flat k = r := ⟨_, rfl⟩
            rw [hr] at KP
            have HC := hid hr
            clear hr
            cases r with
            | false =>
              go_wp2_with fail
              refine KP.mono ?_
              rintro e w2 ⟨v, P, rfl, hop, _, hb2⟩
              have hv : ∃ a l c, v = .slice a l c := by rcases hop.form with ⟨rfl, _⟩ | ⟨g, cp, rfl, _⟩ <;> exact ⟨_, _, _, rfl⟩
              obtain ⟨va, vl, vc, rfl⟩ := hv
              have B2 := Below.on hB hB.size hb2
              have ho2 := hid (ho.out.below hb2)
              clear hop
              go_wp2_with fail
              go_roundw
              case rel => exact ⟨k + 1, by omega, by go_num, B2, by rw [selI_no HC.out]; exact ho2⟩
              case measure => simp [intOf]; omega
            | true =>
              go_wp2_with fail
              refine KP.mono ?_
              rintro e w2 ⟨v, P, rfl, hop, _, hb2⟩
              have hv : ∃ a l c, v = .slice a l c := by rcases hop.form with ⟨rfl, _⟩ | ⟨g, cp, rfl, _⟩ <;> exact ⟨_, _, _, rfl⟩
              obtain ⟨va, vl, vc, rfl⟩ := hv
              have B2 := Below.on hB hB.size hb2
              have hoq := hid (ho.out.below hb2)
              have d0 : w2.cell? ⟨b, off + k * 5, none⟩ = some (.int .i64 (X k).Id) := (B2.cell hb).trans (H.out.rw.2 k hlt 0 (by omega))
              clear hop c0 hb2
              go_wp2_with (at_builtin; refine wpList_append_own_at _ rfl _ _ 24 rfl w.heap.size 3 i0 (.int .i64 0) 1 8 Try.underlying24 hi hz0 hz1 hz2 rfl (by decide) _ _ _ rfl (World.ownsRow.alloc hoq.out _) ⟨w2.heap.size, 0, none⟩ 1 1 [.int .i64 (X k).Id] rfl rfl ?c1 ?c2 ?c3 ?c4 ?c5 ?_)
              case c1 => exact cell_one_new _ _ _
              case c2 => intro u hu; simp at hu; subst hu; rfl
              case c3 => unfold maxLen; omega
              case c4 => omega
              case c5 => have := B2.size; simp; omega
              · intro v' w3 hown' hgrow _ _
                have hb2 : Below w.heap.size w w3 := (B2.alloc B2.size _).grown hgrow (by have := B2.size; simp; omega) (fun g hg => by have := (World.ownsRow.lt hoq.out g hg).1; omega)
                have ho2 : Hid (OwnI w.heap.size w3 v' (selI (canB Y m X n flat) (fun i => (X i).Id) (k + 1))) := by
                  rw [selI_yes HC.out]
                  unfold Hid OwnI
                  simpa using hown'
                clear hown' hgrow
                go_wp2_with fail
                go_roundw
                case rel => exact ⟨k + 1, by omega, by go_num, hb2, ho2⟩
                case measure => simp [intOf]; omega
          · obtain rfl : k = n := by omega
            go_wp2_with fail
            go_ret2
            exact ⟨_, by rw [hyes.out]; rfl, by rw [hL.out, hyes.out]; exact ho.out, hB⟩
      · have HW := hid hw
        clear hw
        have hno : Hid (R = false) := HRR.out.symm.trans (loose_no3 HW.out)
        go_enter Try.func46, Try.ntmps46
        go_wp2_with fail
        refine KG.mono ?_
        rintro e w1 ⟨rfl, hb1⟩
        have B1 := Below.on hA hA.size hb1
        have ho1 := hid (hE.out.below hb1)
        have KF : Calls Try.prog 67 #[.slice (some ⟨b1, o1, none⟩) m c1, .int .i64 flat] w1 fun e w' => e = .returned (.int .i64 (fAt Y m flat)) ∧ w1 = w' := flatFind_spec w1 b1 o1 m c1 Y flat (HR.out.below B1 hbb) hm1 hlc1
        rw [HF.out] at KF
        go_wp2_with fail
        refine KF.mono ?_
        rintro e w' ⟨rfl, rfl⟩
        have KW := where_spec b off n cap X S flat w1 (H.out.below B1) HL.out hm hlc
        rw [HW.out] at KW
        go_wp2_with fail
        refine KW.mono ?_
        rintro e w' ⟨rfl, rfl⟩
        go_wp2_with fail
        go_ret2
        exact ⟨_, by rw [hno.out]; rfl, by rw [hL.out, hno.out]; exact ho1.out, B1⟩

end Go.Proofs.Ytejpmomedclnhaa
