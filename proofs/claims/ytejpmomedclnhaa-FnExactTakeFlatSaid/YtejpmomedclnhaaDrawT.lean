/-
  A flat taken out of a drawer, by the reference. No condition.
-/
import Derived.Test.YtejpmomedclnhaaDrawQ2
import Derived.Test.YtejpmomedclnhaaDelInt
namespace Go.Proofs.Ytejpmomedclnhaa
open Go.RowKit
set_option linter.unusedVariables false

/-- The drawers, a flat taken out of drawer k. -/
def tkF (X : Nat → DrawerD) (k : Nat) (flat : Int) : List Int := (X k).Flats.filter (fun s => !(s == flat))
def tkX (X : Nat → DrawerD) (k : Nat) (flat : Int) : Nat → DrawerD := wX X (k : Int) (tkF X k flat)
def tfOk (Y : Nat → FlatD) (m : Nat) (X : Nat → DrawerD) (n : Nat) (flat : Int) : Bool := goodB Y m X n && decide (0 ≤ whereI X n flat)
theorem tf_no {Y : Nat → FlatD} {m : Nat} {X : Nat → DrawerD} {n : Nat} {flat : Int} (h : goodB Y m X n = false) : tfOk Y m X n flat = false := by unfold tfOk; rw [h]; rfl
theorem tf_none {Y : Nat → FlatD} {m : Nat} {X : Nat → DrawerD} {n : Nat} {flat : Int} (h : whereI X n flat = -1) : tfOk Y m X n flat = false := by unfold tfOk; rw [h]; simp
theorem tf_yes {Y : Nat → FlatD} {m : Nat} {X : Nat → DrawerD} {n t : Nat} {flat : Int} (h : goodB Y m X n = true) (hj : whereI X n flat = (t : Int)) : tfOk Y m X n flat = true := by unfold tfOk; rw [h, hj]; simp
theorem tkF_le (X : Nat → DrawerD) (k : Nat) (flat : Int) : (tkF X k flat).length ≤ (X k).Flats.length := List.length_filter_le _ _
theorem keptI_all (pd : Int → Bool) (L : List Int) : keptI pd L L.length = L.filter (fun s => !pd s) := by unfold keptI; rw [List.take_length]
theorem keptI_le (pd : Int → Bool) (L : List Int) (k : Nat) : (keptI pd L k).length ≤ k := by unfold keptI; exact Nat.le_trans (List.length_filter_le _ _) (by simp; omega)
theorem tf_small (Y : Nat → FlatD) (m : Nat) (X : Nat → DrawerD) (n : Nat) (flat : Int) : (if tfOk Y m X n flat = true then n else 0) ≤ 8 ∧ ∀ i, i < (if tfOk Y m X n flat = true then n else 0) → (tkX X (whereI X n flat).toNat flat i).Flats.length ≤ 12 := by
  by_cases h : tfOk Y m X n flat = true
  · rw [if_pos h]
    have hg : goodB Y m X n = true := by simp [tfOk] at h; exact h.1
    refine ⟨goodB_le hg, fun i hi => ?_⟩
    unfold tkX wX
    have h1 := drawerB_len (goodB_drawer hg hi)
    split
    · rename_i e
      have e : i = (whereI X n flat).toNat := by omega
      have h2 := tkF_le X (whereI X n flat).toNat flat
      show (tkF X (whereI X n flat).toNat flat).length ≤ 12
      rw [← e] at h2 ⊢
      omega
    · exact h1
  · rw [if_neg h]
    exact ⟨by omega, fun i hi => absurd hi (by omega)⟩
theorem OwnJ.of_pos {B : Nat} {w : World} {v : Value} {L : List Int} (h : OwnI B w v L) (h0 : 0 < L.length) : OwnJ B w v L := ⟨h, by obtain ⟨g, c, h2, _⟩ := World.ownsRow.form h h0; exact ⟨g, by rw [h2]; rfl⟩⟩
set_option maxHeartbeats 1000000 in
theorem take_1 (s flat : Int) (b1 : Nat) (w : World) (h1 : w.cell? ⟨b1, 0, none⟩ = some (.int .i64 flat)) : Calls Try.prog 80 #[.int .i64 s, .pointer (some ⟨b1, 0, none⟩)] w fun e w' => e = .returned (.bool (s == flat)) ∧ Below w.heap.size w w' := by
  go_enter Try.func80, Try.ntmps80
  go_wp2_with fail
  go_ret
  exact ⟨rfl, Below.refl _ _⟩

set_option maxRecDepth 100000 in
set_option maxHeartbeats 4000000 in
theorem take_spec (b1 o1 m c1 b off n cap : Nat) (Y : Nat → FlatD) (X : Nat → DrawerD) (S : Nat → Value) (flat : Int) (w : World) (h1 : Rw w b1 o1 4 m (fun i => (Y i).cells)) (hm1 : m ≤ 1048576) (hlc1 : m ≤ c1) (h : Drs w b off n X S) (hL : ∀ i, i < n → (X i).Flats.length ≤ 1048576) (hm : n ≤ 1048576) (hlc : n ≤ cap) :
    Calls Try.prog 41 #[.slice (some ⟨b1, o1, none⟩) m c1, .slice (some ⟨b, off, none⟩) n cap, .int .i64 flat] w (RetDB (tkX X (whereI X n flat).toNat flat) (if tfOk Y m X n flat = true then n else 0) (tfOk Y m X n flat) w) := by
  obtain ⟨i0, hi, hz0, hz1, hz2⟩ := info_parts info_int
  have hb1 := h1.1
  have hb := h.rw.1
  have KW := where_spec b off n cap X S flat w h hL hm hlc
  have KG : Calls Try.prog 60 #[.slice (some ⟨b1, o1, none⟩) m c1, .slice (some ⟨b, off, none⟩) n cap] w fun e w'' => e = .returned (.bool (goodB Y m X n)) ∧ Below w.heap.size w w'' := good_spec b1 o1 m c1 b off n cap Y X S w h1 hm1 hlc1 h hL hm hlc
  have HR := hid h1
  have H := hid h
  have HL := hid hL
  obtain ⟨R, hR⟩ : ∃ R, tfOk Y m X n flat = R := ⟨_, rfl⟩
  obtain ⟨nn, hnn⟩ : ∃ nn, (if R = true then n else 0) = nn := ⟨_, rfl⟩
  obtain ⟨XX, hXX⟩ : ∃ XX, tkX X (whereI X n flat).toNat flat = XX := ⟨_, rfl⟩
  rw [hR, hnn, hXX]
  have HRR := hid hR
  have HNN := hid hnn
  have HXX := hid hXX
  clear hR hnn hXX
  clear h1 h hL
  obtain ⟨r, hr⟩ : ∃ r, goodB Y m X n = r := ⟨_, rfl⟩
  rw [hr] at KG
  have HG := hid hr
  clear hr
  rcases whereI_cases X n flat with hw | ⟨t, ht, hw⟩
  · rw [hw] at KW
    have HW := hid hw
    clear hw
    have hno : Hid (R = false) := HRR.out.symm.trans (tf_none HW.out)
    cases r with
    | false =>
      go_enter Try.func41, Try.ntmps41
      go_wp2_with fail
      refine KW.mono ?_
      rintro e w' ⟨rfl, rfl⟩
      go_wp2_with fail
      refine KG.mono ?_
      rintro e w1 ⟨rfl, B1⟩
      have hE := hid (OwnP.empty w1)
      go_wp2_with fail
      go_ret2
      exact ⟨_, [], by rw [hno.out]; rfl, hE.out.base B1.size, by rw [← HNN.out, hno.out]; rfl, B1.alloc B1.size _⟩
    | true =>
      go_enter Try.func41, Try.ntmps41
      go_wp2_with fail
      refine KW.mono ?_
      rintro e w' ⟨rfl, rfl⟩
      go_wp2_with fail
      refine KG.mono ?_
      rintro e w1 ⟨rfl, B1⟩
      have hE := hid (OwnP.empty w1)
      go_wp2_with fail
      go_ret2
      exact ⟨_, [], by rw [hno.out]; rfl, hE.out.base B1.size, by rw [← HNN.out, hno.out]; rfl, B1.alloc B1.size _⟩
  · rw [hw] at KW
    have HW := hid hw
    clear hw
    have e4 : decide ((t : Int) < 0) = false := by simp
    have e5 : (0 : Int) ≤ (t : Int) := by omega
    have e6 : (t : Int) < (n : Int) := by omega
    cases r with
    | false =>
      have hno : Hid (R = false) := HRR.out.symm.trans (tf_no HG.out)
      go_enter Try.func41, Try.ntmps41
      go_wp2_with fail
      refine KW.mono ?_
      rintro e w' ⟨rfl, rfl⟩
      go_wp2_with fail
      refine KG.mono ?_
      rintro e w1 ⟨rfl, B1⟩
      have hE := hid (OwnP.empty w1)
      go_wp2_with fail
      go_ret2
      exact ⟨_, [], by rw [hno.out]; rfl, hE.out.base B1.size, by rw [← HNN.out, hno.out]; rfl, B1.alloc B1.size _⟩
    | true =>
      have hyes : Hid (R = true) := HRR.out.symm.trans (tf_yes HG.out HW.out)
      have hX : Hid (tkX X t flat = XX) := by unfold Hid; rw [← HXX.out, HW.out, Int.toNat_natCast]
      have hFL := HL.out t ht
      obtain ⟨a, cp, hS, hcc, g, o, rfl, hgl, hcell⟩ := H.out.has t ht
      obtain ⟨f, hf⟩ : ∃ f : Nat → Int, ∀ k, (X t).Flats.getD k 0 = f k := ⟨_, fun _ => rfl⟩
      obtain ⟨nf, hnf⟩ : ∃ nf, (X t).Flats.length = nf := ⟨_, rfl⟩
      have x4 : w.cell? ⟨b, off + t * 5 + 4, none⟩ = some (.slice (some ⟨g, o, none⟩) nf cp) := by rw [← hnf, ← hS]; exact H.out.rw.2 t ht 4 (by omega)
      have HC : Hid (∀ k, k < nf → w.cell? ⟨g, o + k, none⟩ = some (.int .i64 (f k))) := fun k hk => by rw [← hf]; exact hcell k (by omega)
      rw [hnf] at hcc hFL
      have HF := hid hf
      have HN := hid hnf
      have hk0 : Hid (keptI (fun s => s == flat) (X t).Flats 0 = []) := by simp [Hid, keptI]
      clear hf hnf hcell hS
      go_enter Try.func41, Try.ntmps41
      go_wp2_with fail
      refine KW.mono ?_
      rintro e w' ⟨rfl, rfl⟩
      go_wp2_with fail
      refine KG.mono ?_
      rintro e w1 ⟨rfl, B1⟩
      have hE := hid (ownI_empty w1)
      have hA : Below w1.heap.size w1 (w1.alloc (.cells #[] 3)) := by go_grown
      go_wp2_with fail
      go_loopw [9, 10] (fun v i wr => ∃ (k : Nat) (V : Value), k ≤ nf ∧ V = v ∧ i = .int .i64 k ∧ Below w.heap.size w wr ∧ Hid (OwnJ w.heap.size wr V (keptI (fun s => s == flat) (X t).Flats k))) (fun _ i _ => nf - (intOf i).toNat)
      case atStart => exact ⟨0, _, by omega, rfl, rfl, Below.on B1 B1.size hA, by rw [hk0.out]; exact ⟨hE.out.base B1.size, _, rfl⟩⟩
      case round =>
        clear B1 hE hA
        obtain ⟨k, V, hk, rfl, rfl, hB, ho⟩ := hrel
        have y4 : wr.cell? ⟨b, off + t * 5 + 4, none⟩ = some (.slice (some ⟨g, o, none⟩) nf cp) := (hB.cell hb).trans x4
        by_cases hlt : k < nf
        · have hle := keptI_le (fun s => s == flat) (X t).Flats k
          obtain ⟨s, hs⟩ : ∃ s, f k = s := ⟨_, rfl⟩
          have c0 : wr.cell? ⟨g, o + k, none⟩ = some (.int .i64 s) := by rw [← hs]; exact (hB.cell hgl).trans (HC.out k hlt)
          have z1 : (0 : Int) ≤ (k : Int) := by omega
          have z2 : (k : Int) < (nf : Int) := by omega
          have hgs : Hid ((X t).Flats.getD k 0 = s) := by unfold Hid; rw [HF.out]; exact hs
          by_cases hq : s = flat
          · have hkp : Hid (keptI (fun s => s == flat) (X t).Flats (k + 1) = keptI (fun s => s == flat) (X t).Flats k) := keptI_yes (by rw [HN.out]; exact hlt) (by rw [hgs.out, hq]; simp)
            have d1 : (s == flat) = true := by simp [hq]
            have d2 : (s != flat) = false := by simp [hq]
            clear hs hq hle
            go_wp2_with fail
            go_roundw
            case rel => exact ⟨k + 1, _, by omega, rfl, by go_num, hB, by rw [hkp.out]; exact ho.out⟩
            case measure => simp [intOf]; omega
          · have hkp : Hid (keptI (fun s => s == flat) (X t).Flats (k + 1) = keptI (fun s => s == flat) (X t).Flats k ++ [s]) := by
              have := keptI_no (pd := fun s => s == flat) (L := (X t).Flats) (j := k) (by rw [HN.out]; exact hlt) (by rw [hgs.out]; simp [hq])
              rw [hgs.out] at this
              exact this
            have d1 : (s == flat) = false := by simp [hq]
            have d2 : (s != flat) = true := by simp [hq]
            have ho1 := hid ho.out.1
            clear hs hq
            go_wp2_with (at_builtin; refine wpList_append_own_at _ rfl _ _ 24 rfl w.heap.size 3 i0 (.int .i64 0) 1 8 Try.underlying24 hi hz0 hz1 hz2 rfl (by decide) _ _ _ rfl (World.ownsRow.alloc ho1.out _) ⟨wr.heap.size, 0, none⟩ 1 1 [.int .i64 s] rfl rfl ?c1 ?c2 ?c3 ?c4 ?c5 ?_)
            case c1 => exact cell_one_new _ _ _
            case c2 => intro u hu; simp at hu; subst hu; rfl
            case c3 => unfold maxLen; omega
            case c4 => omega
            case c5 => have := hB.size; simp; omega
            · intro v' w2 hown' hgrow _ _
              have hb2 : Below w.heap.size w w2 := (hB.alloc hB.size _).grown hgrow (by have := hB.size; simp; omega) (fun g hg => by have := (World.ownsRow.lt ho1.out g hg).1; omega)
              have ho2 : Hid (OwnI w.heap.size w2 v' (keptI (fun s => s == flat) (X t).Flats (k + 1))) := by
                rw [hkp.out]
                unfold Hid OwnI
                simpa using hown'
              clear hown' hgrow
              go_wp2_with fail
              go_roundw
              case rel => exact ⟨k + 1, _, by omega, rfl, by go_num, hb2, OwnJ.of_pos ho2.out (by rw [hkp.out]; simp)⟩
              case measure => simp [intOf]; omega
        · obtain rfl : k = nf := by omega
          have hall : Hid (keptI (fun s => s == flat) (X t).Flats k = tkF X t flat) := by unfold Hid tkF; rw [← HN.out]; exact keptI_all _ _
          have KX := with_spec wr b off n cap X S (t : Int) V (tkF X t flat) (H.out.below hB) HL.out hm hlc (by rw [← hall.out]; exact ho.out.has) (by have := tkF_le X t flat; have := HN.out; omega)
          go_wp2_with fail
          refine KX.mono ?_
          rintro e w3 ⟨u, P, rfl, ho3, hP, hb3⟩
          have HO := hid ho3
          have HP := hid hP
          have hv : ∃ a l c, u = .slice a l c := by rcases ho3.form with ⟨rfl, _⟩ | ⟨g, cp, rfl, _⟩ <;> exact ⟨_, _, _, rfl⟩
          obtain ⟨va, vl, vc, rfl⟩ := hv
          clear ho3 hP
          go_wp2_with fail
          go_ret2
          exact ⟨_, P, by rw [hyes.out]; rfl, HO.out.base hB.size, by rw [← HNN.out, hyes.out, ← hX.out]; exact HP.out, Below.on hB hB.size hb3⟩

end Go.Proofs.Ytejpmomedclnhaa
