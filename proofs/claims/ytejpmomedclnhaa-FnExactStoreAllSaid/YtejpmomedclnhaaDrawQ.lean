/-
  A flat put into a drawer. No condition.
-/
import Derived.Test.YtejpmomedclnhaaPut
namespace Go.Proofs.Ytejpmomedclnhaa
open Go.RowKit
set_option linter.unusedVariables false

theorem Drs.congr {w : World} {b off n : Nat} {X X' : Nat → DrawerD} {S : Nat → Value} (h : Drs w b off n X S) (hX : ∀ i, i < n → X i = X' i) : Drs w b off n X' S := ⟨⟨h.rw.1, fun i hi j hj => by show _ = ((X' i).cells (S i))[j]?; rw [← hX i hi]; exact h.rw.2 i hi j hj⟩, fun i hi => by rw [← hX i hi]; exact h.has i hi⟩
theorem ris_step {L : List Int} (h : risB L = true) {i : Nat} (hi : i + 1 < L.length) : L.getD i 0 < L.getD (i + 1) 0 := by
  have := allI_true.1 h (i + 1) hi
  simp only [risOk, Bool.and_eq_true, Bool.or_eq_true, decide_eq_true_eq] at this
  rcases this.2 with h2 | h2
  · simp at h2
  · exact h2
theorem ris_lt {L : List Int} (h : risB L = true) : ∀ {j i : Nat}, i < j → j < L.length → L.getD i 0 < L.getD j 0
  | j + 1, i, h1, h2 => by
    have s := ris_step h h2
    by_cases e : i = j
    · subst e; exact s
    · have := ris_lt h (j := j) (i := i) (by omega) (by omega); omega
theorem ris_sorted {L : List Int} (h : risB L = true) : L.Pairwise (· ≤ ·) := by
  rw [List.pairwise_iff_getElem]
  intro i j hi hj hij
  have := ris_lt h hij hj
  simp [List.getD, hi, hj] at this
  omega
theorem drawerB_ris {d : DrawerD} (h : drawerB d = true) : risB d.Flats = true := by simp [drawerB] at h; exact h.2
theorem search_int (w : World) (v : Value) (L : List Int) (x : Int) (h : HasI w v L) (hL : L.length ≤ 1048576) (hs : L.Pairwise (· ≤ ·)) : Calls Try.prog 107 #[v, .int .i64 x] w fun e w' => ∃ b, e = .returned (.tuple #[.int .i64 (cutI x L : Nat), .bool b]) ∧ Below w.heap.size w w' := by
  obtain ⟨a, cap, rfl, hc, g, off, rfl, hg, hcell⟩ := h
  refine (Try.slices_BinarySearch_int g off L.length cap L x w (Nat.le_refl _) (by omega) hcell (by rw [List.take_length]; exact hs)).mono ?_
  rintro e w' ⟨rfl, q, rfl⟩
  exact ⟨(L.take L.length).contains x, by rw [List.take_length, cutI_count hs], below_drewN (Below.refl _ _) q⟩
/-- The drawers, a flat put into drawer k. -/
def putX (X : Nat → DrawerD) (k : Nat) (flat : Int) : Nat → DrawerD := wX X (k : Int) (insI flat (X k).Flats)
theorem putX_len {X : Nat → DrawerD} {k n : Nat} {flat : Int} (hL : ∀ i, i < n → (X i).Flats.length ≤ 1048576) (hk : (X k).Flats.length ≤ 12) : ∀ i, i < n → (putX X k flat i).Flats.length ≤ 1048576 := by
  intro i hi
  unfold putX wX
  split
  · show (insI flat (X k).Flats).length ≤ _
    rw [insI_len]; omega
  · exact hL i hi
/-- Flats and drawers are right, and the flat is there and in no drawer. -/
def looseB (Y : Nat → FlatD) (m : Nat) (X : Nat → DrawerD) (n : Nat) (flat : Int) : Bool := goodB Y m X n && decide (0 ≤ fAt Y m flat) && decide (whereI X n flat < 0)
/-- A flat can be put into drawer k. -/
def canB (Y : Nat → FlatD) (m : Nat) (X : Nat → DrawerD) (n : Nat) (flat : Int) (k : Nat) : Bool := goodB Y m (putX X k flat) n
def pfOk (Y : Nat → FlatD) (m : Nat) (X : Nat → DrawerD) (n : Nat) (flat id : Int) : Bool := looseB Y m X n flat && decide (0 ≤ dAt X n id) && canB Y m X n flat (dAt X n id).toNat
theorem looseB_good {Y : Nat → FlatD} {m : Nat} {X : Nat → DrawerD} {n : Nat} {flat : Int} (h : looseB Y m X n flat = true) : goodB Y m X n = true := by simp [looseB] at h; exact h.1.1
theorem looseB_where {Y : Nat → FlatD} {m : Nat} {X : Nat → DrawerD} {n : Nat} {flat : Int} (h : looseB Y m X n flat = true) : whereI X n flat = -1 := by
  simp [looseB] at h
  rcases whereI_cases X n flat with h1 | ⟨j, _, h1⟩
  · exact h1
  · omega
theorem looseB_not {Y : Nat → FlatD} {m : Nat} {X : Nat → DrawerD} {n k : Nat} {flat : Int} (h : looseB Y m X n flat = true) (hk : k < n) : (X k).Flats.contains flat = false := findI_none (looseB_where h) k hk
theorem pf_loose {Y : Nat → FlatD} {m : Nat} {X : Nat → DrawerD} {n : Nat} {flat id : Int} (h : looseB Y m X n flat = false) : pfOk Y m X n flat id = false := by unfold pfOk; rw [h]; rfl
theorem pf_none {Y : Nat → FlatD} {m : Nat} {X : Nat → DrawerD} {n : Nat} {flat id : Int} (h : dAt X n id = -1) : pfOk Y m X n flat id = false := by unfold pfOk; rw [h]; simp
theorem pf_at {Y : Nat → FlatD} {m : Nat} {X : Nat → DrawerD} {n j : Nat} {flat id : Int} (h : looseB Y m X n flat = true) (hj : dAt X n id = (j : Int)) : pfOk Y m X n flat id = canB Y m X n flat j := by unfold pfOk; rw [h, hj]; simp
theorem loose_no1 {Y : Nat → FlatD} {m : Nat} {X : Nat → DrawerD} {n : Nat} {flat : Int} (h : goodB Y m X n = false) : looseB Y m X n flat = false := by unfold looseB; rw [h]; rfl
theorem loose_no2 {Y : Nat → FlatD} {m : Nat} {X : Nat → DrawerD} {n : Nat} {flat : Int} (h : fAt Y m flat = -1) : looseB Y m X n flat = false := by unfold looseB; rw [h]; simp
theorem loose_no3 {Y : Nat → FlatD} {m : Nat} {X : Nat → DrawerD} {n i : Nat} {flat : Int} (h : whereI X n flat = (i : Int)) : looseB Y m X n flat = false := by unfold looseB; rw [h]; simp
theorem loose_yes {Y : Nat → FlatD} {m : Nat} {X : Nat → DrawerD} {n i : Nat} {flat : Int} (h1 : goodB Y m X n = true) (h2 : fAt Y m flat = (i : Int)) (h3 : whereI X n flat = -1) : looseB Y m X n flat = true := by unfold looseB; rw [h1, h2, h3]; simp

set_option maxHeartbeats 1000000 in
theorem isLoose_impl (b1 o1 m c1 b off n cap : Nat) (Y : Nat → FlatD) (X : Nat → DrawerD) (S : Nat → Value) (flat : Int) (w : World) (h1 : Rw w b1 o1 4 m (fun i => (Y i).cells)) (hm1 : m ≤ 1048576) (hlc1 : m ≤ c1) (h : Drs w b off n X S) (hL : ∀ i, i < n → (X i).Flats.length ≤ 1048576) (hm : n ≤ 1048576) (hlc : n ≤ cap) :
    Calls Try.prog 81 #[.slice (some ⟨b1, o1, none⟩) m c1, .slice (some ⟨b, off, none⟩) n cap, .int .i64 flat] w fun e w' => e = .returned (.bool (looseB Y m X n flat)) ∧ Below w.heap.size w w' := by
  have hb1 := h1.1
  have HR := hid h1
  have H := hid h
  have HL := hid hL
  have KG : Calls Try.prog 25 #[.slice (some ⟨b1, o1, none⟩) m c1, .slice (some ⟨b, off, none⟩) n cap] w fun e w'' => e = .returned (.bool (goodB Y m X n)) ∧ Below w.heap.size w w'' := good_impl b1 o1 m c1 b off n cap Y X S w h1 hm1 hlc1 h hL hm hlc
  clear h1 h hL
  obtain ⟨r, hr⟩ : ∃ r, goodB Y m X n = r := ⟨_, rfl⟩
  rw [hr] at KG
  have HG := hid hr
  clear hr
  cases r with
  | false =>
    go_enter Try.func81, Try.ntmps81
    go_wp2_with fail
    refine KG.mono ?_
    rintro e w2 ⟨rfl, B2⟩
    go_wp2_with fail
    go_ret
    exact ⟨ret_bool (loose_no1 HG.out).symm, B2⟩
  | true =>
    rcases fAt_cases Y m flat with hd | ⟨j, hj, hd, hid1⟩
    · have HF := hid hd
      clear hd
      go_enter Try.func81, Try.ntmps81
      go_wp2_with fail
      refine KG.mono ?_
      rintro e w2 ⟨rfl, B2⟩
      have KF : Calls Try.prog 69 #[.slice (some ⟨b1, o1, none⟩) m c1, .int .i64 flat] w2 fun e w' => e = .returned (.int .i64 (fAt Y m flat)) ∧ Below w2.heap.size w2 w' := flatAt_impl w2 b1 o1 m c1 Y flat (HR.out.below B2 hb1) hm1 hlc1
      rw [HF.out] at KF
      go_wp2_with fail
      refine KF.mono ?_
      rintro e w3 ⟨rfl, hb3⟩
      have B3 := Below.on B2 B2.size hb3
      go_wp2_with fail
      go_ret
      exact ⟨ret_bool (loose_no2 HF.out).symm, B3⟩
    · clear hid1
      have HF := hid hd
      clear hd
      have e4 : decide ((0 : Int) ≤ (j : Int)) = true := by simp
      rcases whereI_cases X n flat with hw | ⟨i, hi, hw⟩
      · have HW := hid hw
        clear hw
        go_enter Try.func81, Try.ntmps81
        go_wp2_with fail
        refine KG.mono ?_
        rintro e w2 ⟨rfl, B2⟩
        have KF : Calls Try.prog 69 #[.slice (some ⟨b1, o1, none⟩) m c1, .int .i64 flat] w2 fun e w' => e = .returned (.int .i64 (fAt Y m flat)) ∧ Below w2.heap.size w2 w' := flatAt_impl w2 b1 o1 m c1 Y flat (HR.out.below B2 hb1) hm1 hlc1
        rw [HF.out] at KF
        go_wp2_with fail
        refine KF.mono ?_
        rintro e w3 ⟨rfl, hb3⟩
        have B3 := Below.on B2 B2.size hb3
        have KW := drawerWith_impl w3 b off n cap X S flat (H.out.below B3) HL.out hm hlc
        rw [HW.out] at KW
        go_wp2_with fail
        refine KW.mono ?_
        rintro e w4 ⟨rfl, hb4⟩
        have B4 := Below.on B3 B3.size hb4
        go_wp2_with fail
        go_ret
        exact ⟨ret_bool (loose_yes HG.out HF.out HW.out).symm, B4⟩
      · have HW := hid hw
        clear hw
        have e5 : decide ((i : Int) < 0) = false := by simp
        go_enter Try.func81, Try.ntmps81
        go_wp2_with fail
        refine KG.mono ?_
        rintro e w2 ⟨rfl, B2⟩
        have KF : Calls Try.prog 69 #[.slice (some ⟨b1, o1, none⟩) m c1, .int .i64 flat] w2 fun e w' => e = .returned (.int .i64 (fAt Y m flat)) ∧ Below w2.heap.size w2 w' := flatAt_impl w2 b1 o1 m c1 Y flat (HR.out.below B2 hb1) hm1 hlc1
        rw [HF.out] at KF
        go_wp2_with fail
        refine KF.mono ?_
        rintro e w3 ⟨rfl, hb3⟩
        have B3 := Below.on B2 B2.size hb3
        have KW := drawerWith_impl w3 b off n cap X S flat (H.out.below B3) HL.out hm hlc
        rw [HW.out] at KW
        go_wp2_with fail
        refine KW.mono ?_
        rintro e w4 ⟨rfl, hb4⟩
        have B4 := Below.on B3 B3.size hb4
        go_wp2_with fail
        go_ret
        exact ⟨ret_bool (loose_no3 HW.out).symm, B4⟩

set_option maxRecDepth 100000 in
set_option maxHeartbeats 4000000 in
theorem putFlat_impl (b1 o1 m c1 b off n cap : Nat) (Y : Nat → FlatD) (X : Nat → DrawerD) (S : Nat → Value) (flat : Int) (k : Nat) (w : World) (h1 : Rw w b1 o1 4 m (fun i => (Y i).cells)) (hm1 : m ≤ 1048576) (hlc1 : m ≤ c1) (h : Drs w b off n X S) (hL : ∀ i, i < n → (X i).Flats.length ≤ 1048576) (hm : n ≤ 1048576) (hlc : n ≤ cap) (hk : k < n) (hlo : looseB Y m X n flat = true) :
    Calls Try.prog 85 #[.slice (some ⟨b1, o1, none⟩) m c1, .slice (some ⟨b, off, none⟩) n cap, .int .i64 flat, .int .i64 k] w (RetDB (putX X k flat) (if canB Y m X n flat k = true then n else 0) (canB Y m X n flat k) w) := by
  have hb1 := h1.1
  have HR := hid h1
  have HL := hid hL
  have KC := copy_impl w b off n cap X S h hL hm hlc
  have hdr := goodB_drawer (looseB_good hlo) hk
  have hsorted := hid (ris_sorted (drawerB_ris hdr))
  have hlen12 := drawerB_len hdr
  have h8 := goodB_le (looseB_good hlo)
  have HLP := hid (putX_len (flat := flat) hL hlen12)
  clear hdr
  have HLO := hid hlo
  clear h1 h hL hlo
  have e0 : (0 : Int) ≤ (k : Int) := by omega
  have e1 : (k : Int) < (n : Int) := by omega
  obtain ⟨r, hr⟩ : ∃ r, canB Y m X n flat k = r := ⟨_, rfl⟩
  obtain ⟨nn, hnn⟩ : ∃ nn, (if r = true then n else 0) = nn := ⟨_, rfl⟩
  rw [hr, hnn]
  have HRR := hid hr
  have HNN := hid hnn
  clear hr hnn
  go_enter Try.func85, Try.ntmps85
  go_wp2_with fail
  refine KC.mono ?_
  rintro e w1 ⟨v, P, rfl, ho, hP, B1⟩
  have hPn : P.length = n := by have := congrArg List.length hP; simpa [lstD] using this
  have hPk : (P.getD k default).1 = X k := fst_at hP hk
  rcases ho.form with ⟨_, h0⟩ | ⟨g, cp, rfl, hgB, hg, hnc, hcm, hdrs, hblk⟩
  · rw [h0] at hPn; simp at hPn; omega
  obtain ⟨gi, ci, hgi, hgiB, hgil, hcil⟩ := (ho.inn k (by omega)).slice
  have hhas := (ho.inn k (by omega)).has
  rw [hPk] at hgi hcil hhas
  have hpk4 : (P.getD k default).2 = .slice (some ⟨gi, 0, none⟩) (X k).Flats.length ci := hgi
  rw [hgi] at hhas
  obtain ⟨nf, hnf⟩ : ∃ nf, (X k).Flats.length = nf := ⟨_, rfl⟩
  rw [hnf] at hhas hpk4 hcil hgi hlen12
  have x4 : w1.cell? ⟨g, k * 5 + 4, none⟩ = some (.slice (some ⟨gi, 0, none⟩) nf ci) := by
    have := hdrs.rw.2 k (by omega) 4 (by omega)
    rw [show 0 + k * 5 + 4 = k * 5 + 4 by omega] at this
    rw [this]
    show some (P.getD k default).2 = _
    rw [hpk4]
  have KB := search_int w1 _ (X k).Flats flat hhas (by omega) hsorted.out
  rw [hPn] at ho
  have HO := hid ho
  have HP := hid hP
  have HPN := hid hPn
  have HNF := hid hnf
  have HPK := hid hPk
  have HP4 := hid hpk4
  have hkk : Hid (k * 5 + 4 < cp * 5) := by unfold Hid; have := Nat.mul_le_mul_right 5 (show k + 1 ≤ cp by omega); omega
  have hgg : Hid (∀ q, Value.ownBlock (.slice (some ⟨g, 0, none⟩) n cp) = some q → q = g) := fun q hq => by simp [Value.ownBlock] at hq; exact hq.symm
  obtain ⟨ct, hct⟩ : ∃ ct, cutI flat (X k).Flats = ct := ⟨_, rfl⟩
  rw [hct] at KB
  have HCT := hid hct
  have hctl : ct ≤ nf := by rw [← hct, ← hnf]; exact cutI_le _ _
  rw [hPn] at hnc ⊢
  clear ho hP hPn hnf hPk hpk4 hdrs hhas hgi hct
  go_wp2_with fail
  refine KB.mono ?_
  rintro e w2 ⟨bb, rfl, hb2⟩
  have B2 := Below.on B1 B1.size hb2
  have y4 : w2.cell? ⟨g, k * 5 + 4, none⟩ = some (.slice (some ⟨gi, 0, none⟩) nf ci) := (hb2.cell hg).trans x4
  have z2 := hb2.size
  have hA : Below w2.heap.size w2 (w2.alloc (.cells #[.int .i64 flat] 3)) := by go_grown
  have B3 := Below.on B2 B2.size hA
  have HO3 := hid ((HO.out.below hb2).below hA)
  have hJ : OwnJ w.heap.size (w2.alloc (.cells #[.int .i64 flat] 3)) (.slice (some ⟨gi, 0, none⟩) nf ci) (X k).Flats := by
    have := HO3.out.inn k (by rw [HPN.out]; exact hk)
    rw [HP4.out, HPK.out] at this
    exact this
  have KI := insert_int (w2.alloc (.cells #[.int .i64 flat] 3)) w.heap.size (.slice (some ⟨gi, 0, none⟩) nf ci) (X k).Flats flat w2.heap.size ct hJ B3.size (by rw [HNF.out]; omega) (heap_alloc_new w2 _) (fun q hq => by simp [Value.ownBlock] at hq; omega) (by rw [HNF.out]; exact hctl)
  clear hJ x4
  go_wp2_with fail
  refine KI.mono ?_
  rintro e w4 ⟨u, rfl, hu, hO, hub⟩
  have hins : (X k).Flats.take ct ++ flat :: (X k).Flats.drop ct = insI flat (X k).Flats := by unfold insI; rw [HCT.out]
  rw [hins] at hu
  obtain ⟨gu, cu, rfl, hguB, hgul, hcul⟩ := hu.slice
  have hQ : Hid (OwnP w.heap.size (w4.setCell ⟨g, k * 5 + 4, none⟩ (.slice (some ⟨gu, 0, none⟩) (insI flat (X k).Flats).length cu)) (.slice (some ⟨g, 0, none⟩) n cp) (P.set k (_, _))) := HO3.out.swap HPN.out hk (by rw [HP4.out]; exact hO) hu (by rw [HP4.out]; exact hub)
  have B4 : Below w.heap.size w w4 := Only.below B3 hO B3.size (fun i hi => by simp [Value.ownBlock] at hi; omega)
  have B5 : Below w.heap.size w (w4.setCell ⟨g, k * 5 + 4, none⟩ (.slice (some ⟨gu, 0, none⟩) (insI flat (X k).Flats).length cu)) := B4.grown (grownBy_set _ _ _ _) B4.size (fun i hi => by cases hi; exact hgB)
  have hne : gi ≠ g := fun e => by
    have := HO.out.ne k (by rw [HPN.out]; exact hk) g rfl
    rw [HP4.out, e] at this
    exact this rfl
  have hblk4 : Blk 32 g (cp * 5) w4 := by
    obtain ⟨arr, a1, a2⟩ := hblk
    exact ⟨arr, (hO.block g (by have := hA.size; omega) (fun e => hne (by simpa [Value.ownBlock] using e))).trans ((hA.block g (by omega)).trans ((hb2.block g hg).trans a1)), a2⟩
  obtain ⟨q0, q4⟩ := hblk4.cell (k * 5 + 4) hkk.out
  have q5 := hblk4.frozen (k * 5 + 4)
  have hmap : Hid ((P.set k ({ (P.getD k default).1 with Flats := insI flat (X k).Flats }, .slice (some ⟨gu, 0, none⟩) (insI flat (X k).Flats).length cu)).map Prod.fst = lstD (putX X k flat) n) := by
    unfold Hid
    rw [List.map_set, HP.out, HPK.out]
    apply List.ext_getElem?
    intro i
    by_cases hi : i < n
    · by_cases hik : k = i
      · subst hik
        rw [List.getElem?_set_self (by rw [lstD_len]; exact hi)]
        simp [lstD, hi, putX, wX]
      · rw [List.getElem?_set_ne hik]
        simp [lstD, hi, putX, wX, show ¬ ((i : Int) = (k : Int)) by omega]
    · rw [List.getElem?_eq_none (by simp [lstD]; omega), List.getElem?_eq_none (by simp [lstD]; omega)]
  have drs5 : Drs (w4.setCell ⟨g, k * 5 + 4, none⟩ (.slice (some ⟨gu, 0, none⟩) (insI flat (X k).Flats).length cu)) g 0 n (putX X k flat) (fun i => ((P.set k ({ (P.getD k default).1 with Flats := insI flat (X k).Flats }, .slice (some ⟨gu, 0, none⟩) (insI flat (X k).Flats).length cu)).getD i default).2) := by
    rcases hQ.out.form with ⟨h9, _⟩ | ⟨g9, cp9, h9, _, _, _, _, h10, _⟩
    · cases h9
    · rw [List.length_set, HPN.out] at h9 h10
      cases h9
      exact h10.congr fun i hi => fst_at hmap.out hi
  have KG := good_impl b1 o1 m c1 g 0 n cp Y (putX X k flat) _ _ (HR.out.below B5 hb1) hm1 hlc1 drs5 HLP.out (by omega) hnc
  rw [show goodB Y m (putX X k flat) n = r from HRR.out] at KG
  clear KI KB drs5 hblk hblk4 y4 HO HO3 hO hub hu
  cases r with
  | false =>
    go_wp2_with fail
    refine KG.mono ?_
    rintro e w6 ⟨rfl, hb6⟩
    go_wp2_with fail
    go_ret2
    exact ⟨_, [], rfl, OwnP.nil _ _, by rw [← HNN.out]; rfl, Below.on B5 B5.size hb6⟩
  | true =>
    go_wp2_with fail
    refine KG.mono ?_
    rintro e w6 ⟨rfl, hb6⟩
    have hQ6 := hid (hQ.out.below hb6)
    go_wp2_with fail
    go_ret2
    exact ⟨_, _, rfl, hQ6.out, by rw [← HNN.out]; exact hmap.out, Below.on B5 B5.size hb6⟩

end Go.Proofs.Ytejpmomedclnhaa
