/-
  A flat taken out of a drawer, by the program. No condition.
-/
import Derived.Test.YtejpmomedclnhaaDrawT
namespace Go.Proofs.Ytejpmomedclnhaa
open Go.RowKit
set_option linter.unusedVariables false

set_option maxRecDepth 100000 in
set_option maxHeartbeats 4000000 in
theorem take_impl (b1 o1 m c1 b off n cap : Nat) (Y : Nat → FlatD) (X : Nat → DrawerD) (S : Nat → Value) (flat : Int) (w : World) (h1 : Rw w b1 o1 4 m (fun i => (Y i).cells)) (hm1 : m ≤ 1048576) (hlc1 : m ≤ c1) (h : Drs w b off n X S) (hL : ∀ i, i < n → (X i).Flats.length ≤ 1048576) (hm : n ≤ 1048576) (hlc : n ≤ cap) :
    Calls Try.prog 42 #[.slice (some ⟨b1, o1, none⟩) m c1, .slice (some ⟨b, off, none⟩) n cap, .int .i64 flat] w (RetDB (tkX X (whereI X n flat).toNat flat) (if tfOk Y m X n flat = true then n else 0) (tfOk Y m X n flat) w) := by
  have hbb1 := h1.1
  have hA : Below w.heap.size w (w.alloc (.cells #[.int .i64 flat] 3)) := by go_grown
  have KW := drawerWith_impl (w.alloc (.cells #[.int .i64 flat] 3)) b off n cap X S flat (h.below hA) hL hm hlc
  have HR := hid h1
  have H := hid h
  have HL := hid hL
  obtain ⟨R, hR⟩ : ∃ R, tfOk Y m X n flat = R := ⟨_, rfl⟩
  obtain ⟨nn, hnn⟩ : ∃ nn, (if R = true then n else 0) = nn := ⟨_, rfl⟩
  obtain ⟨XX, hXX⟩ : ∃ XX, tkX X (whereI X n flat).toNat flat = XX := ⟨_, rfl⟩
  rw [hR, hnn, hXX]
  have HRR := hid hR
  have HNN := hid hnn
  have HXX := hid hXX
  clear hR hnn hXX
  clear h1 h hL
  obtain ⟨r, hr⟩ : ∃ r, goodB Y m X n = r := ⟨_, rfl⟩
  have HG := hid hr
  clear hr
  rcases whereI_cases X n flat with hw | ⟨t, ht, hw⟩
  · rw [hw] at KW
    have HW := hid hw
    clear hw
    have hno : Hid (R = false) := HRR.out.symm.trans (tf_none HW.out)
    cases r with
    | false =>
      go_enter Try.func42, Try.ntmps42
      go_wp2_with fail
      refine KW.mono ?_
      rintro e w1 ⟨rfl, hb1⟩
      have B1 : Below w.heap.size w w1 := Below.on hA hA.size hb1
      have t0 : w1.cell? ⟨w.heap.size, 0, none⟩ = some (.int .i64 flat) := (hb1.cell (by simp)).trans (by simp [go_sem])
      have lN : w.heap.size < w1.heap.size := by have := hb1.size; simp at this; omega
      have KG : Calls Try.prog 25 #[.slice (some ⟨b1, o1, none⟩) m c1, .slice (some ⟨b, off, none⟩) n cap] w1 fun e w'' => e = .returned (.bool (goodB Y m X n)) ∧ Below w1.heap.size w1 w'' := good_impl b1 o1 m c1 b off n cap Y X S w1 (HR.out.below B1 hbb1) hm1 hlc1 (H.out.below B1) HL.out hm hlc
      rw [HG.out] at KG
      go_wp2_with fail
      refine KG.mono ?_
      rintro e w2 ⟨rfl, hb2⟩
      have B2 := Below.on B1 B1.size hb2
      clear KG KW
      go_wp2_with fail
      go_ret2
      exact ⟨_, [], by rw [hno.out]; rfl, OwnP.nil _ _, by rw [← HNN.out, hno.out]; rfl, B2⟩
    | true =>
      go_enter Try.func42, Try.ntmps42
      go_wp2_with fail
      refine KW.mono ?_
      rintro e w1 ⟨rfl, hb1⟩
      have B1 : Below w.heap.size w w1 := Below.on hA hA.size hb1
      have t0 : w1.cell? ⟨w.heap.size, 0, none⟩ = some (.int .i64 flat) := (hb1.cell (by simp)).trans (by simp [go_sem])
      have lN : w.heap.size < w1.heap.size := by have := hb1.size; simp at this; omega
      have KG : Calls Try.prog 25 #[.slice (some ⟨b1, o1, none⟩) m c1, .slice (some ⟨b, off, none⟩) n cap] w1 fun e w'' => e = .returned (.bool (goodB Y m X n)) ∧ Below w1.heap.size w1 w'' := good_impl b1 o1 m c1 b off n cap Y X S w1 (HR.out.below B1 hbb1) hm1 hlc1 (H.out.below B1) HL.out hm hlc
      rw [HG.out] at KG
      go_wp2_with fail
      refine KG.mono ?_
      rintro e w2 ⟨rfl, hb2⟩
      have B2 := Below.on B1 B1.size hb2
      clear KG KW
      go_wp2_with fail
      go_ret2
      exact ⟨_, [], by rw [hno.out]; rfl, OwnP.nil _ _, by rw [← HNN.out, hno.out]; rfl, B2⟩
  · rw [hw] at KW
    have HW := hid hw
    clear hw
    have e4 : decide ((t : Int) < 0) = false := by simp
    have e5 : (0 : Int) ≤ (t : Int) := by omega
    have e6 : (t : Int) < (n : Int) := by omega
    cases r with
    | false =>
      have hno : Hid (R = false) := HRR.out.symm.trans (tf_no HG.out)
      go_enter Try.func42, Try.ntmps42
      go_wp2_with fail
      refine KW.mono ?_
      rintro e w1 ⟨rfl, hb1⟩
      have B1 : Below w.heap.size w w1 := Below.on hA hA.size hb1
      have t0 : w1.cell? ⟨w.heap.size, 0, none⟩ = some (.int .i64 flat) := (hb1.cell (by simp)).trans (by simp [go_sem])
      have lN : w.heap.size < w1.heap.size := by have := hb1.size; simp at this; omega
      have KG : Calls Try.prog 25 #[.slice (some ⟨b1, o1, none⟩) m c1, .slice (some ⟨b, off, none⟩) n cap] w1 fun e w'' => e = .returned (.bool (goodB Y m X n)) ∧ Below w1.heap.size w1 w'' := good_impl b1 o1 m c1 b off n cap Y X S w1 (HR.out.below B1 hbb1) hm1 hlc1 (H.out.below B1) HL.out hm hlc
      rw [HG.out] at KG
      go_wp2_with fail
      refine KG.mono ?_
      rintro e w2 ⟨rfl, hb2⟩
      have B2 := Below.on B1 B1.size hb2
      clear KG KW
      go_wp2_with fail
      go_ret2
      exact ⟨_, [], by rw [hno.out]; rfl, OwnP.nil _ _, by rw [← HNN.out, hno.out]; rfl, B2⟩
    | true =>
      have hyes : Hid (R = true) := HRR.out.symm.trans (tf_yes HG.out HW.out)
      have hX : Hid (tkX X t flat = XX) := by unfold Hid; rw [← HXX.out, HW.out, Int.toNat_natCast]
      have hFL := HL.out t ht
      go_enter Try.func42, Try.ntmps42
      go_wp2_with fail
      refine KW.mono ?_
      rintro e w1 ⟨rfl, hb1⟩
      have B1 : Below w.heap.size w w1 := Below.on hA hA.size hb1
      have t0 : w1.cell? ⟨w.heap.size, 0, none⟩ = some (.int .i64 flat) := (hb1.cell (by simp)).trans (by simp [go_sem])
      have lN : w.heap.size < w1.heap.size := by have := hb1.size; simp at this; omega
      have KG : Calls Try.prog 25 #[.slice (some ⟨b1, o1, none⟩) m c1, .slice (some ⟨b, off, none⟩) n cap] w1 fun e w'' => e = .returned (.bool (goodB Y m X n)) ∧ Below w1.heap.size w1 w'' := good_impl b1 o1 m c1 b off n cap Y X S w1 (HR.out.below B1 hbb1) hm1 hlc1 (H.out.below B1) HL.out hm hlc
      rw [HG.out] at KG
      go_wp2_with fail
      refine KG.mono ?_
      rintro e w2 ⟨rfl, hb2⟩
      have B2 := Below.on B1 B1.size hb2
      clear KG KW
      have KC := copy_impl w2 b off n cap X S (H.out.below B2) HL.out hm hlc
      have t2 : w2.cell? ⟨w.heap.size, 0, none⟩ = some (.int .i64 flat) := (hb2.cell lN).trans t0
      have lN2 : w.heap.size < w2.heap.size := by have := hb2.size; omega
      clear t0 hb1 hA B1 hb2
      go_wp2_with fail
      refine KC.mono ?_
      rintro e w3 ⟨v, P, rfl, ho, hP, hb3⟩
      have B3 := Below.on B2 B2.size hb3
      have t3 : w3.cell? ⟨w.heap.size, 0, none⟩ = some (.int .i64 flat) := (hb3.cell lN2).trans t2
      have hPn : P.length = n := by have := congrArg List.length hP; simpa [lstD] using this
      have hPk : (P.getD t default).1 = X t := fst_at hP ht
      rcases ho.form with ⟨_, h0⟩ | ⟨g, cp, rfl, hgB, hg, hnc, hcm, hdrs, hblk⟩
      · rw [h0] at hPn; simp at hPn; omega
      have hJ := ho.inn t (by omega)
      obtain ⟨gi, ci, hgi, hgiB, hgil, hcil⟩ := hJ.slice
      rw [hPk] at hgi hcil hJ
      have hpk4 : (P.getD t default).2 = .slice (some ⟨gi, 0, none⟩) (X t).Flats.length ci := hgi
      rw [hgi] at hJ
      obtain ⟨nf, hnf⟩ : ∃ nf, (X t).Flats.length = nf := ⟨_, rfl⟩
      rw [hnf] at hJ hpk4 hcil hgi hFL
      have x4 : w3.cell? ⟨g, t * 5 + 4, none⟩ = some (.slice (some ⟨gi, 0, none⟩) nf ci) := by
        have := hdrs.rw.2 t (by omega) 4 (by omega)
        rw [show 0 + t * 5 + 4 = t * 5 + 4 by omega] at this
        rw [this]
        show some (P.getD t default).2 = _
        rw [hpk4]
      have hne : gi ≠ g := fun e => by
        have := ho.ne t (by omega) g rfl
        rw [hpk4, e] at this
        exact this rfl
      have KD := deleteInt w3 gi nf ci w2.heap.size (X t).Flats hJ.1 hnf hFL 80 #[.pointer (some ⟨w.heap.size, 0, none⟩)] (fun s => s == flat) (fun _ _ => by kernel_rfl) (fun w' hO s => take_1 s flat w.heap.size w' ((hO.cell (by have := hb3.size; show w.heap.size < _; omega) (by show ¬ w.heap.size = gi; omega)).trans t3))
      rw [hPn] at ho hnc ⊢
      have HO := hid ho
      have HP := hid hP
      have HPN := hid hPn
      have HNF := hid hnf
      have HPK := hid hPk
      have HP4 := hid hpk4
      have hkk : Hid (t * 5 + 4 < cp * 5) := by unfold Hid; have := Nat.mul_le_mul_right 5 (show t + 1 ≤ cp by omega); omega
      clear ho hP hPn hnf hPk hpk4 hdrs hgi hJ t2 t3
      go_wp2_with fail
      refine KD.mono ?_
      rintro e w4 ⟨kk, rfl, hkl, hoI, hO⟩
      have hu : OwnJ w2.heap.size w4 (.slice (some ⟨gi, 0, none⟩) kk ci) (tkF X t flat) := ⟨hoI, gi, rfl⟩
      have hO' : Only (fun i => (P.getD t default).2.ownBlock = some i) w3 w4 := hO.mono fun i hi => by rw [HP4.out, hi]; rfl
      have hQ : Hid (OwnP w2.heap.size (w4.setCell ⟨g, t * 5 + 4, none⟩ (.slice (some ⟨gi, 0, none⟩) kk ci)) (.slice (some ⟨g, 0, none⟩) n cp) (P.set t (_, _))) := HO.out.swap HPN.out ht hO' hu (.inl (by rw [HP4.out]; rfl))
      have B4 : Below w.heap.size w w4 := Only.below B3 hO B3.size (fun i hi => by rw [hi]; omega)
      have B5 : Below w.heap.size w (w4.setCell ⟨g, t * 5 + 4, none⟩ (.slice (some ⟨gi, 0, none⟩) kk ci)) := B4.grown (grownBy_set _ _ _ _) B4.size (fun i hi => by cases hi; omega)
      have hblk4 : Blk 32 g (cp * 5) w4 := by
        obtain ⟨arr, a1, a2⟩ := hblk
        exact ⟨arr, (hO.block g hg (fun e => hne e.symm)).trans a1, a2⟩
      obtain ⟨q0, q4⟩ := hblk4.cell (t * 5 + 4) hkk.out
      have q5 := hblk4.frozen (t * 5 + 4)
      have hmap : Hid ((P.set t ({ (P.getD t default).1 with Flats := tkF X t flat }, .slice (some ⟨gi, 0, none⟩) kk ci)).map Prod.fst = lstD (tkX X t flat) n) := by
        unfold Hid
        rw [List.map_set, HP.out, HPK.out]
        apply List.ext_getElem?
        intro i
        by_cases hi : i < n
        · by_cases hik : t = i
          · subst hik
            rw [List.getElem?_set_self (by rw [lstD_len]; exact hi)]
            simp [lstD, hi, tkX, wX]
          · rw [List.getElem?_set_ne hik]
            simp [lstD, hi, tkX, wX, show ¬ ((i : Int) = (t : Int)) by omega]
        · rw [List.getElem?_eq_none (by simp [lstD]; omega), List.getElem?_eq_none (by simp [lstD]; omega)]
      clear KD hblk hblk4 HO hO hO' hu hoI x4 hkl
      go_wp2_with fail
      go_ret2
      exact ⟨_, _, by rw [hyes.out]; rfl, hQ.out.base B2.size, by rw [← HNN.out, hyes.out, ← hX.out]; exact hmap.out, B5⟩

end Go.Proofs.Ytejpmomedclnhaa
