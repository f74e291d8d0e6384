/-
  All flats stored, by the program. No condition.
-/
import Derived.Test.YtejpmomedclnhaaSto
import Derived.Test.YtejpmomedclnhaaDrawL
import Derived.Test.YtejpmomedclnhaaDrawD3
namespace Go.Proofs.Ytejpmomedclnhaa
open Go.RowKit
set_option linter.unusedVariables false

theorem OwnP.drs {B n : Nat} {w : World} {v : Value} {P : List DrP} {X : Nat → DrawerD} (h : OwnP B w v P) (hP : P.map Prod.fst = lstD X n) : (v = .slice none 0 0 ∧ n = 0) ∨ ∃ g cap, v = .slice (some ⟨g, 0, none⟩) n cap ∧ B ≤ g ∧ g < w.heap.size ∧ n ≤ cap ∧ ∃ S, Drs w g 0 n X S := by
  have hn : P.length = n := by have := congrArg List.length hP; simpa [lstD] using this
  rcases h.form with ⟨h1, h2⟩ | ⟨g, cap, h1, h2, h3, h4, _, h5, _⟩
  · exact .inl ⟨h1, by rw [h2] at hn; simpa using hn.symm⟩
  · rw [hn] at h1 h4 h5
    exact .inr ⟨g, cap, h1, h2, h3, h4, _, h5.congr fun i hi => fst_at hP hi⟩
theorem dfK_nil (w : World) (fv : Value) (flat : Int) : Calls Try.prog 83 #[fv, .slice none 0 0, .int .i64 flat] w fun e w' => e = .returned (.slice none 0 0) ∧ w = w' := by
  go_enter Try.func83, Try.ntmps83
  go_wp2_with fail
  refine wp_loop_rounds 1 ?_
  rw [rounds_succ]
  go_wp2_with fail
  go_ret
  exact ⟨rfl, rfl⟩
theorem tight_nil (w : World) (fv : Value) (flat : Int) : Calls Try.prog 82 #[fv, .slice none 0 0, .int .i64 flat] w fun e w' => e = .returned (.int .i64 (-1)) ∧ w = w' := by
  go_enter Try.func82, Try.ntmps82
  go_wp2_with fail
  refine (dfK_nil w fv flat).mono ?_
  rintro e w1 ⟨rfl, rfl⟩
  go_wp2_with fail
  refine wp_loop_rounds 1 ?_
  rw [rounds_succ]
  go_wp2_with fail
  go_ret
  exact ⟨rfl, rfl⟩
theorem tight_own (b1 o1 m c1 B n : Nat) (Y : Nat → FlatD) (X : Nat → DrawerD) (v : Value) (P : List DrP) (flat : Int) (w : World) (h1 : Rw w b1 o1 4 m (fun i => (Y i).cells)) (hm1 : m ≤ 1048576) (hlc1 : m ≤ c1) (h : OwnP B w v P) (hP : P.map Prod.fst = lstD X n) (hL : ∀ i, i < n → (X i).Flats.length ≤ 1048576) (hm : n ≤ 1048576) (hlo : looseB Y m X n flat = true) :
    Calls Try.prog 82 #[.slice (some ⟨b1, o1, none⟩) m c1, v, .int .i64 flat] w fun e w' => e = .returned (.int .i64 (tgI Y m X n flat)) ∧ Below w.heap.size w w' := by
  rw [tg_yes hlo]
  rcases h.drs hP with ⟨rfl, rfl⟩ | ⟨g, cap, rfl, _, _, hc, S, hS⟩
  · refine (tight_nil w _ flat).mono ?_
    rintro e w1 ⟨rfl, rfl⟩
    exact ⟨rfl, Below.refl _ _⟩
  · exact tgK_impl b1 o1 m c1 g 0 n cap Y X S flat w h1 hm1 hlc1 hS hL hm hc hlo
theorem idx_drawer_nil (w : World) (fv : Value) : Calls Try.prog 95 #[.slice none 0 0, fv] w fun e w' => e = .returned (.int .i64 (-1)) ∧ w = w' := by
  go_enter Try.func95, Try.ntmps95
  go_wp2
  refine wp_loop_rounds 1 ?_
  rw [rounds_succ]
  go_wp2
  go_ret
  exact ⟨rfl, rfl⟩
theorem drawerWith_nil (w : World) (id : Int) : Calls Try.prog 65 #[.slice none 0 0, .int .i64 id] w fun e w' => e = .returned (.int .i64 (-1)) ∧ Below w.heap.size w w' := by
  have hA : Below w.heap.size w (w.alloc (.cells #[.int .i64 id] 3)) := by go_grown
  go_enter Try.func65, Try.ntmps65
  go_wp2_with fail
  refine (idx_drawer_nil _ _).mono ?_
  rintro e w1 ⟨rfl, rfl⟩
  go_wp2_with fail
  go_ret
  exact ⟨rfl, hA⟩
theorem loose_1n (s : FlatD) (b1 : Nat) (w : World) (h1 : w.cell? ⟨b1, 0, none⟩ = some (.slice none 0 0)) (l1 : b1 < w.heap.size) :
    Calls Try.prog 104 #[s.val, .pointer (some ⟨b1, 0, none⟩)] w fun e w' => e = .returned (.bool false) ∧ Below w.heap.size w w' := by
  have hA : Below w.heap.size w (w.alloc (.cells #[.int .i64 s.Id, .int .i64 s.Wide, .int .i64 s.High, .int .i64 s.Grams] 30)) := by go_grown
  have K := drawerWith_nil (w.alloc (.cells #[.int .i64 s.Id, .int .i64 s.Wide, .int .i64 s.High, .int .i64 s.Grams] 30)) s.Id
  go_enter Try.func104, Try.ntmps104
  go_wp2_with fail
  refine K.mono ?_
  rintro e w1 ⟨rfl, hb1⟩
  have B1 := Below.on hA hA.size hb1
  go_wp2_with fail
  go_ret
  exact ⟨rfl, B1⟩

set_option maxHeartbeats 1000000 in
theorem loose_nil (b1 o1 m c1 : Nat) (Y : Nat → FlatD) (X : Nat → DrawerD) (w : World) (h1 : Rw w b1 o1 4 m (fun i => (Y i).cells)) (hm1 : m ≤ 1048576) (hlc1 : m ≤ c1) :
    Calls Try.prog 76 #[.slice (some ⟨b1, o1, none⟩) m c1, .slice none 0 0] w (RetFlat (looseF Y m X 0) w) := by
  have hA : Below w.heap.size w (w.alloc (.cells #[.slice none 0 0] 43)) := by go_grown
  have hb1 := h1.1
  have KC := cloneFlat (w.alloc (.cells #[.slice none 0 0] 43)) b1 o1 m c1 Y (h1.below hA hb1) hm1 hlc1
  have HP : Hid (looseF Y m X 0 = (lstFlat Y m).filter (fun s => !false)) := rfl
  clear h1
  go_enter Try.func76, Try.ntmps76
  go_wp2_with fail
  refine KC.mono ?_
  rintro e w1 ⟨v, rfl, ho, hb1⟩
  have B1 : Below w.heap.size w w1 := Below.on hA hA.size hb1
  have lN : w.heap.size < w1.heap.size := by have := hb1.size; simp at this; omega
  have t0 : w1.cell? ⟨w.heap.size, 0, none⟩ = some (.slice none 0 0) := (hb1.cell (by simp)).trans (by simp [go_sem])
  have HO := hid ho
  rcases ho.form with ⟨rfl, h0⟩ | ⟨g, cp, rfl, hg1, hg2, hg3, _⟩
  · clear ho
    have h00 : Hid (looseF Y m X 0 = []) := by unfold Hid; rw [HP.out, h0]; rfl
    clear h0
    go_wp2_with fail
    refine (deleteFlat_nil _ _).mono ?_
    rintro e w2 ⟨rfl, rfl⟩
    go_wp2_with fail
    go_ret
    exact ⟨_, rfl, by rw [h00.out]; exact OwnFlat.nil _ _, B1⟩
  · clear ho
    rw [lstFlat_length] at HO ⊢
    have KD := deleteFlat w1 g m cp (w.alloc (.cells #[.slice none 0 0] 43)).heap.size (lstFlat Y m) HO.out (lstFlat_length _ _) hm1 hb1.size 104 #[.pointer (some ⟨w.heap.size, 0, none⟩)] (fun s => false) (fun _ _ => by kernel_rfl) (fun w' hb' s => by
      have hbw : Below w.heap.size w w' := B1.trans (hb'.mono (by simp))
      exact loose_1n s w.heap.size w' ((hb'.cell (by simp)).trans t0) (by have := hb'.size; omega))
    go_wp2_with fail
    refine KD.mono ?_
    rintro e w2 ⟨k, rfl, hk, ho2, hb2⟩
    have HO2 := hid ho2
    have B2 : Below w.heap.size w w2 := B1.trans (hb2.mono (by simp))
    clear ho2 hk
    go_wp2_with fail
    go_ret
    exact ⟨_, rfl, by rw [HP.out]; exact HO2.out.base (by simp), B2⟩
theorem loose_own (b1 o1 m c1 B n : Nat) (Y : Nat → FlatD) (X : Nat → DrawerD) (v : Value) (P : List DrP) (w : World) (h1 : Rw w b1 o1 4 m (fun i => (Y i).cells)) (hm1 : m ≤ 1048576) (hlc1 : m ≤ c1) (h : OwnP B w v P) (hP : P.map Prod.fst = lstD X n) (hL : ∀ i, i < n → (X i).Flats.length ≤ 1048576) (hm : n ≤ 1048576) :
    Calls Try.prog 76 #[.slice (some ⟨b1, o1, none⟩) m c1, v] w (RetFlat (looseF Y m X n) w) := by
  rcases h.drs hP with ⟨rfl, rfl⟩ | ⟨g, cap, rfl, _, _, hc, S, hS⟩
  · exact loose_nil b1 o1 m c1 Y X w h1 hm1 hlc1
  · exact loose_impl b1 o1 m c1 g 0 n cap Y X S w h1 hm1 hlc1 hS hL hm hc

set_option maxRecDepth 100000 in
set_option maxHeartbeats 3000000 in
theorem sa_impl (b1 o1 m c1 b off n cap : Nat) (Y : Nat → FlatD) (X : Nat → DrawerD) (S : Nat → Value) (w : World) (h1 : Rw w b1 o1 4 m (fun i => (Y i).cells)) (hm1 : m ≤ 1048576) (hlc1 : m ≤ c1) (h : Drs w b off n X S) (hL : ∀ i, i < n → (X i).Flats.length ≤ 1048576) (hm : n ≤ 1048576) (hlc : n ≤ cap) :
    Calls Try.prog 51 #[.slice (some ⟨b1, o1, none⟩) m c1, .slice (some ⟨b, off, none⟩) n cap] w (RetDIB (saX Y m X n) (if goodB Y m X n = true then n else 0) (saL Y m X n) (goodB Y m X n) w) := by
  have hbb := h1.1
  have KG : Calls Try.prog 25 #[.slice (some ⟨b1, o1, none⟩) m c1, .slice (some ⟨b, off, none⟩) n cap] w fun e w'' => e = .returned (.bool (goodB Y m X n)) ∧ Below w.heap.size w w'' := good_impl b1 o1 m c1 b off n cap Y X S w h1 hm1 hlc1 h hL hm hlc
  have HR := hid h1
  have H := hid h
  have HL := hid hL
  clear h1 h hL
  obtain ⟨r, hr⟩ : ∃ r, goodB Y m X n = r := ⟨_, rfl⟩
  have hres : Hid (saL Y m X n = if r = true then lfI Y m (saX Y m X n) n else []) := by unfold Hid saL; rw [hr]
  rw [hr] at KG ⊢
  have HG := hid hr
  clear hr
  cases r with
  | false =>
    go_enter Try.func51, Try.ntmps51
    go_wp2_with fail
    refine KG.mono ?_
    rintro e w1 ⟨rfl, B1⟩
    go_wp2_with fail
    go_ret3
    exact ⟨_, [], _, w.heap.size, rfl, OwnP.nil _ _, rfl, Nat.le_refl _, by rw [hres.out]; exact OwnI.nil _ _, fun k hk => by simp [Value.ownBlock] at hk, fun i hi => absurd hi (by simp), B1⟩
  | true =>
    have hres : Hid (saL Y m X n = lfI Y m (saX Y m X n) n) := by unfold Hid; rw [hres.out]; simp
    have HST := hid (stN_good (L := ordA Y m X n) HG.out)
    have HSL : Hid (∀ i, ∀ k, k < n → (stN Y m n X (ordA Y m X n) i k).Flats.length ≤ 1048576) := fun i k hk => by have := drawerB_len (goodB_drawer (HST.out i) hk); omega
    have HLL : Hid (∀ k, k < n → (saX Y m X n k).Flats.length ≤ 1048576) := fun k hk => HSL.out _ k hk
    have HLO := hid (stN_loose HG.out)
    have h20 : m ≤ 20 := by have := goodB_flats HG.out; simp [flatsB] at this; exact this.1
    have hA20 : (ordA Y m X n).length ≤ 20 := by have := ordA_len Y m X n; omega
    have hF20 : (looseF Y m X n).length ≤ 20 := by have := looseF_le Y m X n; omega
    have hsa : Hid (saX Y m X n = stN Y m n X (ordA Y m X n) (ordA Y m X n).length) := rfl
    have hoA : Hid (ordA Y m X n = isL (looseF Y m X n) (looseF Y m X n).length) := rfl
    have h0 : Hid (stN Y m n X (ordA Y m X n) 0 = X) := rfl
    have hsu : Hid (∀ i, stN Y m n X (ordA Y m X n) (i + 1) = stepX Y m n (stN Y m n X (ordA Y m X n) i) ((ordA Y m X n).getD i default).Id) := fun i => rfl
    obtain ⟨ST, hST⟩ : ∃ ST, stN Y m n X (ordA Y m X n) = ST := ⟨_, rfl⟩
    obtain ⟨A, hA⟩ : ∃ A, ordA Y m X n = A := ⟨_, rfl⟩
    obtain ⟨F, hF⟩ : ∃ F, looseF Y m X n = F := ⟨_, rfl⟩
    rw [hST] at HST HSL HLO hsa h0 hsu
    rw [hA] at HLO hsa hoA hA20 hsu
    rw [hF] at hoA hF20
    have HF := hid hF
    clear hST hA hF
    go_enter Try.func51, Try.ntmps51
    go_wp2_with fail
    refine KG.mono ?_
    rintro e w1 ⟨rfl, B1⟩
    have KL := loose_impl b1 o1 m c1 b off n cap Y X S w1 (HR.out.below B1 hbb) hm1 hlc1 (H.out.below B1) HL.out hm hlc
    rw [HF.out] at KL
    clear KG
    go_wp2_with fail
    refine KL.mono ?_
    rintro e w2 ⟨vo, rfl, ho2, hb2⟩
    have B2 := Below.on B1 B1.size hb2
    clear KL
    rcases ho2.form with ⟨rfl, rfl⟩ | ⟨g, cp, rfl, hg1, hg2, hg3, _⟩
    · clear ho2
      have hA0 : A = [] := hoA.out
      subst hA0
      have hs0 : Hid (saX Y m X n = X) := hsa.out.trans h0.out
      go_wp2_with fail
      refine (sorted_nil _).mono ?_
      rintro e w3 ⟨rfl, rfl⟩
      have KC := copy_impl w2 b off n cap X S (H.out.below B2) HL.out hm hlc
      go_wp2_with fail
      refine KC.mono ?_
      rintro e w4 ⟨V, P, rfl, ho4, hP4, hb4⟩
      have B4 := Below.on B2 B2.size hb4
      have HO4 := hid (ho4.base B2.size)
      have hP : Hid (P.map Prod.fst = lstD (saX Y m X n) n) := by unfold Hid; rw [hs0.out]; exact hP4
      clear ho4 hP4 KC
      go_wp2_with fail
      refine wp_loop_rounds 1 ?_
      rw [rounds_succ]
      have KLo := loose_own b1 o1 m c1 w.heap.size n Y (saX Y m X n) V P w4 (HR.out.below B4 hbb) hm1 hlc1 HO4.out hP.out HLL.out hm
      obtain ⟨va, vl, vc, rfl⟩ : ∃ a l c, V = .slice a l c := by rcases HO4.out.form with ⟨h, _⟩ | ⟨g, cp, h, _⟩ <;> exact ⟨_, _, _, h⟩
      go_wp2_with fail
      refine KLo.mono ?_
      rintro e w7 ⟨v7, rfl, ho7, hb7⟩
      have B7 := Below.on B4 B4.size hb7
      have KI := flatIds_impl v7 (looseF Y m (saX Y m X n) n) _ w7 ho7 (by have := looseF_le Y m (saX Y m X n) n; omega)
      rw [looseF_ids] at KI
      obtain ⟨ao7, cp7, rfl, _⟩ := ho7.slice
      clear ho7
      go_wp2_with fail
      refine KI.mono ?_
      rintro e w8 ⟨u, rfl, ho8, hb8⟩
      have B8 := Below.on B7 B7.size hb8
      obtain ⟨ao8, cp8, rfl, _⟩ := ho8.slice
      have HO8 := hid ho8
      have z7 := hb7.size
      clear ho8
      go_wp2_with fail
      go_ret3
      exact ⟨_, P, _, w4.heap.size, rfl, (HO4.out.below hb7).below hb8, by simpa using hP.out, B4.size, by rw [hres.out]; exact HO8.out.base z7, HO4.out.lt, fun i hi k hk => (HO4.out.inn_lt hi k hk).2, B8⟩
    · obtain ⟨N, hN⟩ : ∃ N, F.length = N := ⟨_, rfl⟩
      rw [hN] at hg3 hF20 hoA ⊢
      have hAl : Hid (A.length = N) := by unfold Hid; rw [hoA.out, isL_len, hN]
      have KS := sorted_any w2 w1.heap.size g N cp F (by rw [← hN]; exact ho2) hN hF20 (by have := hb2.size; omega)
      rw [← hoA.out] at KS
      clear ho2 hN
      go_wp2_with fail
      refine KS.mono ?_
      rintro e w3 ⟨rfl, ho3, hgr3⟩
      have B3 : Below w.heap.size w w3 := B2.grown hgr3 B2.size (fun i hi => by cases hi; have := B1.size; omega)
      have hg33 : g < w3.heap.size := by have := hgr3.size; omega
      have HRw : Hid (Rw w3 g 0 4 N (fun i => (A.getD i default).cells)) := by
        rcases ho3.form with ⟨h9, _⟩ | ⟨g', c', h9, _, _, _, _, h10, _⟩
        · cases h9
        · rw [hAl.out] at h9 h10
          cases h9
          exact h10
      have KC := copy_impl w3 b off n cap X S (H.out.below B3) HL.out hm hlc
      clear ho3 KS
      go_wp2_with fail
      refine KC.mono ?_
      rintro e w4 ⟨V0, P0, rfl, ho4, hP4, hb4⟩
      have B4 := Below.on B3 B3.size hb4
      have HO4 := hid (ho4.base B3.size)
      have HP4 := hid hP4
      have z4 := hb4.size
      clear ho4 hP4 KC
      go_wp2_with fail
      go_loopw [8, 25] (fun v q wr => ∃ (i : Nat) (P : List DrP) (V : Value), i ≤ N ∧ q = .int .i64 i ∧ V = v ∧ Below w4.heap.size w4 wr ∧ Hid (OwnP w.heap.size wr V P) ∧ Hid (P.map Prod.fst = lstD (ST i) n)) (fun _ q _ => N - (intOf q).toNat)
      case atStart => exact ⟨0, P0, _, by omega, rfl, rfl, Below.refl _ _, HO4, by unfold Hid; rw [h0.out]; exact HP4.out⟩
      case round =>
        clear HO4 HP4
        obtain ⟨i, P, V, hi, rfl, rfl, hC, ho, hP⟩ := hrel
        have hB := Below.on B4 B4.size hC
        by_cases hlt : i < N
        · obtain ⟨s, hs⟩ : ∃ s, A.getD i default = s := ⟨_, rfl⟩
          have hlo := hid (HLO.out i i (Nat.le_refl _) (by rw [hAl.out]; exact hlt))
          rw [hs] at hlo
          have hsui : Hid (ST (i + 1) = stepX Y m n (ST i) s.Id) := by unfold Hid; rw [hsu.out i, hs]
          have x0 : wr.cell? ⟨g, i * 4, none⟩ = some (.int .i64 s.Id) := by have := (hC.cell (by show g < _; omega)).trans ((hb4.cell hg33).trans (HRw.out.2 i hlt 0 (by omega))); simp only [hs] at this; rw [show 0 + i * 4 + 0 = i * 4 by omega] at this; exact this
          have x1 : wr.cell? ⟨g, i * 4 + 1, none⟩ = some (.int .i64 s.Wide) := by have := (hC.cell (by show g < _; omega)).trans ((hb4.cell hg33).trans (HRw.out.2 i hlt 1 (by omega))); simp only [hs] at this; rw [show 0 + i * 4 + 1 = i * 4 + 1 by omega] at this; exact this
          have x2 : wr.cell? ⟨g, i * 4 + 2, none⟩ = some (.int .i64 s.High) := by have := (hC.cell (by show g < _; omega)).trans ((hb4.cell hg33).trans (HRw.out.2 i hlt 2 (by omega))); simp only [hs] at this; rw [show 0 + i * 4 + 2 = i * 4 + 2 by omega] at this; exact this
          have x3 : wr.cell? ⟨g, i * 4 + 3, none⟩ = some (.int .i64 s.Grams) := by have := (hC.cell (by show g < _; omega)).trans ((hb4.cell hg33).trans (HRw.out.2 i hlt 3 (by omega))); simp only [hs] at this; rw [show 0 + i * 4 + 3 = i * 4 + 3 by omega] at this; exact this
          clear hs
          have hA : Below wr.heap.size wr (wr.alloc (.cells #[.int .i64 s.Id, .int .i64 s.Wide, .int .i64 s.High, .int .i64 s.Grams] 30)) := by go_grown
          have hCA := Below.on hC hC.size hA
          have hBA := Below.on hB hB.size hA
          have hoA2 := hid (ho.out.below hA)
          have y0 : (wr.alloc (.cells #[.int .i64 s.Id, .int .i64 s.Wide, .int .i64 s.High, .int .i64 s.Grams] 30)).cell? ⟨wr.heap.size, 0, none⟩ = some (.int .i64 s.Id) := by simp [go_sem]
          have lN : wr.heap.size < (wr.alloc (.cells #[.int .i64 s.Id, .int .i64 s.Wide, .int .i64 s.High, .int .i64 s.Grams] 30)).heap.size := by simp
          have KT := tight_own b1 o1 m c1 w.heap.size n Y (ST i) V P s.Id (wr.alloc (.cells #[.int .i64 s.Id, .int .i64 s.Wide, .int .i64 s.High, .int .i64 s.Grams] 30)) (HR.out.below hBA hbb) hm1 hlc1 hoA2.out hP.out (HSL.out i) hm hlo.out
          obtain ⟨va, vl, vc, hV⟩ : ∃ a l c, V = .slice a l c := by rcases ho.out.form with ⟨h, _⟩ | ⟨g, cp, h, _⟩ <;> exact ⟨_, _, _, h⟩
          subst hV
          rcases tgI_can Y m (ST i) n s.Id with ht | ⟨bb, hbl, ht, hcan, _⟩
          · rw [ht] at KT
            have hst : Hid (ST (i + 1) = ST i) := hsui.out.trans (stepX_no ht)
            clear ht
            go_wp2_with fail
            refine KT.mono ?_
            rintro e w5 ⟨rfl, hb5⟩
            have hC5 := Below.on hCA hCA.size hb5
            have ho5 := hid (hoA2.out.below hb5)
            go_wp2_with fail
            go_roundw
            case rel => exact ⟨i + 1, P, _, by omega, by go_num, rfl, hC5, ho5, by rw [hst.out]; exact hP⟩
            case measure => simp [intOf]; omega
          · rw [ht] at KT
            have hst : Hid (ST (i + 1) = putX (ST i) bb s.Id) := hsui.out.trans (stepX_yes ht)
            have hcan := hid hcan
            have d0 : decide ((0 : Int) ≤ (bb : Int)) = true := by simp
            clear ht
            go_wp2_with fail
            refine KT.mono ?_
            rintro e w5 ⟨rfl, hb5⟩
            have hC5 := Below.on hCA hCA.size hb5
            have hB5 := Below.on hBA hBA.size hb5
            have ho5 := hid (hoA2.out.below hb5)
            have y5 : w5.cell? ⟨wr.heap.size, 0, none⟩ = some (.int .i64 s.Id) := (hb5.cell lN).trans y0
            have lN5 : wr.heap.size < w5.heap.size := by have := hb5.size; omega
            rcases ho5.out.drs hP.out with ⟨_, h9⟩ | ⟨g5, cap5, hv5, _, _, hc5, S5, hS5⟩
            · omega
            cases hv5
            have KP := putFlat_impl b1 o1 m c1 g5 0 n _ Y (ST i) S5 s.Id bb w5 (HR.out.below hB5 hbb) hm1 hlc1 hS5 (HSL.out i) hm hc5 hbl hlo.out
            rw [hcan.out] at KP
            clear hS5 KT x0 x1 x2 x3 y0
            go_wp2_with fail
            refine KP.mono ?_
            rintro e w6 ⟨v6, P6, rfl, ho6, hP6, hb6⟩
            have hC6 := Below.on hC5 hC5.size hb6
            have HO6 := hid (ho6.base hB5.size)
            have HP6 : Hid (P6.map Prod.fst = lstD (ST (i + 1)) n) := by unfold Hid; rw [hst.out]; simpa using hP6
            obtain ⟨va, vl, vc, rfl⟩ : ∃ a l c, v6 = .slice a l c := by rcases ho6.form with ⟨h, _⟩ | ⟨g, cp, h, _⟩ <;> exact ⟨_, _, _, h⟩
            clear ho6 hP6
            go_wp2_with fail
            go_roundw
            case rel => exact ⟨i + 1, P6, _, by omega, by go_num, rfl, hC6, HO6, HP6⟩
            case measure => simp [intOf]; omega
        · obtain rfl : i = N := by omega
          have hP : Hid (P.map Prod.fst = lstD (saX Y m X n) n) := by unfold Hid; rw [hsa.out, hAl.out]; exact hP.out
          have KLo := loose_own b1 o1 m c1 w.heap.size n Y (saX Y m X n) V P wr (HR.out.below hB hbb) hm1 hlc1 ho.out hP.out HLL.out hm
          obtain ⟨va, vl, vc, rfl⟩ : ∃ a l c, V = .slice a l c := by rcases ho.out.form with ⟨h, _⟩ | ⟨g, cp, h, _⟩ <;> exact ⟨_, _, _, h⟩
          go_wp2_with fail
          refine KLo.mono ?_
          rintro e w7 ⟨v7, rfl, ho7, hb7⟩
          have B7 := Below.on hB hB.size hb7
          have KI := flatIds_impl v7 (looseF Y m (saX Y m X n) n) _ w7 ho7 (by have := looseF_le Y m (saX Y m X n) n; omega)
          rw [looseF_ids] at KI
          obtain ⟨ao7, cp7, rfl, _⟩ := ho7.slice
          clear ho7
          go_wp2_with fail
          refine KI.mono ?_
          rintro e w8 ⟨u, rfl, ho8, hb8⟩
          have B8 := Below.on B7 B7.size hb8
          obtain ⟨ao8, cp8, rfl, _⟩ := ho8.slice
          have HO8 := hid ho8
          have z7 := hb7.size
          clear ho8
          go_wp2_with fail
          go_ret3
          exact ⟨_, P, _, wr.heap.size, rfl, (ho.out.below hb7).below hb8, by simpa using hP.out, hB.size, by rw [hres.out]; exact HO8.out.base z7, ho.out.lt, fun i hi k hk => (ho.out.inn_lt hi k hk).2, B8⟩

end Go.Proofs.Ytejpmomedclnhaa
