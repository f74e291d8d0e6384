/-
  All flats stored, by the reference. No condition.
-/
import Derived.Test.YtejpmomedclnhaaSto2
import Derived.Test.YtejpmomedclnhaaPut
import Derived.Deep.RegionLaw
namespace Go.Proofs.Ytejpmomedclnhaa
open Go.RowKit
set_option linter.unusedVariables false

theorem cutR_stop {s : FlatD} {O : List FlatD} {k : Nat} (h : k = 0 ∨ s.wh ≤ (O.getD (k - 1) default).wh) : cutR s O k = k := by
  rcases k with _ | j
  · rfl
  · rcases h with h | h
    · omega
    · have h2 : s.wh ≤ (O.getD j default).wh := h
      unfold cutR; rw [if_neg (by omega)]
theorem cutR_go {s : FlatD} {O : List FlatD} {k : Nat} (h0 : 0 < k) (h : (O.getD (k - 1) default).wh < s.wh) : cutR s O k = cutR s O (k - 1) := by
  rcases k with _ | j
  · omega
  · conv => lhs; unfold cutR
    rw [if_pos (by simpa using h)]
    simp
/-- The cells of elements k0 .. of a row, as news. -/
theorem news_part {w : World} {g n : Nat} {O M : List FlatD} {k0 : Nat} (h : Rw w g 0 4 n (fun i => (O.getD i default).cells)) (hM : ∀ i, i < M.length → M.getD i default = O.getD (k0 + i) default) (hn : k0 + M.length ≤ n) :
    ∀ j u, (M.flatMap FlatD.cells)[j]? = some u → w.cell? ((⟨g, k0 * 4, none⟩ : Addr).add j) = some u := by
  intro j u hu
  have hl : j < M.length * 4 := by
    have h1 := (List.getElem?_eq_some_iff.1 hu).1
    rw [flat_len_Flat] at h1
    exact h1
  have hi : j / 4 < M.length := by omega
  have hr : j % 4 < 4 := Nat.mod_lt _ (by omega)
  have e : j = (j / 4) * 4 + j % 4 := by omega
  have h2 := h.2 (k0 + j / 4) (by omega) (j % 4) hr
  have h3 := flat_get_Flat M (j / 4) (j % 4) hi hr
  rw [← e, hM _ hi] at h3
  rw [← h3, hu] at h2
  have ha : ((⟨g, k0 * 4, none⟩ : Addr).add j) = ⟨g, 0 + (k0 + j / 4) * 4 + j % 4, none⟩ := by
    rw [show 0 + (k0 + j / 4) * 4 + j % 4 = k0 * 4 + j by omega]; simp [Addr.add]
  rw [ha]
  exact h2
theorem take_at {O : List FlatD} {k i : Nat} (h : i < (O.take k).length) : (O.take k).getD i default = O.getD (0 + i) default := by
  rw [List.length_take] at h
  have h2 : i < k := by omega
  simp [List.getD, List.getElem?_take, h2]
theorem drop_at {O : List FlatD} {k i : Nat} (h : i < (O.drop k).length) : (O.drop k).getD i default = O.getD (k + i) default := by
  simp [List.getD, List.getElem?_drop]


theorem newsF (s : FlatD) {w : World} {B : Nat} (h : w.heap[B]? = some (.cells #[.int .i64 s.Id, .int .i64 s.Wide, .int .i64 s.High, .int .i64 s.Grams] 30 (0, 0))) : ∀ j u, (s.cells)[j]? = some u → w.cell? ((⟨B, 0, none⟩ : Addr).add j) = some u := World.news_of_block h
theorem onesF (s : FlatD) : ∀ u ∈ s.cells, u.oneCell' = true := by
  intro u hu
  simp [FlatD.cells] at hu
  rcases hu with rfl | rfl | rfl | rfl <;> rfl
theorem lstFlat_succ (Y : Nat → FlatD) (k : Nat) : lstFlat Y (k + 1) = lstFlat Y k ++ [Y k] := by simp [lstFlat, List.range_succ]
theorem looseF_yes {Y : Nat → FlatD} {k n : Nat} {X : Nat → DrawerD} (h : whereI X n (Y k).Id = -1) : looseF Y (k + 1) X n = looseF Y k X n ++ [Y k] := by
  unfold looseF
  rw [lstFlat_succ, List.filter_append]
  simp [h]
theorem looseF_no {Y : Nat → FlatD} {k n t : Nat} {X : Nat → DrawerD} (h : whereI X n (Y k).Id = (t : Int)) : looseF Y (k + 1) X n = looseF Y k X n := by
  unfold looseF
  rw [lstFlat_succ, List.filter_append]
  simp [h]
theorem looseF_pre (Y : Nat → FlatD) (n : Nat) (X : Nat → DrawerD) (k : Nat) : ∀ d, ∃ R, looseF Y (k + d) X n = looseF Y k X n ++ R
  | 0 => ⟨[], by simp⟩
  | d + 1 => by
    obtain ⟨R, hR⟩ := looseF_pre Y n X k d
    rw [← Nat.add_assoc]
    rcases whereI_cases X n (Y (k + d)).Id with h | ⟨t, _, h⟩
    · exact ⟨R ++ [Y (k + d)], by rw [looseF_yes h, hR, List.append_assoc]⟩
    · exact ⟨R, by rw [looseF_no h, hR]⟩
theorem looseF_at {Y : Nat → FlatD} {m k n : Nat} {X : Nat → DrawerD} (hk : k < m) (h : whereI X n (Y k).Id = -1) : (looseF Y k X n).length < (looseF Y m X n).length ∧ (looseF Y m X n).getD (looseF Y k X n).length default = Y k := by
  obtain ⟨R, hR⟩ := looseF_pre Y n X (k + 1) (m - (k + 1))
  rw [show k + 1 + (m - (k + 1)) = m by omega, looseF_yes h] at hR
  rw [hR]
  refine ⟨by simp, ?_⟩
  simp [List.getD]
theorem looseF_mono {Y : Nat → FlatD} {m k n : Nat} {X : Nat → DrawerD} (hk : k ≤ m) : (looseF Y k X n).length ≤ (looseF Y m X n).length := by
  obtain ⟨R, hR⟩ := looseF_pre Y n X k (m - k)
  rw [show k + (m - k) = m by omega] at hR
  rw [hR]; simp
theorem wX_neg (X : Nat → DrawerD) (F : List Int) : wX X (-1) F = X := by
  funext k
  unfold wX
  rw [if_neg (by omega)]
theorem tgV_no {Y : Nat → FlatD} {m : Nat} {X : Nat → DrawerD} {n : Nat} {flat : Int} (h : tgI Y m X n flat = -1) : tgV Y m X n flat = 0 := by unfold tgV; rw [h]; rfl
theorem tgOk_no {Y : Nat → FlatD} {m : Nat} {X : Nat → DrawerD} {n : Nat} {flat : Int} (h : tgI Y m X n flat = -1) : tgOk Y m X n flat = false := by unfold tgOk; rw [h]; rfl
theorem tgV_yes {Y : Nat → FlatD} {m : Nat} {X : Nat → DrawerD} {n b : Nat} {flat : Int} (h : tgI Y m X n flat = (b : Int)) : tgV Y m X n flat = (X b).Id := by unfold tgV; rw [h, if_neg (by omega), Int.toNat_natCast]
theorem tgOk_yes {Y : Nat → FlatD} {m : Nat} {X : Nat → DrawerD} {n b : Nat} {flat : Int} (h : tgI Y m X n flat = (b : Int)) : tgOk Y m X n flat = true := by unfold tgOk; rw [h]; simp
theorem hasI_empty (w : World) : HasI (w.alloc (.cells #[] 3)) (.slice (some ⟨w.heap.size, 0, none⟩) 0 0) [] := ⟨_, 0, rfl, Nat.le_refl _, _, 0, rfl, by simp, fun k hk => absurd hk (by simp)⟩
set_option maxHeartbeats 1000000 in
theorem with0 (w : World) (a : Option Addr) (cap : Nat) (i : Int) (sv : Value) : Calls Try.prog 77 #[.slice a 0 cap, .int .i64 i, sv] w fun e w' => e = .returned (.slice (some ⟨w.heap.size, 0, none⟩) 0 0) ∧ w' = w.alloc (.cells #[] 32) := by
  go_enter Try.func77, Try.ntmps77
  go_wp2_with fail
  refine wp_loop_rounds 1 ?_
  rw [rounds_succ]
  go_wp2_with fail
  go_ret
  exact ⟨rfl, rfl⟩
theorem with_some (w : World) (b off n cap : Nat) (X : Nat → DrawerD) (S : Nat → Value) (i : Int) (sv : Value) (F : List Int) (h : Drs w b off n X S) (hL : ∀ i, i < n → (X i).Flats.length ≤ 1048576) (hm : n ≤ 1048576) (hlc : n ≤ cap) (hF : HasI w sv F) (hFl : F.length ≤ 1048576) :
    Calls Try.prog 77 #[.slice (some ⟨b, off, none⟩) n cap, .int .i64 i, sv] w fun e w' => ∃ g cp P, e = .returned (.slice (some ⟨g, 0, none⟩) n cp) ∧ OwnP w.heap.size w' (.slice (some ⟨g, 0, none⟩) n cp) P ∧ P.map Prod.fst = lstD (wX X i F) n ∧ Below w.heap.size w w' := by
  rcases n with _ | n
  · refine (with0 w _ cap i sv).mono ?_
    rintro e w1 ⟨rfl, rfl⟩
    exact ⟨_, _, [], rfl, OwnP.empty w, rfl, by go_grown⟩
  · refine (with_spec w b off (n + 1) cap X S i sv F h hL hm hlc hF hFl).mono ?_
    rintro e w1 ⟨v, P, rfl, ho, hP, hb⟩
    rcases ho.drs hP with ⟨_, h0⟩ | ⟨g, cp, rfl, _⟩
    · omega
    · exact ⟨g, cp, P, rfl, ho, hP, hb⟩

set_option maxRecDepth 100000 in
set_option maxHeartbeats 6000000 in
theorem sa_spec (b1 o1 m c1 b off n cap : Nat) (Y : Nat → FlatD) (X : Nat → DrawerD) (S : Nat → Value) (w : World) (h1 : Rw w b1 o1 4 m (fun i => (Y i).cells)) (hm1 : m ≤ 1048576) (hlc1 : m ≤ c1) (h : Drs w b off n X S) (hL : ∀ i, i < n → (X i).Flats.length ≤ 1048576) (hm : n ≤ 1048576) (hlc : n ≤ cap) :
    Calls Try.prog 50 #[.slice (some ⟨b1, o1, none⟩) m c1, .slice (some ⟨b, off, none⟩) n cap] w (RetDIB (saX Y m X n) (if goodB Y m X n = true then n else 0) (saL Y m X n) (goodB Y m X n) w) := by
  have hbb := h1.1
  obtain ⟨i0, hi, hz0, hz1, hz2⟩ := info_parts info_Flat
  have KG : Calls Try.prog 60 #[.slice (some ⟨b1, o1, none⟩) m c1, .slice (some ⟨b, off, none⟩) n cap] w fun e w'' => e = .returned (.bool (goodB Y m X n)) ∧ Below w.heap.size w w'' := good_spec b1 o1 m c1 b off n cap Y X S w h1 hm1 hlc1 h hL hm hlc
  have HR := hid h1
  have H := hid h
  have HL := hid hL
  clear h1 h hL
  obtain ⟨r, hr⟩ : ∃ r, goodB Y m X n = r := ⟨_, rfl⟩
  have hres : Hid (saL Y m X n = if r = true then lfI Y m (saX Y m X n) n else []) := by unfold Hid saL; rw [hr]
  rw [hr] at KG ⊢
  have HG := hid hr
  clear hr
  cases r with
  | false =>
    go_enter Try.func50, Try.ntmps50
    go_wp2_with fail
    refine KG.mono ?_
    rintro e w0 ⟨rfl, B0⟩
    have hE1 := hid (OwnP.empty w0)
    have hE2 := hid (ownI_empty (w0.alloc (.cells #[] 32)))
    have hA1 : Below w0.heap.size w0 (w0.alloc (.cells #[] 32)) := by go_grown
    have hA2 : Below (w0.alloc (.cells #[] 32)).heap.size (w0.alloc (.cells #[] 32)) ((w0.alloc (.cells #[] 32)).alloc (.cells #[] 3)) := by go_grown
    have hA := Below.on (Below.on B0 B0.size hA1) (by have := B0.size; simp; omega) hA2
    have z0 := B0.size
    go_wp2_with fail
    go_ret3
    exact ⟨_, [], _, w0.heap.size + 1, rfl, ((hE1.out.below hA2).base B0.size), rfl, by omega, by rw [hres.out]; have := hE2.out; simpa using this, fun k hk => by simp [Value.ownBlock] at hk; omega, fun i hi => absurd hi (by simp), hA⟩
  | true =>
    have hres : Hid (saL Y m X n = lfI Y m (saX Y m X n) n) := by unfold Hid; rw [hres.out]; simp
    have HST := hid (stN_good (L := ordA Y m X n) HG.out)
    have HSL : Hid (∀ i, ∀ k, k < n → (stN Y m n X (ordA Y m X n) i k).Flats.length ≤ 1048576) := fun i k hk => by have := drawerB_len (goodB_drawer (HST.out i) hk); omega
    have HLO := hid (stN_loose HG.out)
    have h20 : m ≤ 20 := by have := goodB_flats HG.out; simp [flatsB] at this; exact this.1
    have hF20 : (looseF Y m X n).length ≤ 20 := by have := looseF_le Y m X n; omega
    have hsa : Hid (saX Y m X n = stN Y m n X (ordA Y m X n) (ordA Y m X n).length) := rfl
    have hoA : Hid (ordA Y m X n = ordL (looseF Y m X n) (looseF Y m X n).length) := ordL_full.symm
    have hAl0 : Hid ((ordA Y m X n).length = (looseF Y m X n).length) := by unfold Hid ordA; rw [isL_len]
    have h0 : Hid (stN Y m n X (ordA Y m X n) 0 = X) := rfl
    have hsu : Hid (∀ i, stN Y m n X (ordA Y m X n) (i + 1) = stepX Y m n (stN Y m n X (ordA Y m X n) i) ((ordA Y m X n).getD i default).Id) := fun i => rfl
    have hat : Hid (∀ k, k < m → whereI X n (Y k).Id = -1 → (looseF Y k X n).length < (looseF Y m X n).length ∧ (looseF Y m X n).getD (looseF Y k X n).length default = Y k) := fun k hk h => looseF_at hk h
    have hmo : Hid (∀ k, k ≤ m → (looseF Y k X n).length ≤ (looseF Y m X n).length) := fun k hk => looseF_mono hk
    obtain ⟨ST, hST⟩ : ∃ ST, stN Y m n X (ordA Y m X n) = ST := ⟨_, rfl⟩
    obtain ⟨A, hA⟩ : ∃ A, ordA Y m X n = A := ⟨_, rfl⟩
    obtain ⟨F, hF⟩ : ∃ F, looseF Y m X n = F := ⟨_, rfl⟩
    rw [hST] at HST HSL HLO hsa h0 hsu
    rw [hA] at HLO hsa hoA hsu hAl0
    rw [hF] at hoA hF20 hAl0 hat hmo
    have HF := hid hF
    clear hST hA hF
    go_enter Try.func50, Try.ntmps50
    go_wp2_with fail
    refine KG.mono ?_
    rintro e w0 ⟨rfl, B0⟩
    clear KG
    have hE0 : Hid (OwnFlat w0.heap.size (w0.alloc (.cells #[] 30)) (.slice (some ⟨w0.heap.size, 0, none⟩) 0 0) (ordL F 0)) := OwnFlat.empty w0
    have hA0 : Below w0.heap.size w0 (w0.alloc (.cells #[] 30)) := by go_grown
    go_wp2_with fail
    go_loopw [7, 8] (fun v iv wr => ∃ (j i : Nat), j ≤ m ∧ iv = .int .i64 j ∧ Below w0.heap.size w0 wr ∧ Hid (i = (looseF Y j X n).length) ∧ ∃ g cap', v = .slice (some ⟨g, 0, none⟩) i cap' ∧ i ≤ cap' ∧ Hid (OwnFlat w0.heap.size wr v (ordL F i))) (fun _ iv _ => m - (intOf iv).toNat)
    case atStart => exact ⟨0, 0, by omega, rfl, hA0, rfl, _, _, rfl, Nat.le_refl _, hE0⟩
    case round =>
      clear hE0 hA0
      obtain ⟨j, i, hj, rfl, hB, hcn, g, cap', rfl, hic, hO⟩ := hrel
      have hiF0 : i ≤ F.length := by rw [hcn.out]; exact hmo.out j hj
      rcases hO.out.form with ⟨hv, _⟩ | ⟨g', cap2, hv, hgB, hg2, _, _, hRw, _⟩
      · exact absurd hv (by simp)
      injection hv with e1 e2 e3
      injection e1 with e1
      injection e1 with e1
      subst e1
      subst e3
      clear e2
      rw [ordL_len hiF0] at hRw
      have hi20 : i ≤ 20 := by omega
      by_cases hlt : j < m
      · obtain ⟨s, hs⟩ : ∃ s, Y j = s := ⟨_, rfl⟩
        have BW := Below.on B0 B0.size hB
        have x0 : wr.cell? ⟨b1, o1 + j * 4, none⟩ = some (.int .i64 s.Id) := by have := (BW.cell hbb).trans (HR.out.2 j hlt 0 (by omega)); simp only [hs] at this; exact this
        have x1 : wr.cell? ⟨b1, o1 + j * 4 + 1, none⟩ = some (.int .i64 s.Wide) := by have := (BW.cell hbb).trans (HR.out.2 j hlt 1 (by omega)); simp only [hs] at this; exact this
        have x2 : wr.cell? ⟨b1, o1 + j * 4 + 2, none⟩ = some (.int .i64 s.High) := by have := (BW.cell hbb).trans (HR.out.2 j hlt 2 (by omega)); simp only [hs] at this; exact this
        have x3 : wr.cell? ⟨b1, o1 + j * 4 + 3, none⟩ = some (.int .i64 s.Grams) := by have := (BW.cell hbb).trans (HR.out.2 j hlt 3 (by omega)); simp only [hs] at this; exact this
        have hA : Below wr.heap.size wr (wr.alloc (.cells #[.int .i64 s.Id, .int .i64 s.Wide, .int .i64 s.High, .int .i64 s.Grams] 30)) := by go_grown
        have hBA := Below.on hB hB.size hA
        have hOA := hid (hO.out.below hA)
        have KW := where_spec b off n cap X S s.Id (wr.alloc (.cells #[.int .i64 s.Id, .int .i64 s.Wide, .int .i64 s.High, .int .i64 s.Grams] 30)) ((H.out.below BW).below hA) HL.out hm hlc
        rcases whereI_cases X n s.Id with hw | ⟨t, ht, hw⟩
        · rw [hw] at KW
          have hw' : whereI X n (Y j).Id = -1 := by rw [hs]; exact hw
          have hiF : Hid (i < F.length) := by unfold Hid; rw [hcn.out]; exact (hat.out j hlt hw').1
          have HsA : Hid (F.getD i default = s) := by unfold Hid; rw [hcn.out, ← hs]; exact (hat.out j hlt hw').2
          have hcnt : Hid (i + 1 = (looseF Y (j + 1) X n).length) := by unfold Hid; rw [looseF_yes hw', hcn.out]; simp
          obtain ⟨O, hOe⟩ : ∃ O, ordL F i = O := ⟨_, rfl⟩
          have hOl : O.length = i := by rw [← hOe]; exact ordL_len hiF0
          rw [hOe] at hO hRw hOA
          have HRw0 := hid (hRw.later' hA)
          have HOe := hid hOe
          have HOl := hid hOl
          clear hOe hRw hs hw hw'
          go_wp2_with fail
          refine KW.mono ?_
          rintro e w' ⟨rfl, rfl⟩
          have y0 : (wr.alloc (.cells #[.int .i64 s.Id, .int .i64 s.Wide, .int .i64 s.High, .int .i64 s.Grams] 30)).cell? ⟨wr.heap.size, 0, none⟩ = some (.int .i64 s.Id) := by simp [go_sem]
          have y1 : (wr.alloc (.cells #[.int .i64 s.Id, .int .i64 s.Wide, .int .i64 s.High, .int .i64 s.Grams] 30)).cell? ⟨wr.heap.size, 1, none⟩ = some (.int .i64 s.Wide) := by simp [go_sem]
          have y2 : (wr.alloc (.cells #[.int .i64 s.Id, .int .i64 s.Wide, .int .i64 s.High, .int .i64 s.Grams] 30)).cell? ⟨wr.heap.size, 2, none⟩ = some (.int .i64 s.High) := by simp [go_sem]
          have y3 : (wr.alloc (.cells #[.int .i64 s.Id, .int .i64 s.Wide, .int .i64 s.High, .int .i64 s.Grams] 30)).cell? ⟨wr.heap.size, 3, none⟩ = some (.int .i64 s.Grams) := by simp [go_sem]
          have lfb : wr.heap.size < (wr.alloc (.cells #[.int .i64 s.Id, .int .i64 s.Wide, .int .i64 s.High, .int .i64 s.Grams] 30)).heap.size := by simp
          have hg2 : g < (wr.alloc (.cells #[.int .i64 s.Id, .int .i64 s.Wide, .int .i64 s.High, .int .i64 s.Grams] 30)).heap.size := by simp; omega
          clear hB BW hA KW x0 x1 x2 x3 hO
          obtain ⟨wo, hwo⟩ : ∃ W, (wr.alloc (.cells #[.int .i64 s.Id, .int .i64 s.Wide, .int .i64 s.High, .int .i64 s.Grams] 30)) = W := ⟨_, rfl⟩
          obtain ⟨fb, hfb⟩ : ∃ N, wr.heap.size = N := ⟨_, rfl⟩
          rw [hwo] at y0 y1 y2 y3 lfb hg2 hBA hOA HRw0 ⊢
          rw [hfb] at y0 y1 y2 y3 lfb ⊢
          have hB := hBA
          have HRw := HRw0
          clear hwo hfb hBA HRw0
          obtain ⟨xs, hxs⟩ : ∃ x, s.wh = x := ⟨_, rfl⟩
          have u1 : IntKind.i64.wrap (s.Wide * s.High) = xs := hxs
          have HXS := hid hxs
          clear hxs
          go_wp2_with fail
          go_loopw [10] (fun kv wi => ∃ k : Nat, k ≤ i ∧ kv = .int .i64 k ∧ Below wo.heap.size wo wi ∧ Hid (cutR s O i = cutR s O k)) (fun kv _ => (intOf kv).toNat)
          case atStart => exact ⟨i, by omega, rfl, Below.refl _ _, rfl⟩
          case round =>
            obtain ⟨k, hk, rfl, hBi, hcut⟩ := hrel
            have hq := fun x : Later wr => x.cell
            have e0 : IntKind.i64.wrap ((k : Int) - 1) = (k : Int) - 1 := IntWalk.i64_in _ (by omega)
            have e1 : ((k : Int) - 1).toNat = k - 1 := by omega
            have lbi : fb < wr.heap.size := by have := hBi.size; omega
            have lgi : g < wr.heap.size := by have := hBi.size; omega
            have v1 : wr.cell? ⟨fb, 1, none⟩ = some (.int .i64 s.Wide) := (hBi.cell lfb).trans y1
            have v2 : wr.cell? ⟨fb, 2, none⟩ = some (.int .i64 s.High) := (hBi.cell lfb).trans y2
            obtain ⟨p, hp⟩ : ∃ p, O.getD (k - 1) default = p := ⟨_, rfl⟩
            obtain ⟨a, ha⟩ : ∃ a, p.wh = a := ⟨_, rfl⟩
            have u2 : IntKind.i64.wrap (p.Wide * p.High) = a := ha
            have hpw : Hid ((O.getD (k - 1) default).wh = a) := by unfold Hid; rw [hp]; exact ha
            by_cases hk0 : 0 < k
            · have e2 : (0 : Int) ≤ (k : Int) - 1 := by omega
              have e3 : (k : Int) - 1 < (i : Int) := by omega
              have d0 : decide ((0 : Int) < (k : Int)) = true := by simp; omega
              have p1 : wr.cell? ⟨g, (k - 1) * 4 + 1, none⟩ = some (.int .i64 p.Wide) := (hBi.cell hg2).trans (by have hh := HRw.out.2 (k - 1) (by omega) 1 (by omega); rw [Nat.zero_add] at hh; exact hh.trans (by rw [← hp]; rfl))
              have p2 : wr.cell? ⟨g, (k - 1) * 4 + 2, none⟩ = some (.int .i64 p.High) := (hBi.cell hg2).trans (by have hh := HRw.out.2 (k - 1) (by omega) 2 (by omega); rw [Nat.zero_add] at hh; exact hh.trans (by rw [← hp]; rfl))
              by_cases hlw : a < xs
              · have d1 : decide (a < xs) = true := by simp [hlw]
                have hgo : Hid (cutR s O i = cutR s O (k - 1)) := by unfold Hid; rw [hcut.out]; exact cutR_go hk0 (by rw [hpw.out, HXS.out]; exact hlw)
                clear ha hp hlw
                go_wp2_with fail
                refine region_later (by kernel_rfl) (by kernel_rfl) ?_
                repeat (go_big_quiet_step (fail))
                refine wpQuiet_nil ?_
                intro _ hw'
                obtain ⟨x, rfl⟩ := hw'

                have hBx : Below wo.heap.size wo x.wd := Below.on hBi hBi.size x.below
                clear hq
                go_wp2_with fail
                go_roundw
                case rel => exact ⟨k - 1, by omega, by rw [show ((k - 1 : Nat) : Int) = (k : Int) - 1 by omega], hBx, hgo⟩
                case measure => simp [intOf]; omega
              · have d1 : decide (a < xs) = false := by simp [hlw]
                have hstop : Hid (k = 0 ∨ s.wh ≤ (O.getD (k - 1) default).wh) := .inr (by rw [hpw.out, HXS.out]; omega)
                clear ha hp hlw
                go_wp2_with fail
                refine region_later (by kernel_rfl) (by kernel_rfl) ?_
                repeat (go_big_quiet_step (fail))
                refine wpQuiet_nil ?_
                intro _ hw'
                obtain ⟨x, rfl⟩ := hw'

                clear d1 p1 p2 e2 e3 v1 v2
                have HC : Hid (cutR s O i = k) := by unfold Hid; rw [hcut.out]; exact cutR_stop hstop.out
                have BX : Below w0.heap.size w0 x.wd := Below.on hB hB.size (Below.on hBi hBi.size x.below)
                have N1 : Hid (∀ j u, ((O.take k).flatMap FlatD.cells)[j]? = some u → x.wd.cell? ((⟨g, 0, none⟩ : Addr).add j) = some u) := by
                  have hh := news_part (k0 := 0) (M := O.take k) (HRw.out.later' (Below.on hBi hBi.size x.below)) (fun i hi => take_at hi) (by rw [List.length_take]; omega)
                  rw [Nat.zero_mul] at hh
                  exact hh
                have N2 : Hid (∀ j u, ((O.drop k).flatMap FlatD.cells)[j]? = some u → x.wd.cell? ((if cap' = k then (⟨g, 0, none⟩ : Addr) else ⟨g, k * 4, none⟩).add j) = some u) := by
                  by_cases hck : cap' = k
                  · have hnil : O.drop k = [] := List.drop_eq_nil_of_le (by rw [HOl.out]; omega)
                    unfold Hid
                    intro j u hu
                    rw [hnil] at hu
                    simp at hu
                  · rw [if_neg hck]
                    exact news_part (k0 := k) (M := O.drop k) (HRw.out.later' (Below.on hBi hBi.size x.below)) (fun i hi => drop_at hi) (by rw [List.length_drop, HOl.out]; omega)
                have hgl : g < x.wd.heap.size := by have := x.size; have := hBi.size; omega
                have hbx : fb < x.wd.heap.size := by have := x.size; have := hBi.size; omega
                have c0 : x.wd.cell? ⟨fb, 0, none⟩ = some (.int .i64 s.Id) := ((Below.on hBi hBi.size x.below).cell lfb).trans y0
                have c1 : x.wd.cell? ⟨fb, 1, none⟩ = some (.int .i64 s.Wide) := ((Below.on hBi hBi.size x.below).cell lfb).trans y1
                have c2 : x.wd.cell? ⟨fb, 2, none⟩ = some (.int .i64 s.High) := ((Below.on hBi hBi.size x.below).cell lfb).trans y2
                have c3 : x.wd.cell? ⟨fb, 3, none⟩ = some (.int .i64 s.Grams) := ((Below.on hBi hBi.size x.below).cell lfb).trans y3
                have z1 : (0 : Int) ≤ (k : Int) := by omega
                have z2 : (k : Int) ≤ (i : Int) := by omega
                have z3 : (k : Int) ≤ (cap' : Int) := by omega
                have z4 : (i : Int) ≤ (cap' : Int) := by omega
                clear hq hcut hBi hB e0 e1 d0 y0 y1 y2 y3 u1 u2
                generalize x.wd = wx at *
                have HE1 : Hid (((wx.drew.alloc (.cells #[] 30)).alloc (.cells #[.int .i64 s.Id, .int .i64 s.Wide, .int .i64 s.High, .int .i64 s.Grams] 30)).heap[wx.heap.size + 1]? = some (.cells #[.int .i64 s.Id, .int .i64 s.Wide, .int .i64 s.High, .int .i64 s.Grams] 30)) := by have := heap_alloc_new (wx.drew.alloc (.cells #[] 30)) (.cells #[.int .i64 s.Id, .int .i64 s.Wide, .int .i64 s.High, .int .i64 s.Grams] 30); simpa [Hid] using this
                have HE2 : Hid (((wx.drew.alloc (.cells #[.int .i64 s.Id, .int .i64 s.Wide, .int .i64 s.High, .int .i64 s.Grams] 30)).alloc (.cells #[] 30)).heap[wx.heap.size]? = some (.cells #[.int .i64 s.Id, .int .i64 s.Wide, .int .i64 s.High, .int .i64 s.Grams] 30)) := (heap_alloc_old _ _ (by simp)).trans (heap_alloc_new wx.drew _)
                have HE3 : Hid (OwnFlat wx.heap.size ((wx.drew.alloc (.cells #[.int .i64 s.Id, .int .i64 s.Wide, .int .i64 s.High, .int .i64 s.Grams] 30)).alloc (.cells #[] 30)) (.slice (some ⟨wx.heap.size + 1, 0, none⟩) 0 0) []) := by
                  have hh := OwnFlat.base (B' := wx.heap.size) (OwnFlat.empty (wx.drew.alloc (.cells #[.int .i64 s.Id, .int .i64 s.Wide, .int .i64 s.High, .int .i64 s.Grams] 30))) (by first | (simp; done) | (simp; omega))
                  rw [show (wx.drew.alloc (.cells #[.int .i64 s.Id, .int .i64 s.Wide, .int .i64 s.High, .int .i64 s.Grams] 30)).heap.size = wx.heap.size + 1 from by simp] at hh
                  exact hh
                go_wp2_with fail
                go_region_law (first
                  | (refine step_append_own rfl (.tmp 70) (.tmp 72) 41 rfl wx.heap.size 30 i0 (.agg #[.int .i64 0, .int .i64 0, .int .i64 0, .int .i64 0]) 4 32 Try.underlying41 hi hz0 hz1 hz2 rfl (by decide) v1 k ((O.take k).flatMap FlatD.cells) rfl (by first | exact ho1 | exact World.ownsRow.alloc ho1 _) _ 1 1 (s.cells) _ rfl rfl rfl (by first | exact newsF s (heap_alloc_new w1 _) | exact newsF s ((hg1.block _ (by first | (simp; done) | (simp; omega)) (by first | (simp; done) | (simp; omega))).trans HE1.out) | exact newsF s ((hg1.block _ (by first | (simp; done) | (simp; omega)) (by first | (simp; done) | (simp; omega))).trans HE2.out)) (onesF _) (by unfold maxLen; omega) (by omega) (by have hh := B1.size; first | exact hh | (simp; omega)) ?_; intro v2 w2 hown2 hgrow2 hlo2; (have B2 : Below wx.heap.size wx w2 := by first | exact B1.grown hgrow2 B1.size hlo2 | exact (B1.alloc B1.size _).grown hgrow2 (B1.alloc B1.size _).size hlo2); clear hg1 hgrow1 hgrow2 q0 q1 q2 q3)
                  | (refine step_append_own rfl (.tmp 73) (.tmp 76) 41 rfl wx.heap.size 30 i0 (.agg #[.int .i64 0, .int .i64 0, .int .i64 0, .int .i64 0]) 4 32 Try.underlying41 hi hz0 hz1 hz2 rfl (by decide) v2 (k + 1) ((O.take k).flatMap FlatD.cells ++ s.cells) rfl hown2 (if cap' = k then (⟨g, 0, none⟩ : Addr) else ⟨g, k * 4, none⟩) (i - k) (cap' - k) ((O.drop k).flatMap FlatD.cells) _ rfl (by split <;> rfl) (by rw [flat_len_Flat, List.length_drop]; have := HOl.out; congr 1; omega) (news_below N2.out B2 (by split <;> exact hgl)) (flat_one_Flat _) (by unfold maxLen; omega) (by omega) B2.size ?_; intro v3 w3 hown3 hgrow3 hlo3; (have B3 : Below wx.heap.size wx w3 := B2.grown hgrow3 B2.size hlo3); clear hgrow3)
                  | (refine step_append_own rfl (.tmp 66) (.tmp 69) 41 rfl wx.heap.size 30 i0 (.agg #[.int .i64 0, .int .i64 0, .int .i64 0, .int .i64 0]) 4 32 Try.underlying41 hi hz0 hz1 hz2 rfl (by decide) _ 0 [] rfl (by first | exact OwnFlat.empty wx.drew | exact World.ownsRow.alloc (OwnFlat.empty wx.drew) _ | exact HE3.out) ⟨g, 0, none⟩ k cap' ((O.take k).flatMap FlatD.cells) _ rfl rfl (by rw [flat_len_Flat, List.length_take]; have := HOl.out; congr 1; omega) (news_below N1.out (by go_grown) hgl) (flat_one_Flat _) (by unfold maxLen; omega) (by omega) (by first | (simp; done) | (simp; omega)) ?_; intro v1 w1 hown1 hgrow1 hlo1; (have B1 : Below wx.heap.size wx w1 := Below.grown (by go_grown) hgrow1 (by first | (simp; done) | (simp; omega)) hlo1); (first | (have hg1 : World.grownBy _ w1 (some wx.heap.size) := hgrow1) | (have hg1 : World.grownBy _ w1 (some (wx.heap.size + 1)) := hgrow1)); (have ho1 : w1.ownsRow wx.heap.size 30 4 v1 k ((O.take k).flatMap FlatD.cells) := by simpa using hown1); (have q0 := (B1.cell hbx).trans c0); (have q1 := (B1.cell hbx).trans c1); (have q2 := (B1.cell hbx).trans c2); (have q3 := (B1.cell hbx).trans c3); clear hown1))
                all_goals
                  have hO3 : OwnFlat w0.heap.size w3 v3 (ordL F (i + 1)) := by
                    unfold OwnFlat
                    rw [ordL_len hiF.out, ordL_succ hiF.out, HsA.out, HOe.out, HC.out, List.flatMap_append, List.flatMap_cons, ← List.append_assoc]
                    have hh := ownsRow_base hown3 BX.size
                    rw [show k + 1 + (i - k) = i + 1 by omega] at hh
                    exact hh
                  have hB3 : Below w0.heap.size w0 w3 := Below.on BX BX.size B3
                  clear hown2 hown3 B1 B2 B3 ho1
                  rcases hO3.form with ⟨_, h0⟩ | ⟨g3, cap3, hv3, _, _, hc3, _⟩
                  · have := congrArg List.length h0
                    rw [ordL_len hiF.out] at this
                    simp at this
                  · rw [ordL_len hiF.out] at hv3 hc3
                    subst hv3
                    have HO3 := hid hO3
                    clear hO3
                    go_wp2_with fail
                    go_roundw
                    case rel => exact ⟨j + 1, i + 1, by omega, by go_num, hB3, hcnt, g3, cap3, rfl, hc3, HO3⟩
                    case measure => simp [intOf]; omega
            · have d0 : decide ((0 : Int) < (k : Int)) = false := by simp; omega
              have d0' : decide (0 < k) = false := by simp; omega
              have hstop : Hid (k = 0 ∨ s.wh ≤ (O.getD (k - 1) default).wh) := .inl (by omega)
              clear ha hp hk0
              go_wp2_with fail
              refine region_later (by kernel_rfl) (by kernel_rfl) ?_
              repeat (go_big_quiet_step (fail))
              refine wpQuiet_nil ?_
              intro _ hw'
              obtain ⟨x, rfl⟩ := hw'

              clear v1 v2
              have HC : Hid (cutR s O i = k) := by unfold Hid; rw [hcut.out]; exact cutR_stop hstop.out
              have BX : Below w0.heap.size w0 x.wd := Below.on hB hB.size (Below.on hBi hBi.size x.below)
              have N1 : Hid (∀ j u, ((O.take k).flatMap FlatD.cells)[j]? = some u → x.wd.cell? ((⟨g, 0, none⟩ : Addr).add j) = some u) := by
                have hh := news_part (k0 := 0) (M := O.take k) (HRw.out.later' (Below.on hBi hBi.size x.below)) (fun i hi => take_at hi) (by rw [List.length_take]; omega)
                rw [Nat.zero_mul] at hh
                exact hh
              have N2 : Hid (∀ j u, ((O.drop k).flatMap FlatD.cells)[j]? = some u → x.wd.cell? ((if cap' = k then (⟨g, 0, none⟩ : Addr) else ⟨g, k * 4, none⟩).add j) = some u) := by
                by_cases hck : cap' = k
                · have hnil : O.drop k = [] := List.drop_eq_nil_of_le (by rw [HOl.out]; omega)
                  unfold Hid
                  intro j u hu
                  rw [hnil] at hu
                  simp at hu
                · rw [if_neg hck]
                  exact news_part (k0 := k) (M := O.drop k) (HRw.out.later' (Below.on hBi hBi.size x.below)) (fun i hi => drop_at hi) (by rw [List.length_drop, HOl.out]; omega)
              have hgl : g < x.wd.heap.size := by have := x.size; have := hBi.size; omega
              have hbx : fb < x.wd.heap.size := by have := x.size; have := hBi.size; omega
              have c0 : x.wd.cell? ⟨fb, 0, none⟩ = some (.int .i64 s.Id) := ((Below.on hBi hBi.size x.below).cell lfb).trans y0
              have c1 : x.wd.cell? ⟨fb, 1, none⟩ = some (.int .i64 s.Wide) := ((Below.on hBi hBi.size x.below).cell lfb).trans y1
              have c2 : x.wd.cell? ⟨fb, 2, none⟩ = some (.int .i64 s.High) := ((Below.on hBi hBi.size x.below).cell lfb).trans y2
              have c3 : x.wd.cell? ⟨fb, 3, none⟩ = some (.int .i64 s.Grams) := ((Below.on hBi hBi.size x.below).cell lfb).trans y3
              have z1 : (0 : Int) ≤ (k : Int) := by omega
              have z2 : (k : Int) ≤ (i : Int) := by omega
              have z3 : (k : Int) ≤ (cap' : Int) := by omega
              have z4 : (i : Int) ≤ (cap' : Int) := by omega
              clear hq hcut hBi hB e0 e1 d0 y0 y1 y2 y3 u1 u2
              generalize x.wd = wx at *
              have HE1 : Hid (((wx.drew.alloc (.cells #[] 30)).alloc (.cells #[.int .i64 s.Id, .int .i64 s.Wide, .int .i64 s.High, .int .i64 s.Grams] 30)).heap[wx.heap.size + 1]? = some (.cells #[.int .i64 s.Id, .int .i64 s.Wide, .int .i64 s.High, .int .i64 s.Grams] 30)) := by have := heap_alloc_new (wx.drew.alloc (.cells #[] 30)) (.cells #[.int .i64 s.Id, .int .i64 s.Wide, .int .i64 s.High, .int .i64 s.Grams] 30); simpa [Hid] using this
              have HE2 : Hid (((wx.drew.alloc (.cells #[.int .i64 s.Id, .int .i64 s.Wide, .int .i64 s.High, .int .i64 s.Grams] 30)).alloc (.cells #[] 30)).heap[wx.heap.size]? = some (.cells #[.int .i64 s.Id, .int .i64 s.Wide, .int .i64 s.High, .int .i64 s.Grams] 30)) := (heap_alloc_old _ _ (by simp)).trans (heap_alloc_new wx.drew _)
              have HE3 : Hid (OwnFlat wx.heap.size ((wx.drew.alloc (.cells #[.int .i64 s.Id, .int .i64 s.Wide, .int .i64 s.High, .int .i64 s.Grams] 30)).alloc (.cells #[] 30)) (.slice (some ⟨wx.heap.size + 1, 0, none⟩) 0 0) []) := by
                have hh := OwnFlat.base (B' := wx.heap.size) (OwnFlat.empty (wx.drew.alloc (.cells #[.int .i64 s.Id, .int .i64 s.Wide, .int .i64 s.High, .int .i64 s.Grams] 30))) (by first | (simp; done) | (simp; omega))
                rw [show (wx.drew.alloc (.cells #[.int .i64 s.Id, .int .i64 s.Wide, .int .i64 s.High, .int .i64 s.Grams] 30)).heap.size = wx.heap.size + 1 from by simp] at hh
                exact hh
              go_wp2_with fail
              go_region_law (first
                | (refine step_append_own rfl (.tmp 70) (.tmp 72) 41 rfl wx.heap.size 30 i0 (.agg #[.int .i64 0, .int .i64 0, .int .i64 0, .int .i64 0]) 4 32 Try.underlying41 hi hz0 hz1 hz2 rfl (by decide) v1 k ((O.take k).flatMap FlatD.cells) rfl (by first | exact ho1 | exact World.ownsRow.alloc ho1 _) _ 1 1 (s.cells) _ rfl rfl rfl (by first | exact newsF s (heap_alloc_new w1 _) | exact newsF s ((hg1.block _ (by first | (simp; done) | (simp; omega)) (by first | (simp; done) | (simp; omega))).trans HE1.out) | exact newsF s ((hg1.block _ (by first | (simp; done) | (simp; omega)) (by first | (simp; done) | (simp; omega))).trans HE2.out)) (onesF _) (by unfold maxLen; omega) (by omega) (by have hh := B1.size; first | exact hh | (simp; omega)) ?_; intro v2 w2 hown2 hgrow2 hlo2; (have B2 : Below wx.heap.size wx w2 := by first | exact B1.grown hgrow2 B1.size hlo2 | exact (B1.alloc B1.size _).grown hgrow2 (B1.alloc B1.size _).size hlo2); clear hg1 hgrow1 hgrow2 q0 q1 q2 q3)
                | (refine step_append_own rfl (.tmp 73) (.tmp 76) 41 rfl wx.heap.size 30 i0 (.agg #[.int .i64 0, .int .i64 0, .int .i64 0, .int .i64 0]) 4 32 Try.underlying41 hi hz0 hz1 hz2 rfl (by decide) v2 (k + 1) ((O.take k).flatMap FlatD.cells ++ s.cells) rfl hown2 (if cap' = k then (⟨g, 0, none⟩ : Addr) else ⟨g, k * 4, none⟩) (i - k) (cap' - k) ((O.drop k).flatMap FlatD.cells) _ rfl (by split <;> rfl) (by rw [flat_len_Flat, List.length_drop]; have := HOl.out; congr 1; omega) (news_below N2.out B2 (by split <;> exact hgl)) (flat_one_Flat _) (by unfold maxLen; omega) (by omega) B2.size ?_; intro v3 w3 hown3 hgrow3 hlo3; (have B3 : Below wx.heap.size wx w3 := B2.grown hgrow3 B2.size hlo3); clear hgrow3)
                | (refine step_append_own rfl (.tmp 66) (.tmp 69) 41 rfl wx.heap.size 30 i0 (.agg #[.int .i64 0, .int .i64 0, .int .i64 0, .int .i64 0]) 4 32 Try.underlying41 hi hz0 hz1 hz2 rfl (by decide) _ 0 [] rfl (by first | exact OwnFlat.empty wx.drew | exact World.ownsRow.alloc (OwnFlat.empty wx.drew) _ | exact HE3.out) ⟨g, 0, none⟩ k cap' ((O.take k).flatMap FlatD.cells) _ rfl rfl (by rw [flat_len_Flat, List.length_take]; have := HOl.out; congr 1; omega) (news_below N1.out (by go_grown) hgl) (flat_one_Flat _) (by unfold maxLen; omega) (by omega) (by first | (simp; done) | (simp; omega)) ?_; intro v1 w1 hown1 hgrow1 hlo1; (have B1 : Below wx.heap.size wx w1 := Below.grown (by go_grown) hgrow1 (by first | (simp; done) | (simp; omega)) hlo1); (first | (have hg1 : World.grownBy _ w1 (some wx.heap.size) := hgrow1) | (have hg1 : World.grownBy _ w1 (some (wx.heap.size + 1)) := hgrow1)); (have ho1 : w1.ownsRow wx.heap.size 30 4 v1 k ((O.take k).flatMap FlatD.cells) := by simpa using hown1); (have q0 := (B1.cell hbx).trans c0); (have q1 := (B1.cell hbx).trans c1); (have q2 := (B1.cell hbx).trans c2); (have q3 := (B1.cell hbx).trans c3); clear hown1))
              all_goals
                have hO3 : OwnFlat w0.heap.size w3 v3 (ordL F (i + 1)) := by
                  unfold OwnFlat
                  rw [ordL_len hiF.out, ordL_succ hiF.out, HsA.out, HOe.out, HC.out, List.flatMap_append, List.flatMap_cons, ← List.append_assoc]
                  have hh := ownsRow_base hown3 BX.size
                  rw [show k + 1 + (i - k) = i + 1 by omega] at hh
                  exact hh
                have hB3 : Below w0.heap.size w0 w3 := Below.on BX BX.size B3
                clear hown2 hown3 B1 B2 B3 ho1
                rcases hO3.form with ⟨_, h0⟩ | ⟨g3, cap3, hv3, _, _, hc3, _⟩
                · have := congrArg List.length h0
                  rw [ordL_len hiF.out] at this
                  simp at this
                · rw [ordL_len hiF.out] at hv3 hc3
                  subst hv3
                  have HO3 := hid hO3
                  clear hO3
                  go_wp2_with fail
                  go_roundw
                  case rel => exact ⟨j + 1, i + 1, by omega, by go_num, hB3, hcnt, g3, cap3, rfl, hc3, HO3⟩
                  case measure => simp [intOf]; omega
        · rw [hw] at KW
          have hw' : whereI X n (Y j).Id = (t : Int) := by rw [hs]; exact hw
          have hcnt : Hid (i = (looseF Y (j + 1) X n).length) := by unfold Hid; rw [looseF_no hw', hcn.out]
          have d0 : decide ((0 : Int) ≤ (t : Int)) = true := by simp
          clear hs hw hw' hRw
          go_wp2_with fail
          refine KW.mono ?_
          rintro e w' ⟨rfl, rfl⟩
          go_wp2_with fail
          go_roundw
          case rel => exact ⟨j + 1, i, by omega, by go_num, hBA, hcnt, g, cap', rfl, hic, hOA⟩
          case measure => simp [intOf]; omega
      · obtain rfl : j = m := by omega
        have hiN : i = F.length := by rw [hcn.out, HF.out]
        have hAl : Hid (A.length = i) := by unfold Hid; rw [hAl0.out, hiN]
        have hoA2 : Hid (ordL F i = A) := by unfold Hid; rw [hoA.out, ← hiN]
        rw [hoA2.out] at hRw
        have HRw := hid hRw
        have BW := Below.on B0 B0.size hB
        have hA : Below wr.heap.size wr (wr.alloc (.cells #[] 3)) := by go_grown
        have BA := Below.on BW BW.size hA
        have KX := with_some (wr.alloc (.cells #[] 3)) b off n cap X S (-1) (.slice (some ⟨wr.heap.size, 0, none⟩) 0 0) [] (H.out.below BA) HL.out hm hlc (hasI_empty wr) (by simp)
        rw [wX_neg] at KX
        clear hRw hcn hO hoA hat hmo hiN hiF0
        go_wp2_with fail
        refine KX.mono ?_
        rintro e w4 ⟨gd0, cd0, P0, rfl, ho4, hP4, hb4⟩
        have B4 := Below.on BA BA.size hb4
        have B4r := Below.on hA hA.size hb4
        have HO4 := hid (ho4.base BA.size)
        have HP4 := hid hP4
        clear ho4 hP4 KX hA hb4
        obtain ⟨wq, hwq⟩ : ∃ W, W = wr := ⟨_, rfl⟩
        rw [← hwq] at hg2 B4r HRw
        clear hwq
        go_wp2_with fail
        go_loopw [11, 12] (fun v q wr => ∃ (t : Nat) (P : List DrP) (gd cd : Nat), t ≤ i ∧ q = .int .i64 t ∧ v = .slice (some ⟨gd, 0, none⟩) n cd ∧ Below w4.heap.size w4 wr ∧ Hid (OwnP w.heap.size wr (.slice (some ⟨gd, 0, none⟩) n cd) P) ∧ Hid (P.map Prod.fst = lstD (ST t) n)) (fun _ q _ => i - (intOf q).toNat)
        case atStart => exact ⟨0, P0, _, _, by omega, rfl, rfl, Below.refl _ _, HO4, by unfold Hid; rw [h0.out]; exact HP4.out⟩
        case round =>
          clear HO4 HP4
          obtain ⟨t, P, gd, cd, ht, rfl, rfl, hC, ho, hP⟩ := hrel
          have hBt := Below.on B4 B4.size hC
          rcases ho.out.drs hP.out with ⟨h9, _⟩ | ⟨g5, cap5, hv5, _, _, hc5, S5, hS5⟩
          · cases h9
          cases hv5
          by_cases hlt2 : t < i
          · obtain ⟨s, hs⟩ : ∃ s, A.getD t default = s := ⟨_, rfl⟩
            have hlo := hid (HLO.out t t (Nat.le_refl _) (by rw [hAl.out]; exact hlt2))
            rw [hs] at hlo
            have hsui : Hid (ST (t + 1) = stepX Y j n (ST t) s.Id) := by unfold Hid; rw [hsu.out t, hs]
            have x0 : wr.cell? ⟨g, t * 4, none⟩ = some (.int .i64 s.Id) := by have := (hC.cell (by have := B4r.size; show g < _; omega)).trans ((B4r.cell hg2).trans (HRw.out.2 t hlt2 0 (by omega))); simp only [hs] at this; rw [show 0 + t * 4 + 0 = t * 4 by omega] at this; exact this
            clear hs
            have KT := tight_spec b1 o1 j c1 gd 0 n cd Y (ST t) S5 s.Id wr (HR.out.below hBt hbb) hm1 hlc1 hS5 (HSL.out t) hm hc5
            rcases tgI_can Y j (ST t) n s.Id with htg | ⟨bb, hbl, htg, hcan, _⟩
            · rw [tgV_no htg, tgOk_no htg] at KT
              have hst : Hid (ST (t + 1) = ST t) := hsui.out.trans (stepX_no htg)
              clear htg
              go_wp2_with fail
              refine KT.mono ?_
              rintro e w5 ⟨rfl, hb5⟩
              have hC5 := Below.on hC hC.size hb5
              have ho5 := hid (ho.out.below hb5)
              go_wp2_with fail
              go_roundw
              case rel => exact ⟨t + 1, P, _, _, by omega, by go_num, rfl, hC5, ho5, by rw [hst.out]; exact hP⟩
              case measure => simp [intOf]; omega
            · rw [tgV_yes htg, tgOk_yes htg] at KT
              have hst : Hid (ST (t + 1) = putX (ST t) bb s.Id) := hsui.out.trans (stepX_yes htg)
              have hcan := hid hcan
              have HST5 := hid hS5
              obtain ⟨id, hidd⟩ : ∃ id, (ST t bb).Id = id := ⟨_, rfl⟩
              have hpf : Hid (pfOk Y j (ST t) n s.Id id = true) := by unfold Hid; rw [← hidd, pf_self hlo.out hbl]; exact hcan.out
              have hda : Hid (dAt (ST t) n id = (bb : Int)) := by unfold Hid; rw [← hidd]; exact dAt_self (HST.out t) hbl
              rw [hidd] at KT
              clear htg hS5 hidd
              go_wp2_with fail
              refine KT.mono ?_
              rintro e w5 ⟨rfl, hb5⟩
              have hC5 := Below.on hC hC.size hb5
              have hB5 := Below.on hBt hBt.size hb5
              have x5 : w5.cell? ⟨g, t * 4, none⟩ = some (.int .i64 s.Id) := (hb5.cell (by have := B4r.size; have := hC.size; show g < _; omega)).trans x0
              have KP := pf_spec b1 o1 j c1 gd 0 n cd Y (ST t) S5 s.Id id w5 (HR.out.below hB5 hbb) hm1 hlc1 (HST5.out.below hb5) (HSL.out t) hm hc5
              rw [hpf.out, hda.out, Int.toNat_natCast] at KP
              clear KT x0
              go_wp2_with fail
              refine KP.mono ?_
              rintro e w6 ⟨v6, P6, rfl, ho6, hP6, hb6⟩
              have hC6 := Below.on hC5 hC5.size hb6
              have HO6 := hid (ho6.base hB5.size)
              have hP7 : P6.map Prod.fst = lstD (putX (ST t) bb s.Id) n := by simpa using hP6
              have HP6 : Hid (P6.map Prod.fst = lstD (ST (t + 1)) n) := by unfold Hid; rw [hst.out]; exact hP7
              rcases ho6.drs hP7 with ⟨_, h9⟩ | ⟨g6, cap6, rfl, _⟩
              · omega
              clear ho6 hP6 hP7
              go_wp2_with fail
              go_roundw
              case rel => exact ⟨t + 1, P6, _, _, by omega, by go_num, rfl, hC6, HO6, HP6⟩
              case measure => simp [intOf]; omega
          · obtain rfl : t = i := by omega
            have hst : Hid (ST t = saX Y j X n) := by unfold Hid; rw [hsa.out, hAl.out]
            have KLo := loose_spec b1 o1 j c1 gd 0 n cd Y (ST t) S5 wr (HR.out.below hBt hbb) hm1 hlc1 hS5 (HSL.out t) hm hc5
            rw [hst.out] at KLo
            clear hS5
            go_wp2_with fail
            refine KLo.mono ?_
            rintro e w8 ⟨u, rfl, ho8, hb8⟩
            have B8 := Below.on hBt hBt.size hb8
            obtain ⟨ao8, cp8, rfl, _⟩ := ho8.slice
            have HO8 := hid ho8
            clear ho8
            go_wp2_with fail
            go_ret3
            exact ⟨_, P, _, wr.heap.size, rfl, ho.out.below hb8, by rw [← hst.out]; simpa using hP.out, hBt.size, by rw [hres.out]; exact HO8.out, ho.out.lt, fun i hi k hk => (ho.out.inn_lt hi k hk).2, B8⟩

end Go.Proofs.Ytejpmomedclnhaa
