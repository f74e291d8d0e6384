/-
  Loose flats, by the program. No condition.
-/
import Derived.Test.YtejpmomedclnhaaDrawE
import Derived.Test.YtejpmomedclnhaaDelFlat
namespace Go.Proofs.Ytejpmomedclnhaa
open Go.RowKit
set_option linter.unusedVariables false

theorem loose_1 (s : FlatD) (b off n cap : Nat) (X : Nat → DrawerD) (S : Nat → Value) (b1 : Nat) (w : World) (h : Drs w b off n X S) (hL : ∀ i, i < n → (X i).Flats.length ≤ 1048576) (hm : n ≤ 1048576) (hlc : n ≤ cap) (h1 : w.cell? ⟨b1, 0, none⟩ = some (.slice (some ⟨b, off, none⟩) n cap)) (l1 : b1 < w.heap.size) :
    Calls Try.prog 104 #[s.val, .pointer (some ⟨b1, 0, none⟩)] w fun e w' => e = .returned (.bool (decide (0 ≤ whereI X n s.Id))) ∧ Below w.heap.size w w' := by
  have hA : Below w.heap.size w (w.alloc (.cells #[.int .i64 s.Id, .int .i64 s.Wide, .int .i64 s.High, .int .i64 s.Grams] 30)) := by go_grown
  have K := drawerWith_impl (w.alloc (.cells #[.int .i64 s.Id, .int .i64 s.Wide, .int .i64 s.High, .int .i64 s.Grams] 30)) b off n cap X S s.Id (h.below hA) hL hm hlc
  obtain ⟨r, hr⟩ : ∃ r, whereI X n s.Id = r := ⟨_, rfl⟩
  rw [hr] at K ⊢
  clear hr h
  go_enter Try.func104, Try.ntmps104
  go_wp2_with fail
  refine K.mono ?_
  rintro e w1 ⟨rfl, hb1⟩
  have B1 := Below.on hA hA.size hb1
  go_wp2_with fail
  go_ret
  exact ⟨rfl, B1⟩

theorem idx_flat_nil (w : World) (fv : Value) : Calls Try.prog 99 #[.slice none 0 0, fv] w fun e w' => e = .returned (.int .i64 (-1)) ∧ w = w' := by
  go_enter Try.func99, Try.ntmps99
  go_wp2
  refine wp_loop_rounds 1 ?_
  rw [rounds_succ]
  go_wp2
  go_ret
  exact ⟨rfl, rfl⟩
theorem deleteFlat_nil (w : World) (fv : Value) : Calls Try.prog 102 #[.slice none 0 0, fv] w fun e w' => e = .returned (.slice none 0 0) ∧ w = w' := by
  have K := idx_flat_nil w fv
  go_enter Try.func102, Try.ntmps102
  go_wp2_with fail
  refine K.mono ?_
  rintro e w1 ⟨rfl, rfl⟩
  go_wp2_with fail
  go_ret
  exact ⟨rfl, rfl⟩

/-- The flats that are in no drawer. -/
def looseF (Y : Nat → FlatD) (m : Nat) (X : Nat → DrawerD) (n : Nat) : List FlatD := (lstFlat Y m).filter (fun s => !decide (0 ≤ whereI X n s.Id))
theorem looseF_ids (Y : Nat → FlatD) (m : Nat) (X : Nat → DrawerD) (n : Nat) : (looseF Y m X n).map FlatD.Id = lfI Y m X n := by
  have hp : ((fun s : FlatD => !decide (0 ≤ whereI X n s.Id)) ∘ Y) = lfP Y X n := funext fun i => by
    unfold lfP
    rcases whereI_cases X n (Y i).Id with h | ⟨j, _, h⟩ <;> simp [h]
  unfold looseF lfI selI lstFlat
  rw [List.filter_map, hp, List.map_map]
  rfl
theorem looseF_le (Y : Nat → FlatD) (m : Nat) (X : Nat → DrawerD) (n : Nat) : (looseF Y m X n).length ≤ m := by
  unfold looseF
  exact Nat.le_trans (List.length_filter_le _ _) (by rw [lstFlat_length]; exact Nat.le_refl _)

set_option maxHeartbeats 1000000 in
theorem loose_impl (b1 o1 m c1 b off n cap : Nat) (Y : Nat → FlatD) (X : Nat → DrawerD) (S : Nat → Value) (w : World) (h1 : Rw w b1 o1 4 m (fun i => (Y i).cells)) (hm1 : m ≤ 1048576) (hlc1 : m ≤ c1) (h : Drs w b off n X S) (hL : ∀ i, i < n → (X i).Flats.length ≤ 1048576) (hm : n ≤ 1048576) (hlc : n ≤ cap) :
    Calls Try.prog 76 #[.slice (some ⟨b1, o1, none⟩) m c1, .slice (some ⟨b, off, none⟩) n cap] w (RetFlat (looseF Y m X n) w) := by
  have hA : Below w.heap.size w (w.alloc (.cells #[.slice (some ⟨b, off, none⟩) n cap] 43)) := by go_grown
  have hb1 := h1.1
  have KC := cloneFlat (w.alloc (.cells #[.slice (some ⟨b, off, none⟩) n cap] 43)) b1 o1 m c1 Y (h1.below hA hb1) hm1 hlc1
  have H := hid h
  have HL := hid hL
  have HP : Hid (looseF Y m X n = (lstFlat Y m).filter (fun s => !decide (0 ≤ whereI X n s.Id))) := rfl
  clear h1 h hL
  go_enter Try.func76, Try.ntmps76
  go_wp2_with fail
  refine KC.mono ?_
  rintro e w1 ⟨v, rfl, ho, hb1⟩
  have B1 : Below w.heap.size w w1 := Below.on hA hA.size hb1
  have lN : w.heap.size < w1.heap.size := by have := hb1.size; simp at this; omega
  have t0 : w1.cell? ⟨w.heap.size, 0, none⟩ = some (.slice (some ⟨b, off, none⟩) n cap) := (hb1.cell (by simp)).trans (by simp [go_sem])
  have HO := hid ho
  rcases ho.form with ⟨rfl, h0⟩ | ⟨g, cp, rfl, hg1, hg2, hg3, _⟩
  · clear ho
    have h00 : Hid (looseF Y m X n = []) := by unfold Hid; rw [HP.out, h0]; rfl
    clear h0
    go_wp2_with fail
    refine (deleteFlat_nil _ _).mono ?_
    rintro e w2 ⟨rfl, rfl⟩
    go_wp2_with fail
    go_ret
    exact ⟨_, rfl, by rw [h00.out]; exact OwnFlat.nil _ _, B1⟩
  · clear ho
    rw [lstFlat_length] at HO ⊢
    have KD := deleteFlat w1 g m cp (w.alloc (.cells #[.slice (some ⟨b, off, none⟩) n cap] 43)).heap.size (lstFlat Y m) HO.out (lstFlat_length _ _) hm1 hb1.size 104 #[.pointer (some ⟨w.heap.size, 0, none⟩)] (fun s => decide (0 ≤ whereI X n s.Id)) (fun _ _ => by kernel_rfl) (fun w' hb' s => by
      have hbw : Below w.heap.size w w' := B1.trans (hb'.mono (by simp))
      exact loose_1 s b off n cap X S w.heap.size w' (H.out.below hbw) HL.out hm hlc ((hb'.cell (by simp)).trans t0) (by have := hb'.size; omega))
    go_wp2_with fail
    refine KD.mono ?_
    rintro e w2 ⟨k, rfl, hk, ho2, hb2⟩
    have HO2 := hid ho2
    have B2 : Below w.heap.size w w2 := B1.trans (hb2.mono (by simp))
    clear ho2 hk
    go_wp2_with fail
    go_ret
    exact ⟨_, rfl, by rw [HP.out]; exact HO2.out.base (by simp), B2⟩

set_option maxRecDepth 100000 in
set_option maxHeartbeats 1000000 in
theorem flatIds_impl (v : Value) (L : List FlatD) (B : Nat) (w : World) (h : OwnFlat B w v L) (hL : L.length ≤ 1048576) : Calls Try.prog 75 #[v] w (RetI (L.map FlatD.Id) w) := by
  obtain ⟨i0, hi, hz0, hz1, hz2⟩ := info_parts info_int
  rcases h.form with ⟨rfl, rfl⟩ | ⟨g, cp, rfl, _, hg, hc, _, hrw, _⟩
  · clear h
    go_enter Try.func75, Try.ntmps75
    go_wp2
    refine wp_loop_rounds 1 ?_
    rw [rounds_succ]
    go_wp2
    go_ret
    exact ⟨_, rfl, OwnI.nil _ _, Below.refl _ _⟩
  · have H := hid hrw
    obtain ⟨n, hn⟩ : ∃ n, L.length = n := ⟨_, rfl⟩
    rw [hn] at hL hc H ⊢
    have HN := hid hn
    clear h hrw hn
    go_enter Try.func75, Try.ntmps75
    go_wp2_with fail
    go_loopw [3, 8] (fun u i wr => ∃ k : Nat, k ≤ n ∧ i = .int .i64 k ∧ Below w.heap.size w wr ∧ Hid (OwnI w.heap.size wr u ((L.take k).map FlatD.Id))) (fun _ i _ => n - (intOf i).toNat)
    case atStart => exact ⟨0, by omega, rfl, Below.refl _ _, OwnI.nil _ _⟩
    case round =>
      obtain ⟨k, hk, rfl, hB, ho⟩ := hrel
      by_cases hlt : k < n
      · have hle : ((L.take k).map FlatD.Id).length ≤ k := by simp; omega
        obtain ⟨s, hs⟩ : ∃ s, L.getD k default = s := ⟨_, rfl⟩
        have hnew : Hid ((L.take (k + 1)).map FlatD.Id = (L.take k).map FlatD.Id ++ [s.Id]) := by
          unfold Hid
          rw [List.take_add_one, List.map_append, List.getElem?_eq_getElem (by rw [HN.out]; exact hlt), ← hs]
          simp [List.getD, show k < L.length by rw [HN.out]; exact hlt]
        have x0 : wr.cell? ⟨g, k * 4, none⟩ = some (.int .i64 s.Id) := by have := (hB.cell hg).trans (H.out.2 k hlt 0 (by omega)); simp only [hs] at this; rw [show 0 + k * 4 + 0 = k * 4 by omega] at this; exact this
        have x1 : wr.cell? ⟨g, k * 4 + 1, none⟩ = some (.int .i64 s.Wide) := by have := (hB.cell hg).trans (H.out.2 k hlt 1 (by omega)); simp only [hs] at this; rw [show 0 + k * 4 + 1 = k * 4 + 1 by omega] at this; exact this
        have x2 : wr.cell? ⟨g, k * 4 + 2, none⟩ = some (.int .i64 s.High) := by have := (hB.cell hg).trans (H.out.2 k hlt 2 (by omega)); simp only [hs] at this; rw [show 0 + k * 4 + 2 = k * 4 + 2 by omega] at this; exact this
        have x3 : wr.cell? ⟨g, k * 4 + 3, none⟩ = some (.int .i64 s.Grams) := by have := (hB.cell hg).trans (H.out.2 k hlt 3 (by omega)); simp only [hs] at this; rw [show 0 + k * 4 + 3 = k * 4 + 3 by omega] at this; exact this
        clear hs
        have hA : Below wr.heap.size wr (wr.alloc (.cells #[.int .i64 s.Id, .int .i64 s.Wide, .int .i64 s.High, .int .i64 s.Grams] 30)) := by go_grown
        have hB1 := Below.on hB hB.size hA
        have ho1 := hid (ho.out.below hA)
        go_upto_region 5 with fail
        have y0 : (wr.alloc (.cells #[.int .i64 s.Id, .int .i64 s.Wide, .int .i64 s.High, .int .i64 s.Grams] 30)).cell? ⟨wr.heap.size, 0, none⟩ = some (.int .i64 s.Id) := by simp [go_sem]
        have lN : wr.heap.size < (wr.alloc (.cells #[.int .i64 s.Id, .int .i64 s.Wide, .int .i64 s.High, .int .i64 s.Grams] 30)).heap.size := by simp
        obtain ⟨wq, hwq⟩ : ∃ W, (wr.alloc (.cells #[.int .i64 s.Id, .int .i64 s.Wide, .int .i64 s.High, .int .i64 s.Grams] 30)) = W := ⟨_, rfl⟩
        rw [hwq] at hB1 ho1 y0 lN ⊢
        clear hwq hA x0 x1 x2 x3
        go_wp2_with (at_builtin; refine wpList_append_own_at _ rfl _ _ 24 rfl w.heap.size 3 i0 (.int .i64 0) 1 8 Try.underlying24 hi hz0 hz1 hz2 rfl (by decide) _ _ _ rfl (World.ownsRow.alloc ho1.out _) ⟨wq.heap.size, 0, none⟩ 1 1 [.int .i64 s.Id] rfl rfl ?c1 ?c2 ?c3 ?c4 ?c5 ?_)
        case c1 => exact cell_one_new _ _ _
        case c2 => intro u hu; simp at hu; subst hu; rfl
        case c3 => unfold maxLen; omega
        case c4 => omega
        case c5 => have := hB1.size; simp; omega
        · intro v' w2 hown' hgrow _ _
          have hb2 : Below w.heap.size w w2 := (hB1.alloc hB1.size _).grown hgrow (by have := hB1.size; simp; omega) (fun g hg => by have := (World.ownsRow.lt ho1.out g hg).1; omega)
          have ho2 : Hid (OwnI w.heap.size w2 v' ((L.take (k + 1)).map FlatD.Id)) := by
            rw [hnew.out]
            unfold Hid OwnI
            simpa using hown'
          clear hown' hgrow
          go_wp2_with fail
          go_roundw
          case rel => exact ⟨k + 1, by omega, by go_num, hb2, ho2⟩
          case measure => simp [intOf]; omega
      · obtain rfl : k = n := by omega
        have hall : Hid (L.take k = L) := List.take_of_length_le (by rw [HN.out]; exact Nat.le_refl _)
        go_wp2_with fail
        go_ret
        exact ⟨_, rfl, by have := ho.out; rw [hall.out] at this; exact this, hB⟩

set_option maxHeartbeats 1000000 in
theorem looseFlats_impl (b1 o1 m c1 b off n cap : Nat) (Y : Nat → FlatD) (X : Nat → DrawerD) (S : Nat → Value) (w : World) (h1 : Rw w b1 o1 4 m (fun i => (Y i).cells)) (hm1 : m ≤ 1048576) (hlc1 : m ≤ c1) (h : Drs w b off n X S) (hL : ∀ i, i < n → (X i).Flats.length ≤ 1048576) (hm : n ≤ 1048576) (hlc : n ≤ cap) :
    Calls Try.prog 40 #[.slice (some ⟨b1, o1, none⟩) m c1, .slice (some ⟨b, off, none⟩) n cap] w (RetIB (lfL Y m X n) (goodB Y m X n) w) := by
  have hb1 := h1.1
  have KG : Calls Try.prog 25 #[.slice (some ⟨b1, o1, none⟩) m c1, .slice (some ⟨b, off, none⟩) n cap] w fun e w'' => e = .returned (.bool (goodB Y m X n)) ∧ Below w.heap.size w w'' := good_impl b1 o1 m c1 b off n cap Y X S w h1 hm1 hlc1 h hL hm hlc
  have KL : Hid (∀ w', Below w.heap.size w w' → Calls Try.prog 76 #[.slice (some ⟨b1, o1, none⟩) m c1, .slice (some ⟨b, off, none⟩) n cap] w' (RetFlat (looseF Y m X n) w')) := fun w' hb => loose_impl b1 o1 m c1 b off n cap Y X S w' (h1.below hb hb1) hm1 hlc1 (h.below hb) hL hm hlc
  have hle := looseF_le Y m X n
  clear h1 h hL
  obtain ⟨r, hr⟩ : ∃ r, goodB Y m X n = r := ⟨_, rfl⟩
  have hL : Hid (lfL Y m X n = if r = true then lfI Y m X n else []) := by unfold Hid lfL; rw [hr]
  rw [hr] at KG ⊢
  clear hr
  cases r with
  | false =>
    go_enter Try.func40, Try.ntmps40
    go_wp2_with fail
    refine KG.mono ?_
    rintro e w1 ⟨rfl, B1⟩
    go_wp2_with fail
    go_ret2
    exact ⟨_, rfl, by rw [hL.out]; exact OwnI.nil _ _, B1⟩
  | true =>
    go_enter Try.func40, Try.ntmps40
    go_wp2_with fail
    refine KG.mono ?_
    rintro e w1 ⟨rfl, B1⟩
    go_wp2_with fail
    refine (KL.out _ B1).mono ?_
    rintro e w2 ⟨v, rfl, ho, hb2⟩
    have B2 := Below.on B1 B1.size hb2
    have KI := flatIds_impl v (looseF Y m X n) _ w2 ho (by omega)
    rw [looseF_ids] at KI
    obtain ⟨ao, cp, rfl, _⟩ := ho.slice
    clear ho
    go_wp2_with fail
    refine KI.mono ?_
    rintro e w3 ⟨u, rfl, ho, hb3⟩
    obtain ⟨ao2, cp2, rfl, _⟩ := ho.slice
    have HO := hid ho
    clear ho
    go_wp2_with fail
    go_ret2
    exact ⟨_, rfl, by rw [hL.out]; exact HO.out.base B2.size, Below.on B2 B2.size hb3⟩

end Go.Proofs.Ytejpmomedclnhaa
