/-
  Empty drawers, loose flats, by the reference; empty drawers by the program. No condition.
-/
import Derived.Test.YtejpmomedclnhaaDrawW
import Derived.Test.YtejpmomedclnhaaOwn
import Derived.Deep.Cut
namespace Go.Proofs.Ytejpmomedclnhaa
open Go.RowKit
set_option linter.unusedVariables false

theorem ownI_empty (w : World) : OwnI w.heap.size (w.alloc (.cells #[] 3)) (.slice (some ⟨w.heap.size, 0, none⟩) 0 0) [] :=
  World.ownsRow_made w #[] 0 (Nat.le_refl _) (by simp [maxLen]) rfl
/-- A drawer is empty. -/
def edP (X : Nat → DrawerD) (k : Nat) : Bool := (X k).Flats.length == 0
def edL (Y : Nat → FlatD) (m : Nat) (X : Nat → DrawerD) (n : Nat) : List Int := if goodB Y m X n = true then selI (edP X) (fun i => (X i).Id) n else []
/-- A flat is in no drawer. -/
def lfP (Y : Nat → FlatD) (X : Nat → DrawerD) (n k : Nat) : Bool := whereI X n (Y k).Id == -1
def lfI (Y : Nat → FlatD) (m : Nat) (X : Nat → DrawerD) (n : Nat) : List Int := selI (lfP Y X n) (fun i => (Y i).Id) m
def lfL (Y : Nat → FlatD) (m : Nat) (X : Nat → DrawerD) (n : Nat) : List Int := if goodB Y m X n = true then lfI Y m X n else []

set_option maxHeartbeats 1000000 in
theorem empty_spec (b1 o1 m c1 b off n cap : Nat) (Y : Nat → FlatD) (X : Nat → DrawerD) (S : Nat → Value) (w : World) (h1 : Rw w b1 o1 4 m (fun i => (Y i).cells)) (hm1 : m ≤ 1048576) (hlc1 : m ≤ c1) (h : Drs w b off n X S) (hL : ∀ i, i < n → (X i).Flats.length ≤ 1048576) (hm : n ≤ 1048576) (hlc : n ≤ cap) :
    Calls Try.prog 32 #[.slice (some ⟨b1, o1, none⟩) m c1, .slice (some ⟨b, off, none⟩) n cap] w (RetIB (edL Y m X n) (goodB Y m X n) w) := by
  obtain ⟨i0, hi, hz0, hz1, hz2⟩ := info_parts info_int
  have hE := hid (ownI_empty w)
  have hA : Below w.heap.size w (w.alloc (.cells #[] 3)) := by go_grown
  have hb1 := h1.1
  have hb := h.rw.1
  have KG : Calls Try.prog 60 #[.slice (some ⟨b1, o1, none⟩) m c1, .slice (some ⟨b, off, none⟩) n cap] (w.alloc (.cells #[] 3)) fun e w'' => e = .returned (.bool (goodB Y m X n)) ∧ Below (w.alloc (.cells #[] 3)).heap.size (w.alloc (.cells #[] 3)) w'' := good_spec b1 o1 m c1 b off n cap Y X S _ (h1.below hA hb1) hm1 hlc1 (h.below hA) hL hm hlc
  have H := hid h
  clear h1 h hL
  obtain ⟨r, hr⟩ : ∃ r, goodB Y m X n = r := ⟨_, rfl⟩
  have hL : Hid (edL Y m X n = if r = true then selI (edP X) (fun i => (X i).Id) n else []) := by unfold Hid edL; rw [hr]
  rw [hr] at KG ⊢
  clear hr
  cases r with
  | false =>
    go_enter Try.func32, Try.ntmps32
    go_wp2_with fail
    refine KG.mono ?_
    rintro e w1 ⟨rfl, hb1⟩
    have B1 := Below.on hA hA.size hb1
    have ho1 := hid (hE.out.below hb1)
    go_wp2_with fail
    go_ret2
    exact ⟨_, rfl, by rw [hL.out]; exact ho1.out, B1⟩
  | true =>
    go_enter Try.func32, Try.ntmps32
    go_wp2_with fail
    refine KG.mono ?_
    rintro e w1 ⟨rfl, hb1⟩
    have B1 := Below.on hA hA.size hb1
    have ho1 := hid (hE.out.below hb1)
    go_wp2_with fail
    go_loopw [6, 7] (fun v i wr => ∃ k : Nat, k ≤ n ∧ i = .int .i64 k ∧ Below w.heap.size w wr ∧ Hid (OwnI w.heap.size wr v (selI (edP X) (fun i => (X i).Id) k))) (fun _ i _ => n - (intOf i).toNat)
    case atStart => exact ⟨0, by omega, rfl, B1, ho1⟩
    case round =>
      clear hb1 B1 ho1 hA
      obtain ⟨k, hk, rfl, hB, ho⟩ := hrel
      by_cases hlt : k < n
      · have hle := selI_le (edP X) (fun i => (X i).Id) k
        obtain ⟨a, c, hS⟩ : ∃ a c, S k = .slice a (X k).Flats.length c := by obtain ⟨a, c, h, _⟩ := H.out.has k hlt; exact ⟨a, c, h⟩
        have c0 : wr.cell? ⟨b, off + k * 5, none⟩ = some (.int .i64 (X k).Id) := (hB.cell hb).trans (H.out.rw.2 k hlt 0 (by omega))
        have c4 : wr.cell? ⟨b, off + k * 5 + 4, none⟩ = some (.slice a (X k).Flats.length c) := by rw [← hS]; exact (hB.cell hb).trans (H.out.rw.2 k hlt 4 (by omega))
        clear hS
        obtain ⟨nf, hnf⟩ : ∃ nf, (X k).Flats.length = nf := ⟨_, rfl⟩
        rw [hnf] at c4
        by_cases h0 : nf = 0
        · have hp : Hid (edP X k = true) := by unfold Hid edP; rw [hnf, h0]; rfl
          have d0 : ((nf : Int) == 0) = true := by simp [h0]
          clear h0 hnf
          go_wp2_with (at_builtin; refine wpList_append_own_at _ rfl _ _ 24 rfl w.heap.size 3 i0 (.int .i64 0) 1 8 Try.underlying24 hi hz0 hz1 hz2 rfl (by decide) _ _ _ rfl (World.ownsRow.alloc ho.out _) ⟨wr.heap.size, 0, none⟩ 1 1 [.int .i64 (X k).Id] rfl rfl ?c1 ?c2 ?c3 ?c4 ?c5 ?_)
          case c1 => exact cell_one_new _ _ _
          case c2 => intro u hu; simp at hu; subst hu; rfl
          case c3 => unfold maxLen; omega
          case c4 => omega
          case c5 => have := hB.size; simp; omega
          · intro v' w2 hown' hgrow _ _
            have hb2 : Below w.heap.size w w2 := (hB.alloc hB.size _).grown hgrow (by have := hB.size; simp; omega) (fun g hg => by have := (World.ownsRow.lt ho.out g hg).1; omega)
            have ho2 : Hid (OwnI w.heap.size w2 v' (selI (edP X) (fun i => (X i).Id) (k + 1))) := by
              rw [selI_yes hp.out]
              unfold Hid OwnI
              simpa using hown'
            clear hown' hgrow
            go_wp2_with fail
            go_roundw
            case rel => exact ⟨k + 1, by omega, by go_num, hb2, ho2⟩
            case measure => simp [intOf]; omega
        · have hp : Hid (edP X k = false) := by unfold Hid edP; rw [hnf]; simp [h0]
          have d0 : ((nf : Int) == 0) = false := by simp [h0]
          clear h0 hnf
          go_wp2_with fail
          go_roundw
          case rel => exact ⟨k + 1, by omega, by go_num, hB, by rw [selI_no hp.out]; exact ho⟩
          case measure => simp [intOf]; omega
      · obtain rfl : k = n := by omega
        go_wp2_with fail
        go_ret2
        exact ⟨_, rfl, by rw [hL.out]; exact ho.out, hB⟩

set_option maxRecDepth 100000 in
set_option maxHeartbeats 1000000 in
theorem empty_impl (b1 o1 m c1 b off n cap : Nat) (Y : Nat → FlatD) (X : Nat → DrawerD) (S : Nat → Value) (w : World) (h1 : Rw w b1 o1 4 m (fun i => (Y i).cells)) (hm1 : m ≤ 1048576) (hlc1 : m ≤ c1) (h : Drs w b off n X S) (hL : ∀ i, i < n → (X i).Flats.length ≤ 1048576) (hm : n ≤ 1048576) (hlc : n ≤ cap) :
    Calls Try.prog 33 #[.slice (some ⟨b1, o1, none⟩) m c1, .slice (some ⟨b, off, none⟩) n cap] w (RetIB (edL Y m X n) (goodB Y m X n) w) := by
  obtain ⟨i0, hi, hz0, hz1, hz2⟩ := info_parts info_int
  have hb := h.rw.1
  have KG : Calls Try.prog 25 #[.slice (some ⟨b1, o1, none⟩) m c1, .slice (some ⟨b, off, none⟩) n cap] w fun e w'' => e = .returned (.bool (goodB Y m X n)) ∧ Below w.heap.size w w'' := good_impl b1 o1 m c1 b off n cap Y X S w h1 hm1 hlc1 h hL hm hlc
  have H := hid h
  clear h1 h hL
  obtain ⟨r, hr⟩ : ∃ r, goodB Y m X n = r := ⟨_, rfl⟩
  have hL : Hid (edL Y m X n = if r = true then selI (edP X) (fun i => (X i).Id) n else []) := by unfold Hid edL; rw [hr]
  rw [hr] at KG ⊢
  clear hr
  cases r with
  | false =>
    go_enter Try.func33, Try.ntmps33
    go_wp2_with fail
    refine KG.mono ?_
    rintro e w1 ⟨rfl, B1⟩
    go_wp2_with fail
    go_ret2
    exact ⟨_, rfl, by rw [hL.out]; exact OwnI.nil _ _, B1⟩
  | true =>
    go_enter Try.func33, Try.ntmps33
    go_wp2_with fail
    refine KG.mono ?_
    rintro e w1 ⟨rfl, B1⟩
    go_wp2_with fail
    go_loopw [6, 15] (fun v i wr => ∃ k : Nat, k ≤ n ∧ i = .int .i64 k ∧ Below w.heap.size w wr ∧ Hid (OwnI w.heap.size wr v (selI (edP X) (fun i => (X i).Id) k))) (fun _ i _ => n - (intOf i).toNat)
    case atStart => exact ⟨0, by omega, rfl, B1, OwnI.nil _ _⟩
    case round =>
      clear B1
      obtain ⟨k, hk, rfl, hB, ho⟩ := hrel
      by_cases hlt : k < n
      · have hle := selI_le (edP X) (fun i => (X i).Id) k
        obtain ⟨a, c, hS⟩ : ∃ a c, S k = .slice a (X k).Flats.length c := by obtain ⟨a, c, h, _⟩ := H.out.has k hlt; exact ⟨a, c, h⟩
        obtain ⟨nf, hnf⟩ : ∃ nf, (X k).Flats.length = nf := ⟨_, rfl⟩
        rw [hnf] at hS
        have x0 : wr.cell? ⟨b, off + k * 5, none⟩ = some (.int .i64 (X k).Id) := (hB.cell hb).trans (H.out.rw.2 k hlt 0 (by omega))
        have x1 : wr.cell? ⟨b, off + k * 5 + 1, none⟩ = some (.int .i64 (X k).Wide) := (hB.cell hb).trans (H.out.rw.2 k hlt 1 (by omega))
        have x2 : wr.cell? ⟨b, off + k * 5 + 2, none⟩ = some (.int .i64 (X k).High) := (hB.cell hb).trans (H.out.rw.2 k hlt 2 (by omega))
        have x3 : wr.cell? ⟨b, off + k * 5 + 3, none⟩ = some (.int .i64 (X k).Holds) := (hB.cell hb).trans (H.out.rw.2 k hlt 3 (by omega))
        have x4 : wr.cell? ⟨b, off + k * 5 + 4, none⟩ = some (.slice a nf c) := by rw [← hS]; exact (hB.cell hb).trans (H.out.rw.2 k hlt 4 (by omega))
        clear hS
        by_cases h0 : nf = 0
        · have hp : Hid (edP X k = true) := by unfold Hid edP; rw [hnf, h0]; rfl
          have d0 : ((nf : Int) == 0) = true := by simp [h0]
          have hA : Below wr.heap.size wr (wr.alloc (.cells #[.int .i64 (X k).Id, .int .i64 (X k).Wide, .int .i64 (X k).High, .int .i64 (X k).Holds, .slice a nf c] 32)) := by go_grown
          have hB1 := Below.on hB hB.size hA
          have ho1 := hid (ho.out.below hA)
          clear h0 hnf
          go_upto_region 8 with fail
          have y0 : (wr.alloc (.cells #[.int .i64 (X k).Id, .int .i64 (X k).Wide, .int .i64 (X k).High, .int .i64 (X k).Holds, .slice a nf c] 32)).cell? ⟨wr.heap.size, 0, none⟩ = some (.int .i64 (X k).Id) := by simp [go_sem]
          have lN : wr.heap.size < (wr.alloc (.cells #[.int .i64 (X k).Id, .int .i64 (X k).Wide, .int .i64 (X k).High, .int .i64 (X k).Holds, .slice a nf c] 32)).heap.size := by simp
          obtain ⟨wq, hwq⟩ : ∃ W, (wr.alloc (.cells #[.int .i64 (X k).Id, .int .i64 (X k).Wide, .int .i64 (X k).High, .int .i64 (X k).Holds, .slice a nf c] 32)) = W := ⟨_, rfl⟩
          rw [hwq] at hB1 ho1 y0 lN ⊢
          clear hwq hA x0 x1 x2 x3 x4
          go_wp2_with (at_builtin; refine wpList_append_own_at _ rfl _ _ 24 rfl w.heap.size 3 i0 (.int .i64 0) 1 8 Try.underlying24 hi hz0 hz1 hz2 rfl (by decide) _ _ _ rfl (World.ownsRow.alloc ho1.out _) ⟨wq.heap.size, 0, none⟩ 1 1 [.int .i64 (X k).Id] rfl rfl ?c1 ?c2 ?c3 ?c4 ?c5 ?_)
          case c1 => exact cell_one_new _ _ _
          case c2 => intro u hu; simp at hu; subst hu; rfl
          case c3 => unfold maxLen; omega
          case c4 => omega
          case c5 => have := hB1.size; simp; omega
          · intro v' w2 hown' hgrow _ _
            have hb2 : Below w.heap.size w w2 := (hB1.alloc hB1.size _).grown hgrow (by have := hB1.size; simp; omega) (fun g hg => by have := (World.ownsRow.lt ho1.out g hg).1; omega)
            have ho2 : Hid (OwnI w.heap.size w2 v' (selI (edP X) (fun i => (X i).Id) (k + 1))) := by
              rw [selI_yes hp.out]
              unfold Hid OwnI
              simpa using hown'
            clear hown' hgrow
            go_wp2_with fail
            go_roundw
            case rel => exact ⟨k + 1, by omega, by go_num, hb2, ho2⟩
            case measure => simp [intOf]; omega
        · have hp : Hid (edP X k = false) := by unfold Hid edP; rw [hnf]; simp [h0]
          have d0 : ((nf : Int) == 0) = false := by simp [h0]
          have hA : Below wr.heap.size wr (wr.alloc (.cells #[.int .i64 (X k).Id, .int .i64 (X k).Wide, .int .i64 (X k).High, .int .i64 (X k).Holds, .slice a nf c] 32)) := by go_grown
          have hB1 := Below.on hB hB.size hA
          have ho1 := hid (ho.out.below hA)
          clear h0 hnf
          go_wp2_with fail
          go_roundw
          case rel => exact ⟨k + 1, by omega, by go_num, hB1, by rw [selI_no hp.out]; exact ho1⟩
          case measure => simp [intOf]; omega
      · obtain rfl : k = n := by omega
        go_wp2_with fail
        go_ret2
        exact ⟨_, rfl, by rw [hL.out]; exact ho.out, hB⟩

set_option maxHeartbeats 1000000 in
theorem loose_spec (b1 o1 m c1 b off n cap : Nat) (Y : Nat → FlatD) (X : Nat → DrawerD) (S : Nat → Value) (w : World) (h1 : Rw w b1 o1 4 m (fun i => (Y i).cells)) (hm1 : m ≤ 1048576) (hlc1 : m ≤ c1) (h : Drs w b off n X S) (hL : ∀ i, i < n → (X i).Flats.length ≤ 1048576) (hm : n ≤ 1048576) (hlc : n ≤ cap) :
    Calls Try.prog 74 #[.slice (some ⟨b1, o1, none⟩) m c1, .slice (some ⟨b, off, none⟩) n cap] w (RetI (lfI Y m X n) w) := by
  obtain ⟨i0, hi, hz0, hz1, hz2⟩ := info_parts info_int
  have hE := hid (ownI_empty w)
  have hA : Below w.heap.size w (w.alloc (.cells #[] 3)) := by go_grown
  have hb1 := h1.1
  have H1 := hid h1
  have H := hid h
  have HL := hid hL
  clear h1 h hL
  go_enter Try.func74, Try.ntmps74
  go_wp2_with fail
  go_loopw [5, 6] (fun v i wr => ∃ k : Nat, k ≤ m ∧ i = .int .i64 k ∧ Below w.heap.size w wr ∧ Hid (OwnI w.heap.size wr v (selI (lfP Y X n) (fun i => (Y i).Id) k))) (fun _ i _ => m - (intOf i).toNat)
  case atStart => exact ⟨0, by omega, rfl, hA, hE⟩
  case round =>
    clear hA hE
    obtain ⟨k, hk, rfl, hB, ho⟩ := hrel
    by_cases hlt : k < m
    · have hle := selI_le (lfP Y X n) (fun i => (Y i).Id) k
      have c0 : wr.cell? ⟨b1, o1 + k * 4, none⟩ = some (.int .i64 (Y k).Id) := (hB.cell hb1).trans (H1.out.2 k hlt 0 (by omega))
      have K := where_spec b off n cap X S (Y k).Id wr (H.out.below hB) HL.out hm hlc
      rcases whereI_cases X n (Y k).Id with hw | ⟨j, hj, hw⟩
      · rw [hw] at K
        have hp : Hid (lfP Y X n k = true) := by unfold Hid lfP; rw [hw]; rfl
        clear hw
        go_wp2_with fail
        refine K.mono ?_
        rintro e w' ⟨rfl, rfl⟩
        go_wp2_with (at_builtin; refine wpList_append_own_at _ rfl _ _ 24 rfl w.heap.size 3 i0 (.int .i64 0) 1 8 Try.underlying24 hi hz0 hz1 hz2 rfl (by decide) _ _ _ rfl (World.ownsRow.alloc ho.out _) ⟨wr.heap.size, 0, none⟩ 1 1 [.int .i64 (Y k).Id] rfl rfl ?c1 ?c2 ?c3 ?c4 ?c5 ?_)
        case c1 => exact cell_one_new _ _ _
        case c2 => intro u hu; simp at hu; subst hu; rfl
        case c3 => unfold maxLen; omega
        case c4 => omega
        case c5 => have := hB.size; simp; omega
        · intro v' w2 hown' hgrow _ _
          have hb2 : Below w.heap.size w w2 := (hB.alloc hB.size _).grown hgrow (by have := hB.size; simp; omega) (fun g hg => by have := (World.ownsRow.lt ho.out g hg).1; omega)
          have ho2 : Hid (OwnI w.heap.size w2 v' (selI (lfP Y X n) (fun i => (Y i).Id) (k + 1))) := by
            rw [selI_yes hp.out]
            unfold Hid OwnI
            simpa using hown'
          clear hown' hgrow
          go_wp2_with fail
          go_roundw
          case rel => exact ⟨k + 1, by omega, by go_num, hb2, ho2⟩
          case measure => simp [intOf]; omega
      · rw [hw] at K
        have hp : Hid (lfP Y X n k = false) := by unfold Hid lfP; rw [hw]; simp
        have d0 : decide ((j : Int) < 0) = false := by simp
        clear hw
        go_wp2_with fail
        refine K.mono ?_
        rintro e w' ⟨rfl, rfl⟩
        go_wp2_with fail
        go_roundw
        case rel => exact ⟨k + 1, by omega, by go_num, hB, by rw [selI_no hp.out]; exact ho⟩
        case measure => simp [intOf]; omega
    · obtain rfl : k = m := by omega
      go_wp2_with fail
      go_ret
      exact ⟨_, rfl, ho.out, hB⟩

theorem looseFlats_spec (b1 o1 m c1 b off n cap : Nat) (Y : Nat → FlatD) (X : Nat → DrawerD) (S : Nat → Value) (w : World) (h1 : Rw w b1 o1 4 m (fun i => (Y i).cells)) (hm1 : m ≤ 1048576) (hlc1 : m ≤ c1) (h : Drs w b off n X S) (hL : ∀ i, i < n → (X i).Flats.length ≤ 1048576) (hm : n ≤ 1048576) (hlc : n ≤ cap) :
    Calls Try.prog 39 #[.slice (some ⟨b1, o1, none⟩) m c1, .slice (some ⟨b, off, none⟩) n cap] w (RetIB (lfL Y m X n) (goodB Y m X n) w) := by
  have hb1 := h1.1
  have hE := hid (ownI_empty w)
  have KG : Calls Try.prog 60 #[.slice (some ⟨b1, o1, none⟩) m c1, .slice (some ⟨b, off, none⟩) n cap] w fun e w'' => e = .returned (.bool (goodB Y m X n)) ∧ Below w.heap.size w w'' := good_spec b1 o1 m c1 b off n cap Y X S w h1 hm1 hlc1 h hL hm hlc
  have KL : Hid (∀ w', Below w.heap.size w w' → Calls Try.prog 74 #[.slice (some ⟨b1, o1, none⟩) m c1, .slice (some ⟨b, off, none⟩) n cap] w' (RetI (lfI Y m X n) w')) := fun w' hb => loose_spec b1 o1 m c1 b off n cap Y X S w' (h1.below hb hb1) hm1 hlc1 (h.below hb) hL hm hlc
  clear h1 h hL
  obtain ⟨r, hr⟩ : ∃ r, goodB Y m X n = r := ⟨_, rfl⟩
  have hL : Hid (lfL Y m X n = if r = true then lfI Y m X n else []) := by unfold Hid lfL; rw [hr]
  rw [hr] at KG ⊢
  clear hr
  cases r with
  | false =>
    go_enter Try.func39, Try.ntmps39
    go_wp2_with fail
    refine KG.mono ?_
    rintro e w1 ⟨rfl, B1⟩
    have hE1 := hid (ownI_empty w1)
    go_wp2_with fail
    go_ret2
    exact ⟨_, rfl, by rw [hL.out]; exact hE1.out.base B1.size, B1.alloc B1.size _⟩
  | true =>
    go_enter Try.func39, Try.ntmps39
    go_wp2_with fail
    refine KG.mono ?_
    rintro e w1 ⟨rfl, B1⟩
    go_wp2_with fail
    refine (KL.out _ B1).mono ?_
    rintro e w2 ⟨v, rfl, ho, hb2⟩
    obtain ⟨ao, cp, rfl, _⟩ := ho.slice
    have HO := hid ho
    clear ho
    go_wp2_with fail
    go_ret2
    exact ⟨_, rfl, by rw [hL.out]; exact HO.out.base B1.size, Below.on B1 B1.size hb2⟩

end Go.Proofs.Ytejpmomedclnhaa
