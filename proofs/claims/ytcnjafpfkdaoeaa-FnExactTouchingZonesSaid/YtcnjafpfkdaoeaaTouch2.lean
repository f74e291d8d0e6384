/-
  The pairs of zones that touch, by the program; the law's walk. No condition.
-/
import Derived.Test.YtcnjafpfkdaoeaaTouch
namespace Go.Proofs.Ytcnjafpfkdaoeaa
open Go.RowKit
set_option linter.unusedVariables false
set_option maxRecDepth 100000

theorem OwnA2.alloc1 {B : Nat} {w : World} {v : Value} {L : List Int} (h : OwnA2 B w v L) (o : Obj) : OwnA2 B (w.alloc o) v L := World.ownsRow.alloc h o
/-- A zone lies in a block of its own. -/
def AtZ (g : Nat) (s : ZoneD) (w : World) : Prop := g < w.heap.size ∧ ∀ j, j < 5 → w.cell? ⟨g, j, none⟩ = (s.cells)[j]?
theorem AtZ.below {g : Nat} {s : ZoneD} {w w' : World} (h : AtZ g s w) (hb : Below w.heap.size w w') : AtZ g s w' :=
  ⟨by have := hb.size; have := h.1; omega, fun j hj => (hb.cell (p := ⟨g, j, none⟩) h.1).trans (h.2 j hj)⟩
theorem AtZ.grown {g : Nat} {s : ZoneD} {w w' : World} {row : Option Nat} (h : AtZ g s w) (hg : w.grownBy w' row) (hne : row ≠ some g) : AtZ g s w' :=
  ⟨by have := hg.size; have := h.1; omega, fun j hj => (World.cell?_of_block (hg.block g h.1 (fun e => hne e.symm))).trans (h.2 j hj)⟩
theorem atZ_new (w : World) (s : ZoneD) : AtZ w.heap.size s (w.alloc (.cells #[.int .i64 s.Id, .int .i64 s.West, .int .i64 s.South, .int .i64 s.East, .int .i64 s.North] 44)) := by
  refine ⟨by simp, fun j hj => ?_⟩
  have hj' : j = 0 ∨ j = 1 ∨ j = 2 ∨ j = 3 ∨ j = 4 := by omega
  rcases hj' with rfl | rfl | rfl | rfl | rfl <;> simp [go_sem, ZoneD.cells]

set_option maxHeartbeats 4000000 in
theorem touching_impl (w : World) (b off len cap : Nat) (X : Nat → ZoneD) (h : Rw w b off 5 len (fun i => (X i).cells)) (hm : len ≤ 1048576) (hlc : len ≤ cap) (hcm : cap ≤ 1048576) :
    Calls Try.prog 27 #[.slice (some ⟨b, off, none⟩) len cap] w (RetA2B (touchL X len) (zonesB X len) w) := by
  have H := hid h
  have hb := h.1
  clear h
  obtain ⟨i0, hi, hz0, hz1, hz2⟩ := info_parts info_A2
  go_enter Try.func27, Try.ntmps27
  go_wp2_with fail
  refine (zones_impl _ b off len cap X H.out hm hlc).mono ?_
  rintro e w1 ⟨rfl, B1⟩
  by_cases hS : zonesB X len = true
  · have HS := hid hS
    have hl10 := zonesB_le hS
    go_wp2_with fail
    go_loopw [4, 14] (fun v i wr => ∃ k : Nat, k ≤ len ∧ i = .int .i64 k ∧ Below w.heap.size w wr ∧ Hid (OwnA2 w.heap.size wr v (tAll X len k))) (fun _ i _ => len - (intOf i).toNat)
    case atStart => exact ⟨0, by omega, rfl, B1, OwnA2.nil _ _⟩
    case round =>
      clear B1 hS
      obtain ⟨k, hk, rfl, hB, ho⟩ := hrel
      by_cases hlt : k < len
      · have c0 : wr.cell? ⟨b, off + k * 5, none⟩ = some (.int .i64 (X k).Id) := (hB.cell hb).trans (H.out.2 k hlt 0 (by omega))
        have c1 : wr.cell? ⟨b, off + k * 5 + 1, none⟩ = some (.int .i64 (X k).West) := (hB.cell hb).trans (H.out.2 k hlt 1 (by omega))
        have c2 : wr.cell? ⟨b, off + k * 5 + 2, none⟩ = some (.int .i64 (X k).South) := (hB.cell hb).trans (H.out.2 k hlt 2 (by omega))
        have c3 : wr.cell? ⟨b, off + k * 5 + 3, none⟩ = some (.int .i64 (X k).East) := (hB.cell hb).trans (H.out.2 k hlt 3 (by omega))
        have c4 : wr.cell? ⟨b, off + k * 5 + 4, none⟩ = some (.int .i64 (X k).North) := (hB.cell hb).trans (H.out.2 k hlt 4 (by omega))
        have e2 : (0 : Int) ≤ (k : Int) := by omega
        have e3 : (k : Int) < (len : Int) := by omega
        have hBk : Below w.heap.size w (wr.alloc (.cells #[.int .i64 (X k).Id, .int .i64 (X k).West, .int .i64 (X k).South, .int .i64 (X k).East, .int .i64 (X k).North] 44)) := hB.alloc hB.size _
        have hZk := hid (atZ_new wr (X k))
        have hok := hid (World.ownsRow.alloc ho.out (.cells #[.int .i64 (X k).Id, .int .i64 (X k).West, .int .i64 (X k).South, .int .i64 (X k).East, .int .i64 (X k).North] 44))
        have hnk : Hid (∀ {v : Value}, (∀ q, v.ownBlock = some q → q < wr.heap.size) → v.ownBlock ≠ some wr.heap.size) := by
          intro v hv e
          have := hv _ e
          omega
        have hlo := hid ho.out.lt
        obtain ⟨g, hg⟩ : ∃ g, wr.heap.size = g := ⟨_, rfl⟩
        have hwg : w.heap.size ≤ g := by have := hB.size; omega
        by_cases hcut : cap = k + 1
        · have hlk : len = k + 1 := by omega
          go_wp2_with fail
          obtain ⟨wo, hwo⟩ : ∃ wo : World, wo = wr.alloc (.cells #[.int .i64 (X k).Id, .int .i64 (X k).West, .int .i64 (X k).South, .int .i64 (X k).East, .int .i64 (X k).North] 44) := ⟨_, rfl⟩
          rw [← hwo] at hBk hok ⊢
          have hok2 := hid ((OwnA2.same (show OwnA2 w.heap.size wo _ _ from hok.out) (L' := tAll X len (k + 1)) (by show tAll X len k ++ tRow X k len = _; rw [tRow_nil (by omega), List.append_nil])))
          clear hwo hok
          go_loopw [4, 24] (fun v i wr => i = .int .i64 0 ∧ Below w.heap.size w wr ∧ Hid (OwnA2 w.heap.size wr v (tAll X len (k + 1)))) (fun _ i _ => 0)
          case atStart => exact ⟨rfl, hBk, hok2⟩
          case round =>
            obtain ⟨rfl, hB', ho'⟩ := hrel
            go_wp2_with fail
            go_roundw
            case rel => exact ⟨k + 1, by omega, by go_num, hB', ho'⟩
            case measure => simp [intOf]; omega
        · go_wp2_with fail
          (try rw [hg])
          rw [hg] at hZk
          have hok1 := hid ((OwnA2.same (show OwnA2 w.heap.size _ _ _ from hok.out) (L' := tAll X len k ++ tRow X k (k + 1 + 0)) (by rw [tRow_nil (by omega), List.append_nil])))
          have hne := hid (hnk.out hlo.out)
          rw [hg] at hne
          obtain ⟨wo, hwo⟩ : ∃ wo : World, wo = wr.alloc (.cells #[.int .i64 (X k).Id, .int .i64 (X k).West, .int .i64 (X k).South, .int .i64 (X k).East, .int .i64 (X k).North] 44) := ⟨_, rfl⟩
          rw [← hwo] at hBk hok1 hZk ⊢
          clear hwo hok hnk hlo hg c0 c1 c2 c3 c4
          go_loopw [4, 24] (fun v i wr => ∃ j : Nat, k + 1 + j ≤ len ∧ i = .int .i64 j ∧ Below w.heap.size w wr ∧ Hid (AtZ g (X k) wr) ∧ Hid (OwnA2 w.heap.size wr v (tAll X len k ++ tRow X k (k + 1 + j))) ∧ Hid (v.ownBlock ≠ some g)) (fun _ i _ => len - (k + 1) - (intOf i).toNat)
          case atStart => exact ⟨0, by omega, rfl, hBk, hZk, hok1, hne⟩
          case round =>
            clear hB ho hBk hZk hok1 hne
            obtain ⟨j, hj, rfl, hB, hZ, ho, hne⟩ := hrel
            by_cases hlj : k + 1 + j < len
            · have lg : g < wr.heap.size := hZ.out.1
              have x0 : wr.cell? ⟨g, 0, none⟩ = some (.int .i64 (X k).Id) := hZ.out.2 0 (by omega)
              have x1 : wr.cell? ⟨g, 1, none⟩ = some (.int .i64 (X k).West) := hZ.out.2 1 (by omega)
              have x2 : wr.cell? ⟨g, 2, none⟩ = some (.int .i64 (X k).South) := hZ.out.2 2 (by omega)
              have x3 : wr.cell? ⟨g, 3, none⟩ = some (.int .i64 (X k).East) := hZ.out.2 3 (by omega)
              have x4 : wr.cell? ⟨g, 4, none⟩ = some (.int .i64 (X k).North) := hZ.out.2 4 (by omega)
              have d0 : wr.cell? ⟨b, off + (k + 1) * 5 + j * 5, none⟩ = some (.int .i64 (X (k + 1 + j)).Id) := (hB.cell hb).trans (((H.out.drop (m := k + 1) (by omega)).2 j (by omega) 0 (by omega)))
              have d1 : wr.cell? ⟨b, off + (k + 1) * 5 + j * 5 + 1, none⟩ = some (.int .i64 (X (k + 1 + j)).West) := (hB.cell hb).trans (((H.out.drop (m := k + 1) (by omega)).2 j (by omega) 1 (by omega)))
              have d2 : wr.cell? ⟨b, off + (k + 1) * 5 + j * 5 + 2, none⟩ = some (.int .i64 (X (k + 1 + j)).South) := (hB.cell hb).trans (((H.out.drop (m := k + 1) (by omega)).2 j (by omega) 2 (by omega)))
              have d3 : wr.cell? ⟨b, off + (k + 1) * 5 + j * 5 + 3, none⟩ = some (.int .i64 (X (k + 1 + j)).East) := (hB.cell hb).trans (((H.out.drop (m := k + 1) (by omega)).2 j (by omega) 3 (by omega)))
              have d4 : wr.cell? ⟨b, off + (k + 1) * 5 + j * 5 + 4, none⟩ = some (.int .i64 (X (k + 1 + j)).North) := (hB.cell hb).trans (((H.out.drop (m := k + 1) (by omega)).2 j (by omega) 4 (by omega)))
              have e4 : (0 : Int) ≤ (j : Int) := by omega
              have e5 : (j : Int) < (len : Int) - ((k : Int) + 1) := by omega
              have e6 : j < len - (k + 1) := by omega
              have hle1 := tAll_le X len hl10 k
              have hle2 := tRow_le X k (k + 1 + j)
              obtain ⟨n, hn2⟩ : ∃ n, n = (tAll X len k ++ tRow X k (k + 1 + j)).length / 2 := ⟨_, rfl⟩
              have hn : n ≤ 120 := by rw [hn2, List.length_append]; omega
              have HN := hid hn2
              clear hn2 hle1 hle2
              have vk := hid (zonesB_valid HS.out hlt)
              have vm := hid (zonesB_valid HS.out hlj)
              have hB2 : Below w.heap.size w (wr.alloc (.cells #[.int .i64 (X (k + 1 + j)).Id, .int .i64 (X (k + 1 + j)).West, .int .i64 (X (k + 1 + j)).South, .int .i64 (X (k + 1 + j)).East, .int .i64 (X (k + 1 + j)).North] 44)) := hB.alloc hB.size _
              have hZ2 := hid (hZ.out.below ((Below.refl wr.heap.size wr).alloc (Nat.le_refl _) (.cells #[.int .i64 (X (k + 1 + j)).Id, .int .i64 (X (k + 1 + j)).West, .int .i64 (X (k + 1 + j)).South, .int .i64 (X (k + 1 + j)).East, .int .i64 (X (k + 1 + j)).North] 44)))
              have hY2 := hid (atZ_new wr (X (k + 1 + j)))
              have HO2 := hid (World.ownsRow.alloc (ho.out.row HN.out) (.cells #[.int .i64 (X (k + 1 + j)).Id, .int .i64 (X (k + 1 + j)).West, .int .i64 (X (k + 1 + j)).South, .int .i64 (X (k + 1 + j)).East, .int .i64 (X (k + 1 + j)).North] 44))
              by_cases ht : touchB (X k) (X (k + 1 + j)) = true
              · have HT := hid ht
                clear ht
                go_wp2_with fail
                refine (touch_implT vk.out vm.out HT.out _).mono ?_
                rintro e w2 ⟨rfl, hb2⟩
                have hB3 := Below.on hB2 hB2.size hb2
                have hZ3 := hid (hZ2.out.below hb2)
                have hY3 := hid (hY2.out.below hb2)
                have HO3 := hid (ownsRow_below HO2.out hb2)
                have y0 : w2.cell? ⟨g, 0, none⟩ = some (.int .i64 (X k).Id) := hZ3.out.2 0 (by omega)
                have y1 : w2.cell? ⟨wr.heap.size, 0, none⟩ = some (.int .i64 (X (k + 1 + j)).Id) := hY3.out.2 0 (by omega)
                have lg2 : g < w2.heap.size := hZ3.out.1
                clear x0 x1 x2 x3 x4 d0 d1 d2 d3 d4 hb2
                go_wp2_with (at_builtin; refine wpList_append_own_at _ rfl _ _ 49 rfl w.heap.size 68 i0 (.agg #[.int .i64 0, .int .i64 0]) 2 16 Try.underlying49 hi hz0 hz1 hz2 rfl (by decide) _ _ _ rfl (World.ownsRow.alloc HO3.out _) ⟨w2.heap.size, 0, none⟩ 1 1 [.int .i64 (X k).Id, .int .i64 (X (k + 1 + j)).Id] rfl rfl ?c1 ?c2 ?c3 ?c4 ?c5 ?_)
                case c1 => exact World.news_of_block (heap_alloc_new w2 _)
                case c2 => intro u hu; simp at hu; rcases hu with rfl | rfl <;> rfl
                case c3 => unfold maxLen; omega
                case c4 => omega
                case c5 => have := hB3.size; simp; omega
                intro v' w3 hown hgrow _ hat
                have hb3 : Below w.heap.size w w3 := Below.grown (hB3.alloc hB3.size _) hgrow (by have := hB3.size; simp; omega) (fun g hg => (World.ownsRow.lt HO3.out g hg).1)
                (try simp only [World.size_alloc] at hat)
                have hZ4 := hid ((hZ3.out.below ((Below.refl w2.heap.size w2).alloc (Nat.le_refl _) _)).grown hgrow hne.out)
                have hne2 : Hid (v'.ownBlock ≠ some g) := by
                  rcases hat with h | h
                  · unfold Hid; rw [h]; exact hne.out
                  · unfold Hid; rw [h]; intro e; injection e with e; omega
                have ho2 := hid ((OwnA2.snoc HN.out (by rw [List.map_append, List.append_assoc]; exact hown)).same (L' := tAll X len k ++ tRow X k (k + 1 + (j + 1))) (by rw [show k + 1 + (j + 1) = k + 1 + j + 1 from rfl, tRow_yes (by omega) HT.out, List.append_assoc]))
                clear hown hgrow hat hB3 y0 y1
                go_wp2_with fail
                go_roundw
                case rel => exact ⟨j + 1, by omega, by go_num, hb3, hZ4, ho2, hne2⟩
                case measure => simp [intOf]; omega
              · have HT := hid (show touchB (X k) (X (k + 1 + j)) = false by simpa using ht)
                clear ht
                go_wp2_with fail
                refine (touch_implT vk.out vm.out HT.out _).mono ?_
                rintro e w2 ⟨rfl, hb2⟩
                have hB3 := Below.on hB2 hB2.size hb2
                have hZ3 := hid (hZ2.out.below hb2)
                have ho3 := hid ((OwnA2.below (ho.out.alloc1 _) hb2).same (L' := tAll X len k ++ tRow X k (k + 1 + (j + 1))) (by rw [show k + 1 + (j + 1) = k + 1 + j + 1 from rfl, tRow_no HT.out]))
                go_wp2_with fail
                go_roundw
                case rel => exact ⟨j + 1, by omega, by go_num, hB3, hZ3, ho3, hne⟩
                case measure => simp [intOf]; omega
            · obtain rfl : len = k + 1 + j := by omega
              go_wp2_with fail
              go_roundw
              case rel => exact ⟨k + 1, by omega, by go_num, hB, ho⟩
              case measure => simp [intOf]; omega
      · obtain rfl : k = len := by omega
        go_wp2_with fail
        go_ret2
        exact ⟨_, by rw [HS.out]; rfl, by rw [touch_yes HS.out]; exact ho.out, hB⟩
  · have hS' : zonesB X len = false := by simpa using hS
    clear hS
    go_wp2_with fail
    go_ret2
    exact ⟨_, by rw [hS']; rfl, by rw [touch_no hS']; exact OwnA2.nil _ _, B1⟩

set_option maxRecDepth 100000 in
set_option maxHeartbeats 4000000 in
theorem walk_ExactTouchingZones (w : World) (p0 : Option Addr) (len0 cap0 : Nat) (X0 : Nat → ZoneD) (h0 : Sl w 5 p0 len0 (fun i => (X0 i).cells)) (ok0 : ∀ i, i < len0 → (X0 i).ok) (hm0 : len0 ≤ maxLen) :
    Calls Try.prog 7 #[.slice p0 len0 cap0] w fun e w' => e = .returned (.bool true) ∧ Below w.heap.size w w' := by
  clear ok0
  by_cases hL : (len0 : Int) ≤ 1048576
  · have hLL : (touchL X0 len0).length ≤ 1048576 := touchL_le X0 len0
    obtain ⟨LL, hLe⟩ : ∃ LL, LL = touchL X0 len0 := ⟨_, rfl⟩
    have HLe := hid hLe
    rw [← hLe] at hLL
    clear hLe
    go_enter Try.func7, Try.ntmps7
    go_wp2_with fail
    refine (szZoneS_any p0 len0 cap0 _ hm0).mono ?_
    rintro e w0 ⟨rfl, rfl⟩
    rw [if_pos hL]
    go_wp2_with fail
    refine (toZoneS_any p0 len0 cap0 X0 _ (h0.below (Below.refl w.heap.size w)) (by omega)).mono ?_
    rintro e w1 ⟨rfl, hb1, hs1, F1⟩
    have z1 := hb1.size
    have B1 : Below w.heap.size w w1 := Below.on (Below.refl w.heap.size w) (Below.refl w.heap.size w).size hb1
    go_wp2_with fail
    refine (touching_spec _ _ 0 len0 len0 X0 F1.rw (by omega) (Nat.le_refl _)).mono ?_
    rintro e w2 ⟨v, rfl, oV0, hb2⟩
    rw [← HLe.out] at oV0
    have oV := hid oV0
    clear oV0
    have z2 := hb2.size
    have B2 : Below w.heap.size w w2 := Below.on B1 B1.size hb2
    go_wp2_with fail
    refine (toZoneS_any p0 len0 cap0 X0 _ (h0.below B2) (by omega)).mono ?_
    rintro e w3 ⟨rfl, hb3, hs3, F3⟩
    have z3 := hb3.size
    have B3 : Below w.heap.size w w3 := Below.on B2 B2.size hb3
    go_wp2_with fail
    refine (touching_impl _ _ 0 len0 len0 X0 F3.rw (by omega) (Nat.le_refl _) (by omega)).mono ?_
    rintro e w4 ⟨g, rfl, oG0, hb4⟩
    rw [← HLe.out] at oG0
    have oG := hid oG0
    clear oG0
    have z4 := hb4.size
    have B4 : Below w.heap.size w w4 := Below.on B3 B3.size hb4
    go_wp2_with fail
    refine (eqIntA2S_own g v LL _ _ _ oG.out ((oV.out.below hb3).below hb4) hLL).mono ?_
    rintro e w5 ⟨rfl, hb5⟩
    have z5 := hb5.size
    have B5 : Below w.heap.size w w5 := Below.on B4 B4.size hb5
    go_wp2_with fail
    refine (toZoneS_any p0 len0 cap0 X0 _ (h0.below B5) (by omega)).mono ?_
    rintro e w6 ⟨rfl, hb6, hs6, F6⟩
    have z6 := hb6.size
    have B6 : Below w.heap.size w w6 := Below.on B5 B5.size hb6
    go_wp2_with fail
    refine (eqZoneS_same _ _ 0 0 len0 len0 len0 X0 _ (((F3.rw.later' hb4).later' hb5).later' hb6) F6.rw (by omega) (Nat.le_refl _) (Nat.le_refl _)).mono ?_
    rintro e w7 ⟨rfl, hb7⟩
    have z7 := hb7.size
    have B7 : Below w.heap.size w w7 := Below.on B6 B6.size hb7
    go_wp2_with fail
    refine (markZoneS_any _ len0 len0 1 _ ((((F3.below hb4 (by omega)).below hb5 (by omega)).below hb6 (by omega)).below hb7 (by omega)).blk (Nat.le_refl _) (by omega) (by omega) (by omega)).mono ?_
    rintro e w8 ⟨rfl, gr8⟩
    have z8 := gr8.size
    have B8 : Below w.heap.size w w8 := B7.grown gr8 B7.size (fun k hk => by cases hk; omega)
    have oV8 := hid (((((((oV.out.below hb3).below hb4).below hb5).below hb6).below hb7)).kept gr8 (oV.out.ne_lo (by omega)))
    have oG8 := hid (((((oG.out.below hb5).below hb6).below hb7)).kept gr8 (oG.out.ne_hi (by omega)))
    go_wp2_with fail
    refine (eqIntA2S_own g v LL _ _ _ oG8.out oV8.out hLL).mono ?_
    rintro e w9 ⟨rfl, hb9⟩
    have z9 := hb9.size
    have B9 : Below w.heap.size w w9 := Below.on B8 B8.size hb9
    go_wp2_with fail
    refine (markIntA2S_own g LL _ 1 _ (oG8.out.below hb9) (by omega) (by omega) (by omega)).mono ?_
    rintro e w10 ⟨rfl, oM0, gr10⟩
    have oM := hid oM0
    clear oM0
    have z10 := gr10.size
    have B10 : Below w.heap.size w w10 := B9.grown gr10 B9.size (fun k hk => by have := oG.out.ge k hk; omega)
    have oV10 := hid ((oV8.out.below hb9).kept gr10 (own_ne oV.out.lt (fun k hk => by have := oG.out.ge k hk; omega)))
    go_wp2_with fail
    refine (heldIntA2S_own g LL.length _ 1 _ oM.out (by omega) (by omega) (by omega)).mono ?_
    rintro e w11 ⟨rfl, rfl⟩
    go_wp2_with fail
    refine (toZoneS_any p0 len0 cap0 X0 _ (h0.below B10) (by omega)).mono ?_
    rintro e w12 ⟨rfl, hb12, hs12, F12⟩
    have z12 := hb12.size
    have B12 : Below w.heap.size w w12 := Below.on B10 B10.size hb12
    go_wp2_with fail
    refine (touching_impl _ _ 0 len0 len0 X0 F12.rw (by omega) (Nat.le_refl _) (by omega)).mono ?_
    rintro e w13 ⟨u, rfl, oH0, hb13⟩
    rw [← HLe.out] at oH0
    have oH := hid oH0
    clear oH0
    have z13 := hb13.size
    have B13 : Below w.heap.size w w13 := Below.on B12 B12.size hb13
    go_wp2_with fail
    refine (eqIntA2S_own u v LL _ _ _ oH.out ((oV10.out.below hb12).below hb13) hLL).mono ?_
    rintro e w14 ⟨rfl, hb14⟩
    have z14 := hb14.size
    have B14 : Below w.heap.size w w14 := Below.on B13 B13.size hb14
    go_wp2_with fail
    refine (heldIntA2S_own g LL.length _ 1 _ (((oM.out.below hb12).below hb13).below hb14) (by omega) (by omega) (by omega)).mono ?_
    rintro e w15 ⟨rfl, rfl⟩
    go_wp2_with fail
    go_ret
    exact ⟨rfl, B14⟩
  · go_enter Try.func7, Try.ntmps7
    go_wp2_with fail
    refine (szZoneS_any p0 len0 cap0 _ hm0).mono ?_
    rintro e w0 ⟨rfl, rfl⟩
    rw [if_neg (by omega)]
    go_wp2_with fail
    go_ret
    exact ⟨rfl, Below.refl _ _⟩

end Go.Proofs.Ytcnjafpfkdaoeaa
