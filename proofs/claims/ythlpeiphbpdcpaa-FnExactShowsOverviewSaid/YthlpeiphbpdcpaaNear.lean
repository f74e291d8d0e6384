/-
  Neighbors of a sheet: the program and the reference. No condition.
-/
import Derived.Test.YthlpeiphbpdcpaaSheets3
import Derived.Test.YthlpeiphbpdcpaaIds
namespace Go.Proofs.Ythlpeiphbpdcpaa
open Go.RowKit
set_option linter.unusedVariables false

set_option maxHeartbeats 400000 in
theorem find_spec (w : World) (b off len cap : Nat) (X : Nat → SheetD) (id : Int) (h : Rw w b off 5 len (fun i => (X i).cells)) (hm : len ≤ 1048576) (hlc : len ≤ cap) :
    Calls Try.prog 36 #[.slice (some ⟨b, off, none⟩) len cap, .int .i64 id] w fun e w' => e = .returned (.int .i64 (findI (fun i => (X i).Id == id) len)) ∧ w = w' := by
  have H := hid h.2
  have hb := h.1
  clear h
  go_enter Try.func36, Try.ntmps36
  go_wp2
  go_loop [5] (fun i => ∃ k : Nat, k ≤ len ∧ i = .int .i64 k ∧ Hid (findI (fun i => (X i).Id == id) len = findFrom (fun i => (X i).Id == id) k (len - k))) (fun i => len - (intOf i).toNat)
  case atStart => exact ⟨0, by omega, rfl, rfl⟩
  case round =>
    obtain ⟨k, hk, rfl, hf⟩ := hrel
    by_cases hlt : k < len
    · have c0 : w.cell? ⟨b, off + k * 5, none⟩ = some (.int .i64 (X k).Id) := H.out k hlt 0 (by omega)
      go_wp2
      all_goals first
        | (go_ret; exact ⟨ret_int (findFrom_hit hlt (by simp [*]) hf.out).symm, rfl⟩)
        | (go_round; (case rel => exact ⟨k + 1, by omega, by go_num, findFrom_miss hlt (by simp [*]) hf.out⟩); (case measure => simp [intOf]; omega))
    · go_wp2
      go_ret
      exact ⟨ret_int (findFrom_end (by omega) hf.out).symm, rfl⟩

theorem sheetAt_impl_1 (s : SheetD) (id : Int) (b1 : Nat) (w : World) (h1 : w.cell? ⟨b1, 0, none⟩ = some (.int .i64 id)) (l1 : b1 < w.heap.size) :
    Calls Try.prog 52 #[s.val, .pointer (some ⟨b1, 0, none⟩)] w fun e w' => e = .returned (.bool (s.Id == id)) ∧ Below w.heap.size w w' := by
  go_enter Try.func52, Try.ntmps52
  go_wp2
  all_goals go_ret
  all_goals exact ⟨by simp [*], by go_grown⟩

theorem sheetAt_impl (w : World) (b off len cap : Nat) (X : Nat → SheetD) (id : Int) (h : Rw w b off 5 len (fun i => (X i).cells)) (hm : len ≤ 1048576) (hlc : len ≤ cap) :
    Calls Try.prog 38 #[.slice (some ⟨b, off, none⟩) len cap, .int .i64 id] w fun e w' => e = .returned (.int .i64 (findI (fun i => (X i).Id == id) len)) ∧ Below w.heap.size w w' := by
  go_enter Try.func38, Try.ntmps38
  go_wp2_with fail
  have hB : Below w.heap.size w (w.alloc (.cells #[.int .i64 id] 3)) := by go_grown
  refine (idx_sheet _ b off len cap X 52 _ (fun i => (X i).Id == id) (fun _ _ => by kernel_rfl) (h.later' hB) hm hlc ?_).mono ?_
  · intro x i hi
    have hz := x.size
    refine sheetAt_impl_1 (X i) id _ _ ((x.cell _ _ (by simp)).trans ?_) ?_
    · simp [go_sem]
    · simp at hz; omega
  · rintro e w1 ⟨rfl, hb1⟩
    go_wp2_with fail
    go_ret
    exact ⟨rfl, Below.on hB (by simp) hb1⟩

theorem sheetB_bd {s : SheetD} (h : sheetB s = true) : (1 ≤ s.Id ∧ s.Id ≤ 999) ∧ (0 ≤ s.Row ∧ s.Row ≤ 99) ∧ (0 ≤ s.Col ∧ s.Col ≤ 99) ∧ (10 ≤ s.Scale ∧ s.Scale ≤ 500) ∧ (1500 ≤ s.Year ∧ s.Year ≤ 2100) := by
  simp [sheetB, inB] at h; omega

theorem sheetsB_valid {X : Nat → SheetD} {n i : Nat} (h : sheetsB X n = true) (hi : i < n) : sheetB (X i) = true := by
  have := sheetsB_at h hi
  simp [sheetOk] at this; exact this.1.1

theorem sheetsB_step {X : Nat → SheetD} {n i : Nat} (h : sheetsB X n = true) (hi : i + 1 < n) : (X i).Id < (X (i + 1)).Id := by
  have := sheetsB_at h hi
  simp [sheetOk] at this; exact this.1.2

theorem sheetsB_lt {X : Nat → SheetD} {n : Nat} (h : sheetsB X n = true) : ∀ {i j : Nat}, i < j → j < n → (X i).Id < (X j).Id := by
  intro i j hij hj
  induction j with
  | zero => omega
  | succ j ih =>
    have := sheetsB_step h hj
    by_cases e : i = j
    · rw [e]; exact this
    · have := ih (by omega) (by omega); omega

theorem sheetsB_inj {X : Nat → SheetD} {n i j : Nat} (h : sheetsB X n = true) (hi : i < n) (hj : j < n) (he : (X i).Id = (X j).Id) : i = j := by
  rcases Nat.lt_trichotomy i j with hl | hl | hl
  · have := sheetsB_lt h hl hj; omega
  · exact hl
  · have := sheetsB_lt h hl hi; omega

/-- Two sheets are neighbors or the same. -/
def nearB (a b : SheetD) : Bool := (a.Scale == b.Scale) && inB (a.Row - b.Row) (-1) 1 && inB (a.Col - b.Col) (-1) 1

theorem near_spec (a b : SheetD) (ha : sheetB a = true) (hb : sheetB b = true) (w : World) : Calls Try.prog 37 #[a.val, b.val] w fun e w' => e = .returned (.bool (nearB a b)) ∧ Below w.heap.size w w' := by
  obtain ⟨_, ⟨a1, a2⟩, ⟨a3, a4⟩, _, _⟩ := sheetB_bd ha
  obtain ⟨_, ⟨b1, b2⟩, ⟨b3, b4⟩, _, _⟩ := sheetB_bd hb
  clear ha hb
  go_enter Try.func37, Try.ntmps37
  go_wp2_with (go_at_call 27; refine (in_spec _ _ _ _).mono ?_; rintro e w' ⟨rfl, rfl⟩)
  all_goals go_ret
  all_goals exact ⟨by simp [nearB, *], by go_grown⟩

def absI (n : Int) : Int := if n < 0 then -n else n

theorem abs_any (n : Int) (h0 : -4611686018427387904 ≤ n) (h1 : n ≤ 4611686018427387904) (w : World) : Calls Try.prog 49 #[.int .i64 n] w fun e w' => e = .returned (.int .i64 (absI n)) ∧ w = w' := by
  by_cases h : n < 0
  · rw [show absI n = -n by simp [absI, h]]
    go_enter Try.func49, Try.ntmps49
    go_wp2
    go_ret
    exact ⟨ret_int (by omega), rfl⟩
  · rw [show absI n = n by simp [absI, h]]
    go_enter Try.func49, Try.ntmps49
    go_wp2
    go_ret
    exact ⟨ret_int (by omega), rfl⟩

theorem absI_le {n : Int} : decide (absI n ≤ 1) = inB n (-1) 1 := by
  unfold absI inB
  rw [Bool.eq_iff_iff]
  split <;> simp <;> omega

theorem near_impl (a b : SheetD) (ha : sheetB a = true) (hb : sheetB b = true) (w : World) : Calls Try.prog 41 #[a.val, b.val] w fun e w' => e = .returned (.bool ((a.Id != b.Id) && nearB a b)) ∧ Below w.heap.size w w' := by
  obtain ⟨_, ⟨a1, a2⟩, ⟨a3, a4⟩, _, _⟩ := sheetB_bd ha
  obtain ⟨_, ⟨b1, b2⟩, ⟨b3, b4⟩, _, _⟩ := sheetB_bd hb
  clear ha hb
  have k1 := absI_le (n := a.Row - b.Row)
  have k2 := absI_le (n := a.Col - b.Col)
  have K1 := hid k1
  have K2 := hid k2
  clear k1 k2
  go_enter Try.func41, Try.ntmps41
  go_wp2_with (go_at_call 49; refine (abs_any _ (by omega) (by omega) _).mono ?_; rintro e w' ⟨rfl, rfl⟩)
  all_goals go_ret
  all_goals refine ⟨ret_bool ?_, by go_grown⟩
  all_goals unfold nearB
  all_goals rw [← K1.out, ← K2.out]
  all_goals (simp [*] <;> omega)

/-- Sheet i is a neighbor of sheet j of a list. -/
def nbP (X : Nat → SheetD) (j i : Nat) : Bool := decide (i ≠ j) && nearB (X i) (X j)
/-- The ids of the neighbors of the sheet with an id; and whether there is one in a valid list. -/
def nbL (X : Nat → SheetD) (n : Nat) (id : Int) : List Int := if sheetsB X n = true ∧ 0 ≤ findI (fun i => (X i).Id == id) n then selI (nbP X (findI (fun i => (X i).Id == id) n).toNat) (fun i => (X i).Id) n else []
def nbOk (X : Nat → SheetD) (n : Nat) (id : Int) : Bool := sheetsB X n && decide (0 ≤ findI (fun i => (X i).Id == id) n)

theorem nb_miss {X : Nat → SheetD} {n : Nat} {id : Int} (h : sheetsB X n = false ∨ findI (fun i => (X i).Id == id) n = -1) : nbL X n id = [] ∧ nbOk X n id = false := by
  rcases h with h | h <;> simp [nbL, nbOk, h]
theorem nb_hit {X : Nat → SheetD} {n j : Nat} {id : Int} (h : sheetsB X n = true) (hj : findI (fun i => (X i).Id == id) n = (j : Int)) : nbL X n id = selI (nbP X j) (fun i => (X i).Id) n ∧ nbOk X n id = true := by
  simp [nbL, nbOk, h, hj]

theorem ownI_empty (w : World) : OwnI w.heap.size (w.alloc (.cells #[] 3)) (.slice (some ⟨w.heap.size, 0, none⟩) 0 0) [] :=
  World.ownsRow_made w #[] 0 (Nat.le_refl _) (by simp [maxLen]) rfl

set_option maxRecDepth 100000 in
set_option maxHeartbeats 2000000 in
theorem neighbors_spec (w : World) (b off len cap : Nat) (X : Nat → SheetD) (id : Int) (h : Rw w b off 5 len (fun i => (X i).cells)) (hm : len ≤ 1048576) (hlc : len ≤ cap) :
    Calls Try.prog 18 #[.slice (some ⟨b, off, none⟩) len cap, .int .i64 id] w (RetIB (nbL X len id) (nbOk X len id) w) := by
  have H := hid h
  have hb := h.1
  clear h
  obtain ⟨i0, hi, hz0, hz1, hz2⟩ := info_parts info_int
  have hE := hid (ownI_empty w)
  have hA : Below w.heap.size w (w.alloc (.cells #[] 3)) := by go_grown
  go_enter Try.func18, Try.ntmps18
  go_wp2_with fail
  refine (find_spec _ b off len cap X id (H.out.later' hA) hm hlc).mono ?_
  rintro e w1 ⟨he, rfl⟩
  rcases findI_cases (fun i => (X i).Id == id) len with hK | ⟨j, hj, hK, hpj⟩
  · rw [hK] at he
    have HK := hid hK
    clear hK
    subst he
    go_wp2_with fail
    refine (sheets_spec _ b off len cap X (H.out.later' hA) hm hlc).mono ?_
    rintro e w1 ⟨rfl, hb1⟩
    have B1 := Below.on hA hA.size hb1
    have ho1 := hid (hE.out.below hb1)
    by_cases hS : sheetsB X len = true
    all_goals
      go_wp2_with fail
      go_ret2
      exact ⟨_, by rw [(nb_miss (.inr HK.out)).2]; rfl, by rw [(nb_miss (.inr HK.out)).1]; exact ho1, B1⟩
  · clear hpj
    rw [hK] at he
    have HK := hid hK
    clear hK
    subst he
    go_wp2_with fail
    refine (sheets_spec _ b off len cap X (H.out.later' hA) hm hlc).mono ?_
    rintro e w1 ⟨rfl, hb1⟩
    have B1 := Below.on hA hA.size hb1
    have ho1 := hid (hE.out.below hb1)
    clear hE
    by_cases hS : sheetsB X len = true
    · have HS := hid hS
      go_wp2_with fail
      go_loopw [6, 8] (fun v i wr => ∃ k : Nat, k ≤ len ∧ i = .int .i64 k ∧ Below w.heap.size w wr ∧ Hid (OwnI w.heap.size wr v (selI (nbP X j) (fun i => (X i).Id) k))) (fun _ i _ => len - (intOf i).toNat)
      case atStart => exact ⟨0, by omega, rfl, B1, ho1⟩
      case round =>
        clear hb1 B1 ho1 hA hS
        obtain ⟨k, hk, rfl, hB, ho⟩ := hrel
        by_cases hlt : k < len
        · have c0 : wr.cell? ⟨b, off + k * 5, none⟩ = some (.int .i64 (X k).Id) := (hB.cell hb).trans (H.out.2 k hlt 0 (by omega))
          have c1 : wr.cell? ⟨b, off + k * 5 + 1, none⟩ = some (.int .i64 (X k).Row) := (hB.cell hb).trans (H.out.2 k hlt 1 (by omega))
          have c2 : wr.cell? ⟨b, off + k * 5 + 2, none⟩ = some (.int .i64 (X k).Col) := (hB.cell hb).trans (H.out.2 k hlt 2 (by omega))
          have c3 : wr.cell? ⟨b, off + k * 5 + 3, none⟩ = some (.int .i64 (X k).Scale) := (hB.cell hb).trans (H.out.2 k hlt 3 (by omega))
          have c4 : wr.cell? ⟨b, off + k * 5 + 4, none⟩ = some (.int .i64 (X k).Year) := (hB.cell hb).trans (H.out.2 k hlt 4 (by omega))
          have d0 : wr.cell? ⟨b, off + j * 5, none⟩ = some (.int .i64 (X j).Id) := (hB.cell hb).trans (H.out.2 j hj 0 (by omega))
          have d1 : wr.cell? ⟨b, off + j * 5 + 1, none⟩ = some (.int .i64 (X j).Row) := (hB.cell hb).trans (H.out.2 j hj 1 (by omega))
          have d2 : wr.cell? ⟨b, off + j * 5 + 2, none⟩ = some (.int .i64 (X j).Col) := (hB.cell hb).trans (H.out.2 j hj 2 (by omega))
          have d3 : wr.cell? ⟨b, off + j * 5 + 3, none⟩ = some (.int .i64 (X j).Scale) := (hB.cell hb).trans (H.out.2 j hj 3 (by omega))
          have d4 : wr.cell? ⟨b, off + j * 5 + 4, none⟩ = some (.int .i64 (X j).Year) := (hB.cell hb).trans (H.out.2 j hj 4 (by omega))
          have lb : b < wr.heap.size := by have := hB.size; omega
          have e2 : (0 : Int) ≤ (k : Int) := by omega
          have e3 : (k : Int) < (len : Int) := by omega
          have e4 : (0 : Int) ≤ (j : Int) := by omega
          have e5 : (j : Int) < (len : Int) := by omega
          have hq := fun x : Later wr => x.cell
          have hle := selI_le (nbP X j) (fun i => (X i).Id) k
          have vk := hid (sheetsB_valid HS.out hlt)
          have vj := hid (sheetsB_valid HS.out hj)
          by_cases hkj : k = j
          · have hne : ((k : Int) != (j : Int)) = false := by simp [hkj]
            have hp : Hid (nbP X j k = false) := by simp [Hid, nbP, hkj]
            clear hkj
            go_wp2_with fail
            refine region_later (by kernel_rfl) (by kernel_rfl) ?_
            repeat (go_big_quiet_step (fail))
            refine wpQuiet_nil ?_
            intro _ hw'
            obtain ⟨x, rfl⟩ := hw'
            have hB1 : Below w.heap.size w x.wd := Below.on hB hB.size x.below
            clear hq
            go_wp2_with fail
            go_roundw
            case rel => exact ⟨k + 1, by omega, by go_num, hB1, by rw [selI_no hp.out]; exact ho.out.below x.below⟩
            case measure => simp [intOf]; omega
          · have hne : ((k : Int) != (j : Int)) = true := by simp; omega
            by_cases hn : nearB (X k) (X j) = true
            · have hp : Hid (nbP X j k = true) := by simp [Hid, nbP, hkj, hn]
              clear hkj
              go_wp2_with fail
              refine region_later (by kernel_rfl) (by kernel_rfl) ?_
              repeat (go_big_quiet_step ((go_at_call 37; refine calls_later (near_spec (X k) (X j) vk.out vj.out _))))
              refine wpQuiet_nil ?_
              intro _ hw'
              obtain ⟨x, rfl⟩ := hw'
              have hB1 : Below w.heap.size w x.wd := Below.on hB hB.size x.below
              have f0 : x.wd.cell? ⟨b, off + k * 5, none⟩ = some (.int .i64 (X k).Id) := (x.cell _ _ lb).trans c0
              have ho1 := hid (ho.out.below x.below)
              clear hq
              go_wp2_with (at_builtin; refine wpList_append_own_at _ rfl _ _ 39 rfl w.heap.size 3 i0 (.int .i64 0) 1 8 Try.underlying39 hi hz0 hz1 hz2 rfl (by decide) _ _ _ rfl (World.ownsRow.alloc ho1.out _) ⟨x.wd.heap.size, 0, none⟩ 1 1 [.int .i64 (X k).Id] rfl rfl ?c1 ?c2 ?c3 ?c4 ?c5 ?_)
              case c1 => exact cell_one_new _ _ _
              case c2 => intro u hu; simp at hu; subst hu; rfl
              case c3 => unfold maxLen; omega
              case c4 => omega
              case c5 => have := hB1.size; simp; omega
              · intro v' w2 hown' hgrow _ _
                have hb2 : Below w.heap.size w w2 := (hB1.alloc hB1.size _).grown hgrow (by have := hB1.size; simp; omega) (fun g hg => by have := (World.ownsRow.lt ho1.out g hg).1; omega)
                have ho2 : Hid (OwnI w.heap.size w2 v' (selI (nbP X j) (fun i => (X i).Id) (k + 1))) := by
                  rw [selI_yes hp.out]
                  unfold Hid OwnI
                  simpa using hown'
                clear hown' hgrow ho1
                go_wp2_with fail
                go_roundw
                case rel => exact ⟨k + 1, by omega, by go_num, hb2, ho2⟩
                case measure => simp [intOf]; omega
            · have hn' : nearB (X k) (X j) = false := by simpa using hn
              have hp : Hid (nbP X j k = false) := by simp [Hid, nbP, hn']
              clear hkj hn
              go_wp2_with fail
              refine region_later (by kernel_rfl) (by kernel_rfl) ?_
              repeat (go_big_quiet_step ((go_at_call 37; refine calls_later (near_spec (X k) (X j) vk.out vj.out _))))
              refine wpQuiet_nil ?_
              intro _ hw'
              obtain ⟨x, rfl⟩ := hw'
              have hB1 : Below w.heap.size w x.wd := Below.on hB hB.size x.below
              clear hq
              go_wp2_with fail
              go_roundw
              case rel => exact ⟨k + 1, by omega, by go_num, hB1, by rw [selI_no hp.out]; exact ho.out.below x.below⟩
              case measure => simp [intOf]; omega
        · obtain rfl : k = len := by omega
          go_wp2_with fail
          go_ret2
          exact ⟨_, by rw [(nb_hit HS.out HK.out).2]; rfl, by rw [(nb_hit HS.out HK.out).1]; exact ho.out, hB⟩
    · have hS' : sheetsB X len = false := by simpa using hS
      clear hS
      go_wp2_with fail
      go_ret2
      exact ⟨_, by rw [(nb_miss (.inl hS')).2]; rfl, by rw [(nb_miss (.inl hS')).1]; exact ho1, B1⟩

end Go.Proofs.Ythlpeiphbpdcpaa
