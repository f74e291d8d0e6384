/-
  The longest strip, by the program. No condition.
-/
import Derived.Test.YtgdhjiiblfdlcaaScale2
import Derived.Test.YtgdhjiiblfdlcaaStrP
import Derived.BigQuiet
import Derived.Deep.QuietTactic
namespace Go.Proofs.Ytgdhjiiblfdlcaa
open Go.RowKit
set_option linter.unusedVariables false
set_option maxRecDepth 100000

theorem OwnI.alloc1 {B : Nat} {w : World} {v : Value} {L : List Int} (h : OwnI B w v L) (o : Obj) : OwnI B (w.alloc o) v L := World.ownsRow.alloc h o
theorem OwnI.same {B : Nat} {w : World} {v : Value} {L L' : List Int} (h : OwnI B w v L) (e : L' = L) : OwnI B w v L' := by rw [e]; exact h
theorem OwnI.sl {B n : Nat} {w : World} {v : Value} {L : List Int} (h : OwnI B w v L) (hn : L.length = n) : ∃ ao cap, v = .slice ao n cap ∧ n ≤ cap := by
  obtain ⟨ao, cap, e, hc⟩ := h.slice
  exact ⟨ao, cap, by rw [e, hn], by omega⟩
theorem OwnI.row {B n : Nat} {w : World} {v : Value} {L : List Int} (h : OwnI B w v L) (hn : L.length = n) : w.ownsRow B 3 1 v n (L.map (Value.int .i64)) := by rw [← hn]; exact h
theorem OwnI.snoc {B n : Nat} {w : World} {v : Value} {L : List Int} {a : Int} (hn : L.length = n) (h : w.ownsRow B 3 1 v (n + 1) (L.map (Value.int .i64) ++ [.int .i64 a])) : OwnI B w v (L ++ [a]) := by
  unfold OwnI
  rw [List.length_append, List.map_append, hn]
  exact h

theorem clone_own (B : Nat) (v : Value) (L : List Int) (w : World) (h : OwnI B w v L) (hL : L.length ≤ 1048576) :
    Calls Try.prog 37 #[v] w fun e w' => ∃ v', e = .returned v' ∧ OwnI w.heap.size w' v' L ∧ Below w.heap.size w w' := by
  rcases h.form with ⟨rfl, rfl⟩ | ⟨g, cap, rfl, hb, hl, hc, hm, hcell, _⟩
  · refine Calls.mono (Try.slices_Clone_int_nil 0 0 w) ?_
    rintro e w' ⟨rfl, rfl⟩
    exact ⟨_, rfl, OwnI.nil _ _, Below.refl _ _⟩
  · refine Calls.mono (Try.slices_Clone_int g 0 L.length cap L w (Nat.le_refl _) (by omega) (fun j hj => by rw [Nat.zero_add]; exact hcell j hj)) ?_
    rintro e w' ⟨v', rfl, ho, _, hb'⟩
    refine ⟨v', rfl, ?_, hb'⟩
    rw [List.take_length] at ho
    exact ho

theorem ne_of_own {u : Value} {a : Nat} (h : ∀ k, u.ownBlock = some k → k < a) : u.ownBlock = none ∨ u.ownBlock ≠ some a := by
  cases hu : u.ownBlock with
  | none => exact .inl rfl
  | some k => exact .inr fun e => by injection e with e; have := h k hu; omega
theorem own_none (u : Value) : u.ownBlock = none ∨ u.ownBlock ≠ none := by
  cases u.ownBlock with
  | none => exact .inl rfl
  | some k => exact .inr (fun e => by cases e)
theorem own_ne2 {v g : Value} {a : Nat} (hv : ∀ k, v.ownBlock = some k → a ≤ k) (hg : ∀ k, g.ownBlock = some k → k < a) : v.ownBlock = none ∨ v.ownBlock ≠ g.ownBlock := by
  cases h : v.ownBlock with
  | none => exact .inl rfl
  | some k =>
    refine .inr fun e => ?_
    have h1 := hv k h
    have h2 := hg k e.symm
    omega


set_option maxHeartbeats 3000000 in
theorem longest_impl (w : World) (b off len cap : Nat) (X : Nat → SheetD) (sc : Int) (h : Rw w b off 5 len (fun i => (X i).cells)) (hm : len ≤ 1048576) (hlc : len ≤ cap) :
    Calls Try.prog 16 #[.slice (some ⟨b, off, none⟩) len cap, .int .i64 sc] w (RetIB (lsL X len sc) (lsOk X len sc) w) := by
  have H := hid h
  have hb := h.1
  clear h
  obtain ⟨i0, hi, hz0, hz1, hz2⟩ := info_parts info_int
  go_enter Try.func16, Try.ntmps16
  go_wp2_with fail
  refine (ofScale_impl _ b off len cap X sc H.out hm hlc).mono ?_
  rintro e w1 ⟨v, L, rfl, ho1, hb1, hS1⟩
  have HO1 := hid ho1
  have HS1 := hid hS1
  clear ho1 hS1
  go_wp2_with fail
  refine (sheets_impl _ b off len cap X (H.out.later' hb1) hm hlc).mono ?_
  rintro e w2 ⟨rfl, hb2⟩
  have B2 := Below.on hb1 hb1.size hb2
  have hO2 := HO1.out.below hb2
  clear HO1
  by_cases hv : sheetsB X len = true
  · have HV := hid hv
    obtain rfl := HS1.out.eq hv
    have P := hid (srt_places (sc := sc) hv)
    have hn12 := sheetsB_le hv
    have hN12 := srtN_le X len sc
    have HL : Hid (∀ a m, lsOk X len sc = true → Best (srtY X len sc) (srtN X len sc) (srtN X len sc) a m → lsL X len sc = idsF (srtY X len sc) a m) := fun a m h1 h2 => lsL_eq h1 h2
    have HK : Hid (lsOk X len sc = decide (0 < srtN X len sc)) := by unfold Hid lsOk; rw [hv]; rfl
    rcases hO2.form with ⟨rfl, hnil⟩ | ⟨g, cp, rfl, hg1, hg2, hcp, hcm, hR, _⟩
    · have h0 : srtN X len sc = 0 := by unfold srtN; rw [hnil]; rfl
      have HN0 : Hid (lsOk X len sc = false) := by unfold Hid; rw [HK.out, h0]; rfl
      clear h0 hnil HL HK HS1 hO2 P hN12
      go_wp2_with fail
      go_ret2
      exact ⟨_, by rw [HN0.out]; rfl, by rw [lsL_no HN0.out]; exact OwnI.nil _ _, B2⟩
    · have HR : Hid (Rw w2 g 0 5 (srtN X len sc) (fun i => (srtY X len sc i).cells)) := hR
      have hlen : (srt X len sc).length = srtN X len sc := rfl
      rw [hlen] at hcp ⊢
      clear HS1 hO2 hR hlen
      generalize srtY X len sc = Y at *
      generalize srtN X len sc = N at *
      by_cases h0 : N = 0
      · have HN0 : Hid (lsOk X len sc = false) := by unfold Hid; rw [HK.out, h0]; rfl
        subst h0
        clear HL HK P
        go_wp2_with fail
        go_ret2
        exact ⟨_, by rw [HN0.out]; rfl, by rw [lsL_no HN0.out]; exact OwnI.nil _ _, B2⟩
      · have HN1 : Hid (lsOk X len sc = true) := by unfold Hid; rw [HK.out]; simp; omega
        have n0 : ((N : Int) == 0) = false := by simp; omega
        clear HK hv
        go_wp2_with fail
        go_loopw [7, 8, 24] (fun bst str i wr => ∃ k s a m : Nat, k ≤ N ∧ i = .int .i64 k ∧ Below w2.heap.size w2 wr ∧ Hid (RunI Y k s) ∧ Hid (Best Y k k a m) ∧ Hid (OwnI w2.heap.size wr bst (idsF Y a m)) ∧ Hid (OwnI w2.heap.size wr str (idsF Y s (k - s))) ∧ Hid (bst.ownBlock = none ∨ bst.ownBlock ≠ str.ownBlock)) (fun _ _ i _ => N - (intOf i).toNat)
        case atStart => exact ⟨0, 0, 0, 0, by omega, rfl, Below.refl _ _, RunI.zero Y, Best.zero Y 0, OwnI.nil _ _, OwnI.nil _ _, .inl rfl⟩
        case round =>
          obtain ⟨k, s, a, m, hk, rfl, hB, hRun, hBest, hob, hos, hne⟩ := hrel
          by_cases hlt : k < N
          · have hg : g < wr.heap.size := by have := hB.size; omega
            have hgx : g < wr.heap.size + 1 := by omega
            have c0 : wr.cell? ⟨g, k * 5, none⟩ = some (.int .i64 (Y k).Id) := (hB.cell hg2).trans (by have := HR.out.2 k hlt 0 (by omega); rw [Nat.zero_add] at this; exact this)
            have c1 : wr.cell? ⟨g, k * 5 + 1, none⟩ = some (.int .i64 (Y k).Row) := (hB.cell hg2).trans (by have := HR.out.2 k hlt 1 (by omega); rw [Nat.zero_add] at this; exact this)
            have c2 : wr.cell? ⟨g, k * 5 + 2, none⟩ = some (.int .i64 (Y k).Col) := (hB.cell hg2).trans (by have := HR.out.2 k hlt 2 (by omega); rw [Nat.zero_add] at this; exact this)
            have c3 : wr.cell? ⟨g, k * 5 + 3, none⟩ = some (.int .i64 (Y k).Scale) := (hB.cell hg2).trans (by have := HR.out.2 k hlt 3 (by omega); rw [Nat.zero_add] at this; exact this)
            have c4 : wr.cell? ⟨g, k * 5 + 4, none⟩ = some (.int .i64 (Y k).Year) := (hB.cell hg2).trans (by have := HR.out.2 k hlt 4 (by omega); rw [Nat.zero_add] at this; exact this)
            have hs1 := hRun.out.1
            obtain ⟨q, hq0⟩ : ∃ q, q = k - s := ⟨_, rfl⟩
            rw [← hq0] at hos
            have hsq : Hid (s + q = k) := by unfold Hid; omega
            have hq12 : q ≤ 12 := by omega
            clear hq0
            by_cases hk0 : 0 < k
            · have e0 : IntKind.i64.wrap ((k : Int) - 1) = (k : Int) - 1 := IntWalk.i64_in _ (by omega)
              have e1 : ((k : Int) - 1).toNat = k - 1 := by omega
              have e2 : (0 : Int) ≤ (k : Int) - 1 := by omega
              have e3 : (k : Int) - 1 < (N : Int) := by omega
              have p1 : wr.cell? ⟨g, (k - 1) * 5 + 1, none⟩ = some (.int .i64 (Y (k - 1)).Row) := (hB.cell hg2).trans (by have := HR.out.2 (k - 1) (by omega) 1 (by omega); rw [Nat.zero_add] at this; exact this)
              have p2 : wr.cell? ⟨g, (k - 1) * 5 + 2, none⟩ = some (.int .i64 (Y (k - 1)).Col) := (hB.cell hg2).trans (by have := HR.out.2 (k - 1) (by omega) 2 (by omega); rw [Nat.zero_add] at this; exact this)
              have bd := P.out.grid.bd (k - 1) (by omega)
              have e4 : IntKind.i64.wrap ((Y (k - 1)).Col + 1) = (Y (k - 1)).Col + 1 := IntWalk.i64_in _ (by omega)
              clear bd
              by_cases hr : (Y k).Row = (Y (k - 1)).Row
              · have d1 : ((Y k).Row != (Y (k - 1)).Row) = false := by simp [hr]
                by_cases hc : (Y k).Col = (Y (k - 1)).Col + 1
                · have d2 : ((Y k).Col != (Y (k - 1)).Col + 1) = false := by simp [hc]
                  have hR1 : Hid (RunI Y (k + 1) s) := hRun.out.on (.inr (by unfold adjS; rw [show k - 1 + 1 = k by omega]; exact ⟨hr, hc⟩))
                  clear hr hc hRun
                  go_wp2_with fail
                  have hq := fun x : Later (wr.alloc (.cells #[.int .i64 (Y k).Id, .int .i64 (Y k).Row, .int .i64 (Y k).Col, .int .i64 (Y k).Scale, .int .i64 (Y k).Year] 55)) => x.cell
                  refine region_later (by kernel_rfl) (by kernel_rfl) ?_
                  repeat (go_big_quiet_step (fail))
                  refine wpQuiet_nil ?_
                  intro _ hw'
                  obtain ⟨x, rfl⟩ := hw'
                  have hBx : Below w2.heap.size w2 x.wd := Below.on (hB.alloc hB.size _) (by have := hB.size; simp; omega) x.below
                  have hzx : wr.heap.size < x.wd.heap.size := by have := x.size; simp at this; omega
                  have x0 : x.wd.cell? ⟨wr.heap.size, 0, none⟩ = some (.int .i64 (Y k).Id) := (x.cell _ _ (by simp)).trans (by simp [go_sem])
                  have hob1 := hid ((hob.out.alloc1 (.cells #[.int .i64 (Y k).Id, .int .i64 (Y k).Row, .int .i64 (Y k).Col, .int .i64 (Y k).Scale, .int .i64 (Y k).Year] 55)).below x.below)
                  have hos1 := hid ((hos.out.alloc1 (.cells #[.int .i64 (Y k).Id, .int .i64 (Y k).Row, .int .i64 (Y k).Col, .int .i64 (Y k).Scale, .int .i64 (Y k).Year] 55)).below x.below)
                  clear hq hob hos c0 c1 c2 c3 c4 hB
                  generalize x.wd = wd at *
                  go_wp2_with (at_builtin; refine wpList_append_own_at _ rfl _ _ 34 rfl w2.heap.size 3 i0 (.int .i64 0) 1 8 Try.underlying34 hi hz0 hz1 hz2 rfl (by decide) _ q ((idsF Y s q).map (Value.int .i64)) rfl (World.ownsRow.alloc (hos1.out.row (idsF_length Y s q)) _) ⟨wd.heap.size, 0, none⟩ 1 1 [.int .i64 (Y k).Id] rfl rfl ?c1 ?c2 ?c3 ?c4 ?c5 ?_)
                  case c1 => exact cell_one_new _ _ _
                  case c2 => intro u hu; simp at hu; subst hu; rfl
                  case c3 => unfold maxLen; omega
                  case c4 => omega
                  case c5 => have := hBx.size; simp; omega
                  intro v' w3 hown hgrow _ hblk
                  have B3 : Below w2.heap.size w2 w3 := (hBx.alloc hBx.size _).grown hgrow (by have := hBx.size; simp; omega) (fun z hz => by exact hos1.out.ge z hz)
                  obtain ⟨z, hz⟩ : ∃ z : Nat, z = q + 1 := ⟨_, rfl⟩
                  have HZ := hid hz
                  have hz12 : z ≤ 13 := by omega
                  have ho3 : OwnI w2.heap.size w3 v' (idsF Y s z) := (OwnI.snoc (idsF_length Y s q) hown).same (by rw [hz]; exact ((idsF_succ Y s q).trans (by rw [hsq.out])))
                  have hob3 := (hob1.out.alloc1 (.cells #[.int .i64 (Y k).Id] 3)).kept hgrow hne.out
                  have hne3 : u7.ownBlock = none ∨ u7.ownBlock ≠ v'.ownBlock := by
                    have hl := hob1.out.lt
                    rcases hblk with e | e
                    · rw [e]; exact hne.out
                    · rw [e]; exact ne_of_own (fun y hy => by have := hl y hy; simp; omega)
                  clear hz hown hgrow hblk hob1 hos1 hne x0
                  obtain ⟨ao3, c3, rfl, _⟩ := ho3.sl (idsF_length Y s z)
                  obtain ⟨ao7, c7, rfl, _⟩ := hob3.sl (idsF_length Y a m)
                  have ho3 := hid ho3
                  have hob3 := hid hob3
                  have hne3 := hid hne3
                  by_cases hlz : m < z
                  · have hBest1 : Hid (Best Y (k + 1) (k + 1) s z) := by have := Best.more hR1.out hBest.out (by have := HZ.out; have := hsq.out; omega); rwa [show k + 1 - s = z by have := HZ.out; have := hsq.out; omega] at this
                    clear hBest
                    go_wp2_with fail
                    refine (clone_own _ _ _ _ ho3.out (by rw [idsF_length]; omega)).mono ?_
                    rintro e w4 ⟨v4, rfl, ho4, hb4⟩
                    have B4 := Below.on B3 B3.size hb4
                    have ho5 := hid (ho4.base (B' := w2.heap.size) B3.size)
                    have hne4 := hid (own_ne2 ho4.ge ho3.out.lt)
                    have ho6 := hid ((ho3.out.below hb4).same (L' := idsF Y s (k + 1 - s)) (by rw [show k + 1 - s = z by have := HZ.out; have := hsq.out; omega]))
                    clear ho4 ho3 hob3 hne3 hb4
                    go_wp2_with fail
                    go_roundw
                    case rel => exact ⟨k + 1, s, s, z, by omega, by go_num, B4, hR1, hBest1, ho5, ho6, hne4⟩
                    case measure => simp [intOf]; omega
                  · have hBest1 : Hid (Best Y (k + 1) (k + 1) a m) := Best.keep hR1.out hBest.out (by have := HZ.out; have := hsq.out; omega)
                    have ho6 := hid (ho3.out.same (L' := idsF Y s (k + 1 - s)) (by rw [show k + 1 - s = z by have := HZ.out; have := hsq.out; omega]))
                    clear hBest ho3
                    go_wp2_with fail
                    go_roundw
                    case rel => exact ⟨k + 1, s, a, m, by omega, by go_num, B3, hR1, hBest1, hob3, ho6, hne3⟩
                    case measure => simp [intOf]; omega
                · have d2 : ((Y k).Col != (Y (k - 1)).Col + 1) = true := by simp [hc]
                  have hR1 : Hid (RunI Y (k + 1) k) := RunI.turn (s := 0) hk0 (by unfold adjS; rw [show k - 1 + 1 = k by omega]; exact fun e => hc e.2)
                  clear hr hc hRun
                  go_wp2_with fail
                  have hq := fun x : Later (wr.alloc (.cells #[.int .i64 (Y k).Id, .int .i64 (Y k).Row, .int .i64 (Y k).Col, .int .i64 (Y k).Scale, .int .i64 (Y k).Year] 55)) => x.cell
                  refine region_later (by kernel_rfl) (by kernel_rfl) ?_
                  repeat (go_big_quiet_step (fail))
                  refine wpQuiet_nil ?_
                  intro _ hw'
                  obtain ⟨x, rfl⟩ := hw'
                  have hBx : Below w2.heap.size w2 x.wd := Below.on (hB.alloc hB.size _) (by have := hB.size; simp; omega) x.below
                  have hzx : wr.heap.size < x.wd.heap.size := by have := x.size; simp at this; omega
                  have x0 : x.wd.cell? ⟨wr.heap.size, 0, none⟩ = some (.int .i64 (Y k).Id) := (x.cell _ _ (by simp)).trans (by simp [go_sem])
                  have hob1 := hid ((hob.out.alloc1 (.cells #[.int .i64 (Y k).Id, .int .i64 (Y k).Row, .int .i64 (Y k).Col, .int .i64 (Y k).Scale, .int .i64 (Y k).Year] 55)).below x.below)
                  have hos1 := hid ((hos.out.alloc1 (.cells #[.int .i64 (Y k).Id, .int .i64 (Y k).Row, .int .i64 (Y k).Col, .int .i64 (Y k).Scale, .int .i64 (Y k).Year] 55)).below x.below)
                  clear hq hob hos c0 c1 c2 c3 c4 hB
                  generalize x.wd = wd at *
                  go_wp2_with (at_builtin; refine wpList_append_own_at _ rfl _ _ 34 rfl w2.heap.size 3 i0 (.int .i64 0) 1 8 Try.underlying34 hi hz0 hz1 hz2 rfl (by decide) _ 0 [] rfl (World.ownsRow.alloc (OwnI.nil w2.heap.size wd) _) ⟨wd.heap.size, 0, none⟩ 1 1 [.int .i64 (Y k).Id] rfl rfl ?c1 ?c2 ?c3 ?c4 ?c5 ?_)
                  case c1 => exact cell_one_new _ _ _
                  case c2 => intro u hu; simp at hu; subst hu; rfl
                  case c3 => unfold maxLen; omega
                  case c4 => omega
                  case c5 => have := hBx.size; simp; omega
                  intro v' w3 hown hgrow _ hblk
                  have B3 : Below w2.heap.size w2 w3 := (hBx.alloc hBx.size _).grown hgrow (by have := hBx.size; simp; omega) (fun z hz => by cases hz)
                  obtain ⟨z, hz⟩ : ∃ z : Nat, z = 1 := ⟨_, rfl⟩
                  have HZ := hid hz
                  have hz12 : z ≤ 13 := by omega
                  have ho3 : OwnI w2.heap.size w3 v' (idsF Y k z) := (OwnI.snoc (L := []) rfl hown).same (by rw [hz]; exact ((idsF_succ Y k 0).trans (by rw [idsF_zero]; rfl)))
                  have hob3 := (hob1.out.alloc1 (.cells #[.int .i64 (Y k).Id] 3)).kept hgrow (own_none _)
                  have hne3 : u7.ownBlock = none ∨ u7.ownBlock ≠ v'.ownBlock := by
                    have hl := hob1.out.lt
                    rcases hblk with e | e
                    · rw [e]; exact own_none _
                    · rw [e]; exact ne_of_own (fun y hy => by have := hl y hy; simp; omega)
                  clear hz hown hgrow hblk hob1 hos1 hne x0
                  obtain ⟨ao3, c3, rfl, _⟩ := ho3.sl (idsF_length Y k z)
                  obtain ⟨ao7, c7, rfl, _⟩ := hob3.sl (idsF_length Y a m)
                  have ho3 := hid ho3
                  have hob3 := hid hob3
                  have hne3 := hid hne3
                  by_cases hlz : m < z
                  · have hBest1 : Hid (Best Y (k + 1) (k + 1) k z) := by have := Best.more hR1.out hBest.out (by have := HZ.out; have := hsq.out; omega); rwa [show k + 1 - k = z by have := HZ.out; have := hsq.out; omega] at this
                    clear hBest
                    go_wp2_with fail
                    refine (clone_own _ _ _ _ ho3.out (by rw [idsF_length]; omega)).mono ?_
                    rintro e w4 ⟨v4, rfl, ho4, hb4⟩
                    have B4 := Below.on B3 B3.size hb4
                    have ho5 := hid (ho4.base (B' := w2.heap.size) B3.size)
                    have hne4 := hid (own_ne2 ho4.ge ho3.out.lt)
                    have ho6 := hid ((ho3.out.below hb4).same (L' := idsF Y k (k + 1 - k)) (by rw [show k + 1 - k = z by have := HZ.out; have := hsq.out; omega]))
                    clear ho4 ho3 hob3 hne3 hb4
                    go_wp2_with fail
                    go_roundw
                    case rel => exact ⟨k + 1, k, k, z, by omega, by go_num, B4, hR1, hBest1, ho5, ho6, hne4⟩
                    case measure => simp [intOf]; omega
                  · have hBest1 : Hid (Best Y (k + 1) (k + 1) a m) := Best.keep hR1.out hBest.out (by have := HZ.out; have := hsq.out; omega)
                    have ho6 := hid (ho3.out.same (L' := idsF Y k (k + 1 - k)) (by rw [show k + 1 - k = z by have := HZ.out; have := hsq.out; omega]))
                    clear hBest ho3
                    go_wp2_with fail
                    go_roundw
                    case rel => exact ⟨k + 1, k, a, m, by omega, by go_num, B3, hR1, hBest1, hob3, ho6, hne3⟩
                    case measure => simp [intOf]; omega
              · have d1 : ((Y k).Row != (Y (k - 1)).Row) = true := by simp [hr]
                have hR1 : Hid (RunI Y (k + 1) k) := RunI.turn (s := 0) hk0 (by unfold adjS; rw [show k - 1 + 1 = k by omega]; exact fun e => hr e.1)
                clear hr hRun
                go_wp2_with fail
                have hq := fun x : Later (wr.alloc (.cells #[.int .i64 (Y k).Id, .int .i64 (Y k).Row, .int .i64 (Y k).Col, .int .i64 (Y k).Scale, .int .i64 (Y k).Year] 55)) => x.cell
                refine region_later (by kernel_rfl) (by kernel_rfl) ?_
                repeat (go_big_quiet_step (fail))
                refine wpQuiet_nil ?_
                intro _ hw'
                obtain ⟨x, rfl⟩ := hw'
                have hBx : Below w2.heap.size w2 x.wd := Below.on (hB.alloc hB.size _) (by have := hB.size; simp; omega) x.below
                have hzx : wr.heap.size < x.wd.heap.size := by have := x.size; simp at this; omega
                have x0 : x.wd.cell? ⟨wr.heap.size, 0, none⟩ = some (.int .i64 (Y k).Id) := (x.cell _ _ (by simp)).trans (by simp [go_sem])
                have hob1 := hid ((hob.out.alloc1 (.cells #[.int .i64 (Y k).Id, .int .i64 (Y k).Row, .int .i64 (Y k).Col, .int .i64 (Y k).Scale, .int .i64 (Y k).Year] 55)).below x.below)
                have hos1 := hid ((hos.out.alloc1 (.cells #[.int .i64 (Y k).Id, .int .i64 (Y k).Row, .int .i64 (Y k).Col, .int .i64 (Y k).Scale, .int .i64 (Y k).Year] 55)).below x.below)
                clear hq hob hos c0 c1 c2 c3 c4 hB
                generalize x.wd = wd at *
                go_wp2_with (at_builtin; refine wpList_append_own_at _ rfl _ _ 34 rfl w2.heap.size 3 i0 (.int .i64 0) 1 8 Try.underlying34 hi hz0 hz1 hz2 rfl (by decide) _ 0 [] rfl (World.ownsRow.alloc (OwnI.nil w2.heap.size wd) _) ⟨wd.heap.size, 0, none⟩ 1 1 [.int .i64 (Y k).Id] rfl rfl ?c1 ?c2 ?c3 ?c4 ?c5 ?_)
                case c1 => exact cell_one_new _ _ _
                case c2 => intro u hu; simp at hu; subst hu; rfl
                case c3 => unfold maxLen; omega
                case c4 => omega
                case c5 => have := hBx.size; simp; omega
                intro v' w3 hown hgrow _ hblk
                have B3 : Below w2.heap.size w2 w3 := (hBx.alloc hBx.size _).grown hgrow (by have := hBx.size; simp; omega) (fun z hz => by cases hz)
                obtain ⟨z, hz⟩ : ∃ z : Nat, z = 1 := ⟨_, rfl⟩
                have HZ := hid hz
                have hz12 : z ≤ 13 := by omega
                have ho3 : OwnI w2.heap.size w3 v' (idsF Y k z) := (OwnI.snoc (L := []) rfl hown).same (by rw [hz]; exact ((idsF_succ Y k 0).trans (by rw [idsF_zero]; rfl)))
                have hob3 := (hob1.out.alloc1 (.cells #[.int .i64 (Y k).Id] 3)).kept hgrow (own_none _)
                have hne3 : u7.ownBlock = none ∨ u7.ownBlock ≠ v'.ownBlock := by
                  have hl := hob1.out.lt
                  rcases hblk with e | e
                  · rw [e]; exact own_none _
                  · rw [e]; exact ne_of_own (fun y hy => by have := hl y hy; simp; omega)
                clear hz hown hgrow hblk hob1 hos1 hne x0
                obtain ⟨ao3, c3, rfl, _⟩ := ho3.sl (idsF_length Y k z)
                obtain ⟨ao7, c7, rfl, _⟩ := hob3.sl (idsF_length Y a m)
                have ho3 := hid ho3
                have hob3 := hid hob3
                have hne3 := hid hne3
                by_cases hlz : m < z
                · have hBest1 : Hid (Best Y (k + 1) (k + 1) k z) := by have := Best.more hR1.out hBest.out (by have := HZ.out; have := hsq.out; omega); rwa [show k + 1 - k = z by have := HZ.out; have := hsq.out; omega] at this
                  clear hBest
                  go_wp2_with fail
                  refine (clone_own _ _ _ _ ho3.out (by rw [idsF_length]; omega)).mono ?_
                  rintro e w4 ⟨v4, rfl, ho4, hb4⟩
                  have B4 := Below.on B3 B3.size hb4
                  have ho5 := hid (ho4.base (B' := w2.heap.size) B3.size)
                  have hne4 := hid (own_ne2 ho4.ge ho3.out.lt)
                  have ho6 := hid ((ho3.out.below hb4).same (L' := idsF Y k (k + 1 - k)) (by rw [show k + 1 - k = z by have := HZ.out; have := hsq.out; omega]))
                  clear ho4 ho3 hob3 hne3 hb4
                  go_wp2_with fail
                  go_roundw
                  case rel => exact ⟨k + 1, k, k, z, by omega, by go_num, B4, hR1, hBest1, ho5, ho6, hne4⟩
                  case measure => simp [intOf]; omega
                · have hBest1 : Hid (Best Y (k + 1) (k + 1) a m) := Best.keep hR1.out hBest.out (by have := HZ.out; have := hsq.out; omega)
                  have ho6 := hid (ho3.out.same (L' := idsF Y k (k + 1 - k)) (by rw [show k + 1 - k = z by have := HZ.out; have := hsq.out; omega]))
                  clear hBest ho3
                  go_wp2_with fail
                  go_roundw
                  case rel => exact ⟨k + 1, k, a, m, by omega, by go_num, B3, hR1, hBest1, hob3, ho6, hne3⟩
                  case measure => simp [intOf]; omega
            · have hR1 : Hid (RunI Y (k + 1) s) := hRun.out.on (.inl (by omega))
              clear hRun
              go_wp2_with fail
              have hq := fun x : Later (wr.alloc (.cells #[.int .i64 (Y k).Id, .int .i64 (Y k).Row, .int .i64 (Y k).Col, .int .i64 (Y k).Scale, .int .i64 (Y k).Year] 55)) => x.cell
              refine region_later (by kernel_rfl) (by kernel_rfl) ?_
              repeat (go_big_quiet_step (fail))
              refine wpQuiet_nil ?_
              intro _ hw'
              obtain ⟨x, rfl⟩ := hw'
              have hBx : Below w2.heap.size w2 x.wd := Below.on (hB.alloc hB.size _) (by have := hB.size; simp; omega) x.below
              have hzx : wr.heap.size < x.wd.heap.size := by have := x.size; simp at this; omega
              have x0 : x.wd.cell? ⟨wr.heap.size, 0, none⟩ = some (.int .i64 (Y k).Id) := (x.cell _ _ (by simp)).trans (by simp [go_sem])
              have hob1 := hid ((hob.out.alloc1 (.cells #[.int .i64 (Y k).Id, .int .i64 (Y k).Row, .int .i64 (Y k).Col, .int .i64 (Y k).Scale, .int .i64 (Y k).Year] 55)).below x.below)
              have hos1 := hid ((hos.out.alloc1 (.cells #[.int .i64 (Y k).Id, .int .i64 (Y k).Row, .int .i64 (Y k).Col, .int .i64 (Y k).Scale, .int .i64 (Y k).Year] 55)).below x.below)
              clear hq hob hos c0 c1 c2 c3 c4 hB
              generalize x.wd = wd at *
              go_wp2_with (at_builtin; refine wpList_append_own_at _ rfl _ _ 34 rfl w2.heap.size 3 i0 (.int .i64 0) 1 8 Try.underlying34 hi hz0 hz1 hz2 rfl (by decide) _ q ((idsF Y s q).map (Value.int .i64)) rfl (World.ownsRow.alloc (hos1.out.row (idsF_length Y s q)) _) ⟨wd.heap.size, 0, none⟩ 1 1 [.int .i64 (Y k).Id] rfl rfl ?c1 ?c2 ?c3 ?c4 ?c5 ?_)
              case c1 => exact cell_one_new _ _ _
              case c2 => intro u hu; simp at hu; subst hu; rfl
              case c3 => unfold maxLen; omega
              case c4 => omega
              case c5 => have := hBx.size; simp; omega
              intro v' w3 hown hgrow _ hblk
              have B3 : Below w2.heap.size w2 w3 := (hBx.alloc hBx.size _).grown hgrow (by have := hBx.size; simp; omega) (fun z hz => by exact hos1.out.ge z hz)
              obtain ⟨z, hz⟩ : ∃ z : Nat, z = q + 1 := ⟨_, rfl⟩
              have HZ := hid hz
              have hz12 : z ≤ 13 := by omega
              have ho3 : OwnI w2.heap.size w3 v' (idsF Y s z) := (OwnI.snoc (idsF_length Y s q) hown).same (by rw [hz]; exact ((idsF_succ Y s q).trans (by rw [hsq.out])))
              have hob3 := (hob1.out.alloc1 (.cells #[.int .i64 (Y k).Id] 3)).kept hgrow hne.out
              have hne3 : u7.ownBlock = none ∨ u7.ownBlock ≠ v'.ownBlock := by
                have hl := hob1.out.lt
                rcases hblk with e | e
                · rw [e]; exact hne.out
                · rw [e]; exact ne_of_own (fun y hy => by have := hl y hy; simp; omega)
              clear hz hown hgrow hblk hob1 hos1 hne x0
              obtain ⟨ao3, c3, rfl, _⟩ := ho3.sl (idsF_length Y s z)
              obtain ⟨ao7, c7, rfl, _⟩ := hob3.sl (idsF_length Y a m)
              have ho3 := hid ho3
              have hob3 := hid hob3
              have hne3 := hid hne3
              by_cases hlz : m < z
              · have hBest1 : Hid (Best Y (k + 1) (k + 1) s z) := by have := Best.more hR1.out hBest.out (by have := HZ.out; have := hsq.out; omega); rwa [show k + 1 - s = z by have := HZ.out; have := hsq.out; omega] at this
                clear hBest
                go_wp2_with fail
                refine (clone_own _ _ _ _ ho3.out (by rw [idsF_length]; omega)).mono ?_
                rintro e w4 ⟨v4, rfl, ho4, hb4⟩
                have B4 := Below.on B3 B3.size hb4
                have ho5 := hid (ho4.base (B' := w2.heap.size) B3.size)
                have hne4 := hid (own_ne2 ho4.ge ho3.out.lt)
                have ho6 := hid ((ho3.out.below hb4).same (L' := idsF Y s (k + 1 - s)) (by rw [show k + 1 - s = z by have := HZ.out; have := hsq.out; omega]))
                clear ho4 ho3 hob3 hne3 hb4
                go_wp2_with fail
                go_roundw
                case rel => exact ⟨k + 1, s, s, z, by omega, by go_num, B4, hR1, hBest1, ho5, ho6, hne4⟩
                case measure => simp [intOf]; omega
              · have hBest1 : Hid (Best Y (k + 1) (k + 1) a m) := Best.keep hR1.out hBest.out (by have := HZ.out; have := hsq.out; omega)
                have ho6 := hid (ho3.out.same (L' := idsF Y s (k + 1 - s)) (by rw [show k + 1 - s = z by have := HZ.out; have := hsq.out; omega]))
                clear hBest ho3
                go_wp2_with fail
                go_roundw
                case rel => exact ⟨k + 1, s, a, m, by omega, by go_num, B3, hR1, hBest1, hob3, ho6, hne3⟩
                case measure => simp [intOf]; omega
          · obtain rfl : k = N := by omega
            go_wp2_with fail
            go_ret2
            exact ⟨_, by rw [HN1.out]; rfl, by rw [HL.out _ _ HN1.out hBest.out]; exact hob.out.base (by have := B2.size; omega), Below.on B2 B2.size hB⟩
  · have hv' : sheetsB X len = false := by simpa using hv
    have HN0 : Hid (lsOk X len sc = false) := by unfold Hid lsOk; rw [hv']; rfl
    clear hv
    go_wp2_with fail
    go_ret2
    exact ⟨_, by rw [HN0.out]; rfl, by rw [lsL_no HN0.out]; exact OwnI.nil _ _, B2⟩

end Go.Proofs.Ytgdhjiiblfdlcaa
