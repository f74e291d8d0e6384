/-
  Lists of drawers copied, by the reference. No condition.
-/
import Derived.Test.YtejpmomedclnhaaDrawD
import Derived.Deep.AppendLies
namespace Go.Proofs.Ytejpmomedclnhaa
open Go.RowKit
set_option linter.unusedVariables false

/-- The drawers, one of them with other flats. -/
def wX (X : Nat → DrawerD) (i : Int) (F : List Int) : Nat → DrawerD := fun k => if (k : Int) = i then { X k with Flats := F } else X k
theorem ones_D (d : DrawerD) (g n cap : Nat) : ∀ u ∈ d.cells (.slice (some ⟨g, 0, none⟩) n cap), u.oneCell' = true := by
  intro u hu
  simp [DrawerD.cells] at hu
  rcases hu with rfl | rfl | rfl | rfl | rfl <;> rfl

set_option maxHeartbeats 4000000 in
theorem with_spec (w : World) (b off n cap : Nat) (X : Nat → DrawerD) (S : Nat → Value) (i : Int) (sv : Value) (F : List Int) (h : Drs w b off n X S) (hL : ∀ i, i < n → (X i).Flats.length ≤ 1048576) (hm : n ≤ 1048576) (hlc : n ≤ cap) (hF : HasI w sv F) (hFl : F.length ≤ 1048576) :
    Calls Try.prog 77 #[.slice (some ⟨b, off, none⟩) n cap, .int .i64 i, sv] w (RetD (wX X i F) n w) := by
  obtain ⟨d0, di, dz0, dz1, dz2⟩ := info_parts info_Drawer
  have hE := hid (OwnP.empty w)
  have hA : Below w.heap.size w (w.alloc (.cells #[] 32)) := by go_grown
  have H := hid h
  have HL := hid hL
  have HF := hid hF
  have hb := h.rw.1
  clear h hL hF
  go_enter Try.func77, Try.ntmps77
  go_wp2_with fail
  go_loopw [7, 8] (fun v q wr => ∃ (k : Nat) (P : List DrP) (V : Value), k ≤ n ∧ q = .int .i64 k ∧ V = v ∧ Below w.heap.size w wr ∧ Hid (OwnP w.heap.size wr V P) ∧ Hid (P.map Prod.fst = lstD (wX X i F) k)) (fun _ q _ => n - (intOf q).toNat)
  case atStart => exact ⟨0, [], _, by omega, rfl, rfl, hA, hE, rfl⟩
  case round =>
    clear hA hE
    obtain ⟨k, P, v, hk, rfl, rfl, hB, ho, hP⟩ := hrel
    by_cases hlt : k < n
    · have hPb : P.length ≤ 1048576 := by have := congrArg List.length hP.out; simp [lstD] at this; omega
      obtain ⟨f, nf, a, c, g, o, hfe, hfn, hSk, hc, ha, hcell⟩ := (H.out.has k hlt).named
      clear hfe ha hcell
      have HS := hid hSk
      have HN := hid hfn
      have c0 : wr.cell? ⟨b, off + k * 5, none⟩ = some (.int .i64 (X k).Id) := (hB.cell hb).trans (H.out.rw.2 k hlt 0 (by omega))
      have c1 : wr.cell? ⟨b, off + k * 5 + 1, none⟩ = some (.int .i64 (X k).Wide) := (hB.cell hb).trans (H.out.rw.2 k hlt 1 (by omega))
      have c2 : wr.cell? ⟨b, off + k * 5 + 2, none⟩ = some (.int .i64 (X k).High) := (hB.cell hb).trans (H.out.rw.2 k hlt 2 (by omega))
      have c3 : wr.cell? ⟨b, off + k * 5 + 3, none⟩ = some (.int .i64 (X k).Holds) := (hB.cell hb).trans (H.out.rw.2 k hlt 3 (by omega))
      have c4 : wr.cell? ⟨b, off + k * 5 + 4, none⟩ = some (.slice a nf c) := by rw [← HS.out]; exact (hB.cell hb).trans (H.out.rw.2 k hlt 4 (by omega))
      clear hSk hfn
      have hA : Below wr.heap.size wr (wr.alloc (.cells #[.int .i64 (X k).Id, .int .i64 (X k).Wide, .int .i64 (X k).High, .int .i64 (X k).Holds, .slice a nf c] 32)) := by go_grown
      have hBA := Below.on hB hB.size hA
      have K1 := own_spec (wr.alloc (.cells #[.int .i64 (X k).Id, .int .i64 (X k).Wide, .int .i64 (X k).High, .int .i64 (X k).Holds, .slice a nf c] 32)) (.slice a nf c) (X k).Flats (by have h9 := ((H.out.has k hlt).below hB).below hA; rw [HS.out] at h9; exact h9) (HL.out k hlt)
      go_wp2_with fail
      refine K1.mono ?_
      rintro e w2 ⟨u, rfl, hu, hb2⟩
      obtain ⟨gu, cu, rfl, hgu, hgl, hcl⟩ := hu.slice
      rw [HN.out] at hcl hu ⊢
      have hBw2 := Below.on hBA hBA.size hb2
      have z2 := hb2.size
      obtain ⟨No, hNo⟩ : ∃ N, N = wr.heap.size := ⟨_, rfl⟩
      have p0 : w2.cell? ⟨No, 0, none⟩ = some (.int .i64 (X k).Id) := by rw [hNo]; exact (hb2.cell (by simp)).trans (by simp [go_sem])
      have p1 : w2.cell? ⟨No, 1, none⟩ = some (.int .i64 (X k).Wide) := by rw [hNo]; exact (hb2.cell (by simp)).trans (by simp [go_sem])
      have p2 : w2.cell? ⟨No, 2, none⟩ = some (.int .i64 (X k).High) := by rw [hNo]; exact (hb2.cell (by simp)).trans (by simp [go_sem])
      have p3 : w2.cell? ⟨No, 3, none⟩ = some (.int .i64 (X k).Holds) := by rw [hNo]; exact (hb2.cell (by simp)).trans (by simp [go_sem])
      have p4 : w2.cell? ⟨No, 4, none⟩ = some (.slice a nf c) := by rw [hNo]; exact (hb2.cell (by simp)).trans (by simp [go_sem])
      have pz : w2.frozen? ⟨No, 4, none⟩ = false := by rw [hNo]; exact (hb2.frozen (by simp)).trans (by simp [go_sem])
      have lN : No < w2.heap.size := by rw [hNo]; simp at z2; omega
      have hgu' : No < gu := by rw [hNo]; simp at hgu; omega
      have hlo : Hid ((∀ q, Value.ownBlock v = some q → q < No) ∧ ∀ i, i < P.length → ∀ q, (P.getD i default).2.ownBlock = some q → q < No) := by
        rw [hNo]
        exact ⟨fun q hq => ho.out.lt q hq, fun i hi q hq => (ho.out.inn_lt hi q hq).2⟩
      have hoN := hid ((ho.out.below hA).below hb2)
      have hU := hid (hu.base (show w.heap.size ≤ _ by have := hBA.size; exact this))
      have hwN : w.heap.size ≤ No := by rw [hNo]; exact hB.size
      rw [← hNo]
      clear c0 c1 c2 c3 c4 hA hBA hu hgu hNo
      by_cases hki : (k : Int) = i
      · have dki : ((k : Int) == i) = true := by simp [hki]
        have hXk : Hid (wX X i F k = { X k with Flats := F }) := by unfold Hid wX; rw [if_pos hki]
        clear hki
        have hG : Only (fun i => i = No) w2 (w2.setCell ⟨No, 4, none⟩ (.slice (some ⟨gu, 0, none⟩) nf cu)) := Only.of_grown (grownBy_set _ _ _ _) rfl
        have hBw3 : Below w.heap.size w (w2.setCell ⟨No, 4, none⟩ (.slice (some ⟨gu, 0, none⟩) nf cu)) := hBw2.grown (grownBy_set _ _ _ _) hBw2.size (fun i hi => by cases hi; exact hwN)
        have K2 := own_spec (w2.setCell ⟨No, 4, none⟩ (.slice (some ⟨gu, 0, none⟩) nf cu)) sv F (HF.out.below hBw3) hFl
        clear hU hgl hcl hgu'
        go_wp2_with fail
        refine K2.mono ?_
        rintro e w4 ⟨u, rfl, hu, hb4⟩
        obtain ⟨gu2, cu2, rfl, hgu2, hgl2, hcl2⟩ := hu.slice
        have hBw4 := Below.on hBw3 hBw3.size hb4
        have z4 := hb4.size
        simp at z4
        have q0 : w4.cell? ⟨No, 0, none⟩ = some (.int .i64 (X k).Id) := (hb4.cell (by simp; omega)).trans (by simp [go_sem, p0])
        have q1 : w4.cell? ⟨No, 1, none⟩ = some (.int .i64 (X k).Wide) := (hb4.cell (by simp; omega)).trans (by simp [go_sem, p1])
        have q2 : w4.cell? ⟨No, 2, none⟩ = some (.int .i64 (X k).High) := (hb4.cell (by simp; omega)).trans (by simp [go_sem, p2])
        have q3 : w4.cell? ⟨No, 3, none⟩ = some (.int .i64 (X k).Holds) := (hb4.cell (by simp; omega)).trans (by simp [go_sem, p3])
        have q4 : w4.cell? ⟨No, 4, none⟩ = some (.slice (some ⟨gu, 0, none⟩) nf cu) := (hb4.cell (by simp; omega)).trans (by simp [go_sem, p4])
        have qz : w4.frozen? ⟨No, 4, none⟩ = false := (hb4.frozen (by simp; omega)).trans (by simp [go_sem, pz])
        have lN4 : No < w4.heap.size := by omega
        have hgu2' : No < gu2 := by simp at hgu2; omega
        have hoN4 := hid ((hoN.out.only' hG (fun i h1 e => by have := hlo.out.1 i h1; omega) (fun j hj i h1 e => by have := hlo.out.2 j hj i h1; omega)).below hb4)
        have hU4 := hid (hu.base (show w.heap.size ≤ _ by exact hBw3.size))
        clear hoN p0 p1 p2 p3 p4 pz hG hBw2 hBw3 hu
        go_upto_region 9 with fail
        have hG9 : Only (fun i => i = No) w4 (w4.setCell ⟨No, 4, none⟩ (.slice (some ⟨gu2, 0, none⟩) F.length cu2)) := Only.of_grown (grownBy_set _ _ _ _) rfl
        have hB9 : Below w.heap.size w (w4.setCell ⟨No, 4, none⟩ (.slice (some ⟨gu2, 0, none⟩) F.length cu2)) := hBw4.grown (grownBy_set _ _ _ _) hBw4.size (fun i hi => by cases hi; exact hwN)
        have ho9 := hid (hoN4.out.only' hG9 (fun i h1 e => by have := hlo.out.1 i h1; omega) (fun j hj i h1 e => by have := hlo.out.2 j hj i h1; omega))
        have hu9 := hid (hU4.out.only hG9 (fun i h1 e => by simp [Value.ownBlock] at h1; omega))
        have lN9 : No < (w4.setCell ⟨No, 4, none⟩ (.slice (some ⟨gu2, 0, none⟩) F.length cu2)).heap.size := by simpa using lN4
        have y0 : (w4.setCell ⟨No, 4, none⟩ (.slice (some ⟨gu2, 0, none⟩) F.length cu2)).cell? ⟨No, 0, none⟩ = some (.int .i64 (X k).Id) := by simp [go_sem, q0]
        have y1 : (w4.setCell ⟨No, 4, none⟩ (.slice (some ⟨gu2, 0, none⟩) F.length cu2)).cell? ⟨No, 1, none⟩ = some (.int .i64 (X k).Wide) := by simp [go_sem, q1]
        have y2 : (w4.setCell ⟨No, 4, none⟩ (.slice (some ⟨gu2, 0, none⟩) F.length cu2)).cell? ⟨No, 2, none⟩ = some (.int .i64 (X k).High) := by simp [go_sem, q2]
        have y3 : (w4.setCell ⟨No, 4, none⟩ (.slice (some ⟨gu2, 0, none⟩) F.length cu2)).cell? ⟨No, 3, none⟩ = some (.int .i64 (X k).Holds) := by simp [go_sem, q3]
        have y4 : (w4.setCell ⟨No, 4, none⟩ (.slice (some ⟨gu2, 0, none⟩) F.length cu2)).cell? ⟨No, 4, none⟩ = some (.slice (some ⟨gu2, 0, none⟩) F.length cu2) := World.cell?_setCell_same' _ _ _ (by rw [q4]; rfl)
        obtain ⟨wq, hwq⟩ : ∃ W, (w4.setCell ⟨No, 4, none⟩ (.slice (some ⟨gu2, 0, none⟩) F.length cu2)) = W := ⟨_, rfl⟩
        rw [hwq] at hB9 ho9 hu9 y0 y1 y2 y3 y4 lN9 hG9 ⊢
        clear hwq q0 q1 q2 q3 q4 qz hb4 hoN4 hU4 hG9
        have hoA := hid (ho9.out.below (show Below wq.heap.size wq (wq.alloc (.cells #[.int .i64 (X k).Id, .int .i64 (X k).Wide, .int .i64 (X k).High, .int .i64 (X k).Holds, .slice (some ⟨gu2, 0, none⟩) F.length cu2] 32)) by go_grown))
        have huA := hid (hu9.out.below (show Below wq.heap.size wq (wq.alloc (.cells #[.int .i64 (X k).Id, .int .i64 (X k).Wide, .int .i64 (X k).High, .int .i64 (X k).Holds, .slice (some ⟨gu2, 0, none⟩) F.length cu2] 32)) by go_grown))
        have hzA : wq.heap.size ≤ (wq.alloc (.cells #[.int .i64 (X k).Id, .int .i64 (X k).Wide, .int .i64 (X k).High, .int .i64 (X k).Holds, .slice (some ⟨gu2, 0, none⟩) F.length cu2] 32)).heap.size := by simp
        go_wp2_with (at_builtin; refine wpList_append_own_at _ rfl _ _ 43 rfl w.heap.size 32 d0 (.agg #[.int .i64 0, .int .i64 0, .int .i64 0, .int .i64 0, .slice none 0 0]) 5 56 Try.underlying43 di dz0 dz1 dz2 rfl (by decide) _ _ _ rfl hoA.out.row ⟨wq.heap.size, 0, none⟩ 1 1 [.int .i64 (X k).Id, .int .i64 (X k).Wide, .int .i64 (X k).High, .int .i64 (X k).Holds, .slice (some ⟨gu2, 0, none⟩) F.length cu2] rfl rfl ?c1 ?c2 ?c3 ?c4 ?c5 ?_)
        case c1 => exact World.news_of_block (heap_alloc_new wq _)
        case c2 => exact ones_D (X k) gu2 F.length cu2
        case c3 => unfold maxLen; omega
        case c4 => omega
        case c5 => have := hB9.size; simp; omega
        · intro v' w5 hown' hgrow _ hat
          have hb5 : Below w.heap.size w w5 := (hB9.alloc hB9.size _).grown hgrow (by have := hB9.size; simp; omega) (fun g hg => hoA.out.ge g hg)
          have ho5 : Hid (OwnP w.heap.size w5 v' (P ++ [({ X k with Flats := F }, (.slice (some ⟨gu2, 0, none⟩) F.length cu2))])) := hoA.out.snoc hown' hgrow (by rcases hat with h | h; exact .inl h; exact .inr ⟨_, h, by simp⟩) huA.out (fun g hg e => by have h1 := hlo.out.1 g hg; simp [Value.ownBlock] at e; omega) (fun i hi e => by have h1 := hlo.out.2 i hi gu2 e; omega)
          clear hown' hgrow hat hoA huA
          go_wp2_with fail
          go_roundw
          case rel => exact ⟨k + 1, P ++ [({ X k with Flats := F }, .slice (some ⟨gu2, 0, none⟩) F.length cu2)], _, by omega, by go_num, rfl, hb5, ho5, by unfold Hid; rw [List.map_append, hP.out, lstD_succ, hXk.out]; rfl⟩
          case measure => simp [intOf]; omega
      · have dki : ((k : Int) == i) = false := by simp [hki]
        have hXk : Hid (wX X i F k = X k) := by unfold Hid wX; rw [if_neg hki]
        clear hki
        go_upto_region 9 with fail
        have hG9 : Only (fun i => i = No) w2 (w2.setCell ⟨No, 4, none⟩ (.slice (some ⟨gu, 0, none⟩) nf cu)) := Only.of_grown (grownBy_set _ _ _ _) rfl
        have hB9 : Below w.heap.size w (w2.setCell ⟨No, 4, none⟩ (.slice (some ⟨gu, 0, none⟩) nf cu)) := hBw2.grown (grownBy_set _ _ _ _) hBw2.size (fun i hi => by cases hi; exact hwN)
        have ho9 := hid (hoN.out.only' hG9 (fun i h1 e => by have := hlo.out.1 i h1; omega) (fun j hj i h1 e => by have := hlo.out.2 j hj i h1; omega))
        have hu9 := hid (hU.out.only hG9 (fun i h1 e => by simp [Value.ownBlock] at h1; omega))
        have lN9 : No < (w2.setCell ⟨No, 4, none⟩ (.slice (some ⟨gu, 0, none⟩) nf cu)).heap.size := by simpa using lN
        have y0 : (w2.setCell ⟨No, 4, none⟩ (.slice (some ⟨gu, 0, none⟩) nf cu)).cell? ⟨No, 0, none⟩ = some (.int .i64 (X k).Id) := by simp [go_sem, p0]
        have y1 : (w2.setCell ⟨No, 4, none⟩ (.slice (some ⟨gu, 0, none⟩) nf cu)).cell? ⟨No, 1, none⟩ = some (.int .i64 (X k).Wide) := by simp [go_sem, p1]
        have y2 : (w2.setCell ⟨No, 4, none⟩ (.slice (some ⟨gu, 0, none⟩) nf cu)).cell? ⟨No, 2, none⟩ = some (.int .i64 (X k).High) := by simp [go_sem, p2]
        have y3 : (w2.setCell ⟨No, 4, none⟩ (.slice (some ⟨gu, 0, none⟩) nf cu)).cell? ⟨No, 3, none⟩ = some (.int .i64 (X k).Holds) := by simp [go_sem, p3]
        have y4 : (w2.setCell ⟨No, 4, none⟩ (.slice (some ⟨gu, 0, none⟩) nf cu)).cell? ⟨No, 4, none⟩ = some (.slice (some ⟨gu, 0, none⟩) nf cu) := World.cell?_setCell_same' _ _ _ (by rw [p4]; rfl)
        obtain ⟨wq, hwq⟩ : ∃ W, (w2.setCell ⟨No, 4, none⟩ (.slice (some ⟨gu, 0, none⟩) nf cu)) = W := ⟨_, rfl⟩
        rw [hwq] at hB9 ho9 hu9 y0 y1 y2 y3 y4 lN9 hG9 ⊢
        clear hwq p0 p1 p2 p3 p4 pz hb2 hoN hU hG9
        have hoA := hid (ho9.out.below (show Below wq.heap.size wq (wq.alloc (.cells #[.int .i64 (X k).Id, .int .i64 (X k).Wide, .int .i64 (X k).High, .int .i64 (X k).Holds, .slice (some ⟨gu, 0, none⟩) nf cu] 32)) by go_grown))
        have huA := hid (hu9.out.below (show Below wq.heap.size wq (wq.alloc (.cells #[.int .i64 (X k).Id, .int .i64 (X k).Wide, .int .i64 (X k).High, .int .i64 (X k).Holds, .slice (some ⟨gu, 0, none⟩) nf cu] 32)) by go_grown))
        have hzA : wq.heap.size ≤ (wq.alloc (.cells #[.int .i64 (X k).Id, .int .i64 (X k).Wide, .int .i64 (X k).High, .int .i64 (X k).Holds, .slice (some ⟨gu, 0, none⟩) nf cu] 32)).heap.size := by simp
        go_wp2_with (at_builtin; refine wpList_append_own_at _ rfl _ _ 43 rfl w.heap.size 32 d0 (.agg #[.int .i64 0, .int .i64 0, .int .i64 0, .int .i64 0, .slice none 0 0]) 5 56 Try.underlying43 di dz0 dz1 dz2 rfl (by decide) _ _ _ rfl hoA.out.row ⟨wq.heap.size, 0, none⟩ 1 1 [.int .i64 (X k).Id, .int .i64 (X k).Wide, .int .i64 (X k).High, .int .i64 (X k).Holds, .slice (some ⟨gu, 0, none⟩) nf cu] rfl rfl ?c1 ?c2 ?c3 ?c4 ?c5 ?_)
        case c1 => exact World.news_of_block (heap_alloc_new wq _)
        case c2 => exact ones_D (X k) gu nf cu
        case c3 => unfold maxLen; omega
        case c4 => omega
        case c5 => have := hB9.size; simp; omega
        · intro v' w5 hown' hgrow _ hat
          have hb5 : Below w.heap.size w w5 := (hB9.alloc hB9.size _).grown hgrow (by have := hB9.size; simp; omega) (fun g hg => hoA.out.ge g hg)
          have ho5 : Hid (OwnP w.heap.size w5 v' (P ++ [(X k, (.slice (some ⟨gu, 0, none⟩) nf cu))])) := hoA.out.snoc hown' hgrow (by rcases hat with h | h; exact .inl h; exact .inr ⟨_, h, by simp⟩) huA.out (fun g hg e => by have h1 := hlo.out.1 g hg; simp [Value.ownBlock] at e; omega) (fun i hi e => by have h1 := hlo.out.2 i hi gu e; omega)
          clear hown' hgrow hat hoA huA
          go_wp2_with fail
          go_roundw
          case rel => exact ⟨k + 1, P ++ [(X k, .slice (some ⟨gu, 0, none⟩) nf cu)], _, by omega, by go_num, rfl, hb5, ho5, by unfold Hid; rw [List.map_append, hP.out, lstD_succ, hXk.out]; rfl⟩
          case measure => simp [intOf]; omega
    · obtain rfl : k = n := by omega
      go_wp2_with fail
      go_ret
      exact ⟨_, P, rfl, ho.out, hP.out, hB⟩

end Go.Proofs.Ytejpmomedclnhaa
