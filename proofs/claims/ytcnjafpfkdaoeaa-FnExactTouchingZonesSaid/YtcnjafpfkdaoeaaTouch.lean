/-
  The pairs of zones that touch; by the program and by the reference. No condition.
-/
import Derived.Test.YtcnjafpfkdaoeaaOver
import Derived.Test.YtcnjafpfkdaoeaaOwnA2
import Derived.Deep.AppendLies
import Derived.Deep.RegionLaw
import Derived.Deep.RegionHeld3
import Derived.Deep.Cut
namespace Go.Proofs.Ytcnjafpfkdaoeaa
open Go.RowKit
set_option linter.unusedVariables false
set_option maxRecDepth 100000

def dxZ (a b : ZoneD) : Int := imin a.East b.East - imax a.West b.West
def dyZ (a b : ZoneD) : Int := imin a.North b.North - imax a.South b.South
/-- Two zones have a part of an edge in common, but no area. -/
def touchB (a b : ZoneD) : Bool := (dxZ a b == 0 && decide (0 < dyZ a b)) || (decide (0 < dxZ a b) && dyZ a b == 0)
def tRow (X : Nat → ZoneD) (k : Nat) : Nat → List Int
  | 0 => []
  | m + 1 => tRow X k m ++ (if k < m ∧ touchB (X k) (X m) = true then [(X k).Id, (X m).Id] else [])
def tAll (X : Nat → ZoneD) (n : Nat) : Nat → List Int
  | 0 => []
  | k + 1 => tAll X n k ++ tRow X k n
theorem tRow_nil {X : Nat → ZoneD} {k : Nat} : ∀ {m : Nat}, m ≤ k + 1 → tRow X k m = []
  | 0, _ => rfl
  | m + 1, h => by
    unfold tRow
    rw [tRow_nil (by omega), if_neg (by omega)]; rfl
theorem tRow_yes {X : Nat → ZoneD} {k m : Nat} (h : k < m) (ht : touchB (X k) (X m) = true) : tRow X k (m + 1) = tRow X k m ++ [(X k).Id, (X m).Id] := by
  simp [tRow, h, ht]
theorem tRow_no {X : Nat → ZoneD} {k m : Nat} (ht : touchB (X k) (X m) = false) : tRow X k (m + 1) = tRow X k m := by
  simp [tRow, ht]
theorem tRow_le (X : Nat → ZoneD) (k : Nat) : ∀ m, (tRow X k m).length ≤ 2 * m
  | 0 => by simp [tRow]
  | m + 1 => by
    have := tRow_le X k m
    unfold tRow
    rw [List.length_append]
    split <;> simp <;> omega
theorem tAll_le (X : Nat → ZoneD) (n : Nat) (hn : n ≤ 10) : ∀ k, (tAll X n k).length ≤ 20 * k
  | 0 => by simp [tAll]
  | k + 1 => by
    have := tAll_le X n hn k
    have := tRow_le X k n
    unfold tAll
    rw [List.length_append]
    omega
def touchL (X : Nat → ZoneD) (n : Nat) : List Int := if zonesB X n = true then tAll X n n else []
theorem touchL_le (X : Nat → ZoneD) (n : Nat) : (touchL X n).length ≤ 1048576 := by
  unfold touchL
  split
  · rename_i h
    have h1 := zonesB_le h
    have := tAll_le X n h1 n
    omega
  · simp

set_option maxHeartbeats 1000000 in
theorem touch_spec (a b : ZoneD) (ha : zoneB a = true) (hb : zoneB b = true) (w : World) : Calls Try.prog 48 #[a.val, b.val] w fun e w' => e = .returned (.bool (touchB a b)) ∧ Below w.heap.size w w' := by
  obtain ⟨_, ⟨a1, a2, a3⟩, ⟨a4, a5, a6⟩⟩ := zoneB_bd ha
  obtain ⟨_, ⟨b1, b2, b3⟩, ⟨b4, b5, b6⟩⟩ := zoneB_bd hb
  have m1 := imin_bd (a := a.East) (b := b.East) (l := 0) (h := 9999) (by omega) (by omega) (by omega) (by omega)
  have m2 := imax_bd (a := a.West) (b := b.West) (l := 0) (h := 9999) (by omega) (by omega) (by omega) (by omega)
  have m3 := imin_bd (a := a.North) (b := b.North) (l := 0) (h := 9999) (by omega) (by omega) (by omega) (by omega)
  have m4 := imax_bd (a := a.South) (b := b.South) (l := 0) (h := 9999) (by omega) (by omega) (by omega) (by omega)
  clear ha hb
  have u1 : IntKind.i64.wrap (imin a.East b.East - imax a.West b.West) = imin a.East b.East - imax a.West b.West := IntWalk.i64_in _ (by omega)
  have u2 : IntKind.i64.wrap (imin a.North b.North - imax a.South b.South) = imin a.North b.North - imax a.South b.South := IntWalk.i64_in _ (by omega)
  go_enter Try.func48, Try.ntmps48
  go_wp2_with fail
  have hq := fun x : Later ((w.alloc (.cells #[.int .i64 a.Id, .int .i64 a.West, .int .i64 a.South, .int .i64 a.East, .int .i64 a.North] 44)).alloc (.cells #[.int .i64 b.Id, .int .i64 b.West, .int .i64 b.South, .int .i64 b.East, .int .i64 b.North] 44)) => x.cell
  refine region_later (by kernel_rfl) (by kernel_rfl) ?_
  repeat (go_big_quiet_step (first | (go_at_call 44; refine calls_later_same (least_spec _ _ _)) | (go_at_call 45; refine calls_later_same (most_spec _ _ _))))
  refine wpQuiet_nil ?_
  intro _ hw'
  obtain ⟨x, rfl⟩ := hw'
  have lx : w.heap.size + 1 < x.wd.heap.size := by have := x.size; simp at this; omega
  have lx0 : w.heap.size < x.wd.heap.size := by omega
  have hq2 := fun y : Later x.wd => y.cell
  go_wp2_with fail
  refine region_later (by kernel_rfl) (by kernel_rfl) ?_
  repeat (go_big_quiet_step (first | (go_at_call 44; refine calls_later_same (least_spec _ _ _)) | (go_at_call 45; refine calls_later_same (most_spec _ _ _))))
  refine wpQuiet_nil ?_
  intro _ hw'
  obtain ⟨y, rfl⟩ := hw'
  clear hq hq2 u1 u2
  have B : Below w.heap.size w y.wd := Below.on (Below.on (by go_grown) (by simp; omega) x.below) (by omega) y.below
  have HT : Hid (touchB a b = ((imin a.East b.East - imax a.West b.West == 0 && decide (0 < imin a.North b.North - imax a.South b.South)) || (decide (0 < imin a.East b.East - imax a.West b.West) && imin a.North b.North - imax a.South b.South == 0))) := rfl
  generalize imin a.East b.East - imax a.West b.West = dx at *
  generalize imin a.North b.North - imax a.South b.South = dy at *
  clear m1 m2 m3 m4
  go_wp2
  all_goals go_ret
  all_goals refine ⟨ret_bool ?_, B⟩
  all_goals rw [HT.out]
  all_goals (simp [*] <;> omega)

set_option maxHeartbeats 1000000 in
theorem touch_impl (a b : ZoneD) (ha : zoneB a = true) (hb : zoneB b = true) (w : World) : Calls Try.prog 49 #[a.val, b.val] w fun e w' => e = .returned (.bool (touchB a b)) ∧ Below w.heap.size w w' := by
  obtain ⟨_, ⟨a1, a2, a3⟩, ⟨a4, a5, a6⟩⟩ := zoneB_bd ha
  obtain ⟨_, ⟨b1, b2, b3⟩, ⟨b4, b5, b6⟩⟩ := zoneB_bd hb
  have m1 := imin_bd (a := a.East) (b := b.East) (l := 0) (h := 9999) (by omega) (by omega) (by omega) (by omega)
  have m2 := imax_bd (a := a.West) (b := b.West) (l := 0) (h := 9999) (by omega) (by omega) (by omega) (by omega)
  have m3 := imin_bd (a := a.North) (b := b.North) (l := 0) (h := 9999) (by omega) (by omega) (by omega) (by omega)
  have m4 := imax_bd (a := a.South) (b := b.South) (l := 0) (h := 9999) (by omega) (by omega) (by omega) (by omega)
  clear ha hb
  have r1 := run_min2
  have r2 := run_max2
  have B : Below w.heap.size w ((w.alloc (.cells #[.int .i64 a.Id, .int .i64 a.West, .int .i64 a.South, .int .i64 a.East, .int .i64 a.North] 44)).alloc (.cells #[.int .i64 b.Id, .int .i64 b.West, .int .i64 b.South, .int .i64 b.East, .int .i64 b.North] 44)) := by go_grown
  have HT : Hid (touchB a b = ((imin a.East b.East - imax a.West b.West == 0 && decide (0 < imin a.North b.North - imax a.South b.South)) || (decide (0 < imin a.East b.East - imax a.West b.West) && imin a.North b.North - imax a.South b.South == 0))) := rfl
  go_enter Try.func49, Try.ntmps49
  go_upto_region 3 with fail
  generalize imin a.East b.East - imax a.West b.West = dx at *
  generalize imin a.North b.North - imax a.South b.South = dy at *
  clear m1 m2 m3 m4
  go_wp2
  all_goals go_ret
  all_goals refine ⟨ret_bool ?_, B⟩
  all_goals rw [HT.out]
  all_goals (simp [*] <;> omega)

theorem touch_specT {a b : ZoneD} (ha : zoneB a = true) (hb : zoneB b = true) {t : Bool} (h : touchB a b = t) (w : World) : Calls Try.prog 48 #[a.val, b.val] w fun e w' => e = .returned (.bool t) ∧ Below w.heap.size w w' := by rw [← h]; exact touch_spec a b ha hb w
theorem touch_implT {a b : ZoneD} (ha : zoneB a = true) (hb : zoneB b = true) {t : Bool} (h : touchB a b = t) (w : World) : Calls Try.prog 49 #[a.val, b.val] w fun e w' => e = .returned (.bool t) ∧ Below w.heap.size w w' := by rw [← h]; exact touch_impl a b ha hb w

/-- The results: a slice of the call's own that holds L, and a bool. -/
theorem touch_yes {X : Nat → ZoneD} {n : Nat} (h : zonesB X n = true) : touchL X n = tAll X n n := by simp [touchL, h]
theorem touch_no {X : Nat → ZoneD} {n : Nat} (h : zonesB X n = false) : touchL X n = [] := by simp [touchL, h]

/-- append at a step of a region that draws, whatever it appends. -/
theorem step_append_own {P : Program} {w : World} {ops : Array Oper} {o : Oper} {a : Act} {K : Act → World → Prop} {Q : Exit → Act → World → Prop} {E : Prop} (hgd : o.guard = none) (s x : Operand) (t : TypeId)
    (ho : o.op = .call { callee := .builtin .append, args := #[s, x], argTypes := #[t, t] })
    (base : Nat) (e : TypeId) (i : TypeInfo) (z : Value) (size bytes : Nat) (ht : P.underlying t = some (.slice e)) (hi : P.info? e = some i) (hz : i.zero = some z)
    (hsize : i.size = size) (hby : i.bytes = bytes) (hzs : z.cells.size = size) (hsz : 0 < size)
    (v : Value) (n : Nat) (xs : List Value) (hs : a.eval s = v) (hown : w.ownsRow base e size v n xs)
    (ad : Addr) (m c : Nat) (news : List Value) (p : Option Addr) (hx : a.eval x = .slice p m c) (hp : p = some ad) (hl : news.length = m * size) (hnews : ∀ j u, news[j]? = some u → w.cell? (ad.add j) = some u) (h1 : ∀ u ∈ news, u.oneCell' = true)
    (h63 : n + m ≤ maxLen) (hbytes : (n + m) * bytes ≤ 140737488355328) (hbase : base ≤ w.heap.size)
    (h : ∀ v' w', w'.ownsRow base e size v' (n + m) (xs ++ news) → w.grownBy w' v.ownBlock → (∀ k, v.ownBlock = some k → base ≤ k) → K (a.put o.dst v') w') :
    if Region.wanted o (yielded ops a.tmps) = true then Oper.wp P o a w K Q else E := by
  have hw : Region.wanted o (yielded ops a.tmps) = true := by simp [Region.wanted, hgd]
  subst hp
  rw [if_pos hw]
  obtain ⟨v', w', hr, h2, h3, _⟩ := run_append_own_at (P := P) w base t o.type e i z size bytes ht hi hz hsize hby hzs hsz v n xs hown ad m c news hl hnews h1 h63 hbytes hbase
  unfold Oper.wp execOp
  simp only [ho, resolve, invoke, builtin, Sem.run_bind, Sem.run_pure, Result.andThen_ok, List.map_toArray, List.map_cons, List.map_nil, hs, hx, hr]
  exact h v' w' h2 h3 (fun k hk => (World.ownsRow.lt hown k hk).1)

theorem OwnA2.row {B n : Nat} {w : World} {v : Value} {L : List Int} (h : OwnA2 B w v L) (hn : n = L.length / 2) : w.ownsRow B 68 2 v n (L.map (Value.int .i64)) := by rw [hn]; exact h
theorem OwnA2.snoc {B n : Nat} {w : World} {v : Value} {L : List Int} {a b : Int} (hn : n = L.length / 2) (h : w.ownsRow B 68 2 v (n + 1) (L.map (Value.int .i64) ++ [.int .i64 a, .int .i64 b])) : OwnA2 B w v (L ++ [a, b]) := by
  unfold OwnA2
  rw [List.length_append, List.map_append, show (L.length + [a, b].length) / 2 = n + 1 from by simp only [List.length_cons, List.length_nil]; omega]
  exact h
theorem OwnA2.same {B : Nat} {w : World} {v : Value} {L L' : List Int} (h : OwnA2 B w v L) (e : L' = L) : OwnA2 B w v L' := by rw [e]; exact h

set_option maxHeartbeats 4000000 in
theorem touching_spec (w : World) (b off len cap : Nat) (X : Nat → ZoneD) (h : Rw w b off 5 len (fun i => (X i).cells)) (hm : len ≤ 1048576) (hlc : len ≤ cap) :
    Calls Try.prog 26 #[.slice (some ⟨b, off, none⟩) len cap] w (RetA2B (touchL X len) (zonesB X len) w) := by
  have H := hid h
  have hb := h.1
  clear h
  obtain ⟨i0, hi, hz0, hz1, hz2⟩ := info_parts info_A2
  have hE := hid (OwnA2.empty w)
  have hA : Below w.heap.size w (w.alloc (.cells #[] 68)) := by go_grown
  go_enter Try.func26, Try.ntmps26
  go_wp2_with fail
  refine (zones_spec _ b off len cap X (H.out.later' hA) hm hlc).mono ?_
  rintro e w1 ⟨rfl, hb1⟩
  have B1 := Below.on hA hA.size hb1
  have ho1 := hid (hE.out.below hb1)
  clear hE
  by_cases hS : zonesB X len = true
  · have HS := hid hS
    have hl10 := zonesB_le hS
    go_wp2_with fail
    go_loopw [4, 5] (fun v i wr => ∃ k : Nat, k ≤ len ∧ i = .int .i64 k ∧ Below w.heap.size w wr ∧ Hid (OwnA2 w.heap.size wr v (tAll X len k))) (fun _ i _ => len - (intOf i).toNat)
    case atStart => exact ⟨0, by omega, rfl, B1, ho1⟩
    case round =>
      clear hb1 B1 ho1 hA hS
      obtain ⟨k, hk, rfl, hB, ho⟩ := hrel
      by_cases hlt : k < len
      · go_wp2_with fail
        obtain ⟨wo, rfl⟩ : ∃ wo : World, wo = wr := ⟨_, rfl⟩
        go_loopw [4, 6] (fun v i wr => ∃ m : Nat, k + 1 ≤ m ∧ m ≤ len ∧ i = .int .i64 m ∧ Below w.heap.size w wr ∧ Hid (OwnA2 w.heap.size wr v (tAll X len k ++ tRow X k m))) (fun _ i _ => len - (intOf i).toNat)
        case atStart => exact ⟨k + 1, by omega, by omega, by go_num, hB, ho.out.same (by rw [tRow_nil (by omega), List.append_nil])⟩
        case round =>
          clear hB ho
          obtain ⟨m, hm0, hm1, rfl, hB, ho⟩ := hrel
          by_cases hlm : m < len
          · have c0 : wr.cell? ⟨b, off + k * 5, none⟩ = some (.int .i64 (X k).Id) := (hB.cell hb).trans (H.out.2 k hlt 0 (by omega))
            have c1 : wr.cell? ⟨b, off + k * 5 + 1, none⟩ = some (.int .i64 (X k).West) := (hB.cell hb).trans (H.out.2 k hlt 1 (by omega))
            have c2 : wr.cell? ⟨b, off + k * 5 + 2, none⟩ = some (.int .i64 (X k).South) := (hB.cell hb).trans (H.out.2 k hlt 2 (by omega))
            have c3 : wr.cell? ⟨b, off + k * 5 + 3, none⟩ = some (.int .i64 (X k).East) := (hB.cell hb).trans (H.out.2 k hlt 3 (by omega))
            have c4 : wr.cell? ⟨b, off + k * 5 + 4, none⟩ = some (.int .i64 (X k).North) := (hB.cell hb).trans (H.out.2 k hlt 4 (by omega))
            have d0 : wr.cell? ⟨b, off + m * 5, none⟩ = some (.int .i64 (X m).Id) := (hB.cell hb).trans (H.out.2 m hlm 0 (by omega))
            have d1 : wr.cell? ⟨b, off + m * 5 + 1, none⟩ = some (.int .i64 (X m).West) := (hB.cell hb).trans (H.out.2 m hlm 1 (by omega))
            have d2 : wr.cell? ⟨b, off + m * 5 + 2, none⟩ = some (.int .i64 (X m).South) := (hB.cell hb).trans (H.out.2 m hlm 2 (by omega))
            have d3 : wr.cell? ⟨b, off + m * 5 + 3, none⟩ = some (.int .i64 (X m).East) := (hB.cell hb).trans (H.out.2 m hlm 3 (by omega))
            have d4 : wr.cell? ⟨b, off + m * 5 + 4, none⟩ = some (.int .i64 (X m).North) := (hB.cell hb).trans (H.out.2 m hlm 4 (by omega))
            have lb : b < wr.heap.size := by have := hB.size; omega
            have e2 : (0 : Int) ≤ (k : Int) := by omega
            have e3 : (k : Int) < (len : Int) := by omega
            have e4 : (0 : Int) ≤ (m : Int) := by omega
            have e5 : (m : Int) < (len : Int) := by omega
            have hq := fun x : Later wr => x.cell
            have hle1 := tAll_le X len hl10 k
            have hle2 := tRow_le X k m
            obtain ⟨n, hn2⟩ : ∃ n, n = (tAll X len k ++ tRow X k m).length / 2 := ⟨_, rfl⟩
            have hn : n ≤ 110 := by rw [hn2, List.length_append]; omega
            have HN := hid hn2
            clear hn2 hle1 hle2
            have vk := hid (zonesB_valid HS.out hlt)
            have vm := hid (zonesB_valid HS.out hlm)
            by_cases ht : touchB (X k) (X m) = true
            · have HT := hid ht
              go_wp2_with fail
              refine region_later (by kernel_rfl) (by kernel_rfl) ?_
              repeat (go_big_quiet_step ((go_at_call 48; refine calls_later (touch_specT vk.out vm.out HT.out _))))
              refine wpQuiet_nil ?_
              intro _ hw'
              obtain ⟨x, rfl⟩ := hw'
              have hB1 : Below w.heap.size w x.wd := Below.on hB hB.size x.below
              have f0 : x.wd.cell? ⟨b, off + k * 5, none⟩ = some (.int .i64 (X k).Id) := (x.cell _ _ lb).trans c0
              have f1 : x.wd.cell? ⟨b, off + m * 5, none⟩ = some (.int .i64 (X m).Id) := (x.cell _ _ lb).trans d0
              have HO := hid ((ho.out.below x.below).row HN.out)
              clear hq c0 c1 c2 c3 c4 d0 d1 d2 d3 d4 hB lb
              generalize x.wd = wx at *
              have hbx : b < wx.heap.size := by have := hB1.size; omega
              have hzx := hB1.size
              go_wp2_with fail
              clear ht
              go_region_held3 (fun w' => w'.cell? ⟨b, off + k * 5, none⟩ = some (.int .i64 (X k).Id) ∧ w'.cell? ⟨b, off + m * 5, none⟩ = some (.int .i64 (X m).Id)) (go_keep) (first
                | (refine step_append_own rfl (.tmp 35) (.tmp 47) 49 rfl w.heap.size 68 i0 (.agg #[.int .i64 0, .int .i64 0]) 2 16 Try.underlying49 hi hz0 hz1 hz2 rfl (by decide) _ n ((tAll X len k ++ tRow X k m).map (Value.int .i64)) rfl (by exact World.ownsRow.alloc HO.out _) ⟨wx.heap.size, 0, none⟩ 1 1 [.int .i64 (X k).Id, .int .i64 (X m).Id] _ rfl rfl rfl (by exact World.news_of_block (heap_alloc_new wx _)) (by intro u hu; simp at hu; rcases hu with rfl | rfl <;> rfl) (by unfold maxLen; omega) (by omega) (by simp; omega) ?_
                   intro v' w2 hown hgrow hlo
                   have hb2 : Below w.heap.size w w2 := Below.grown (by go_grown) hgrow (by simp; omega) hlo
                   have g0 : w2.cell? ⟨b, off + k * 5, none⟩ = some (.int .i64 (X k).Id) := (hb2.cell hb).trans (H.out.2 k hlt 0 (by omega))
                   have g1 : w2.cell? ⟨b, off + m * 5, none⟩ = some (.int .i64 (X m).Id) := (hb2.cell hb).trans (H.out.2 m hlm 0 (by omega))))
              have ho2 := hid ((OwnA2.snoc HN.out hown).same (L' := tAll X len k ++ tRow X k (m + 1)) (by rw [tRow_yes (by omega) HT.out, List.append_assoc]))
              clear hown hgrow hlo
              go_wp2_with fail
              go_roundw
              case rel => exact ⟨m + 1, by omega, by omega, by go_num, hb2, ho2⟩
              case measure => simp [intOf]; omega
            · have ht' : touchB (X k) (X m) = false := by simpa using ht
              have HT := hid ht'
              clear ht
              go_wp2_with fail
              refine region_later (by kernel_rfl) (by kernel_rfl) ?_
              repeat (go_big_quiet_step ((go_at_call 48; refine calls_later (touch_specT vk.out vm.out HT.out _))))
              refine wpQuiet_nil ?_
              intro _ hw'
              obtain ⟨x, rfl⟩ := hw'
              have hB1 : Below w.heap.size w x.wd := Below.on hB hB.size x.below
              have ho2 := hid ((ho.out.below x.below).same (L' := tAll X len k ++ tRow X k (m + 1)) (by rw [tRow_no HT.out]))
              clear hq
              go_wp2_with fail
              go_roundw
              case rel => exact ⟨m + 1, by omega, by omega, by go_num, hB1, ho2⟩
              case measure => simp [intOf]; omega
          · obtain rfl : m = len := by omega
            go_wp2_with fail
            go_roundw
            case rel => exact ⟨k + 1, by omega, by go_num, hB, ho⟩
            case measure => simp [intOf]; omega
      · obtain rfl : k = len := by omega
        go_wp2_with fail
        go_ret2
        exact ⟨_, by rw [HS.out]; rfl, by rw [touch_yes HS.out]; exact ho.out, hB⟩
  · have hS' : zonesB X len = false := by simpa using hS
    clear hS
    go_wp2_with fail
    go_ret2
    exact ⟨_, by rw [hS']; rfl, by rw [touch_no hS']; exact ho1.out, B1⟩

end Go.Proofs.Ytcnjafpfkdaoeaa
