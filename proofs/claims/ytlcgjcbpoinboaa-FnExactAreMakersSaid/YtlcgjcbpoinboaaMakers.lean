/-
  Lists of makers: their validity, by the program and by the reference. No condition.
-/
import Derived.Test.YtlcgjcbpoinboaaListMaker
import Derived.Test.YtlcgjcbpoinboaaReaders
namespace Go.Proofs.Ytlcgjcbpoinboaa
open Go.RowKit
set_option linter.unusedVariables false
set_option maxRecDepth 100000

set_option maxHeartbeats 400000 in
theorem idx_maker (w : World) (b off len cap : Nat) (X : Nat → MakerD) (g : FuncId) (cs : Array Value) (p : Nat → Bool) (hcall : ∀ args w, (callFunc g args).run Try.prog w = .ok (.enter g args) w) (h : Rw w b off 5 len (fun i => (X i).cells)) (hm : len ≤ 1048576) (hlc : len ≤ cap)
    (hg : ∀ (x : Later w) (i : Nat), i < len → Calls Try.prog g (#[(X i).val] ++ cs) x.wd fun e w' => e = .returned (.bool (p i)) ∧ Below x.wd.heap.size x.wd w') :
    Calls Try.prog 87 #[.slice (some ⟨b, off, none⟩) len cap, .func (.func g) #[] cs] w fun e w' => e = .returned (.int .i64 (findI p len)) ∧ Below w.heap.size w w' := by
  have H := hid h.2
  have HG := hid hg
  have hb := h.1
  clear h hg
  go_enter Try.func87, Try.ntmps87
  go_wp2
  go_loopw [8] (fun i wr => ∃ k : Nat, k ≤ len ∧ i = .int .i64 k ∧ Below w.heap.size w wr ∧ Hid (findI p len = findFrom p k (len - k))) (fun i _ => len - (intOf i).toNat)
  case atStart => exact ⟨0, by omega, rfl, Below.refl _ _, rfl⟩
  case round =>
    obtain ⟨k, hk, rfl, hB, hf⟩ := hrel
    by_cases hlt : k < len
    · have c0 : wr.cell? ⟨b, off + k * 5, none⟩ = some (.int .i64 (X k).Id) := (hB.cell hb).trans (H.out k hlt 0 (by omega))
      have c1 : wr.cell? ⟨b, off + k * 5 + 1, none⟩ = some (.string (X k).Name) := (hB.cell hb).trans (H.out k hlt 1 (by omega))
      have c2 : wr.cell? ⟨b, off + k * 5 + 2, none⟩ = some (.int .i64 (X k).From) := (hB.cell hb).trans (H.out k hlt 2 (by omega))
      have c3 : wr.cell? ⟨b, off + k * 5 + 3, none⟩ = some (.int .i64 (X k).Until) := (hB.cell hb).trans (H.out k hlt 3 (by omega))
      have c4 : wr.cell? ⟨b, off + k * 5 + 4, none⟩ = some (.int .i64 (X k).Heir) := (hB.cell hb).trans (H.out k hlt 4 (by omega))
      go_wp2_with fail
      refine (HG.out ⟨wr, hB⟩ k hlt).mono ?_
      rintro e w1 ⟨rfl, hb1⟩
      have hB1 : Below w.heap.size w w1 := Below.on hB hB.size hb1
      by_cases hp : p k = true
      · go_wp2_with fail
        go_ret
        exact ⟨ret_int (findFrom_hit hlt hp hf.out).symm, hB1⟩
      · have hp' : p k = false := by simpa using hp
        clear hp
        go_wp2_with fail
        go_roundw
        case rel => exact ⟨k + 1, by omega, by go_num, hB1, findFrom_miss hlt hp' hf.out⟩
        case measure => simp [intOf]; omega
    · go_wp2_with fail
      go_ret
      exact ⟨ret_int (findFrom_end (by omega) hf.out).symm, hB⟩

set_option maxHeartbeats 400000 in
theorem find7_spec (w : World) (b off len cap : Nat) (X : Nat → MakerD) (id : Int) (h : Rw w b off 5 len (fun i => (X i).cells)) (hm : len ≤ 1048576) (hlc : len ≤ cap) :
    Calls Try.prog 86 #[.slice (some ⟨b, off, none⟩) len cap, .int .i64 id] w fun e w' => e = .returned (.int .i64 (findI (fun i => (X i).Id == id) len)) ∧ w = w' := by
  have H := hid h.2
  have hb := h.1
  clear h
  go_enter Try.func86, Try.ntmps86
  go_wp2
  go_loop [5] (fun i => ∃ k : Nat, k ≤ len ∧ i = .int .i64 k ∧ Hid (findI (fun i => (X i).Id == id) len = findFrom (fun i => (X i).Id == id) k (len - k))) (fun i => len - (intOf i).toNat)
  case atStart => exact ⟨0, by omega, rfl, rfl⟩
  case round =>
    obtain ⟨k, hk, rfl, hf⟩ := hrel
    by_cases hlt : k < len
    · have c0 : w.cell? ⟨b, off + k * 5, none⟩ = some (.int .i64 (X k).Id) := H.out k hlt 0 (by omega)
      go_wp2
      all_goals first
        | (go_ret; exact ⟨ret_int (findFrom_hit hlt (by simp [*]) hf.out).symm, rfl⟩)
        | (go_round; (case rel => exact ⟨k + 1, by omega, by go_num, findFrom_miss hlt (by simp [*]) hf.out⟩); (case measure => simp [intOf]; omega))
    · go_wp2
      go_ret
      exact ⟨ret_int (findFrom_end (by omega) hf.out).symm, rfl⟩

theorem mat_impl_1 (s : MakerD) (id : Int) (b1 : Nat) (w : World) (h1 : w.cell? ⟨b1, 0, none⟩ = some (.int .i64 id)) (l1 : b1 < w.heap.size) :
    Calls Try.prog 88 #[s.val, .pointer (some ⟨b1, 0, none⟩)] w fun e w' => e = .returned (.bool (s.Id == id)) ∧ Below w.heap.size w w' := by
  go_enter Try.func88, Try.ntmps88
  go_wp2
  all_goals go_ret
  all_goals exact ⟨by simp [*], by go_grown⟩

theorem mat_impl (w : World) (b off len cap : Nat) (X : Nat → MakerD) (id : Int) (h : Rw w b off 5 len (fun i => (X i).cells)) (hm : len ≤ 1048576) (hlc : len ≤ cap) :
    Calls Try.prog 63 #[.slice (some ⟨b, off, none⟩) len cap, .int .i64 id] w fun e w' => e = .returned (.int .i64 (findI (fun i => (X i).Id == id) len)) ∧ Below w.heap.size w w' := by
  go_enter Try.func63, Try.ntmps63
  go_wp2_with fail
  have hB : Below w.heap.size w (w.alloc (.cells #[.int .i64 id] 3)) := by go_grown
  refine (idx_maker _ b off len cap X 88 _ (fun i => (X i).Id == id) (fun _ _ => by kernel_rfl) (h.later' hB) hm hlc ?_).mono ?_
  · intro x i hi
    have hz := x.size
    refine mat_impl_1 (X i) id _ _ ((x.cell _ _ (by simp)).trans ?_) ?_
    · simp [go_sem]
    · simp at hz; omega
  · rintro e w1 ⟨rfl, hb1⟩
    go_wp2_with fail
    go_ret
    exact ⟨rfl, Below.on hB (by simp) hb1⟩

def heirI (X : Nat → MakerD) (n k : Nat) : Int := findI (fun i => (X i).Id == (X k).Heir) n
def heirB (X : Nat → MakerD) (n k : Nat) : Bool := (X k).Heir == 0 || (decide (0 ≤ heirI X n k) && decide ((X k).Until < (X (heirI X n k).toNat).From))
def makerOk (X : Nat → MakerD) (n k : Nat) : Bool := makerB (X k) && (k == 0 || decide ((X (k - 1)).Id < (X k).Id)) && heirB X n k
def makersB (X : Nat → MakerD) (n : Nat) : Bool := decide (n ≤ 10) && allI (makerOk X n) n
theorem makersB_bad {X : Nat → MakerD} {n k : Nat} (h : k < n) (hp : makerOk X n k = false) : makersB X n = false := by simp [makersB, allI_false h hp]
theorem makersB_end {X : Nat → MakerD} {n : Nat} (hh : ∀ i, i < n → makerOk X n i = true) : decide ((n : Int) ≤ 10) = makersB X n := by
  unfold makersB
  rw [allI_true.2 hh]
  simp; omega
theorem maker_bd {s : MakerD} (h : makerB s = true) : 0 ≤ s.Heir := by
  simp [makerB, inB] at h; omega
theorem mk_inv {X : Nat → MakerD} {n k : Nat} (h : makerB (X k) = false) : makerOk X n k = false := by simp [makerOk, h]
theorem mk_ord {X : Nat → MakerD} {n k : Nat} (h0 : 0 < k) (h : ¬ (X (k - 1)).Id < (X k).Id) : makerOk X n k = false := by
  have h1 : (k == 0) = false := by simp; omega
  simp [makerOk, h1, h]
theorem mk_ok {X : Nat → MakerD} {n k : Nat} (h : makerB (X k) = true) (h0 : k = 0 ∨ (X (k - 1)).Id < (X k).Id) : makerOk X n k = heirB X n k := by
  unfold makerOk
  rw [h]
  rcases h0 with h0 | h0
  · simp [h0]
  · simp [h0]
theorem heir_0 {X : Nat → MakerD} {n k : Nat} (h : (X k).Heir = 0) : heirB X n k = true := by simp [heirB, h]
theorem heir_no {X : Nat → MakerD} {n k : Nat} (h : ¬ (X k).Heir = 0) (hf : heirI X n k = -1) : heirB X n k = false := by simp [heirB, h, hf]
theorem heir_at {X : Nat → MakerD} {n k j : Nat} (h : ¬ (X k).Heir = 0) (hf : heirI X n k = (j : Int)) : heirB X n k = decide ((X k).Until < (X j).From) := by simp [heirB, h, hf]

set_option maxHeartbeats 8000000 in
theorem makers_spec (w : World) (b off len cap : Nat) (X : Nat → MakerD) (h : Rw w b off 5 len (fun i => (X i).cells)) (hm : len ≤ 1048576) (hlc : len ≤ cap) (hnm0 : ∀ i, i < len → (X i).Name.size ≤ maxLen) :
    Calls Try.prog 62 #[.slice (some ⟨b, off, none⟩) len cap] w fun e w' => e = .returned (.bool (makersB X len)) ∧ Below w.heap.size w w' := by
  have H := hid h
  have hb := h.1
  clear h
  have hnm := hid hnm0
  clear hnm0
  go_enter Try.func62, Try.ntmps62
  go_wp2_with fail
  go_loopw [3] (fun i wr => ∃ k : Nat, k ≤ len ∧ i = .int .i64 k ∧ Below w.heap.size w wr ∧ Hid (∀ i, i < k → makerOk X len i = true)) (fun i _ => len - (intOf i).toNat)
  case atStart => exact ⟨0, by omega, rfl, Below.refl _ _, fun i hi => absurd hi (by omega)⟩
  case round =>
    obtain ⟨k, hk, rfl, hB, hf⟩ := hrel
    by_cases hlt : k < len
    · have c0 : wr.cell? ⟨b, off + k * 5, none⟩ = some (.int .i64 (X k).Id) := (hB.cell hb).trans (H.out.2 k hlt 0 (by omega))
      have c1 : wr.cell? ⟨b, off + k * 5 + 1, none⟩ = some (.string (X k).Name) := (hB.cell hb).trans (H.out.2 k hlt 1 (by omega))
      have c2 : wr.cell? ⟨b, off + k * 5 + 2, none⟩ = some (.int .i64 (X k).From) := (hB.cell hb).trans (H.out.2 k hlt 2 (by omega))
      have c3 : wr.cell? ⟨b, off + k * 5 + 3, none⟩ = some (.int .i64 (X k).Until) := (hB.cell hb).trans (H.out.2 k hlt 3 (by omega))
      have c4 : wr.cell? ⟨b, off + k * 5 + 4, none⟩ = some (.int .i64 (X k).Heir) := (hB.cell hb).trans (H.out.2 k hlt 4 (by omega))
      have hbr : b < wr.heap.size := by have := hB.size; omega
      have hbr1 : b < wr.heap.size + 1 := by omega
      have HN1 := hid (hnm.out k hlt)
      by_cases h1 : makerB (X k) = true
      · have hh := maker_bd h1
        by_cases h2 : 0 < k
        · have e0 : IntKind.i64.wrap ((k : Int) - 1) = (k : Int) - 1 := IntWalk.i64_in _ (by omega)
          have e1 : ((k : Int) - 1).toNat = k - 1 := by omega
          have e2 : (0 : Int) ≤ (k : Int) - 1 := by omega
          have e3 : (k : Int) - 1 < (len : Int) := by omega
          have p0 : wr.cell? ⟨b, off + (k - 1) * 5, none⟩ = some (.int .i64 (X (k - 1)).Id) := (hB.cell hb).trans (H.out.2 (k - 1) (by omega) 0 (by omega))
          by_cases h3 : (X (k - 1)).Id < (X k).Id
          · have d3 : decide ((X k).Id ≤ (X (k - 1)).Id) = false := by simp; omega
            have hmk : Hid (makerOk X len k = heirB X len k) := hid (mk_ok h1 (.inr h3))
            clear h3
            go_wp2_with fail
            have hq := fun x : Later (wr.alloc (.cells #[.int .i64 (X k).Id, .string (X k).Name, .int .i64 (X k).From, .int .i64 (X k).Until, .int .i64 (X k).Heir] 26)) => x.cell
            refine region_later (by kernel_rfl) (by kernel_rfl) ?_
            repeat (go_big_quiet_step ((go_at_call 54; refine calls_later (maker_spec (X k) HN1.out _))))
            refine wpQuiet_nil ?_
            intro _ hw'
            obtain ⟨x, rfl⟩ := hw'
            have hB1 : Below w.heap.size w x.wd := Below.on (hB.alloc hB.size _) (by have := hB.size; simp; omega) x.below
            clear hq
            have y0 : x.wd.cell? ⟨wr.heap.size, 0, none⟩ = some (.int .i64 (X k).Id) := (x.cell _ _ (by simp)).trans (by simp [go_sem])
            have y1 : x.wd.cell? ⟨wr.heap.size, 1, none⟩ = some (.string (X k).Name) := (x.cell _ _ (by simp)).trans (by simp [go_sem])
            have y2 : x.wd.cell? ⟨wr.heap.size, 2, none⟩ = some (.int .i64 (X k).From) := (x.cell _ _ (by simp)).trans (by simp [go_sem])
            have y3 : x.wd.cell? ⟨wr.heap.size, 3, none⟩ = some (.int .i64 (X k).Until) := (x.cell _ _ (by simp)).trans (by simp [go_sem])
            have y4 : x.wd.cell? ⟨wr.heap.size, 4, none⟩ = some (.int .i64 (X k).Heir) := (x.cell _ _ (by simp)).trans (by simp [go_sem])
            have lx : wr.heap.size < x.wd.heap.size := by have := x.size; simp at this; omega
            by_cases hz : (X k).Heir = 0
            · have dz : decide ((0 : Int) < (X k).Heir) = false := by simp; omega
              have hok : Hid (makerOk X len k = true) := hid (hmk.out.trans (heir_0 hz))
              go_wp2_with fail
              go_roundw
              case rel => exact ⟨k + 1, by omega, by go_num, hB1, fun i hi => by by_cases hik : i < k; exact hf.out i hik; rw [show i = k by omega]; exact hok.out⟩
              case measure => simp [intOf]; omega
            · have dz : decide ((0 : Int) < (X k).Heir) = true := by simp; omega
              go_wp2_with fail
              refine (find7_spec _ b off len cap X (X k).Heir (H.out.later' hB1) hm hlc).mono ?_
              rintro e w2 ⟨he, rfl⟩

              rcases findI_cases (fun i => (X i).Id == (X k).Heir) len with hK | ⟨j, hj, hK, hpj⟩
              · rw [hK] at he
                have HF : Hid (heirI X len k = -1) := hK
                clear hK
                subst he
                have hok : Hid (makerOk X len k = false) := hid (hmk.out.trans (heir_no hz HF.out))
                go_wp2_with fail
                have hq := fun x : Later x.wd => x.cell
                refine region_later (by kernel_rfl) (by kernel_rfl) ?_
                repeat (go_big_quiet_step (fail))
                refine wpQuiet_nil ?_
                intro _ hw'
                obtain ⟨x2, rfl⟩ := hw'
                have hB3 : Below w.heap.size w x2.wd := Below.on hB1 hB1.size x2.below
                clear hq
                go_wp2_with fail
                go_ret
                exact ⟨ret_bool (makersB_bad hlt hok.out).symm, hB3⟩
              · clear hpj
                rw [hK] at he
                have HF : Hid (heirI X len k = (j : Int)) := hK
                clear hK
                subst he
                have lbw : b < x.wd.heap.size := by have := hB1.size; omega
                have e6 : (0 : Int) ≤ (j : Int) := by omega
                have e7 : (j : Int) < (len : Int) := by omega
                have m6 : decide ((j : Int) < 0) = false := by simp
                have p2 : x.wd.cell? ⟨b, off + j * 5 + 2, none⟩ = some (.int .i64 (X j).From) := (hB1.cell hb).trans (H.out.2 j hj 2 (by omega))
                by_cases h5 : (X k).Until < (X j).From
                · have d5 : decide ((X j).From ≤ (X k).Until) = false := by simp; omega
                  have hok : Hid (makerOk X len k = true) := hid (hmk.out.trans ((heir_at hz HF.out).trans (by simp [h5])))
                  clear h5
                  go_wp2_with fail
                  have hq := fun x : Later x.wd => x.cell
                  refine region_later (by kernel_rfl) (by kernel_rfl) ?_
                  repeat (go_big_quiet_step (fail))
                  refine wpQuiet_nil ?_
                  intro _ hw'
                  obtain ⟨x2, rfl⟩ := hw'
                  have hB3 : Below w.heap.size w x2.wd := Below.on hB1 hB1.size x2.below
                  clear hq
                  go_wp2_with fail
                  go_roundw
                  case rel => exact ⟨k + 1, by omega, by go_num, hB3, fun i hi => by by_cases hik : i < k; exact hf.out i hik; rw [show i = k by omega]; exact hok.out⟩
                  case measure => simp [intOf]; omega
                · have d5 : decide ((X j).From ≤ (X k).Until) = true := by simp; omega
                  have hok : Hid (makerOk X len k = false) := hid (hmk.out.trans ((heir_at hz HF.out).trans (by simp [h5])))
                  clear h5
                  go_wp2_with fail
                  have hq := fun x : Later x.wd => x.cell
                  refine region_later (by kernel_rfl) (by kernel_rfl) ?_
                  repeat (go_big_quiet_step (fail))
                  refine wpQuiet_nil ?_
                  intro _ hw'
                  obtain ⟨x2, rfl⟩ := hw'
                  have hB3 : Below w.heap.size w x2.wd := Below.on hB1 hB1.size x2.below
                  clear hq
                  go_wp2_with fail
                  go_ret
                  exact ⟨ret_bool (makersB_bad hlt hok.out).symm, hB3⟩
          · have d3 : decide ((X k).Id ≤ (X (k - 1)).Id) = true := by simp; omega
            have hok : Hid (makerOk X len k = false) := hid (mk_ord h2 h3)
            clear h3
            go_wp2_with fail
            have hq := fun x : Later (wr.alloc (.cells #[.int .i64 (X k).Id, .string (X k).Name, .int .i64 (X k).From, .int .i64 (X k).Until, .int .i64 (X k).Heir] 26)) => x.cell
            refine region_later (by kernel_rfl) (by kernel_rfl) ?_
            repeat (go_big_quiet_step ((go_at_call 54; refine calls_later (maker_spec (X k) HN1.out _))))
            refine wpQuiet_nil ?_
            intro _ hw'
            obtain ⟨x, rfl⟩ := hw'
            have hB1 : Below w.heap.size w x.wd := Below.on (hB.alloc hB.size _) (by have := hB.size; simp; omega) x.below
            clear hq
            go_wp2_with fail
            go_ret
            exact ⟨ret_bool (makersB_bad hlt hok.out).symm, hB1⟩
        · have hkz : k = 0 := by omega
          have h2' : decide ((0 : Int) < (k : Int)) = false := by simp; omega
          have hmk : Hid (makerOk X len k = heirB X len k) := hid (mk_ok h1 (.inl hkz))
          clear hkz
          go_wp2_with fail
          have hq := fun x : Later (wr.alloc (.cells #[.int .i64 (X k).Id, .string (X k).Name, .int .i64 (X k).From, .int .i64 (X k).Until, .int .i64 (X k).Heir] 26)) => x.cell
          refine region_later (by kernel_rfl) (by kernel_rfl) ?_
          repeat (go_big_quiet_step ((go_at_call 54; refine calls_later (maker_spec (X k) HN1.out _))))
          refine wpQuiet_nil ?_
          intro _ hw'
          obtain ⟨x, rfl⟩ := hw'
          have hB1 : Below w.heap.size w x.wd := Below.on (hB.alloc hB.size _) (by have := hB.size; simp; omega) x.below
          clear hq
          have y0 : x.wd.cell? ⟨wr.heap.size, 0, none⟩ = some (.int .i64 (X k).Id) := (x.cell _ _ (by simp)).trans (by simp [go_sem])
          have y1 : x.wd.cell? ⟨wr.heap.size, 1, none⟩ = some (.string (X k).Name) := (x.cell _ _ (by simp)).trans (by simp [go_sem])
          have y2 : x.wd.cell? ⟨wr.heap.size, 2, none⟩ = some (.int .i64 (X k).From) := (x.cell _ _ (by simp)).trans (by simp [go_sem])
          have y3 : x.wd.cell? ⟨wr.heap.size, 3, none⟩ = some (.int .i64 (X k).Until) := (x.cell _ _ (by simp)).trans (by simp [go_sem])
          have y4 : x.wd.cell? ⟨wr.heap.size, 4, none⟩ = some (.int .i64 (X k).Heir) := (x.cell _ _ (by simp)).trans (by simp [go_sem])
          have lx : wr.heap.size < x.wd.heap.size := by have := x.size; simp at this; omega
          by_cases hz : (X k).Heir = 0
          · have dz : decide ((0 : Int) < (X k).Heir) = false := by simp; omega
            have hok : Hid (makerOk X len k = true) := hid (hmk.out.trans (heir_0 hz))
            go_wp2_with fail
            go_roundw
            case rel => exact ⟨k + 1, by omega, by go_num, hB1, fun i hi => by by_cases hik : i < k; exact hf.out i hik; rw [show i = k by omega]; exact hok.out⟩
            case measure => simp [intOf]; omega
          · have dz : decide ((0 : Int) < (X k).Heir) = true := by simp; omega
            go_wp2_with fail
            refine (find7_spec _ b off len cap X (X k).Heir (H.out.later' hB1) hm hlc).mono ?_
            rintro e w2 ⟨he, rfl⟩

            rcases findI_cases (fun i => (X i).Id == (X k).Heir) len with hK | ⟨j, hj, hK, hpj⟩
            · rw [hK] at he
              have HF : Hid (heirI X len k = -1) := hK
              clear hK
              subst he
              have hok : Hid (makerOk X len k = false) := hid (hmk.out.trans (heir_no hz HF.out))
              go_wp2_with fail
              have hq := fun x : Later x.wd => x.cell
              refine region_later (by kernel_rfl) (by kernel_rfl) ?_
              repeat (go_big_quiet_step (fail))
              refine wpQuiet_nil ?_
              intro _ hw'
              obtain ⟨x2, rfl⟩ := hw'
              have hB3 : Below w.heap.size w x2.wd := Below.on hB1 hB1.size x2.below
              clear hq
              go_wp2_with fail
              go_ret
              exact ⟨ret_bool (makersB_bad hlt hok.out).symm, hB3⟩
            · clear hpj
              rw [hK] at he
              have HF : Hid (heirI X len k = (j : Int)) := hK
              clear hK
              subst he
              have lbw : b < x.wd.heap.size := by have := hB1.size; omega
              have e6 : (0 : Int) ≤ (j : Int) := by omega
              have e7 : (j : Int) < (len : Int) := by omega
              have m6 : decide ((j : Int) < 0) = false := by simp
              have p2 : x.wd.cell? ⟨b, off + j * 5 + 2, none⟩ = some (.int .i64 (X j).From) := (hB1.cell hb).trans (H.out.2 j hj 2 (by omega))
              by_cases h5 : (X k).Until < (X j).From
              · have d5 : decide ((X j).From ≤ (X k).Until) = false := by simp; omega
                have hok : Hid (makerOk X len k = true) := hid (hmk.out.trans ((heir_at hz HF.out).trans (by simp [h5])))
                clear h5
                go_wp2_with fail
                have hq := fun x : Later x.wd => x.cell
                refine region_later (by kernel_rfl) (by kernel_rfl) ?_
                repeat (go_big_quiet_step (fail))
                refine wpQuiet_nil ?_
                intro _ hw'
                obtain ⟨x2, rfl⟩ := hw'
                have hB3 : Below w.heap.size w x2.wd := Below.on hB1 hB1.size x2.below
                clear hq
                go_wp2_with fail
                go_roundw
                case rel => exact ⟨k + 1, by omega, by go_num, hB3, fun i hi => by by_cases hik : i < k; exact hf.out i hik; rw [show i = k by omega]; exact hok.out⟩
                case measure => simp [intOf]; omega
              · have d5 : decide ((X j).From ≤ (X k).Until) = true := by simp; omega
                have hok : Hid (makerOk X len k = false) := hid (hmk.out.trans ((heir_at hz HF.out).trans (by simp [h5])))
                clear h5
                go_wp2_with fail
                have hq := fun x : Later x.wd => x.cell
                refine region_later (by kernel_rfl) (by kernel_rfl) ?_
                repeat (go_big_quiet_step (fail))
                refine wpQuiet_nil ?_
                intro _ hw'
                obtain ⟨x2, rfl⟩ := hw'
                have hB3 : Below w.heap.size w x2.wd := Below.on hB1 hB1.size x2.below
                clear hq
                go_wp2_with fail
                go_ret
                exact ⟨ret_bool (makersB_bad hlt hok.out).symm, hB3⟩
      · have h1' : makerB (X k) = false := by simpa using h1
        have hok : Hid (makerOk X len k = false) := hid (mk_inv h1')
        clear h1
        go_wp2_with fail
        have hq := fun x : Later (wr.alloc (.cells #[.int .i64 (X k).Id, .string (X k).Name, .int .i64 (X k).From, .int .i64 (X k).Until, .int .i64 (X k).Heir] 26)) => x.cell
        refine region_later (by kernel_rfl) (by kernel_rfl) ?_
        repeat (go_big_quiet_step ((go_at_call 54; refine calls_later (maker_spec (X k) HN1.out _))))
        refine wpQuiet_nil ?_
        intro _ hw'
        obtain ⟨x, rfl⟩ := hw'
        have hB1 : Below w.heap.size w x.wd := Below.on (hB.alloc hB.size _) (by have := hB.size; simp; omega) x.below
        clear hq
        go_wp2_with fail
        go_ret
        exact ⟨ret_bool (makersB_bad hlt hok.out).symm, hB1⟩
    · go_wp2_with fail
      go_ret
      exact ⟨ret_bool (makersB_end (fun i hi => hf.out i (by omega))), hB⟩

set_option maxHeartbeats 8000000 in
theorem makers_impl (w : World) (b off len cap : Nat) (X : Nat → MakerD) (h : Rw w b off 5 len (fun i => (X i).cells)) (hm : len ≤ 1048576) (hlc : len ≤ cap) (hnm0 : ∀ i, i < len → (X i).Name.size ≤ maxLen) :
    Calls Try.prog 31 #[.slice (some ⟨b, off, none⟩) len cap] w fun e w' => e = .returned (.bool (makersB X len)) ∧ Below w.heap.size w w' := by
  have H := hid h
  have hb := h.1
  clear h
  have hnm := hid hnm0
  clear hnm0
  go_enter Try.func31, Try.ntmps31
  go_wp2_with fail
  go_loopw [8] (fun i wr => ∃ k : Nat, k ≤ len ∧ i = .int .i64 k ∧ Below w.heap.size w wr ∧ Hid (∀ i, i < k → makerOk X len i = true)) (fun i _ => len - (intOf i).toNat)
  case atStart => exact ⟨0, by omega, rfl, Below.refl _ _, fun i hi => absurd hi (by omega)⟩
  case round =>
    obtain ⟨k, hk, rfl, hB, hf⟩ := hrel
    by_cases hlt : k < len
    · have c0 : wr.cell? ⟨b, off + k * 5, none⟩ = some (.int .i64 (X k).Id) := (hB.cell hb).trans (H.out.2 k hlt 0 (by omega))
      have c1 : wr.cell? ⟨b, off + k * 5 + 1, none⟩ = some (.string (X k).Name) := (hB.cell hb).trans (H.out.2 k hlt 1 (by omega))
      have c2 : wr.cell? ⟨b, off + k * 5 + 2, none⟩ = some (.int .i64 (X k).From) := (hB.cell hb).trans (H.out.2 k hlt 2 (by omega))
      have c3 : wr.cell? ⟨b, off + k * 5 + 3, none⟩ = some (.int .i64 (X k).Until) := (hB.cell hb).trans (H.out.2 k hlt 3 (by omega))
      have c4 : wr.cell? ⟨b, off + k * 5 + 4, none⟩ = some (.int .i64 (X k).Heir) := (hB.cell hb).trans (H.out.2 k hlt 4 (by omega))
      have hbr : b < wr.heap.size := by have := hB.size; omega
      have hbr1 : b < wr.heap.size + 1 := by omega
      have HN1 := hid (hnm.out k hlt)
      by_cases h1 : makerB (X k) = true
      · have hh := maker_bd h1
        by_cases h2 : 0 < k
        · have e0 : IntKind.i64.wrap ((k : Int) - 1) = (k : Int) - 1 := IntWalk.i64_in _ (by omega)
          have e1 : ((k : Int) - 1).toNat = k - 1 := by omega
          have e2 : (0 : Int) ≤ (k : Int) - 1 := by omega
          have e3 : (k : Int) - 1 < (len : Int) := by omega
          have p0 : wr.cell? ⟨b, off + (k - 1) * 5, none⟩ = some (.int .i64 (X (k - 1)).Id) := (hB.cell hb).trans (H.out.2 (k - 1) (by omega) 0 (by omega))
          by_cases h3 : (X (k - 1)).Id < (X k).Id
          · have d3 : decide ((X k).Id ≤ (X (k - 1)).Id) = false := by simp; omega
            have hmk : Hid (makerOk X len k = heirB X len k) := hid (mk_ok h1 (.inr h3))
            clear h3
            go_wp2_with fail
            have hq := fun x : Later (wr.alloc (.cells #[.int .i64 (X k).Id, .string (X k).Name, .int .i64 (X k).From, .int .i64 (X k).Until, .int .i64 (X k).Heir] 26)) => x.cell
            refine region_later (by kernel_rfl) (by kernel_rfl) ?_
            repeat (go_big_quiet_step ((go_at_call 18; refine calls_later (maker_impl (X k) HN1.out _))))
            refine wpQuiet_nil ?_
            intro _ hw'
            obtain ⟨x, rfl⟩ := hw'
            have hB1 : Below w.heap.size w x.wd := Below.on (hB.alloc hB.size _) (by have := hB.size; simp; omega) x.below
            clear hq
            have y0 : x.wd.cell? ⟨wr.heap.size, 0, none⟩ = some (.int .i64 (X k).Id) := (x.cell _ _ (by simp)).trans (by simp [go_sem])
            have y1 : x.wd.cell? ⟨wr.heap.size, 1, none⟩ = some (.string (X k).Name) := (x.cell _ _ (by simp)).trans (by simp [go_sem])
            have y2 : x.wd.cell? ⟨wr.heap.size, 2, none⟩ = some (.int .i64 (X k).From) := (x.cell _ _ (by simp)).trans (by simp [go_sem])
            have y3 : x.wd.cell? ⟨wr.heap.size, 3, none⟩ = some (.int .i64 (X k).Until) := (x.cell _ _ (by simp)).trans (by simp [go_sem])
            have y4 : x.wd.cell? ⟨wr.heap.size, 4, none⟩ = some (.int .i64 (X k).Heir) := (x.cell _ _ (by simp)).trans (by simp [go_sem])
            have lx : wr.heap.size < x.wd.heap.size := by have := x.size; simp at this; omega
            by_cases hz : (X k).Heir = 0
            · have HZ := hid hz
              clear hz
              go_wp2_with fail
              refine (mat_impl _ b off len cap X (X k).Heir (H.out.later' hB1) hm hlc).mono ?_
              rintro e w2 ⟨he, hb2⟩
              have B2 : Below w.heap.size w w2 := Below.on hB1 hB1.size hb2
              have v0 : w2.cell? ⟨wr.heap.size, 0, none⟩ = some (.int .i64 (X k).Id) := (hb2.cell lx).trans y0
              have v1 : w2.cell? ⟨wr.heap.size, 1, none⟩ = some (.string (X k).Name) := (hb2.cell lx).trans y1
              have v2 : w2.cell? ⟨wr.heap.size, 2, none⟩ = some (.int .i64 (X k).From) := (hb2.cell lx).trans y2
              have v3 : w2.cell? ⟨wr.heap.size, 3, none⟩ = some (.int .i64 (X k).Until) := (hb2.cell lx).trans y3
              have v4 : w2.cell? ⟨wr.heap.size, 4, none⟩ = some (.int .i64 (X k).Heir) := (hb2.cell lx).trans y4
              have lw2 : wr.heap.size < w2.heap.size := by have := hb2.size; omega
              have hok : Hid (makerOk X len k = true) := hid (hmk.out.trans (heir_0 HZ.out))
              have dz : ((X k).Heir != 0) = false := by simp [HZ.out]
              subst he
              go_wp2_with fail
              have hq := fun x : Later w2 => x.cell
              refine region_later (by kernel_rfl) (by kernel_rfl) ?_
              repeat (go_big_quiet_step (fail))
              refine wpQuiet_nil ?_
              intro _ hw'
              obtain ⟨x2, rfl⟩ := hw'
              have hB3 : Below w.heap.size w x2.wd := Below.on B2 B2.size x2.below
              clear hq
              go_wp2_with fail
              go_roundw
              case rel => exact ⟨k + 1, by omega, by go_num, hB3, fun i hi => by by_cases hik : i < k; exact hf.out i hik; rw [show i = k by omega]; exact hok.out⟩
              case measure => simp [intOf]; omega
            · have dz : ((X k).Heir != 0) = true := by simp [hz]
              go_wp2_with fail
              refine (mat_impl _ b off len cap X (X k).Heir (H.out.later' hB1) hm hlc).mono ?_
              rintro e w2 ⟨he, hb2⟩
              have B2 : Below w.heap.size w w2 := Below.on hB1 hB1.size hb2
              have v0 : w2.cell? ⟨wr.heap.size, 0, none⟩ = some (.int .i64 (X k).Id) := (hb2.cell lx).trans y0
              have v1 : w2.cell? ⟨wr.heap.size, 1, none⟩ = some (.string (X k).Name) := (hb2.cell lx).trans y1
              have v2 : w2.cell? ⟨wr.heap.size, 2, none⟩ = some (.int .i64 (X k).From) := (hb2.cell lx).trans y2
              have v3 : w2.cell? ⟨wr.heap.size, 3, none⟩ = some (.int .i64 (X k).Until) := (hb2.cell lx).trans y3
              have v4 : w2.cell? ⟨wr.heap.size, 4, none⟩ = some (.int .i64 (X k).Heir) := (hb2.cell lx).trans y4
              have lw2 : wr.heap.size < w2.heap.size := by have := hb2.size; omega
              rcases findI_cases (fun i => (X i).Id == (X k).Heir) len with hK | ⟨j, hj, hK, hpj⟩
              · rw [hK] at he
                have HF : Hid (heirI X len k = -1) := hK
                clear hK
                subst he
                have hok : Hid (makerOk X len k = false) := hid (hmk.out.trans (heir_no hz HF.out))
                go_wp2_with fail
                have hq := fun x : Later w2 => x.cell
                refine region_later (by kernel_rfl) (by kernel_rfl) ?_
                repeat (go_big_quiet_step (fail))
                refine wpQuiet_nil ?_
                intro _ hw'
                obtain ⟨x2, rfl⟩ := hw'
                have hB3 : Below w.heap.size w x2.wd := Below.on B2 B2.size x2.below
                clear hq
                go_wp2_with fail
                go_ret
                exact ⟨ret_bool (makersB_bad hlt hok.out).symm, hB3⟩
              · clear hpj
                rw [hK] at he
                have HF : Hid (heirI X len k = (j : Int)) := hK
                clear hK
                subst he
                have lbw : b < w2.heap.size := by have := B2.size; omega
                have e6 : (0 : Int) ≤ (j : Int) := by omega
                have e7 : (j : Int) < (len : Int) := by omega
                have m6 : decide ((j : Int) < 0) = false := by simp
                have p2 : w2.cell? ⟨b, off + j * 5 + 2, none⟩ = some (.int .i64 (X j).From) := (B2.cell hb).trans (H.out.2 j hj 2 (by omega))
                by_cases h5 : (X k).Until < (X j).From
                · have d5 : decide ((X j).From ≤ (X k).Until) = false := by simp; omega
                  have hok : Hid (makerOk X len k = true) := hid (hmk.out.trans ((heir_at hz HF.out).trans (by simp [h5])))
                  clear h5
                  go_wp2_with fail
                  have hq := fun x : Later w2 => x.cell
                  refine region_later (by kernel_rfl) (by kernel_rfl) ?_
                  repeat (go_big_quiet_step (fail))
                  refine wpQuiet_nil ?_
                  intro _ hw'
                  obtain ⟨x2, rfl⟩ := hw'
                  have hB3 : Below w.heap.size w x2.wd := Below.on B2 B2.size x2.below
                  clear hq
                  go_wp2_with fail
                  go_roundw
                  case rel => exact ⟨k + 1, by omega, by go_num, hB3, fun i hi => by by_cases hik : i < k; exact hf.out i hik; rw [show i = k by omega]; exact hok.out⟩
                  case measure => simp [intOf]; omega
                · have d5 : decide ((X j).From ≤ (X k).Until) = true := by simp; omega
                  have hok : Hid (makerOk X len k = false) := hid (hmk.out.trans ((heir_at hz HF.out).trans (by simp [h5])))
                  clear h5
                  go_wp2_with fail
                  have hq := fun x : Later w2 => x.cell
                  refine region_later (by kernel_rfl) (by kernel_rfl) ?_
                  repeat (go_big_quiet_step (fail))
                  refine wpQuiet_nil ?_
                  intro _ hw'
                  obtain ⟨x2, rfl⟩ := hw'
                  have hB3 : Below w.heap.size w x2.wd := Below.on B2 B2.size x2.below
                  clear hq
                  go_wp2_with fail
                  go_ret
                  exact ⟨ret_bool (makersB_bad hlt hok.out).symm, hB3⟩
          · have d3 : decide ((X k).Id ≤ (X (k - 1)).Id) = true := by simp; omega
            have hok : Hid (makerOk X len k = false) := hid (mk_ord h2 h3)
            clear h3
            go_wp2_with fail
            have hq := fun x : Later (wr.alloc (.cells #[.int .i64 (X k).Id, .string (X k).Name, .int .i64 (X k).From, .int .i64 (X k).Until, .int .i64 (X k).Heir] 26)) => x.cell
            refine region_later (by kernel_rfl) (by kernel_rfl) ?_
            repeat (go_big_quiet_step ((go_at_call 18; refine calls_later (maker_impl (X k) HN1.out _))))
            refine wpQuiet_nil ?_
            intro _ hw'
            obtain ⟨x, rfl⟩ := hw'
            have hB1 : Below w.heap.size w x.wd := Below.on (hB.alloc hB.size _) (by have := hB.size; simp; omega) x.below
            clear hq
            go_wp2_with fail
            go_ret
            exact ⟨ret_bool (makersB_bad hlt hok.out).symm, hB1⟩
        · have hkz : k = 0 := by omega
          have h2' : decide ((0 : Int) < (k : Int)) = false := by simp; omega
          have hmk : Hid (makerOk X len k = heirB X len k) := hid (mk_ok h1 (.inl hkz))
          clear hkz
          go_wp2_with fail
          have hq := fun x : Later (wr.alloc (.cells #[.int .i64 (X k).Id, .string (X k).Name, .int .i64 (X k).From, .int .i64 (X k).Until, .int .i64 (X k).Heir] 26)) => x.cell
          refine region_later (by kernel_rfl) (by kernel_rfl) ?_
          repeat (go_big_quiet_step ((go_at_call 18; refine calls_later (maker_impl (X k) HN1.out _))))
          refine wpQuiet_nil ?_
          intro _ hw'
          obtain ⟨x, rfl⟩ := hw'
          have hB1 : Below w.heap.size w x.wd := Below.on (hB.alloc hB.size _) (by have := hB.size; simp; omega) x.below
          clear hq
          have y0 : x.wd.cell? ⟨wr.heap.size, 0, none⟩ = some (.int .i64 (X k).Id) := (x.cell _ _ (by simp)).trans (by simp [go_sem])
          have y1 : x.wd.cell? ⟨wr.heap.size, 1, none⟩ = some (.string (X k).Name) := (x.cell _ _ (by simp)).trans (by simp [go_sem])
          have y2 : x.wd.cell? ⟨wr.heap.size, 2, none⟩ = some (.int .i64 (X k).From) := (x.cell _ _ (by simp)).trans (by simp [go_sem])
          have y3 : x.wd.cell? ⟨wr.heap.size, 3, none⟩ = some (.int .i64 (X k).Until) := (x.cell _ _ (by simp)).trans (by simp [go_sem])
          have y4 : x.wd.cell? ⟨wr.heap.size, 4, none⟩ = some (.int .i64 (X k).Heir) := (x.cell _ _ (by simp)).trans (by simp [go_sem])
          have lx : wr.heap.size < x.wd.heap.size := by have := x.size; simp at this; omega
          by_cases hz : (X k).Heir = 0
          · have HZ := hid hz
            clear hz
            go_wp2_with fail
            refine (mat_impl _ b off len cap X (X k).Heir (H.out.later' hB1) hm hlc).mono ?_
            rintro e w2 ⟨he, hb2⟩
            have B2 : Below w.heap.size w w2 := Below.on hB1 hB1.size hb2
            have v0 : w2.cell? ⟨wr.heap.size, 0, none⟩ = some (.int .i64 (X k).Id) := (hb2.cell lx).trans y0
            have v1 : w2.cell? ⟨wr.heap.size, 1, none⟩ = some (.string (X k).Name) := (hb2.cell lx).trans y1
            have v2 : w2.cell? ⟨wr.heap.size, 2, none⟩ = some (.int .i64 (X k).From) := (hb2.cell lx).trans y2
            have v3 : w2.cell? ⟨wr.heap.size, 3, none⟩ = some (.int .i64 (X k).Until) := (hb2.cell lx).trans y3
            have v4 : w2.cell? ⟨wr.heap.size, 4, none⟩ = some (.int .i64 (X k).Heir) := (hb2.cell lx).trans y4
            have lw2 : wr.heap.size < w2.heap.size := by have := hb2.size; omega
            have hok : Hid (makerOk X len k = true) := hid (hmk.out.trans (heir_0 HZ.out))
            have dz : ((X k).Heir != 0) = false := by simp [HZ.out]
            subst he
            go_wp2_with fail
            have hq := fun x : Later w2 => x.cell
            refine region_later (by kernel_rfl) (by kernel_rfl) ?_
            repeat (go_big_quiet_step (fail))
            refine wpQuiet_nil ?_
            intro _ hw'
            obtain ⟨x2, rfl⟩ := hw'
            have hB3 : Below w.heap.size w x2.wd := Below.on B2 B2.size x2.below
            clear hq
            go_wp2_with fail
            go_roundw
            case rel => exact ⟨k + 1, by omega, by go_num, hB3, fun i hi => by by_cases hik : i < k; exact hf.out i hik; rw [show i = k by omega]; exact hok.out⟩
            case measure => simp [intOf]; omega
          · have dz : ((X k).Heir != 0) = true := by simp [hz]
            go_wp2_with fail
            refine (mat_impl _ b off len cap X (X k).Heir (H.out.later' hB1) hm hlc).mono ?_
            rintro e w2 ⟨he, hb2⟩
            have B2 : Below w.heap.size w w2 := Below.on hB1 hB1.size hb2
            have v0 : w2.cell? ⟨wr.heap.size, 0, none⟩ = some (.int .i64 (X k).Id) := (hb2.cell lx).trans y0
            have v1 : w2.cell? ⟨wr.heap.size, 1, none⟩ = some (.string (X k).Name) := (hb2.cell lx).trans y1
            have v2 : w2.cell? ⟨wr.heap.size, 2, none⟩ = some (.int .i64 (X k).From) := (hb2.cell lx).trans y2
            have v3 : w2.cell? ⟨wr.heap.size, 3, none⟩ = some (.int .i64 (X k).Until) := (hb2.cell lx).trans y3
            have v4 : w2.cell? ⟨wr.heap.size, 4, none⟩ = some (.int .i64 (X k).Heir) := (hb2.cell lx).trans y4
            have lw2 : wr.heap.size < w2.heap.size := by have := hb2.size; omega
            rcases findI_cases (fun i => (X i).Id == (X k).Heir) len with hK | ⟨j, hj, hK, hpj⟩
            · rw [hK] at he
              have HF : Hid (heirI X len k = -1) := hK
              clear hK
              subst he
              have hok : Hid (makerOk X len k = false) := hid (hmk.out.trans (heir_no hz HF.out))
              go_wp2_with fail
              have hq := fun x : Later w2 => x.cell
              refine region_later (by kernel_rfl) (by kernel_rfl) ?_
              repeat (go_big_quiet_step (fail))
              refine wpQuiet_nil ?_
              intro _ hw'
              obtain ⟨x2, rfl⟩ := hw'
              have hB3 : Below w.heap.size w x2.wd := Below.on B2 B2.size x2.below
              clear hq
              go_wp2_with fail
              go_ret
              exact ⟨ret_bool (makersB_bad hlt hok.out).symm, hB3⟩
            · clear hpj
              rw [hK] at he
              have HF : Hid (heirI X len k = (j : Int)) := hK
              clear hK
              subst he
              have lbw : b < w2.heap.size := by have := B2.size; omega
              have e6 : (0 : Int) ≤ (j : Int) := by omega
              have e7 : (j : Int) < (len : Int) := by omega
              have m6 : decide ((j : Int) < 0) = false := by simp
              have p2 : w2.cell? ⟨b, off + j * 5 + 2, none⟩ = some (.int .i64 (X j).From) := (B2.cell hb).trans (H.out.2 j hj 2 (by omega))
              by_cases h5 : (X k).Until < (X j).From
              · have d5 : decide ((X j).From ≤ (X k).Until) = false := by simp; omega
                have hok : Hid (makerOk X len k = true) := hid (hmk.out.trans ((heir_at hz HF.out).trans (by simp [h5])))
                clear h5
                go_wp2_with fail
                have hq := fun x : Later w2 => x.cell
                refine region_later (by kernel_rfl) (by kernel_rfl) ?_
                repeat (go_big_quiet_step (fail))
                refine wpQuiet_nil ?_
                intro _ hw'
                obtain ⟨x2, rfl⟩ := hw'
                have hB3 : Below w.heap.size w x2.wd := Below.on B2 B2.size x2.below
                clear hq
                go_wp2_with fail
                go_roundw
                case rel => exact ⟨k + 1, by omega, by go_num, hB3, fun i hi => by by_cases hik : i < k; exact hf.out i hik; rw [show i = k by omega]; exact hok.out⟩
                case measure => simp [intOf]; omega
              · have d5 : decide ((X j).From ≤ (X k).Until) = true := by simp; omega
                have hok : Hid (makerOk X len k = false) := hid (hmk.out.trans ((heir_at hz HF.out).trans (by simp [h5])))
                clear h5
                go_wp2_with fail
                have hq := fun x : Later w2 => x.cell
                refine region_later (by kernel_rfl) (by kernel_rfl) ?_
                repeat (go_big_quiet_step (fail))
                refine wpQuiet_nil ?_
                intro _ hw'
                obtain ⟨x2, rfl⟩ := hw'
                have hB3 : Below w.heap.size w x2.wd := Below.on B2 B2.size x2.below
                clear hq
                go_wp2_with fail
                go_ret
                exact ⟨ret_bool (makersB_bad hlt hok.out).symm, hB3⟩
      · have h1' : makerB (X k) = false := by simpa using h1
        have hok : Hid (makerOk X len k = false) := hid (mk_inv h1')
        clear h1
        go_wp2_with fail
        have hq := fun x : Later (wr.alloc (.cells #[.int .i64 (X k).Id, .string (X k).Name, .int .i64 (X k).From, .int .i64 (X k).Until, .int .i64 (X k).Heir] 26)) => x.cell
        refine region_later (by kernel_rfl) (by kernel_rfl) ?_
        repeat (go_big_quiet_step ((go_at_call 18; refine calls_later (maker_impl (X k) HN1.out _))))
        refine wpQuiet_nil ?_
        intro _ hw'
        obtain ⟨x, rfl⟩ := hw'
        have hB1 : Below w.heap.size w x.wd := Below.on (hB.alloc hB.size _) (by have := hB.size; simp; omega) x.below
        clear hq
        go_wp2_with fail
        go_ret
        exact ⟨ret_bool (makersB_bad hlt hok.out).symm, hB1⟩
    · go_wp2_with fail
      go_ret
      exact ⟨ret_bool (makersB_end (fun i hi => hf.out i (by omega))), hB⟩

theorem areMakers_spec (w : World) (b off len cap : Nat) (X : Nat → MakerD) (h : Rw w b off 5 len (fun i => (X i).cells)) (hm : len ≤ 1048576) (hlc : len ≤ cap) (hnm : ∀ i, i < len → (X i).Name.size ≤ maxLen) :
    Calls Try.prog 29 #[.slice (some ⟨b, off, none⟩) len cap] w fun e w' => e = .returned (.bool (makersB X len)) ∧ Below w.heap.size w w' := by
  have HN := hid hnm
  have H := hid h
  clear h hnm
  go_enter Try.func29, Try.ntmps29
  go_wp2_with fail
  refine (makers_spec _ b off len cap X H.out hm hlc HN.out).mono ?_
  rintro e w1 ⟨rfl, hb1⟩
  go_wp2_with fail
  go_ret
  exact ⟨rfl, hb1⟩

set_option maxHeartbeats 2000000 in
theorem walk_ExactAreMakers (w : World) (p0 : Option Addr) (len0 cap0 : Nat) (X0 : Nat → MakerD) (h0 : Sl w 5 p0 len0 (fun i => (X0 i).cells)) (ok0 : ∀ i, i < len0 → (X0 i).ok) (hm0 : len0 ≤ maxLen) :
    Calls Try.prog 6 #[.slice p0 len0 cap0] w fun e w' => e = .returned (.bool true) ∧ Below w.heap.size w w' := by
  go_enter Try.func6, Try.ntmps6
  go_wp2_with fail
  refine (szMakerS_any p0 len0 cap0 X0 _ h0 ok0 hm0).mono ?_
  rintro e w0 ⟨r, rfl, hb0, hr⟩
  clear ok0
  by_cases hr0 : r < 0
  · go_wp2_with fail
    go_ret
    exact ⟨rfl, hb0⟩
  · obtain ⟨hL, hnm⟩ := hr (by omega)
    clear hr
    go_wp2_with fail
    refine (toMakerS_any p0 len0 cap0 X0 _ (h0.below hb0) (by omega)).mono ?_
    rintro e w1 ⟨rfl, hb1, hs1, F1⟩
    have B1 : Below w.heap.size w w1 := Below.on hb0 hb0.size hb1
    go_wp2_with fail
    refine (areMakers_spec _ _ 0 len0 len0 X0 F1.rw (by omega) (Nat.le_refl _) (fun i hi => by have := hnm i hi; unfold maxLen; omega)).mono ?_
    rintro e w2 ⟨rfl, hb2⟩
    have B2 : Below w.heap.size w w2 := Below.on B1 B1.size hb2
    go_wp2_with fail
    refine (toMakerS_any p0 len0 cap0 X0 _ (h0.below B2) (by omega)).mono ?_
    rintro e w3 ⟨rfl, hb3, hs3, F3⟩
    have B3 : Below w.heap.size w w3 := Below.on B2 B2.size hb3
    go_wp2_with fail
    refine (makers_impl _ _ 0 len0 len0 X0 F3.rw (by omega) (Nat.le_refl _) (fun i hi => by have := hnm i hi; unfold maxLen; omega)).mono ?_
    rintro e w4 ⟨rfl, hb4⟩
    have B4 : Below w.heap.size w w4 := Below.on B3 B3.size hb4
    go_wp2_with fail
    refine (toMakerS_any p0 len0 cap0 X0 _ (h0.below B4) (by omega)).mono ?_
    rintro e w5 ⟨rfl, hb5, hs5, F5⟩
    have B5 : Below w.heap.size w w5 := Below.on B4 B4.size hb5
    go_wp2_with fail
    refine (eqMakerS_same _ _ 0 0 len0 len0 len0 X0 _ ((F3.rw.later' hb4).later' hb5) F5.rw (by omega) (Nat.le_refl _) (Nat.le_refl _)).mono ?_
    rintro e w6 ⟨rfl, hb6⟩
    have B6 : Below w.heap.size w w6 := Below.on B5 B5.size hb6
    go_wp2_with fail
    go_ret
    exact ⟨rfl, B6⟩

end Go.Proofs.Ytlcgjcbpoinboaa
