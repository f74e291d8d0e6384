/-
  Flats and drawers found, by the program. No condition.
-/
import Derived.Test.YtejpmomedclnhaaDrawS4
namespace Go.Proofs.Ytejpmomedclnhaa
open Go.RowKit
set_option linter.unusedVariables false

set_option maxHeartbeats 1000000 in
theorem index_impl (v : Value) (L : List Int) (x : Int) (w : World) (h : HasI w v L) (hL : L.length ≤ 1048576) : Calls Try.prog 111 #[v, .int .i64 x] w fun e w' => e = .returned (.int .i64 (findI (fun i => L.getD i 0 == x) L.length)) ∧ w = w' := by
  obtain ⟨f, n, a, cap, g, off, hf, hn, rfl, hc, ha, hcell⟩ := h.named
  have HA := hid ha
  have HC := hid hcell
  rw [hn] at hL ⊢
  have hfe : (fun i => L.getD i 0 == x) = fun i => f i == x := funext fun i => by rw [hf]
  rw [hfe]
  clear h hf hn ha hcell hfe
  go_enter Try.func111, Try.ntmps111
  go_wp2
  go_loop [8] (fun i => ∃ k : Nat, k ≤ n ∧ i = .int .i64 k ∧ Hid (findI (fun i => f i == x) n = findFrom (fun i => f i == x) k (n - k))) (fun i => n - (intOf i).toNat)
  case atStart => exact ⟨0, by omega, rfl, rfl⟩
  case round =>
    obtain ⟨k, hk, rfl, hf⟩ := hrel
    by_cases hlt : k < n
    · obtain ⟨rfl, hg⟩ := HA.out (by omega)
      have c0 : w.cell? ⟨g, off + k, none⟩ = some (.int .i64 (f k)) := HC.out k hlt
      by_cases h1 : f k = x
      · have d1 : (x == f k) = true := by simp [h1]
        have hok : Hid ((f k == x) = true) := by unfold Hid; simp [h1]
        clear h1
        go_wp2_with fail
        go_ret
        exact ⟨ret_int (findFrom_hit hlt hok.out hf.out).symm, rfl⟩
      · have d1 : (x == f k) = false := by simp; exact fun e => h1 e.symm
        have hok : Hid ((f k == x) = false) := by unfold Hid; simp [h1]
        clear h1
        go_wp2_with fail
        go_round
        case rel => exact ⟨k + 1, by omega, by go_num, findFrom_miss hlt hok.out hf.out⟩
        case measure => simp [intOf]; omega
    · go_wp2_with fail
      go_ret
      exact ⟨ret_int (findFrom_end (by omega) hf.out).symm, rfl⟩
theorem findI_contains (L : List Int) (x : Int) : decide (0 ≤ findI (fun i => L.getD i 0 == x) L.length) = L.contains x := by
  rcases findI_cases (fun i => L.getD i 0 == x) L.length with h | ⟨j, h1, h2, h3⟩
  · rw [h]
    cases hq : L.contains x with
    | false => rfl
    | true =>
      obtain ⟨i, hi⟩ := List.getElem?_of_mem (List.contains_iff_mem.1 hq)
      have hil := (List.getElem?_eq_some_iff.1 hi).1
      have := findI_none h i hil
      simp [List.getD, hi] at this
  · rw [h2]
    have : L.contains x = true := by
      simp [List.getD, h1] at h3
      rw [List.contains_iff_mem, ← h3]
      exact List.getElem_mem h1
    rw [this]; simp
theorem contains_impl (v : Value) (L : List Int) (x : Int) (w : World) (h : HasI w v L) (hL : L.length ≤ 1048576) : Calls Try.prog 97 #[v, .int .i64 x] w fun e w' => e = .returned (.bool (L.contains x)) ∧ w = w' := by
  have K := index_impl v L x w h hL
  have E := findI_contains L x
  obtain ⟨r, hr⟩ : ∃ r, findI (fun i => L.getD i 0 == x) L.length = r := ⟨_, rfl⟩
  rw [hr] at K E
  rw [← E]
  clear hr E
  go_enter Try.func97, Try.ntmps97
  go_wp2_with fail
  refine K.mono ?_
  rintro e w' ⟨rfl, rfl⟩
  go_wp2_with fail
  go_ret
  exact ⟨rfl, rfl⟩

set_option maxHeartbeats 400000 in
theorem idx_int (w : World) (v : Value) (L : List Int) (g : FuncId) (cs : Array Value) (p : Nat → Bool) (hcall : ∀ args w, (callFunc g args).run Try.prog w = .ok (.enter g args) w) (h : HasI w v L) (hL : L.length ≤ 1048576)
    (hg : ∀ (x : Later w) (i : Nat), i < L.length → Calls Try.prog g (#[.int .i64 (L.getD i 0)] ++ cs) x.wd fun e w' => e = .returned (.bool (p i)) ∧ Below x.wd.heap.size x.wd w') :
    Calls Try.prog 94 #[v, .func (.func g) #[] cs] w fun e w' => e = .returned (.int .i64 (findI p L.length)) ∧ Below w.heap.size w w' := by
  obtain ⟨f, n, a, cap, q, off, hf, hn, rfl, hc, ha, hcell⟩ := h.named
  have HG : Hid (∀ (x : Later w) (i : Nat), i < n → Calls Try.prog g (#[.int .i64 (f i)] ++ cs) x.wd fun e w' => e = .returned (.bool (p i)) ∧ Below x.wd.heap.size x.wd w') := fun x i hi => by rw [← hf]; exact hg x i (by omega)
  have HA := hid ha
  have HC := hid hcell
  rw [hn] at hL ⊢
  clear h hf hn ha hcell hg
  go_enter Try.func94, Try.ntmps94
  go_wp2
  go_loopw [8] (fun i wr => ∃ k : Nat, k ≤ n ∧ i = .int .i64 k ∧ Below w.heap.size w wr ∧ Hid (findI p n = findFrom p k (n - k))) (fun i _ => n - (intOf i).toNat)
  case atStart => exact ⟨0, by omega, rfl, Below.refl _ _, rfl⟩
  case round =>
    obtain ⟨k, hk, rfl, hB, hf⟩ := hrel
    by_cases hlt : k < n
    · obtain ⟨rfl, hq⟩ := HA.out (by omega)
      have c0 : wr.cell? ⟨q, off + k, none⟩ = some (.int .i64 (f k)) := (hB.cell hq).trans (HC.out k hlt)
      go_wp2_with fail
      refine (HG.out ⟨wr, hB⟩ k hlt).mono ?_
      rintro e w1 ⟨rfl, hb1⟩
      have hB1 : Below w.heap.size w w1 := Below.on hB hB.size hb1
      by_cases hp : p k = true
      · go_wp2_with fail
        go_ret
        exact ⟨ret_int (findFrom_hit hlt hp hf.out).symm, hB1⟩
      · have hp' : p k = false := by simpa using hp
        clear hp
        go_wp2_with fail
        go_roundw
        case rel => exact ⟨k + 1, by omega, by go_num, hB1, findFrom_miss hlt hp' hf.out⟩
        case measure => simp [intOf]; omega
    · go_wp2_with fail
      go_ret
      exact ⟨ret_int (findFrom_end (by omega) hf.out).symm, hB⟩

theorem containsF_int (w : World) (v : Value) (L : List Int) (g : FuncId) (cs : Array Value) (p : Nat → Bool) (hcall : ∀ args w, (callFunc g args).run Try.prog w = .ok (.enter g args) w) (h : HasI w v L) (hL : L.length ≤ 1048576)
    (hg : ∀ (x : Later w) (i : Nat), i < L.length → Calls Try.prog g (#[.int .i64 (L.getD i 0)] ++ cs) x.wd fun e w' => e = .returned (.bool (p i)) ∧ Below x.wd.heap.size x.wd w') :
    Calls Try.prog 63 #[v, .func (.func g) #[] cs] w fun e w' => e = .returned (.bool (decide (0 ≤ findI p L.length))) ∧ Below w.heap.size w w' := by
  have K := idx_int w v L g cs p hcall h hL hg
  obtain ⟨r, hr⟩ : ∃ r, findI p L.length = r := ⟨_, rfl⟩
  rw [hr] at K ⊢
  clear hr hg h hcall
  go_enter Try.func63, Try.ntmps63
  go_wp2_with fail
  refine K.mono ?_
  rintro e w' ⟨rfl, hb⟩
  go_wp2_with fail
  go_ret
  exact ⟨rfl, hb⟩

set_option maxHeartbeats 400000 in
theorem idx_drawer (w : World) (b off n cap : Nat) (X : Nat → DrawerD) (S : Nat → Value) (g : FuncId) (cs : Array Value) (p : Nat → Bool) (hcall : ∀ args w, (callFunc g args).run Try.prog w = .ok (.enter g args) w) (h : Drs w b off n X S) (hm : n ≤ 1048576) (hlc : n ≤ cap)
    (hg : ∀ (x : Later w) (i : Nat), i < n → Calls Try.prog g (#[(X i).val (S i)] ++ cs) x.wd fun e w' => e = .returned (.bool (p i)) ∧ Below x.wd.heap.size x.wd w') :
    Calls Try.prog 95 #[.slice (some ⟨b, off, none⟩) n cap, .func (.func g) #[] cs] w fun e w' => e = .returned (.int .i64 (findI p n)) ∧ Below w.heap.size w w' := by
  have H := hid h
  have HG := hid hg
  have hb := h.rw.1
  clear h hg
  go_enter Try.func95, Try.ntmps95
  go_wp2
  go_loopw [8] (fun i wr => ∃ k : Nat, k ≤ n ∧ i = .int .i64 k ∧ Below w.heap.size w wr ∧ Hid (findI p n = findFrom p k (n - k))) (fun i _ => n - (intOf i).toNat)
  case atStart => exact ⟨0, by omega, rfl, Below.refl _ _, rfl⟩
  case round =>
    obtain ⟨k, hk, rfl, hB, hf⟩ := hrel
    by_cases hlt : k < n
    · have c0 : wr.cell? ⟨b, off + k * 5, none⟩ = some (.int .i64 (X k).Id) := (hB.cell hb).trans (H.out.rw.2 k hlt 0 (by omega))
      have c1 : wr.cell? ⟨b, off + k * 5 + 1, none⟩ = some (.int .i64 (X k).Wide) := (hB.cell hb).trans (H.out.rw.2 k hlt 1 (by omega))
      have c2 : wr.cell? ⟨b, off + k * 5 + 2, none⟩ = some (.int .i64 (X k).High) := (hB.cell hb).trans (H.out.rw.2 k hlt 2 (by omega))
      have c3 : wr.cell? ⟨b, off + k * 5 + 3, none⟩ = some (.int .i64 (X k).Holds) := (hB.cell hb).trans (H.out.rw.2 k hlt 3 (by omega))
      have c4 : wr.cell? ⟨b, off + k * 5 + 4, none⟩ = some (S k) := (hB.cell hb).trans (H.out.rw.2 k hlt 4 (by omega))
      go_wp2_with fail
      refine (HG.out ⟨wr, hB⟩ k hlt).mono ?_
      rintro e w1 ⟨rfl, hb1⟩
      have hB1 : Below w.heap.size w w1 := Below.on hB hB.size hb1
      by_cases hp : p k = true
      · go_wp2_with fail
        go_ret
        exact ⟨ret_int (findFrom_hit hlt hp hf.out).symm, hB1⟩
      · have hp' : p k = false := by simpa using hp
        clear hp
        go_wp2_with fail
        go_roundw
        case rel => exact ⟨k + 1, by omega, by go_num, hB1, findFrom_miss hlt hp' hf.out⟩
        case measure => simp [intOf]; omega
    · go_wp2_with fail
      go_ret
      exact ⟨ret_int (findFrom_end (by omega) hf.out).symm, hB⟩

theorem drawerWith_1 (d : DrawerD) (v : Value) (id : Int) (b1 : Nat) (w : World) (hd : HasI w v d.Flats) (hL : d.Flats.length ≤ 1048576) (h1 : w.cell? ⟨b1, 0, none⟩ = some (.int .i64 id)) (l1 : b1 < w.heap.size) :
    Calls Try.prog 96 #[d.val v, .pointer (some ⟨b1, 0, none⟩)] w fun e w' => e = .returned (.bool (d.Flats.contains id)) ∧ Below w.heap.size w w' := by
  have K : Hid (∀ w', Below w.heap.size w w' → Calls Try.prog 97 #[v, .int .i64 id] w' fun e w'' => e = .returned (.bool (d.Flats.contains id)) ∧ w' = w'') := fun w' hb => contains_impl v d.Flats id w' (hd.below hb) hL
  obtain ⟨a, cap, rfl, _, _⟩ := hd
  have hA : Below w.heap.size w (w.alloc (.cells #[.int .i64 d.Id, .int .i64 d.Wide, .int .i64 d.High, .int .i64 d.Holds, .slice a d.Flats.length cap] 32)) := by go_grown
  obtain ⟨r, hr⟩ : ∃ r, d.Flats.contains id = r := ⟨_, rfl⟩
  rw [hr] at K ⊢
  clear hr
  go_enter Try.func96, Try.ntmps96
  go_wp2_with fail
  refine (K.out _ hA).mono ?_
  rintro e w' ⟨rfl, rfl⟩
  go_wp2_with fail
  go_ret
  exact ⟨rfl, hA⟩

theorem drawerWith_impl (w : World) (b off n cap : Nat) (X : Nat → DrawerD) (S : Nat → Value) (id : Int) (h : Drs w b off n X S) (hL : ∀ i, i < n → (X i).Flats.length ≤ 1048576) (hm : n ≤ 1048576) (hlc : n ≤ cap) :
    Calls Try.prog 65 #[.slice (some ⟨b, off, none⟩) n cap, .int .i64 id] w fun e w' => e = .returned (.int .i64 (whereI X n id)) ∧ Below w.heap.size w w' := by
  have hB : Below w.heap.size w (w.alloc (.cells #[.int .i64 id] 3)) := by go_grown
  obtain ⟨p, hp⟩ : ∃ p : Nat → Bool, (fun i => (X i).Flats.contains id) = p := ⟨_, rfl⟩
  have hp2 := hid hp
  rw [show whereI X n id = findI p n by unfold whereI; rw [hp]]
  clear hp
  go_enter Try.func65, Try.ntmps65
  go_wp2_with fail
  refine (idx_drawer _ b off n cap X S 96 _ p (fun _ _ => by kernel_rfl) (h.below hB) hm hlc ?_).mono ?_
  · intro x i hi
    have hz := x.size
    rw [← show (X i).Flats.contains id = p i from congrFun hp2.out i]
    refine drawerWith_1 (X i) (S i) id _ _ (((h.has i hi).below hB).below x.below) (hL i hi) ((x.cell _ _ (by simp)).trans ?_) ?_
    · simp [go_sem]
    · simp at hz; omega
  · rintro e w1 ⟨rfl, hb1⟩
    have hB1 : Below w.heap.size w w1 := Below.on hB (by simp) hb1
    go_wp2_with fail
    go_ret
    exact ⟨rfl, hB1⟩

theorem drawerAt_1 (d : DrawerD) (v : Value) (id : Int) (b1 : Nat) (w : World) (hd : HasI w v d.Flats) (h1 : w.cell? ⟨b1, 0, none⟩ = some (.int .i64 id)) (l1 : b1 < w.heap.size) :
    Calls Try.prog 101 #[d.val v, .pointer (some ⟨b1, 0, none⟩)] w fun e w' => e = .returned (.bool (d.Id == id)) ∧ Below w.heap.size w w' := by
  obtain ⟨a, cap, rfl, _, _⟩ := hd
  go_enter Try.func101, Try.ntmps101
  go_wp2
  all_goals go_ret
  all_goals exact ⟨by simp [*], by go_grown⟩

/-- Where the drawer with an id lies; or -1. -/
def dAt (X : Nat → DrawerD) (n : Nat) (id : Int) : Int := findI (fun i => (X i).Id == id) n
theorem drawerAt_impl (w : World) (b off n cap : Nat) (X : Nat → DrawerD) (S : Nat → Value) (id : Int) (h : Drs w b off n X S) (hm : n ≤ 1048576) (hlc : n ≤ cap) :
    Calls Try.prog 72 #[.slice (some ⟨b, off, none⟩) n cap, .int .i64 id] w fun e w' => e = .returned (.int .i64 (dAt X n id)) ∧ Below w.heap.size w w' := by
  have hB : Below w.heap.size w (w.alloc (.cells #[.int .i64 id] 3)) := by go_grown
  go_enter Try.func72, Try.ntmps72
  go_wp2_with fail
  refine (idx_drawer _ b off n cap X S 101 _ (fun i => (X i).Id == id) (fun _ _ => by kernel_rfl) (h.below hB) hm hlc ?_).mono ?_
  · intro x i hi
    have hz := x.size
    refine drawerAt_1 (X i) (S i) id _ _ (((h.has i hi).below hB).below x.below) ((x.cell _ _ (by simp)).trans ?_) ?_
    · simp [go_sem]
    · simp at hz; omega
  · rintro e w1 ⟨rfl, hb1⟩
    have hB1 : Below w.heap.size w w1 := Below.on hB (by simp) hb1
    go_wp2_with fail
    go_ret
    exact ⟨rfl, hB1⟩

theorem fits_impl (f : FlatD) (d : DrawerD) (v : Value) (w : World) : Calls Try.prog 59 #[f.val, d.val v] w fun e w' => e = .returned (.bool (fitsB f d)) ∧ Below w.heap.size w w' := by
  go_enter Try.func59, Try.ntmps59
  go_wp2
  all_goals go_ret
  all_goals exact ⟨ret_bool (by rw [Bool.eq_iff_iff]; simp [fitsB]; omega), by go_grown⟩

set_option maxHeartbeats 400000 in
theorem idx_flat (w : World) (b off len cap : Nat) (X : Nat → FlatD) (g : FuncId) (cs : Array Value) (p : Nat → Bool) (hcall : ∀ args w, (callFunc g args).run Try.prog w = .ok (.enter g args) w) (h : Rw w b off 4 len (fun i => (X i).cells)) (hm : len ≤ 1048576) (hlc : len ≤ cap)
    (hg : ∀ (x : Later w) (i : Nat), i < len → Calls Try.prog g (#[(X i).val] ++ cs) x.wd fun e w' => e = .returned (.bool (p i)) ∧ Below x.wd.heap.size x.wd w') :
    Calls Try.prog 99 #[.slice (some ⟨b, off, none⟩) len cap, .func (.func g) #[] cs] w fun e w' => e = .returned (.int .i64 (findI p len)) ∧ Below w.heap.size w w' := by
  have H := hid h.2
  have HG := hid hg
  have hb := h.1
  clear h hg
  go_enter Try.func99, Try.ntmps99
  go_wp2
  go_loopw [8] (fun i wr => ∃ k : Nat, k ≤ len ∧ i = .int .i64 k ∧ Below w.heap.size w wr ∧ Hid (findI p len = findFrom p k (len - k))) (fun i _ => len - (intOf i).toNat)
  case atStart => exact ⟨0, by omega, rfl, Below.refl _ _, rfl⟩
  case round =>
    obtain ⟨k, hk, rfl, hB, hf⟩ := hrel
    by_cases hlt : k < len
    · have c0 : wr.cell? ⟨b, off + k * 4, none⟩ = some (.int .i64 (X k).Id) := (hB.cell hb).trans (H.out k hlt 0 (by omega))
      have c1 : wr.cell? ⟨b, off + k * 4 + 1, none⟩ = some (.int .i64 (X k).Wide) := (hB.cell hb).trans (H.out k hlt 1 (by omega))
      have c2 : wr.cell? ⟨b, off + k * 4 + 2, none⟩ = some (.int .i64 (X k).High) := (hB.cell hb).trans (H.out k hlt 2 (by omega))
      have c3 : wr.cell? ⟨b, off + k * 4 + 3, none⟩ = some (.int .i64 (X k).Grams) := (hB.cell hb).trans (H.out k hlt 3 (by omega))
      go_wp2_with fail
      refine (HG.out ⟨wr, hB⟩ k hlt).mono ?_
      rintro e w1 ⟨rfl, hb1⟩
      have hB1 : Below w.heap.size w w1 := Below.on hB hB.size hb1
      by_cases hp : p k = true
      · go_wp2_with fail
        go_ret
        exact ⟨ret_int (findFrom_hit hlt hp hf.out).symm, hB1⟩
      · have hp' : p k = false := by simpa using hp
        clear hp
        go_wp2_with fail
        go_roundw
        case rel => exact ⟨k + 1, by omega, by go_num, hB1, findFrom_miss hlt hp' hf.out⟩
        case measure => simp [intOf]; omega
    · go_wp2_with fail
      go_ret
      exact ⟨ret_int (findFrom_end (by omega) hf.out).symm, hB⟩

theorem flatAt_impl_1 (s : FlatD) (id : Int) (b1 : Nat) (w : World) (h1 : w.cell? ⟨b1, 0, none⟩ = some (.int .i64 id)) (l1 : b1 < w.heap.size) :
    Calls Try.prog 100 #[s.val, .pointer (some ⟨b1, 0, none⟩)] w fun e w' => e = .returned (.bool (s.Id == id)) ∧ Below w.heap.size w w' := by
  go_enter Try.func100, Try.ntmps100
  go_wp2
  all_goals go_ret
  all_goals exact ⟨by simp [*], by go_grown⟩

theorem flatAt_impl (w : World) (b off len cap : Nat) (X : Nat → FlatD) (id : Int) (h : Rw w b off 4 len (fun i => (X i).cells)) (hm : len ≤ 1048576) (hlc : len ≤ cap) :
    Calls Try.prog 69 #[.slice (some ⟨b, off, none⟩) len cap, .int .i64 id] w fun e w' => e = .returned (.int .i64 (findI (fun i => (X i).Id == id) len)) ∧ Below w.heap.size w w' := by
  go_enter Try.func69, Try.ntmps69
  go_wp2_with fail
  have hB : Below w.heap.size w (w.alloc (.cells #[.int .i64 id] 3)) := by go_grown
  refine (idx_flat _ b off len cap X 100 _ (fun i => (X i).Id == id) (fun _ _ => by kernel_rfl) (h.later' hB) hm hlc ?_).mono ?_
  · intro x i hi
    have hz := x.size
    refine flatAt_impl_1 (X i) id _ _ ((x.cell _ _ (by simp)).trans ?_) ?_
    · simp [go_sem]
    · simp at hz; omega
  · rintro e w1 ⟨rfl, hb1⟩
    go_wp2_with fail
    go_ret
    exact ⟨rfl, Below.on hB (by simp) hb1⟩

end Go.Proofs.Ytejpmomedclnhaa
