/-
  What a drawer weighs, where a flat lies; by both. No condition.
-/
import Derived.Test.YtejpmomedclnhaaDrawI3
namespace Go.Proofs.Ytejpmomedclnhaa
open Go.RowKit
set_option linter.unusedVariables false

theorem dAt_cases (X : Nat → DrawerD) (n : Nat) (id : Int) : dAt X n id = -1 ∨ ∃ j, j < n ∧ dAt X n id = (j : Int) ∧ (X j).Id = id := by
  rcases findI_cases (fun i => (X i).Id == id) n with h | ⟨j, h1, h2, h3⟩
  · exact .inl h
  · exact .inr ⟨j, h1, h2, by simpa using h3⟩
theorem whereI_cases (X : Nat → DrawerD) (n : Nat) (id : Int) : whereI X n id = -1 ∨ ∃ j, j < n ∧ whereI X n id = (j : Int) := by
  rcases findI_cases (fun i => (X i).Flats.contains id) n with h | ⟨j, h1, h2, h3⟩
  · exact .inl h
  · exact .inr ⟨j, h1, h2⟩
/-- What GramsIn says. -/
def giOk (Y : Nat → FlatD) (m : Nat) (X : Nat → DrawerD) (n : Nat) (id : Int) : Bool := goodB Y m X n && decide (0 ≤ dAt X n id)
def giV (Y : Nat → FlatD) (m : Nat) (X : Nat → DrawerD) (n : Nat) (id : Int) : Int := if giOk Y m X n id = true then gramsR Y m (X (dAt X n id).toNat) else 0
theorem gi_miss {Y : Nat → FlatD} {m : Nat} {X : Nat → DrawerD} {n : Nat} {id : Int} (h : goodB Y m X n = false ∨ dAt X n id = -1) : Ending.returned (.tuple #[.int .i64 0, .bool false]) = .returned (.tuple #[.int .i64 (giV Y m X n id), .bool (giOk Y m X n id)]) := by
  have : giOk Y m X n id = false := by unfold giOk; rcases h with h | h <;> rw [h] <;> simp
  unfold giV
  rw [this]; rfl
theorem gi_hit {Y : Nat → FlatD} {m : Nat} {X : Nat → DrawerD} {n j : Nat} {id v : Int} (h : goodB Y m X n = true) (hj : dAt X n id = (j : Int)) (hv : gramsR Y m (X j) = v) : Ending.returned (.tuple #[.int .i64 v, .bool true]) = .returned (.tuple #[.int .i64 (giV Y m X n id), .bool (giOk Y m X n id)]) := by
  have : giOk Y m X n id = true := by unfold giOk; rw [h, hj]; simp
  unfold giV
  rw [this, if_pos rfl, hj, Int.toNat_natCast, hv]
/-- What DrawerOf says. -/
def doOk (Y : Nat → FlatD) (m : Nat) (X : Nat → DrawerD) (n : Nat) (id : Int) : Bool := goodB Y m X n && decide (0 ≤ fAt Y m id)
def doV (Y : Nat → FlatD) (m : Nat) (X : Nat → DrawerD) (n : Nat) (id : Int) : Int := if doOk Y m X n id = true then (if whereI X n id < 0 then 0 else (X (whereI X n id).toNat).Id) else 0
theorem do_miss {Y : Nat → FlatD} {m : Nat} {X : Nat → DrawerD} {n : Nat} {id : Int} (h : goodB Y m X n = false ∨ fAt Y m id = -1) : Ending.returned (.tuple #[.int .i64 0, .bool false]) = .returned (.tuple #[.int .i64 (doV Y m X n id), .bool (doOk Y m X n id)]) := by
  have : doOk Y m X n id = false := by unfold doOk; rcases h with h | h <;> rw [h] <;> simp
  unfold doV
  rw [this]; rfl
theorem do_none {Y : Nat → FlatD} {m : Nat} {X : Nat → DrawerD} {n j : Nat} {id : Int} (h : goodB Y m X n = true) (hj : fAt Y m id = (j : Int)) (hw : whereI X n id = -1) : Ending.returned (.tuple #[.int .i64 0, .bool true]) = .returned (.tuple #[.int .i64 (doV Y m X n id), .bool (doOk Y m X n id)]) := by
  have : doOk Y m X n id = true := by unfold doOk; rw [h, hj]; simp
  unfold doV
  rw [this, if_pos rfl, if_pos (by omega)]
theorem do_hit {Y : Nat → FlatD} {m : Nat} {X : Nat → DrawerD} {n j i : Nat} {id : Int} (h : goodB Y m X n = true) (hj : fAt Y m id = (j : Int)) (hw : whereI X n id = (i : Int)) : Ending.returned (.tuple #[.int .i64 (X i).Id, .bool true]) = .returned (.tuple #[.int .i64 (doV Y m X n id), .bool (doOk Y m X n id)]) := by
  have : doOk Y m X n id = true := by unfold doOk; rw [h, hj]; simp
  unfold doV
  rw [this, if_pos rfl, if_neg (by omega), hw, Int.toNat_natCast]

theorem areDrawers_spec (b1 o1 m c1 b off n cap : Nat) (Y : Nat → FlatD) (X : Nat → DrawerD) (S : Nat → Value) (w : World) (h1 : Rw w b1 o1 4 m (fun i => (Y i).cells)) (hm1 : m ≤ 1048576) (hlc1 : m ≤ c1) (h : Drs w b off n X S) (hL : ∀ i, i < n → (X i).Flats.length ≤ 1048576) (hm : n ≤ 1048576) (hlc : n ≤ cap) :
    Calls Try.prog 22 #[.slice (some ⟨b1, o1, none⟩) m c1, .slice (some ⟨b, off, none⟩) n cap] w fun e w' => e = .returned (.bool (goodB Y m X n)) ∧ Below w.heap.size w w' := by
  have K := good_spec b1 o1 m c1 b off n cap Y X S w h1 hm1 hlc1 h hL hm hlc
  clear h1 h
  go_enter Try.func22, Try.ntmps22
  go_wp2_with fail
  refine K.mono ?_
  rintro e w' ⟨rfl, hb⟩
  go_wp2_with fail
  go_ret
  exact ⟨rfl, hb⟩

set_option maxHeartbeats 400000 in
theorem dIndex_spec (w : World) (b off n cap : Nat) (X : Nat → DrawerD) (S : Nat → Value) (id : Int) (h : Drs w b off n X S) (hm : n ≤ 1048576) (hlc : n ≤ cap) :
    Calls Try.prog 70 #[.slice (some ⟨b, off, none⟩) n cap, .int .i64 id] w fun e w' => e = .returned (.int .i64 (dAt X n id)) ∧ w = w' := by
  have H := hid h
  have hb := h.rw.1
  clear h
  go_enter Try.func70, Try.ntmps70
  go_wp2
  go_loop [5] (fun i => ∃ k : Nat, k ≤ n ∧ i = .int .i64 k ∧ Hid (dAt X n id = findFrom (fun i => (X i).Id == id) k (n - k))) (fun i => n - (intOf i).toNat)
  case atStart => exact ⟨0, by omega, rfl, rfl⟩
  case round =>
    obtain ⟨k, hk, rfl, hf⟩ := hrel
    by_cases hlt : k < n
    · have c0 : w.cell? ⟨b, off + k * 5, none⟩ = some (.int .i64 (X k).Id) := H.out.rw.2 k hlt 0 (by omega)
      go_wp2
      all_goals first
        | (go_ret; exact ⟨ret_int (findFrom_hit hlt (by simp [*]) hf.out).symm, rfl⟩)
        | (go_round; (case rel => exact ⟨k + 1, by omega, by go_num, findFrom_miss hlt (by simp [*]) hf.out⟩); (case measure => simp [intOf]; omega))
    · go_wp2
      go_ret
      exact ⟨ret_int (findFrom_end (by omega) hf.out).symm, rfl⟩

set_option maxHeartbeats 1000000 in
theorem gramsIn_spec (b1 o1 m c1 b off n cap : Nat) (Y : Nat → FlatD) (X : Nat → DrawerD) (S : Nat → Value) (id : Int) (w : World) (h1 : Rw w b1 o1 4 m (fun i => (Y i).cells)) (hm1 : m ≤ 1048576) (hlc1 : m ≤ c1) (h : Drs w b off n X S) (hL : ∀ i, i < n → (X i).Flats.length ≤ 1048576) (hm : n ≤ 1048576) (hlc : n ≤ cap) :
    Calls Try.prog 30 #[.slice (some ⟨b1, o1, none⟩) m c1, .slice (some ⟨b, off, none⟩) n cap, .int .i64 id] w fun e w' => e = .returned (.tuple #[.int .i64 (giV Y m X n id), .bool (giOk Y m X n id)]) ∧ Below w.heap.size w w' := by
  have KI := dIndex_spec w b off n cap X S id h hm hlc
  have hb1 := h1.1
  have hb := h.rw.1
  have HR := hid h1
  have H := hid h
  have HL := hid hL
  have KG : Hid (∀ w', Below w.heap.size w w' → Calls Try.prog 60 #[.slice (some ⟨b1, o1, none⟩) m c1, .slice (some ⟨b, off, none⟩) n cap] w' fun e w'' => e = .returned (.bool (goodB Y m X n)) ∧ Below w'.heap.size w' w'') := fun w' hbw => good_spec b1 o1 m c1 b off n cap Y X S w' (h1.below hbw hb1) hm1 hlc1 (h.below hbw) hL hm hlc
  clear h1 h hL
  obtain ⟨r, hr⟩ : ∃ r, goodB Y m X n = r := ⟨_, rfl⟩
  rw [hr] at KG
  have HG := hid hr
  clear hr
  rcases dAt_cases X n id with hd | ⟨j, hj, hd, hid1⟩
  · rw [hd] at KI
    have HD := hid hd
    clear hd
    cases r with
    | false =>
      go_enter Try.func30, Try.ntmps30
      go_wp2_with fail
      refine KI.mono ?_
      rintro e w1 ⟨rfl, rfl⟩
      have B1 : Below w.heap.size w w := Below.refl _ _
      go_wp2_with fail
      refine (KG.out w B1).mono ?_
      rintro e w2 ⟨rfl, hb2⟩
      have B2 : Below w.heap.size w w2 := Below.on B1 B1.size hb2
      go_wp2_with fail
      go_ret2
      exact ⟨gi_miss (.inl HG.out), B2⟩
    | true =>
      go_enter Try.func30, Try.ntmps30
      go_wp2_with fail
      refine KI.mono ?_
      rintro e w1 ⟨rfl, rfl⟩
      have B1 : Below w.heap.size w w := Below.refl _ _
      go_wp2_with fail
      refine (KG.out w B1).mono ?_
      rintro e w2 ⟨rfl, hb2⟩
      have B2 : Below w.heap.size w w2 := Below.on B1 B1.size hb2
      go_wp2_with fail
      go_ret2
      exact ⟨gi_miss (.inr HD.out), B2⟩
  · clear hid1
    rw [hd] at KI
    have HD := hid hd
    clear hd
    have e2 : (0 : Int) ≤ (j : Int) := by omega
    have e3 : (j : Int) < (n : Int) := by omega
    have e4 : decide ((j : Int) < 0) = false := by simp
    cases r with
    | false =>
      go_enter Try.func30, Try.ntmps30
      go_wp2_with fail
      refine KI.mono ?_
      rintro e w1 ⟨rfl, rfl⟩
      have B1 : Below w.heap.size w w := Below.refl _ _
      go_wp2_with fail
      refine (KG.out w B1).mono ?_
      rintro e w2 ⟨rfl, hb2⟩
      have B2 : Below w.heap.size w w2 := Below.on B1 B1.size hb2
      go_wp2_with fail
      go_ret2
      exact ⟨gi_miss (.inl HG.out), B2⟩
    | true =>
      go_enter Try.func30, Try.ntmps30
      go_wp2_with fail
      refine KI.mono ?_
      rintro e w1 ⟨rfl, rfl⟩
      have B1 : Below w.heap.size w w := Below.refl _ _
      go_wp2_with fail
      refine (KG.out w B1).mono ?_
      rintro e w2 ⟨rfl, hb2⟩
      have B2 : Below w.heap.size w w2 := Below.on B1 B1.size hb2
      have x0 : w2.cell? ⟨b, off + j * 5, none⟩ = some (.int .i64 (X j).Id) := (B2.cell hb).trans (H.out.rw.2 j hj 0 (by omega))
      have x1 : w2.cell? ⟨b, off + j * 5 + 1, none⟩ = some (.int .i64 (X j).Wide) := (B2.cell hb).trans (H.out.rw.2 j hj 1 (by omega))
      have x2 : w2.cell? ⟨b, off + j * 5 + 2, none⟩ = some (.int .i64 (X j).High) := (B2.cell hb).trans (H.out.rw.2 j hj 2 (by omega))
      have x3 : w2.cell? ⟨b, off + j * 5 + 3, none⟩ = some (.int .i64 (X j).Holds) := (B2.cell hb).trans (H.out.rw.2 j hj 3 (by omega))
      have x4 : w2.cell? ⟨b, off + j * 5 + 4, none⟩ = some (S j) := (B2.cell hb).trans (H.out.rw.2 j hj 4 (by omega))
      have K3 := grams_spec b1 o1 m c1 Y (X j) (S j) w2 (HR.out.below B2 hb1) hm1 hlc1 ((H.out.has j hj).below B2) (HL.out j hj)
      obtain ⟨G, hG⟩ : ∃ G, gramsR Y m (X j) = G := ⟨_, rfl⟩
      rw [hG] at K3
      have HGG : Hid (gramsR Y m (X j) = G) := hG
      clear hG
      go_wp2_with fail
      refine K3.mono ?_
      rintro e w3 ⟨rfl, hb3⟩
      go_wp2_with fail
      go_ret2
      exact ⟨gi_hit HG.out HD.out HGG.out, Below.on B2 B2.size hb3⟩

set_option maxHeartbeats 1000000 in
theorem gramsIn_impl (b1 o1 m c1 b off n cap : Nat) (Y : Nat → FlatD) (X : Nat → DrawerD) (S : Nat → Value) (id : Int) (w : World) (h1 : Rw w b1 o1 4 m (fun i => (Y i).cells)) (hm1 : m ≤ 1048576) (hlc1 : m ≤ c1) (h : Drs w b off n X S) (hL : ∀ i, i < n → (X i).Flats.length ≤ 1048576) (hm : n ≤ 1048576) (hlc : n ≤ cap) :
    Calls Try.prog 31 #[.slice (some ⟨b1, o1, none⟩) m c1, .slice (some ⟨b, off, none⟩) n cap, .int .i64 id] w fun e w' => e = .returned (.tuple #[.int .i64 (giV Y m X n id), .bool (giOk Y m X n id)]) ∧ Below w.heap.size w w' := by
  have KI := drawerAt_impl w b off n cap X S id h hm hlc
  have hb1 := h1.1
  have hb := h.rw.1
  have HR := hid h1
  have H := hid h
  have HL := hid hL
  have KG : Hid (∀ w', Below w.heap.size w w' → Calls Try.prog 25 #[.slice (some ⟨b1, o1, none⟩) m c1, .slice (some ⟨b, off, none⟩) n cap] w' fun e w'' => e = .returned (.bool (goodB Y m X n)) ∧ Below w'.heap.size w' w'') := fun w' hbw => good_impl b1 o1 m c1 b off n cap Y X S w' (h1.below hbw hb1) hm1 hlc1 (h.below hbw) hL hm hlc
  clear h1 h hL
  obtain ⟨r, hr⟩ : ∃ r, goodB Y m X n = r := ⟨_, rfl⟩
  rw [hr] at KG
  have HG := hid hr
  clear hr
  rcases dAt_cases X n id with hd | ⟨j, hj, hd, hid1⟩
  · rw [hd] at KI
    have HD := hid hd
    clear hd
    cases r with
    | false =>
      go_enter Try.func31, Try.ntmps31
      go_wp2_with fail
      refine KI.mono ?_
      rintro e w1 ⟨rfl, hbi⟩
      have B1 : Below w.heap.size w w1 := hbi
      go_wp2_with fail
      refine (KG.out w1 B1).mono ?_
      rintro e w2 ⟨rfl, hb2⟩
      have B2 : Below w.heap.size w w2 := Below.on B1 B1.size hb2
      go_wp2_with fail
      go_ret2
      exact ⟨gi_miss (.inl HG.out), B2⟩
    | true =>
      go_enter Try.func31, Try.ntmps31
      go_wp2_with fail
      refine KI.mono ?_
      rintro e w1 ⟨rfl, hbi⟩
      have B1 : Below w.heap.size w w1 := hbi
      go_wp2_with fail
      refine (KG.out w1 B1).mono ?_
      rintro e w2 ⟨rfl, hb2⟩
      have B2 : Below w.heap.size w w2 := Below.on B1 B1.size hb2
      go_wp2_with fail
      go_ret2
      exact ⟨gi_miss (.inr HD.out), B2⟩
  · clear hid1
    rw [hd] at KI
    have HD := hid hd
    clear hd
    have e2 : (0 : Int) ≤ (j : Int) := by omega
    have e3 : (j : Int) < (n : Int) := by omega
    have e4 : decide ((j : Int) < 0) = false := by simp
    cases r with
    | false =>
      go_enter Try.func31, Try.ntmps31
      go_wp2_with fail
      refine KI.mono ?_
      rintro e w1 ⟨rfl, hbi⟩
      have B1 : Below w.heap.size w w1 := hbi
      go_wp2_with fail
      refine (KG.out w1 B1).mono ?_
      rintro e w2 ⟨rfl, hb2⟩
      have B2 : Below w.heap.size w w2 := Below.on B1 B1.size hb2
      go_wp2_with fail
      go_ret2
      exact ⟨gi_miss (.inl HG.out), B2⟩
    | true =>
      go_enter Try.func31, Try.ntmps31
      go_wp2_with fail
      refine KI.mono ?_
      rintro e w1 ⟨rfl, hbi⟩
      have B1 : Below w.heap.size w w1 := hbi
      go_wp2_with fail
      refine (KG.out w1 B1).mono ?_
      rintro e w2 ⟨rfl, hb2⟩
      have B2 : Below w.heap.size w w2 := Below.on B1 B1.size hb2
      have x0 : w2.cell? ⟨b, off + j * 5, none⟩ = some (.int .i64 (X j).Id) := (B2.cell hb).trans (H.out.rw.2 j hj 0 (by omega))
      have x1 : w2.cell? ⟨b, off + j * 5 + 1, none⟩ = some (.int .i64 (X j).Wide) := (B2.cell hb).trans (H.out.rw.2 j hj 1 (by omega))
      have x2 : w2.cell? ⟨b, off + j * 5 + 2, none⟩ = some (.int .i64 (X j).High) := (B2.cell hb).trans (H.out.rw.2 j hj 2 (by omega))
      have x3 : w2.cell? ⟨b, off + j * 5 + 3, none⟩ = some (.int .i64 (X j).Holds) := (B2.cell hb).trans (H.out.rw.2 j hj 3 (by omega))
      have x4 : w2.cell? ⟨b, off + j * 5 + 4, none⟩ = some (S j) := (B2.cell hb).trans (H.out.rw.2 j hj 4 (by omega))
      have K3 := grams_impl b1 o1 m c1 Y (X j) (S j) w2 (HR.out.below B2 hb1) hm1 hlc1 ((H.out.has j hj).below B2) (HL.out j hj) (goodB_okG HG.out hj)
      obtain ⟨G, hG⟩ : ∃ G, sumG Y m (X j).Flats (X j).Flats.length = G := ⟨_, rfl⟩
      rw [hG] at K3
      have HGG : Hid (gramsR Y m (X j) = G) := (goodB_grams HG.out hj).trans hG
      clear hG
      go_wp2_with fail
      refine K3.mono ?_
      rintro e w3 ⟨rfl, hb3⟩
      go_wp2_with fail
      go_ret2
      exact ⟨gi_hit HG.out HD.out HGG.out, Below.on B2 B2.size hb3⟩

set_option maxHeartbeats 1000000 in
theorem drawerOf_spec (b1 o1 m c1 b off n cap : Nat) (Y : Nat → FlatD) (X : Nat → DrawerD) (S : Nat → Value) (id : Int) (w : World) (h1 : Rw w b1 o1 4 m (fun i => (Y i).cells)) (hm1 : m ≤ 1048576) (hlc1 : m ≤ c1) (h : Drs w b off n X S) (hL : ∀ i, i < n → (X i).Flats.length ≤ 1048576) (hm : n ≤ 1048576) (hlc : n ≤ cap) :
    Calls Try.prog 28 #[.slice (some ⟨b1, o1, none⟩) m c1, .slice (some ⟨b, off, none⟩) n cap, .int .i64 id] w fun e w' => e = .returned (.tuple #[.int .i64 (doV Y m X n id), .bool (doOk Y m X n id)]) ∧ Below w.heap.size w w' := by
  have hb1 := h1.1
  have hb := h.rw.1
  have HR := hid h1
  have H := hid h
  have HL := hid hL
  have KG : Calls Try.prog 60 #[.slice (some ⟨b1, o1, none⟩) m c1, .slice (some ⟨b, off, none⟩) n cap] w fun e w'' => e = .returned (.bool (goodB Y m X n)) ∧ Below w.heap.size w w'' := good_spec b1 o1 m c1 b off n cap Y X S w h1 hm1 hlc1 h hL hm hlc
  clear h1 h hL
  obtain ⟨r, hr⟩ : ∃ r, goodB Y m X n = r := ⟨_, rfl⟩
  rw [hr] at KG
  have HG := hid hr
  clear hr
  cases r with
  | false =>
    go_enter Try.func28, Try.ntmps28
    go_wp2_with fail
    refine KG.mono ?_
    rintro e w2 ⟨rfl, hb2⟩
    have B2 : Below w.heap.size w w2 := hb2
    go_wp2_with fail
    go_ret2
    exact ⟨do_miss (.inl HG.out), B2⟩
  | true =>
    rcases fAt_cases Y m id with hd | ⟨j, hj, hd, hid1⟩
    · have HF := hid hd
      clear hd
      go_enter Try.func28, Try.ntmps28
      go_wp2_with fail
      refine KG.mono ?_
      rintro e w2 ⟨rfl, hb2⟩
      have B2 : Below w.heap.size w w2 := hb2
      have KF : Calls Try.prog 67 #[.slice (some ⟨b1, o1, none⟩) m c1, .int .i64 id] w2 fun e w' => e = .returned (.int .i64 (fAt Y m id)) ∧ Below w2.heap.size w2 w' := (flatFind_spec w2 b1 o1 m c1 Y id (HR.out.below B2 hb1) hm1 hlc1).mono (fun _ _ h => ⟨h.1, h.2 ▸ Below.refl _ _⟩)
      rw [HF.out] at KF
      go_wp2_with fail
      refine KF.mono ?_
      rintro e w3 ⟨rfl, hb3⟩
      have B3 : Below w.heap.size w w3 := Below.on B2 B2.size hb3
      go_wp2_with fail
      go_ret2
      exact ⟨do_miss (.inr HF.out), B3⟩
    · clear hid1
      have HF := hid hd
      clear hd
      have e4 : decide ((j : Int) < 0) = false := by simp
      rcases whereI_cases X n id with hw | ⟨i, hi, hw⟩
      · have HW := hid hw
        clear hw
        go_enter Try.func28, Try.ntmps28
        go_wp2_with fail
        refine KG.mono ?_
        rintro e w2 ⟨rfl, hb2⟩
        have B2 : Below w.heap.size w w2 := hb2
        have KF : Calls Try.prog 67 #[.slice (some ⟨b1, o1, none⟩) m c1, .int .i64 id] w2 fun e w' => e = .returned (.int .i64 (fAt Y m id)) ∧ Below w2.heap.size w2 w' := (flatFind_spec w2 b1 o1 m c1 Y id (HR.out.below B2 hb1) hm1 hlc1).mono (fun _ _ h => ⟨h.1, h.2 ▸ Below.refl _ _⟩)
        rw [HF.out] at KF
        go_wp2_with fail
        refine KF.mono ?_
        rintro e w3 ⟨rfl, hb3⟩
        have B3 : Below w.heap.size w w3 := Below.on B2 B2.size hb3
        have KW : Calls Try.prog 68 #[.slice (some ⟨b, off, none⟩) n cap, .int .i64 id] w3 fun e w' => e = .returned (.int .i64 (whereI X n id)) ∧ Below w3.heap.size w3 w' := (where_spec b off n cap X S id w3 (H.out.below B3) HL.out hm hlc).mono (fun _ _ h => ⟨h.1, h.2 ▸ Below.refl _ _⟩)
        rw [HW.out] at KW
        go_wp2_with fail
        refine KW.mono ?_
        rintro e w4 ⟨rfl, hb4⟩
        have B4 : Below w.heap.size w w4 := Below.on B3 B3.size hb4
        go_wp2_with fail
        go_ret2
        exact ⟨do_none HG.out HF.out HW.out, B4⟩
      · have HW := hid hw
        clear hw
        have e2 : (0 : Int) ≤ (i : Int) := by omega
        have e3 : (i : Int) < (n : Int) := by omega
        have e5 : decide ((i : Int) < 0) = false := by simp
        go_enter Try.func28, Try.ntmps28
        go_wp2_with fail
        refine KG.mono ?_
        rintro e w2 ⟨rfl, hb2⟩
        have B2 : Below w.heap.size w w2 := hb2
        have KF : Calls Try.prog 67 #[.slice (some ⟨b1, o1, none⟩) m c1, .int .i64 id] w2 fun e w' => e = .returned (.int .i64 (fAt Y m id)) ∧ Below w2.heap.size w2 w' := (flatFind_spec w2 b1 o1 m c1 Y id (HR.out.below B2 hb1) hm1 hlc1).mono (fun _ _ h => ⟨h.1, h.2 ▸ Below.refl _ _⟩)
        rw [HF.out] at KF
        go_wp2_with fail
        refine KF.mono ?_
        rintro e w3 ⟨rfl, hb3⟩
        have B3 : Below w.heap.size w w3 := Below.on B2 B2.size hb3
        have KW : Calls Try.prog 68 #[.slice (some ⟨b, off, none⟩) n cap, .int .i64 id] w3 fun e w' => e = .returned (.int .i64 (whereI X n id)) ∧ Below w3.heap.size w3 w' := (where_spec b off n cap X S id w3 (H.out.below B3) HL.out hm hlc).mono (fun _ _ h => ⟨h.1, h.2 ▸ Below.refl _ _⟩)
        rw [HW.out] at KW
        go_wp2_with fail
        refine KW.mono ?_
        rintro e w4 ⟨rfl, hb4⟩
        have B4 : Below w.heap.size w w4 := Below.on B3 B3.size hb4
        have c0 : w4.cell? ⟨b, off + i * 5, none⟩ = some (.int .i64 (X i).Id) := (B4.cell hb).trans (H.out.rw.2 i hi 0 (by omega))
        go_wp2_with fail
        go_ret2
        exact ⟨do_hit HG.out HF.out HW.out, B4⟩

set_option maxHeartbeats 1000000 in
theorem drawerOf_impl (b1 o1 m c1 b off n cap : Nat) (Y : Nat → FlatD) (X : Nat → DrawerD) (S : Nat → Value) (id : Int) (w : World) (h1 : Rw w b1 o1 4 m (fun i => (Y i).cells)) (hm1 : m ≤ 1048576) (hlc1 : m ≤ c1) (h : Drs w b off n X S) (hL : ∀ i, i < n → (X i).Flats.length ≤ 1048576) (hm : n ≤ 1048576) (hlc : n ≤ cap) :
    Calls Try.prog 29 #[.slice (some ⟨b1, o1, none⟩) m c1, .slice (some ⟨b, off, none⟩) n cap, .int .i64 id] w fun e w' => e = .returned (.tuple #[.int .i64 (doV Y m X n id), .bool (doOk Y m X n id)]) ∧ Below w.heap.size w w' := by
  have hb1 := h1.1
  have hb := h.rw.1
  have HR := hid h1
  have H := hid h
  have HL := hid hL
  have KG : Calls Try.prog 25 #[.slice (some ⟨b1, o1, none⟩) m c1, .slice (some ⟨b, off, none⟩) n cap] w fun e w'' => e = .returned (.bool (goodB Y m X n)) ∧ Below w.heap.size w w'' := good_impl b1 o1 m c1 b off n cap Y X S w h1 hm1 hlc1 h hL hm hlc
  clear h1 h hL
  obtain ⟨r, hr⟩ : ∃ r, goodB Y m X n = r := ⟨_, rfl⟩
  rw [hr] at KG
  have HG := hid hr
  clear hr
  cases r with
  | false =>
    go_enter Try.func29, Try.ntmps29
    go_wp2_with fail
    refine KG.mono ?_
    rintro e w2 ⟨rfl, hb2⟩
    have B2 : Below w.heap.size w w2 := hb2
    go_wp2_with fail
    go_ret2
    exact ⟨do_miss (.inl HG.out), B2⟩
  | true =>
    rcases fAt_cases Y m id with hd | ⟨j, hj, hd, hid1⟩
    · have HF := hid hd
      clear hd
      go_enter Try.func29, Try.ntmps29
      go_wp2_with fail
      refine KG.mono ?_
      rintro e w2 ⟨rfl, hb2⟩
      have B2 : Below w.heap.size w w2 := hb2
      have KF : Calls Try.prog 69 #[.slice (some ⟨b1, o1, none⟩) m c1, .int .i64 id] w2 fun e w' => e = .returned (.int .i64 (fAt Y m id)) ∧ Below w2.heap.size w2 w' := flatAt_impl w2 b1 o1 m c1 Y id (HR.out.below B2 hb1) hm1 hlc1
      rw [HF.out] at KF
      go_wp2_with fail
      refine KF.mono ?_
      rintro e w3 ⟨rfl, hb3⟩
      have B3 : Below w.heap.size w w3 := Below.on B2 B2.size hb3
      go_wp2_with fail
      go_ret2
      exact ⟨do_miss (.inr HF.out), B3⟩
    · clear hid1
      have HF := hid hd
      clear hd
      have e4 : decide ((j : Int) < 0) = false := by simp
      rcases whereI_cases X n id with hw | ⟨i, hi, hw⟩
      · have HW := hid hw
        clear hw
        go_enter Try.func29, Try.ntmps29
        go_wp2_with fail
        refine KG.mono ?_
        rintro e w2 ⟨rfl, hb2⟩
        have B2 : Below w.heap.size w w2 := hb2
        have KF : Calls Try.prog 69 #[.slice (some ⟨b1, o1, none⟩) m c1, .int .i64 id] w2 fun e w' => e = .returned (.int .i64 (fAt Y m id)) ∧ Below w2.heap.size w2 w' := flatAt_impl w2 b1 o1 m c1 Y id (HR.out.below B2 hb1) hm1 hlc1
        rw [HF.out] at KF
        go_wp2_with fail
        refine KF.mono ?_
        rintro e w3 ⟨rfl, hb3⟩
        have B3 : Below w.heap.size w w3 := Below.on B2 B2.size hb3
        have KW : Calls Try.prog 65 #[.slice (some ⟨b, off, none⟩) n cap, .int .i64 id] w3 fun e w' => e = .returned (.int .i64 (whereI X n id)) ∧ Below w3.heap.size w3 w' := drawerWith_impl w3 b off n cap X S id (H.out.below B3) HL.out hm hlc
        rw [HW.out] at KW
        go_wp2_with fail
        refine KW.mono ?_
        rintro e w4 ⟨rfl, hb4⟩
        have B4 : Below w.heap.size w w4 := Below.on B3 B3.size hb4
        go_wp2_with fail
        go_ret2
        exact ⟨do_none HG.out HF.out HW.out, B4⟩
      · have HW := hid hw
        clear hw
        have e2 : (0 : Int) ≤ (i : Int) := by omega
        have e3 : (i : Int) < (n : Int) := by omega
        have e5 : decide ((i : Int) < 0) = false := by simp
        go_enter Try.func29, Try.ntmps29
        go_wp2_with fail
        refine KG.mono ?_
        rintro e w2 ⟨rfl, hb2⟩
        have B2 : Below w.heap.size w w2 := hb2
        have KF : Calls Try.prog 69 #[.slice (some ⟨b1, o1, none⟩) m c1, .int .i64 id] w2 fun e w' => e = .returned (.int .i64 (fAt Y m id)) ∧ Below w2.heap.size w2 w' := flatAt_impl w2 b1 o1 m c1 Y id (HR.out.below B2 hb1) hm1 hlc1
        rw [HF.out] at KF
        go_wp2_with fail
        refine KF.mono ?_
        rintro e w3 ⟨rfl, hb3⟩
        have B3 : Below w.heap.size w w3 := Below.on B2 B2.size hb3
        have KW : Calls Try.prog 65 #[.slice (some ⟨b, off, none⟩) n cap, .int .i64 id] w3 fun e w' => e = .returned (.int .i64 (whereI X n id)) ∧ Below w3.heap.size w3 w' := drawerWith_impl w3 b off n cap X S id (H.out.below B3) HL.out hm hlc
        rw [HW.out] at KW
        go_wp2_with fail
        refine KW.mono ?_
        rintro e w4 ⟨rfl, hb4⟩
        have B4 : Below w.heap.size w w4 := Below.on B3 B3.size hb4
        have c0 : w4.cell? ⟨b, off + i * 5, none⟩ = some (.int .i64 (X i).Id) := (B4.cell hb).trans (H.out.rw.2 i hi 0 (by omega))
        go_wp2_with fail
        go_ret2
        exact ⟨do_hit HG.out HF.out HW.out, B4⟩

end Go.Proofs.Ytejpmomedclnhaa
