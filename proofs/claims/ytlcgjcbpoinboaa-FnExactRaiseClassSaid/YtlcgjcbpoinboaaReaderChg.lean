/-
  Fines laid and paid, classes raised: by the program and by the reference. No condition.
-/
import Derived.Test.YtlcgjcbpoinboaaReaderMem
namespace Go.Proofs.Ytlcgjcbpoinboaa
open Go.RowKit
set_option linter.unusedVariables false
set_option maxRecDepth 100000

theorem RetReader.cells {w : World} {g n : Nat} {X : Nat → ReaderD} (h : Rw w g 0 5 n (fun i => ((lstReader X n).getD i default).cells)) {j : Nat} (hj : j < n) :
    w.cell? ⟨g, j * 5 + 3, none⟩ = some (.int .i64 (X j).Class) ∧ w.cell? ⟨g, j * 5 + 4, none⟩ = some (.int .i64 (X j).Fines) := by
  have h3 := h.2 j hj 3 (by omega)
  have h4 := h.2 j hj 4 (by omega)
  rw [Nat.zero_add] at h3 h4
  simp only [lstReader_at hj] at h3 h4
  exact ⟨h3, h4⟩

abbrev fineS (s : ReaderD) (c : Int) : ReaderD := ⟨s.Id, s.Name, s.Joined, s.Class, s.Fines + c⟩
abbrev payS (s : ReaderD) (c : Int) : ReaderD := ⟨s.Id, s.Name, s.Joined, s.Class, s.Fines - c⟩
abbrev raiseS (s : ReaderD) : ReaderD := ⟨s.Id, s.Name, s.Joined, s.Class + 1, s.Fines⟩

def fineG (X : Nat → ReaderD) (n : Nat) (id c : Int) : Bool := decide (0 ≤ findR X n id) && inB c 1 10000
def fineOk (X : Nat → ReaderD) (n : Nat) (id c : Int) : Bool := fineG X n id c && chgOk X n (findR X n id).toNat (fineS (X (findR X n id).toNat) c)
def fineL (X : Nat → ReaderD) (n : Nat) (id c : Int) : List ReaderD := if fineG X n id c = true then chgL X n (findR X n id).toNat (fineS (X (findR X n id).toNat) c) else []
theorem fineL_le (X : Nat → ReaderD) (n : Nat) (id c : Int) : (fineL X n id c).length ≤ n := by
  unfold fineL; split
  · exact chgL_le _ _ _ _
  · simp
theorem fine_miss {X : Nat → ReaderD} {n : Nat} {id c : Int} (h : fineG X n id c = false) : fineL X n id c = [] ∧ fineOk X n id c = false :=
  ⟨by unfold fineL; rw [h]; rfl, by unfold fineOk; rw [h]; rfl⟩
theorem fine_hit {X : Nat → ReaderD} {n j : Nat} {id c : Int} (h : findR X n id = (j : Int)) (hg : fineG X n id c = true) : fineL X n id c = chgL X n j (fineS (X j) c) ∧ fineOk X n id c = chgOk X n j (fineS (X j) c) := by
  unfold fineL fineOk
  rw [hg, h]
  exact ⟨rfl, rfl⟩
theorem fineG_no {X : Nat → ReaderD} {n : Nat} {id c : Int} (h : findR X n id = -1) : fineG X n id c = false := by
  unfold fineG; rw [h]; rfl
theorem fineG_at {X : Nat → ReaderD} {n j : Nat} {id c : Int} (h : findR X n id = (j : Int)) : fineG X n id c = inB c 1 10000 := by
  unfold fineG; rw [h]; simp

def payG (X : Nat → ReaderD) (n : Nat) (id c : Int) : Bool := decide (0 ≤ findR X n id) && inB c 1 10000
def payOk (X : Nat → ReaderD) (n : Nat) (id c : Int) : Bool := payG X n id c && chgOk X n (findR X n id).toNat (payS (X (findR X n id).toNat) (imin c (X (findR X n id).toNat).Fines))
def payL (X : Nat → ReaderD) (n : Nat) (id c : Int) : List ReaderD := if payG X n id c = true then chgL X n (findR X n id).toNat (payS (X (findR X n id).toNat) (imin c (X (findR X n id).toNat).Fines)) else []
theorem payL_le (X : Nat → ReaderD) (n : Nat) (id c : Int) : (payL X n id c).length ≤ n := by
  unfold payL; split
  · exact chgL_le _ _ _ _
  · simp
theorem pay_miss {X : Nat → ReaderD} {n : Nat} {id c : Int} (h : payG X n id c = false) : payL X n id c = [] ∧ payOk X n id c = false :=
  ⟨by unfold payL; rw [h]; rfl, by unfold payOk; rw [h]; rfl⟩
theorem pay_hit {X : Nat → ReaderD} {n j : Nat} {id c : Int} (h : findR X n id = (j : Int)) (hg : payG X n id c = true) : payL X n id c = chgL X n j (payS (X j) (imin c (X j).Fines)) ∧ payOk X n id c = chgOk X n j (payS (X j) (imin c (X j).Fines)) := by
  unfold payL payOk
  rw [hg, h]
  exact ⟨rfl, rfl⟩
theorem payG_no {X : Nat → ReaderD} {n : Nat} {id c : Int} (h : findR X n id = -1) : payG X n id c = false := by
  unfold payG; rw [h]; rfl
theorem payG_at {X : Nat → ReaderD} {n j : Nat} {id c : Int} (h : findR X n id = (j : Int)) : payG X n id c = inB c 1 10000 := by
  unfold payG; rw [h]; simp

def raiseG (X : Nat → ReaderD) (n : Nat) (id d : Int) : Bool := decide (0 ≤ findR X n id) && (inB d 0 4000 && ripeB (X (findR X n id).toNat) d)
def raiseOk (X : Nat → ReaderD) (n : Nat) (id d : Int) : Bool := raiseG X n id d && chgOk X n (findR X n id).toNat (raiseS (X (findR X n id).toNat))
def raiseL (X : Nat → ReaderD) (n : Nat) (id d : Int) : List ReaderD := if raiseG X n id d = true then chgL X n (findR X n id).toNat (raiseS (X (findR X n id).toNat)) else []
theorem raiseL_le (X : Nat → ReaderD) (n : Nat) (id d : Int) : (raiseL X n id d).length ≤ n := by
  unfold raiseL; split
  · exact chgL_le _ _ _ _
  · simp
theorem raise_miss {X : Nat → ReaderD} {n : Nat} {id d : Int} (h : raiseG X n id d = false) : raiseL X n id d = [] ∧ raiseOk X n id d = false :=
  ⟨by unfold raiseL; rw [h]; rfl, by unfold raiseOk; rw [h]; rfl⟩
theorem raise_hit {X : Nat → ReaderD} {n j : Nat} {id d : Int} (h : findR X n id = (j : Int)) (hg : raiseG X n id d = true) : raiseL X n id d = chgL X n j (raiseS (X j)) ∧ raiseOk X n id d = chgOk X n j (raiseS (X j)) := by
  unfold raiseL raiseOk
  rw [hg, h]
  exact ⟨rfl, rfl⟩
theorem raiseG_no {X : Nat → ReaderD} {n : Nat} {id d : Int} (h : findR X n id = -1) : raiseG X n id d = false := by
  unfold raiseG; rw [h]; rfl
theorem raiseG_at {X : Nat → ReaderD} {n j : Nat} {id d : Int} (h : findR X n id = (j : Int)) : raiseG X n id d = (inB d 0 4000 && ripeB (X j) d) := by
  unfold raiseG; rw [h]; simp

def payR (X : Nat → ReaderD) (n : Nat) (id c : Int) : Int := if payG X n id c = true then c - imin c (X (findR X n id).toNat).Fines else 0
theorem payR_miss {X : Nat → ReaderD} {n : Nat} {id c : Int} (h : payG X n id c = false) : payR X n id c = 0 := by unfold payR; rw [h]; rfl
theorem payR_hit {X : Nat → ReaderD} {n j : Nat} {id c : Int} (h : findR X n id = (j : Int)) (hg : payG X n id c = true) : payR X n id c = c - imin c (X j).Fines := by unfold payR; rw [hg, h]; rfl
theorem imin_bd (a b : Int) : imin a b ≤ a ∧ imin a b ≤ b ∧ (imin a b = a ∨ imin a b = b) := by unfold imin; split <;> omega

set_option maxHeartbeats 4000000 in
theorem fine_spec (w : World) (b off len cap : Nat) (X : Nat → ReaderD) (id c : Int) (h : Rw w b off 5 len (fun i => (X i).cells)) (hm : len ≤ 1048576) (hlc : len ≤ cap) (hnm : ∀ i, i < len → (X i).Name.size ≤ maxLen) :
    Calls Try.prog 46 #[.slice (some ⟨b, off, none⟩) len cap, .int .i64 id, .int .i64 c] w (RetReaderB (fineL X len id c) (fineOk X len id c) w) := by
  have H := hid h
  have HN := hid hnm
  have hb := h.1
  clear h hnm
  go_enter Try.func46, Try.ntmps46
  go_wp2_with fail
  refine (find3_spec _ b off len cap X id H.out hm hlc HN.out).mono ?_
  rintro e w1 ⟨he, B1⟩
  have hEm := hid ((OwnReader.empty w1).base B1.size)
  rcases findR_cases X len id with ⟨hK, _⟩ | ⟨j, hj, hK, hS, _⟩
  · rw [hK] at he
    have HK := hid hK
    clear hK
    subst he
    have hG := hid (fineG_no (c := c) HK.out)
    go_wp2_with fail
    go_ret2
    exact ⟨_, by rw [(fine_miss hG.out).2]; rfl, by rw [(fine_miss hG.out).1]; exact hEm.out, B1.alloc B1.size _⟩
  · rw [hK] at he
    have HK := hid hK
    obtain ⟨y0, y1, y2, y3⟩ := readersB_bd hS hj
    have e4 : (0 : Int) ≤ (j : Int) := by omega
    have e5 : (j : Int) < (len : Int) := by omega
    clear hK hS
    subst he
    have c0 : w1.cell? ⟨b, off + j * 5, none⟩ = some (.int .i64 (X j).Id) := (B1.cell hb).trans (H.out.2 j hj 0 (by omega))
    have c1 : w1.cell? ⟨b, off + j * 5 + 1, none⟩ = some (.string (X j).Name) := (B1.cell hb).trans (H.out.2 j hj 1 (by omega))
    have c2 : w1.cell? ⟨b, off + j * 5 + 2, none⟩ = some (.int .i64 (X j).Joined) := (B1.cell hb).trans (H.out.2 j hj 2 (by omega))
    have c3 : w1.cell? ⟨b, off + j * 5 + 3, none⟩ = some (.int .i64 (X j).Class) := (B1.cell hb).trans (H.out.2 j hj 3 (by omega))
    have c4 : w1.cell? ⟨b, off + j * 5 + 4, none⟩ = some (.int .i64 (X j).Fines) := (B1.cell hb).trans (H.out.2 j hj 4 (by omega))
    have lb : b < w1.heap.size := by have := B1.size; omega
    by_cases hc : inB c 1 10000 = true
    · have hc1 : 1 ≤ c ∧ c ≤ 10000 := by simp [inB] at hc; omega
      have n1 : IntKind.i64.wrap ((X j).Fines + c) = (X j).Fines + c := IntWalk.i64_in _ (by omega)
      have hG : fineG X len id c = true := by rw [fineG_at HK.out, hc] <;> rfl
      have HG := hid hG
      clear hG
      have B2 : Below w.heap.size w (w1.alloc (.cells #[.int .i64 (X j).Id, .string (X j).Name, .int .i64 ((X j).Joined), .int .i64 (X j).Class, .int .i64 ((X j).Fines + c)] 33)) := B1.alloc B1.size _
      go_wp2_with (go_at_call 75; refine (cents_spec _ _).mono ?_; rintro e w' ⟨rfl, rfl⟩)
      refine (with_spec _ b off len cap j X ⟨(X j).Id, (X j).Name, (X j).Joined, (X j).Class, (X j).Fines + c⟩ (H.out.later' B2) hm hlc HN.out hj (HN.out j hj)).mono ?_
      rintro e w2 ⟨v, rfl, ho, hb2⟩
      have B3 : Below w.heap.size w w2 := Below.on B2 B2.size hb2
      have ho2 := hid (ho.base (B' := w.heap.size) B2.size)
      clear ho
      go_wp2_with fail
      go_ret2
      exact ⟨_, by rw [(fine_hit HK.out HG.out).2]; rfl, by rw [(fine_hit HK.out HG.out).1]; exact ho2.out, B3⟩
    · have hc' : inB c 1 10000 = false := by simpa using hc
      have hG := hid ((fineG_at (c := c) HK.out).trans hc')
      clear hc
      go_wp2_with (go_at_call 75; refine (cents_spec _ _).mono ?_; rintro e w' ⟨rfl, rfl⟩)
      go_ret2
      exact ⟨_, by rw [(fine_miss hG.out).2]; rfl, by rw [(fine_miss hG.out).1]; exact hEm.out, B1.alloc B1.size _⟩

set_option maxHeartbeats 4000000 in
theorem pay_spec (w : World) (b off len cap : Nat) (X : Nat → ReaderD) (id c : Int) (h : Rw w b off 5 len (fun i => (X i).cells)) (hm : len ≤ 1048576) (hlc : len ≤ cap) (hnm : ∀ i, i < len → (X i).Name.size ≤ maxLen) :
    Calls Try.prog 50 #[.slice (some ⟨b, off, none⟩) len cap, .int .i64 id, .int .i64 c] w (RetReaderIB (payL X len id c) (payR X len id c) (payOk X len id c) w) := by
  have H := hid h
  have HN := hid hnm
  have hb := h.1
  clear h hnm
  go_enter Try.func50, Try.ntmps50
  go_wp2_with fail
  refine (find3_spec _ b off len cap X id H.out hm hlc HN.out).mono ?_
  rintro e w1 ⟨he, B1⟩
  have hEm := hid ((OwnReader.empty w1).base B1.size)
  rcases findR_cases X len id with ⟨hK, _⟩ | ⟨j, hj, hK, hS, _⟩
  · rw [hK] at he
    have HK := hid hK
    clear hK
    subst he
    have hG := hid (payG_no (c := c) HK.out)
    go_wp2_with fail
    go_ret3
    exact ⟨_, by rw [(pay_miss hG.out).2, payR_miss hG.out]; rfl, by rw [(pay_miss hG.out).1]; exact hEm.out, B1.alloc B1.size _⟩
  · rw [hK] at he
    have HK := hid hK
    obtain ⟨y0, y1, y2, y3⟩ := readersB_bd hS hj
    have e4 : (0 : Int) ≤ (j : Int) := by omega
    have e5 : (j : Int) < (len : Int) := by omega
    clear hK hS
    subst he
    have c0 : w1.cell? ⟨b, off + j * 5, none⟩ = some (.int .i64 (X j).Id) := (B1.cell hb).trans (H.out.2 j hj 0 (by omega))
    have c1 : w1.cell? ⟨b, off + j * 5 + 1, none⟩ = some (.string (X j).Name) := (B1.cell hb).trans (H.out.2 j hj 1 (by omega))
    have c2 : w1.cell? ⟨b, off + j * 5 + 2, none⟩ = some (.int .i64 (X j).Joined) := (B1.cell hb).trans (H.out.2 j hj 2 (by omega))
    have c3 : w1.cell? ⟨b, off + j * 5 + 3, none⟩ = some (.int .i64 (X j).Class) := (B1.cell hb).trans (H.out.2 j hj 3 (by omega))
    have c4 : w1.cell? ⟨b, off + j * 5 + 4, none⟩ = some (.int .i64 (X j).Fines) := (B1.cell hb).trans (H.out.2 j hj 4 (by omega))
    have lb : b < w1.heap.size := by have := B1.size; omega
    by_cases hc : inB c 1 10000 = true
    · have hc1 : 1 ≤ c ∧ c ≤ 10000 := by simp [inB] at hc; omega
      obtain ⟨q, hq⟩ : ∃ q, imin c (X j).Fines = q := ⟨_, rfl⟩
      have hqb := imin_bd c (X j).Fines
      rw [hq] at hqb
      have HQ := hid hq
      have n1 : IntKind.i64.wrap ((X j).Fines - q) = (X j).Fines - q := IntWalk.i64_in _ (by omega)
      have n2 : IntKind.i64.wrap (c - q) = c - q := IntWalk.i64_in _ (by omega)
      have hG : payG X len id c = true := by rw [payG_at HK.out, hc] <;> rfl
      have HG := hid hG
      clear hG
      have B2 : Below w.heap.size w (w1.alloc (.cells #[.int .i64 (X j).Id, .string (X j).Name, .int .i64 ((X j).Joined), .int .i64 (X j).Class, .int .i64 ((X j).Fines - q)] 33)) := B1.alloc B1.size _
      go_wp2_with (go_at_call 75; refine (cents_spec _ _).mono ?_; rintro e w' ⟨rfl, rfl⟩)
      refine (least_spec _ _ _).mono ?_
      rintro e wl ⟨rfl, rfl⟩
      rw [hq]
      clear hq
      go_wp2_with fail
      refine (with_spec _ b off len cap j X ⟨(X j).Id, (X j).Name, (X j).Joined, (X j).Class, (X j).Fines - q⟩ (H.out.later' B2) hm hlc HN.out hj (HN.out j hj)).mono ?_
      rintro e w2 ⟨v, rfl, ho, hb2⟩
      have B3 : Below w.heap.size w w2 := Below.on B2 B2.size hb2
      have ho2 := hid (ho.base (B' := w.heap.size) B2.size)
      clear ho
      go_wp2_with fail
      go_ret3
      exact ⟨_, by rw [(pay_hit HK.out HG.out).2, payR_hit HK.out HG.out, HQ.out]; rfl, by rw [(pay_hit HK.out HG.out).1, HQ.out]; exact ho2.out, B3⟩
    · have hc' : inB c 1 10000 = false := by simpa using hc
      have hG := hid ((payG_at (c := c) HK.out).trans hc')
      clear hc
      go_wp2_with (go_at_call 75; refine (cents_spec _ _).mono ?_; rintro e w' ⟨rfl, rfl⟩)
      go_ret3
      exact ⟨_, by rw [(pay_miss hG.out).2, payR_miss hG.out]; rfl, by rw [(pay_miss hG.out).1]; exact hEm.out, B1.alloc B1.size _⟩

set_option maxHeartbeats 4000000 in
theorem raise_spec (w : World) (b off len cap : Nat) (X : Nat → ReaderD) (id d : Int) (h : Rw w b off 5 len (fun i => (X i).cells)) (hm : len ≤ 1048576) (hlc : len ≤ cap) (hnm : ∀ i, i < len → (X i).Name.size ≤ maxLen) :
    Calls Try.prog 48 #[.slice (some ⟨b, off, none⟩) len cap, .int .i64 id, .int .i64 d] w (RetReaderB (raiseL X len id d) (raiseOk X len id d) w) := by
  have H := hid h
  have HN := hid hnm
  have hb := h.1
  clear h hnm
  go_enter Try.func48, Try.ntmps48
  go_wp2_with fail
  refine (find3_spec _ b off len cap X id H.out hm hlc HN.out).mono ?_
  rintro e w1 ⟨he, B1⟩
  have hEm := hid ((OwnReader.empty w1).base B1.size)
  rcases findR_cases X len id with ⟨hK, _⟩ | ⟨j, hj, hK, hS, _⟩
  · rw [hK] at he
    have HK := hid hK
    clear hK
    subst he
    have hG := hid (raiseG_no (d := d) HK.out)
    go_wp2_with fail
    go_ret2
    exact ⟨_, by rw [(raise_miss hG.out).2]; rfl, by rw [(raise_miss hG.out).1]; exact hEm.out, B1.alloc B1.size _⟩
  · rw [hK] at he
    have HK := hid hK
    obtain ⟨y0, y1, y2, y3⟩ := readersB_bd hS hj
    have e4 : (0 : Int) ≤ (j : Int) := by omega
    have e5 : (j : Int) < (len : Int) := by omega
    clear hK hS
    subst he
    have c0 : w1.cell? ⟨b, off + j * 5, none⟩ = some (.int .i64 (X j).Id) := (B1.cell hb).trans (H.out.2 j hj 0 (by omega))
    have c1 : w1.cell? ⟨b, off + j * 5 + 1, none⟩ = some (.string (X j).Name) := (B1.cell hb).trans (H.out.2 j hj 1 (by omega))
    have c2 : w1.cell? ⟨b, off + j * 5 + 2, none⟩ = some (.int .i64 (X j).Joined) := (B1.cell hb).trans (H.out.2 j hj 2 (by omega))
    have c3 : w1.cell? ⟨b, off + j * 5 + 3, none⟩ = some (.int .i64 (X j).Class) := (B1.cell hb).trans (H.out.2 j hj 3 (by omega))
    have c4 : w1.cell? ⟨b, off + j * 5 + 4, none⟩ = some (.int .i64 (X j).Fines) := (B1.cell hb).trans (H.out.2 j hj 4 (by omega))
    have lb : b < w1.heap.size := by have := B1.size; omega
    by_cases hc : inB d 0 4000 = true
    · have hc1 : 0 ≤ d ∧ d ≤ 4000 := by simp [inB] at hc; omega
      go_wp2_with (go_at_call 71; refine (day_spec _ _).mono ?_; rintro e w' ⟨rfl, rfl⟩)
      refine (ripe_spec (X j) d y1 y2 hc1 _).mono ?_
      rintro e w2 ⟨rfl, hb2⟩
      have BR : Below w.heap.size w w2 := Below.on B1 B1.size hb2
      have hEm2 := hid ((OwnReader.empty w2).base BR.size)
      have k0 : w2.cell? ⟨b, off + j * 5, none⟩ = some (.int .i64 (X j).Id) := (BR.cell hb).trans (H.out.2 j hj 0 (by omega))
      have k1 : w2.cell? ⟨b, off + j * 5 + 1, none⟩ = some (.string (X j).Name) := (BR.cell hb).trans (H.out.2 j hj 1 (by omega))
      have k2 : w2.cell? ⟨b, off + j * 5 + 2, none⟩ = some (.int .i64 (X j).Joined) := (BR.cell hb).trans (H.out.2 j hj 2 (by omega))
      have k3 : w2.cell? ⟨b, off + j * 5 + 3, none⟩ = some (.int .i64 (X j).Class) := (BR.cell hb).trans (H.out.2 j hj 3 (by omega))
      have k4 : w2.cell? ⟨b, off + j * 5 + 4, none⟩ = some (.int .i64 (X j).Fines) := (BR.cell hb).trans (H.out.2 j hj 4 (by omega))
      have lb2 : b < w2.heap.size := by have := BR.size; omega
      by_cases hrp : ripeB (X j) d = true
      · have n1 : IntKind.i64.wrap ((X j).Class + 1) = (X j).Class + 1 := IntWalk.i64_in _ (by omega)
        have hG : raiseG X len id d = true := by rw [raiseG_at HK.out, hc, hrp] <;> rfl
        have HG := hid hG
        clear hG
        have B2 : Below w.heap.size w (w2.alloc (.cells #[.int .i64 (X j).Id, .string (X j).Name, .int .i64 ((X j).Joined), .int .i64 ((X j).Class + 1), .int .i64 (X j).Fines] 33)) := BR.alloc BR.size _
        go_wp2_with fail
        refine (with_spec _ b off len cap j X ⟨(X j).Id, (X j).Name, (X j).Joined, (X j).Class + 1, (X j).Fines⟩ (H.out.later' B2) hm hlc HN.out hj (HN.out j hj)).mono ?_
        rintro e w5 ⟨v, rfl, ho, hb5⟩
        have B3 : Below w.heap.size w w5 := Below.on B2 B2.size hb5
        have ho2 := hid (ho.base (B' := w.heap.size) B2.size)
        clear ho
        go_wp2_with fail
        go_ret2
        exact ⟨_, by rw [(raise_hit HK.out HG.out).2]; rfl, by rw [(raise_hit HK.out HG.out).1]; exact ho2.out, B3⟩
      · have hrp' : ripeB (X j) d = false := by simpa using hrp
        have hG := hid ((raiseG_at (d := d) HK.out).trans (by rw [hc, hrp'] <;> rfl))
        clear hrp
        go_wp2_with fail
        go_ret2
        exact ⟨_, by rw [(raise_miss hG.out).2]; rfl, by rw [(raise_miss hG.out).1]; exact hEm2.out, BR.alloc BR.size _⟩
    · have hc' : inB d 0 4000 = false := by simpa using hc
      have hG := hid ((raiseG_at (d := d) HK.out).trans (by rw [hc'] <;> rfl))
      clear hc
      go_wp2_with (go_at_call 71; refine (day_spec _ _).mono ?_; rintro e w' ⟨rfl, rfl⟩)
      go_ret2
      exact ⟨_, by rw [(raise_miss hG.out).2]; rfl, by rw [(raise_miss hG.out).1]; exact hEm.out, B1.alloc B1.size _⟩

theorem chgL_ok {X : Nat → ReaderD} {n j : Nat} {s : ReaderD} (h : chgOk X n j s = true) : chgL X n j s = (lstReader X n).set j s := by unfold chgL; rw [if_pos h]
theorem chgL_no {X : Nat → ReaderD} {n j : Nat} {s : ReaderD} (h : chgOk X n j s = false) : chgL X n j s = [] := by unfold chgL; rw [h]; rfl
theorem findR_of {X : Nat → ReaderD} {n j : Nat} {id : Int} (hS : readersB X n = true) (h : findI (fun i => (X i).Id == id) n = (j : Int)) : findR X n id = (j : Int) := by unfold findR; rw [if_pos hS]; exact h
theorem findR_none {X : Nat → ReaderD} {n : Nat} {id : Int} (h : readersB X n = false ∨ findI (fun i => (X i).Id == id) n = -1) : findR X n id = -1 := by
  unfold findR
  rcases h with h | h
  · rw [h]; rfl
  · split
    · exact h
    · rfl
theorem pay_ok {X : Nat → ReaderD} {n j : Nat} {q : Int} (h : readersB X n = true) (hj : j < n) (h0 : 0 ≤ (X j).Fines - q) (h1 : (X j).Fines - q ≤ 10000) : chgOk X n j (payS (X j) q) = true := by
  refine chg_ok h hj rfl ?_
  have hv := readersB_at h hj
  simp only [readerOk, Bool.and_eq_true] at hv
  have hv := hv.1
  simp [readerB, inB] at hv ⊢
  obtain ⟨⟨⟨⟨h1, h2⟩, h3⟩, h4⟩, h5⟩ := hv
  exact ⟨⟨⟨⟨h1, h2⟩, h3⟩, by omega⟩, by omega⟩
theorem raise_ok {X : Nat → ReaderD} {n j : Nat} (h : readersB X n = true) (hj : j < n) (h0 : (X j).Class < 3) : chgOk X n j (raiseS (X j)) = true := by
  refine chg_ok h hj rfl ?_
  have hv := readersB_at h hj
  simp only [readerOk, Bool.and_eq_true] at hv
  have hv := hv.1
  simp [readerB, inB] at hv ⊢
  obtain ⟨⟨⟨⟨h1, h2⟩, h3⟩, h4⟩, h5⟩ := hv
  exact ⟨⟨⟨⟨h1, h2⟩, h3⟩, by omega⟩, by omega⟩

set_option maxHeartbeats 4000000 in
theorem fine_impl (w : World) (b off len cap : Nat) (X : Nat → ReaderD) (id c : Int) (h : Rw w b off 5 len (fun i => (X i).cells)) (hm : len ≤ 1048576) (hlc : len ≤ cap) (hnm : ∀ i, i < len → (X i).Name.size ≤ maxLen) :
    Calls Try.prog 47 #[.slice (some ⟨b, off, none⟩) len cap, .int .i64 id, .int .i64 c] w (RetReaderB (fineL X len id c) (fineOk X len id c) w) := by
  have H := hid h
  have HN := hid hnm
  have hb := h.1
  clear h hnm
  go_enter Try.func47, Try.ntmps47
  go_wp2_with fail
  refine (rat_impl _ b off len cap X id H.out hm hlc).mono ?_
  rintro e w1 ⟨he, B1⟩
  rcases findI_cases (fun i => (X i).Id == id) len with hK | ⟨j, hj, hK, hpj⟩
  · rw [hK] at he
    have hG := hid (fineG_no (c := c) (findR_none (.inr hK)))
    clear hK
    subst he
    go_wp2_with fail
    refine (readers_impl _ b off len cap X (H.out.later' B1) hm hlc HN.out).mono ?_
    rintro e w2 ⟨rfl, hb2⟩
    have B2 : Below w.heap.size w w2 := Below.on B1 B1.size hb2
    by_cases hS : readersB X len = true
    · go_wp2_with fail
      go_ret2
      exact ⟨_, by rw [(fine_miss hG.out).2]; rfl, by rw [(fine_miss hG.out).1]; exact OwnReader.nil _ _, B2⟩
    · have hS' : readersB X len = false := by simpa using hS
      clear hS
      go_wp2_with fail
      go_ret2
      exact ⟨_, by rw [(fine_miss hG.out).2]; rfl, by rw [(fine_miss hG.out).1]; exact OwnReader.nil _ _, B2⟩
  · clear hpj
    rw [hK] at he
    have HF := hid hK
    clear hK
    subst he
    go_wp2_with fail
    refine (readers_impl _ b off len cap X (H.out.later' B1) hm hlc HN.out).mono ?_
    rintro e w2 ⟨rfl, hb2⟩
    have B2 : Below w.heap.size w w2 := Below.on B1 B1.size hb2
    have e4 : (0 : Int) ≤ (j : Int) := by omega
    have e5 : (j : Int) < (len : Int) := by omega
    by_cases hS : readersB X len = true
    · have HS := hid hS
      have HK := hid (findR_of HS.out HF.out)
      obtain ⟨y0, y1, y2, y3⟩ := readersB_bd hS hj
      by_cases hc : inB c 1 10000 = true
      · have hc1 : 1 ≤ c ∧ c ≤ 10000 := by simp [inB] at hc; omega
        have n1 : IntKind.i64.wrap ((X j).Fines + c) = (X j).Fines + c := IntWalk.i64_in _ (by omega)
        have hG : fineG X len id c = true := by rw [fineG_at HK.out, hc] <;> rfl
        have HG := hid hG
        clear hG
        go_wp2_with (go_at_call 77; refine (cents_impl _ _).mono ?_; rintro e w' ⟨rfl, rfl⟩)
        refine (cloneReader _ b off len cap X (H.out.later' B2) hm hlc).mono ?_
        rintro e w3 ⟨v, rfl, ho, hb3⟩
        have B3 : Below w.heap.size w w3 := Below.on B2 B2.size hb3
        rcases ho.form with ⟨_, h0⟩ | ⟨g, cap', hv, hg, hgl, hcc, hcm, hRw, hBlk⟩
        · have := congrArg List.length h0
          rw [lstReader_length] at this
          simp at this; omega
        · rw [lstReader_length] at hv hcc hRw
          subst hv
          have h0 := set_self_Reader (lstReader X len) j (by rw [lstReader_length]; exact hj)
          rw [lstReader_at hj] at h0
          rw [← h0] at ho
          clear h0
          have hp := hid ((ho.set_Fines (by rw [lstReader_length]) hj ((X j).Fines + c)).base (B' := w.heap.size) B2.size)
          obtain ⟨k3, k4⟩ := RetReader.cells hRw hj
          have z3 := hBlk.frozen (j * 5 + 4)
          have hg' : w.heap.size ≤ g := by have := B2.size; omega
          clear ho hRw hBlk hb3
          go_wp2_with fail
          have hL : ((lstReader X len).set j (fineS (X j) c)).length = len := by simp [lstReader_length]
          rcases hp.out.form with ⟨hv, _⟩ | ⟨g', cap2, hv, _, _, hc3, _, hRw2, _⟩
          · exact absurd hv (by simp)
          · rw [hL] at hv hRw2
            injection hv with e1 e2 e3
            injection e1 with e1
            injection e1 with e1
            subst e1
            subst e3
            refine (readers_impl _ g 0 len cap' (fun i => ((lstReader X len).set j (fineS (X j) c)).getD i default) hRw2 hm (by omega) (chg_names hj HN.out (HN.out j hj))).mono ?_
            rintro e w4 ⟨he, hb4⟩
            change e = .returned (.bool (chgOk X len j (fineS (X j) c))) at he
            subst he
            have B4 : Below w.heap.size w w4 := Below.on (by go_grown : Below w.heap.size w (w3.setCell ⟨g, j * 5 + 4, none⟩ (.int .i64 ((X j).Fines + c)))) (by have := B3.size; simp; omega) hb4
            have hp3 := hid (hp.out.below hb4)
            clear hRw2 hb4 hp k3 k4 z3
            by_cases hk : chgOk X len j (fineS (X j) c) = true
            · have HC := hid hk
              go_wp2_with fail
              go_ret2
              exact ⟨_, by rw [(fine_hit HK.out HG.out).2, HC.out]; rfl, by rw [(fine_hit HK.out HG.out).1, chgL_ok HC.out]; exact hp3.out, B4⟩
            · have hk2 : chgOk X len j (fineS (X j) c) = false := by simpa using hk
              have HC := hid hk2
              clear hk
              go_wp2_with fail
              go_ret2
              exact ⟨_, by rw [(fine_hit HK.out HG.out).2, HC.out]; rfl, by rw [(fine_hit HK.out HG.out).1, chgL_no HC.out]; exact OwnReader.nil _ _, B4⟩
      · have hc' : inB c 1 10000 = false := by simpa using hc
        have hG := hid ((fineG_at (c := c) HK.out).trans hc')
        clear hc
        go_wp2_with (go_at_call 77; refine (cents_impl _ _).mono ?_; rintro e w' ⟨rfl, rfl⟩)
        go_ret2
        exact ⟨_, by rw [(fine_miss hG.out).2]; rfl, by rw [(fine_miss hG.out).1]; exact OwnReader.nil _ _, B2⟩

    · have hS' : readersB X len = false := by simpa using hS
      have hG := hid (fineG_no (id := id) (c := c) (findR_none (.inl hS')))
      clear hS
      go_wp2_with fail
      go_ret2
      exact ⟨_, by rw [(fine_miss hG.out).2]; rfl, by rw [(fine_miss hG.out).1]; exact OwnReader.nil _ _, B2⟩

set_option maxHeartbeats 4000000 in
theorem pay_impl (w : World) (b off len cap : Nat) (X : Nat → ReaderD) (id c : Int) (h : Rw w b off 5 len (fun i => (X i).cells)) (hm : len ≤ 1048576) (hlc : len ≤ cap) (hnm : ∀ i, i < len → (X i).Name.size ≤ maxLen) :
    Calls Try.prog 51 #[.slice (some ⟨b, off, none⟩) len cap, .int .i64 id, .int .i64 c] w (RetReaderIB (payL X len id c) (payR X len id c) (payOk X len id c) w) := by
  have H := hid h
  have HN := hid hnm
  have hb := h.1
  clear h hnm
  go_enter Try.func51, Try.ntmps51
  go_wp2_with fail
  refine (rat_impl _ b off len cap X id H.out hm hlc).mono ?_
  rintro e w1 ⟨he, B1⟩
  rcases findI_cases (fun i => (X i).Id == id) len with hK | ⟨j, hj, hK, hpj⟩
  · rw [hK] at he
    have hG := hid (payG_no (c := c) (findR_none (.inr hK)))
    clear hK
    subst he
    go_wp2_with fail
    refine (readers_impl _ b off len cap X (H.out.later' B1) hm hlc HN.out).mono ?_
    rintro e w2 ⟨rfl, hb2⟩
    have B2 : Below w.heap.size w w2 := Below.on B1 B1.size hb2
    by_cases hS : readersB X len = true
    · go_wp2_with fail
      go_ret3
      exact ⟨_, by rw [(pay_miss hG.out).2, payR_miss hG.out]; rfl, by rw [(pay_miss hG.out).1]; exact OwnReader.nil _ _, B2⟩
    · have hS' : readersB X len = false := by simpa using hS
      clear hS
      go_wp2_with fail
      go_ret3
      exact ⟨_, by rw [(pay_miss hG.out).2, payR_miss hG.out]; rfl, by rw [(pay_miss hG.out).1]; exact OwnReader.nil _ _, B2⟩
  · clear hpj
    rw [hK] at he
    have HF := hid hK
    clear hK
    subst he
    go_wp2_with fail
    refine (readers_impl _ b off len cap X (H.out.later' B1) hm hlc HN.out).mono ?_
    rintro e w2 ⟨rfl, hb2⟩
    have B2 : Below w.heap.size w w2 := Below.on B1 B1.size hb2
    have e4 : (0 : Int) ≤ (j : Int) := by omega
    have e5 : (j : Int) < (len : Int) := by omega
    by_cases hS : readersB X len = true
    · have HS := hid hS
      have HK := hid (findR_of HS.out HF.out)
      obtain ⟨y0, y1, y2, y3⟩ := readersB_bd hS hj
      by_cases hc : inB c 1 10000 = true
      · have hc1 : 1 ≤ c ∧ c ≤ 10000 := by simp [inB] at hc; omega
        obtain ⟨q, hq⟩ : ∃ q, imin c (X j).Fines = q := ⟨_, rfl⟩
        have hqb := imin_bd c (X j).Fines
        rw [hq] at hqb
        have HQ := hid hq
        have hmin := run_min2
        have n1 : IntKind.i64.wrap ((X j).Fines - q) = (X j).Fines - q := IntWalk.i64_in _ (by omega)
        have n2 : IntKind.i64.wrap (c - q) = c - q := IntWalk.i64_in _ (by omega)
        have hG : payG X len id c = true := by rw [payG_at HK.out, hc] <;> rfl
        have HG := hid hG
        clear hG
        go_wp2_with (go_at_call 77; refine (cents_impl _ _).mono ?_; rintro e w' ⟨rfl, rfl⟩)
        refine (cloneReader _ b off len cap X (H.out.later' B2) hm hlc).mono ?_
        rintro e w3 ⟨v, rfl, ho, hb3⟩
        have B3 : Below w.heap.size w w3 := Below.on B2 B2.size hb3
        rcases ho.form with ⟨_, h0⟩ | ⟨g, cap', hv, hg, hgl, hcc, hcm, hRw, hBlk⟩
        · have := congrArg List.length h0
          rw [lstReader_length] at this
          simp at this; omega
        · rw [lstReader_length] at hv hcc hRw
          subst hv
          have h0 := set_self_Reader (lstReader X len) j (by rw [lstReader_length]; exact hj)
          rw [lstReader_at hj] at h0
          rw [← h0] at ho
          clear h0
          have hp := hid ((ho.set_Fines (by rw [lstReader_length]) hj ((X j).Fines - q)).base (B' := w.heap.size) B2.size)
          obtain ⟨k3, k4⟩ := RetReader.cells hRw hj
          have z3 := hBlk.frozen (j * 5 + 4)
          have hg' : w.heap.size ≤ g := by have := B2.size; omega
          clear ho hRw hBlk hb3
          have HC := hid (pay_ok (q := q) HS.out hj (by omega) (by omega))
          go_wp2_with fail
          go_ret3
          exact ⟨_, by rw [(pay_hit HK.out HG.out).2, payR_hit HK.out HG.out, HQ.out, HC.out]; rfl, by rw [(pay_hit HK.out HG.out).1, HQ.out, chgL_ok HC.out]; exact hp.out, by go_grown⟩
      · have hc' : inB c 1 10000 = false := by simpa using hc
        have hG := hid ((payG_at (c := c) HK.out).trans hc')
        clear hc
        go_wp2_with (go_at_call 77; refine (cents_impl _ _).mono ?_; rintro e w' ⟨rfl, rfl⟩)
        go_ret3
        exact ⟨_, by rw [(pay_miss hG.out).2, payR_miss hG.out]; rfl, by rw [(pay_miss hG.out).1]; exact OwnReader.nil _ _, B2⟩

    · have hS' : readersB X len = false := by simpa using hS
      have hG := hid (payG_no (id := id) (c := c) (findR_none (.inl hS')))
      clear hS
      go_wp2_with fail
      go_ret3
      exact ⟨_, by rw [(pay_miss hG.out).2, payR_miss hG.out]; rfl, by rw [(pay_miss hG.out).1]; exact OwnReader.nil _ _, B2⟩

set_option maxHeartbeats 4000000 in
theorem raise_impl (w : World) (b off len cap : Nat) (X : Nat → ReaderD) (id d : Int) (h : Rw w b off 5 len (fun i => (X i).cells)) (hm : len ≤ 1048576) (hlc : len ≤ cap) (hnm : ∀ i, i < len → (X i).Name.size ≤ maxLen) :
    Calls Try.prog 49 #[.slice (some ⟨b, off, none⟩) len cap, .int .i64 id, .int .i64 d] w (RetReaderB (raiseL X len id d) (raiseOk X len id d) w) := by
  have H := hid h
  have HN := hid hnm
  have hb := h.1
  clear h hnm
  go_enter Try.func49, Try.ntmps49
  go_wp2_with fail
  refine (rat_impl _ b off len cap X id H.out hm hlc).mono ?_
  rintro e w1 ⟨he, B1⟩
  rcases findI_cases (fun i => (X i).Id == id) len with hK | ⟨j, hj, hK, hpj⟩
  · rw [hK] at he
    have hG := hid (raiseG_no (d := d) (findR_none (.inr hK)))
    clear hK
    subst he
    go_wp2_with fail
    refine (readers_impl _ b off len cap X (H.out.later' B1) hm hlc HN.out).mono ?_
    rintro e w2 ⟨rfl, hb2⟩
    have B2 : Below w.heap.size w w2 := Below.on B1 B1.size hb2
    by_cases hS : readersB X len = true
    · go_wp2_with fail
      go_ret2
      exact ⟨_, by rw [(raise_miss hG.out).2]; rfl, by rw [(raise_miss hG.out).1]; exact OwnReader.nil _ _, B2⟩
    · have hS' : readersB X len = false := by simpa using hS
      clear hS
      go_wp2_with fail
      go_ret2
      exact ⟨_, by rw [(raise_miss hG.out).2]; rfl, by rw [(raise_miss hG.out).1]; exact OwnReader.nil _ _, B2⟩
  · clear hpj
    rw [hK] at he
    have HF := hid hK
    clear hK
    subst he
    go_wp2_with fail
    refine (readers_impl _ b off len cap X (H.out.later' B1) hm hlc HN.out).mono ?_
    rintro e w2 ⟨rfl, hb2⟩
    have B2 : Below w.heap.size w w2 := Below.on B1 B1.size hb2
    have e4 : (0 : Int) ≤ (j : Int) := by omega
    have e5 : (j : Int) < (len : Int) := by omega
    by_cases hS : readersB X len = true
    · have HS := hid hS
      have HK := hid (findR_of HS.out HF.out)
      obtain ⟨y0, y1, y2, y3⟩ := readersB_bd hS hj
      by_cases hc : inB d 0 4000 = true
      · have hc1 : 0 ≤ d ∧ d ≤ 4000 := by simp [inB] at hc; omega
        have c0 : w2.cell? ⟨b, off + j * 5, none⟩ = some (.int .i64 (X j).Id) := (B2.cell hb).trans (H.out.2 j hj 0 (by omega))
        have c1 : w2.cell? ⟨b, off + j * 5 + 1, none⟩ = some (.string (X j).Name) := (B2.cell hb).trans (H.out.2 j hj 1 (by omega))
        have c2 : w2.cell? ⟨b, off + j * 5 + 2, none⟩ = some (.int .i64 (X j).Joined) := (B2.cell hb).trans (H.out.2 j hj 2 (by omega))
        have c3 : w2.cell? ⟨b, off + j * 5 + 3, none⟩ = some (.int .i64 (X j).Class) := (B2.cell hb).trans (H.out.2 j hj 3 (by omega))
        have c4 : w2.cell? ⟨b, off + j * 5 + 4, none⟩ = some (.int .i64 (X j).Fines) := (B2.cell hb).trans (H.out.2 j hj 4 (by omega))
        have lb : b < w2.heap.size := by have := B2.size; omega
        go_wp2_with (go_at_call 59; refine (day_impl _ _).mono ?_; rintro e w' ⟨rfl, rfl⟩)
        refine (ripe_impl (X j) d y1 y2 hc1 _).mono ?_
        rintro e w5 ⟨rfl, hb5⟩
        have BR : Below w.heap.size w w5 := Below.on B2 B2.size hb5
        by_cases hrp : ripeB (X j) d = true
        · have n1 : IntKind.i64.wrap ((X j).Class + 1) = (X j).Class + 1 := IntWalk.i64_in _ (by omega)
          have hG : raiseG X len id d = true := by rw [raiseG_at HK.out, hc, hrp] <;> rfl
          have HG := hid hG
          clear hG
          go_wp2_with fail
          refine (cloneReader _ b off len cap X (H.out.later' BR) hm hlc).mono ?_
          rintro e w3 ⟨v, rfl, ho, hb3⟩
          have B3 : Below w.heap.size w w3 := Below.on BR BR.size hb3
          rcases ho.form with ⟨_, h0⟩ | ⟨g, cap', hv, hg, hgl, hcc, hcm, hRw, hBlk⟩
          · have := congrArg List.length h0
            rw [lstReader_length] at this
            simp at this; omega
          · rw [lstReader_length] at hv hcc hRw
            subst hv
            have h0 := set_self_Reader (lstReader X len) j (by rw [lstReader_length]; exact hj)
            rw [lstReader_at hj] at h0
            rw [← h0] at ho
            clear h0
            have hp := hid ((ho.set_Class (by rw [lstReader_length]) hj ((X j).Class + 1)).base (B' := w.heap.size) BR.size)
            obtain ⟨k3, k4⟩ := RetReader.cells hRw hj
            have z3 := hBlk.frozen (j * 5 + 3)
            have hg' : w.heap.size ≤ g := by have := BR.size; omega
            clear ho hRw hBlk hb3
            have HC := hid (raise_ok HS.out hj (by simp [ripeB] at hrp; omega))
            go_wp2_with fail
            go_ret2
            exact ⟨_, by rw [(raise_hit HK.out HG.out).2, HC.out]; rfl, by rw [(raise_hit HK.out HG.out).1, chgL_ok HC.out]; exact hp.out, by go_grown⟩
        · have hrp' : ripeB (X j) d = false := by simpa using hrp
          have hG := hid ((raiseG_at (d := d) HK.out).trans (by rw [hc, hrp'] <;> rfl))
          clear hrp
          go_wp2_with fail
          go_ret2
          exact ⟨_, by rw [(raise_miss hG.out).2]; rfl, by rw [(raise_miss hG.out).1]; exact OwnReader.nil _ _, BR⟩
      · have hc' : inB d 0 4000 = false := by simpa using hc
        have hG := hid ((raiseG_at (d := d) HK.out).trans (by rw [hc'] <;> rfl))
        clear hc
        go_wp2_with (go_at_call 59; refine (day_impl _ _).mono ?_; rintro e w' ⟨rfl, rfl⟩)
        go_ret2
        exact ⟨_, by rw [(raise_miss hG.out).2]; rfl, by rw [(raise_miss hG.out).1]; exact OwnReader.nil _ _, B2⟩

    · have hS' : readersB X len = false := by simpa using hS
      have hG := hid (raiseG_no (id := id) (d := d) (findR_none (.inl hS')))
      clear hS
      go_wp2_with fail
      go_ret2
      exact ⟨_, by rw [(raise_miss hG.out).2]; rfl, by rw [(raise_miss hG.out).1]; exact OwnReader.nil _ _, B2⟩

set_option maxRecDepth 100000 in
set_option maxHeartbeats 8000000 in
theorem walk_ExactFineReader (w : World) (p0 : Option Addr) (len0 cap0 : Nat) (X0 : Nat → ReaderD) (a1 : Int) (a2 : Int) (h0 : Sl w 5 p0 len0 (fun i => (X0 i).cells)) (ok0 : ∀ i, i < len0 → (X0 i).ok) (hm0 : len0 ≤ maxLen) (i1 : isI a1) (i2 : isI a2) :
    Calls Try.prog 11 #[.slice p0 len0 cap0, .int .i64 a1, .int .i64 a2] w fun e w' => e = .returned (.bool true) ∧ Below w.heap.size w w' := by
  go_enter Try.func11, Try.ntmps11
  go_wp2_with fail
  refine (szReaderS_any p0 len0 cap0 X0 _ h0 ok0 hm0).mono ?_
  rintro e w0 ⟨r, rfl, hb0, hr⟩
  have z0 := hb0.size
  clear ok0
  by_cases hr0 : r < 0
  · go_wp2_with fail
    go_ret
    exact ⟨rfl, hb0⟩
  obtain ⟨hL, hnm⟩ := hr (by omega)
  clear hr
  have hLL : (fineL X0 len0 a1 a2).length ≤ 1048576 := by have := fineL_le X0 len0 a1 a2; omega
  have hNM : Hid (∀ i, i < len0 → (X0 i).Name.size ≤ maxLen) := fun i hi => by have := hnm i hi; unfold maxLen; omega
  clear hnm
  obtain ⟨LL, hLe⟩ : ∃ LL, LL = fineL X0 len0 a1 a2 := ⟨_, rfl⟩
  have HLe := hid hLe
  rw [← hLe] at hLL
  clear hLe
  go_wp2_with fail
  refine (toReaderS_any p0 len0 cap0 X0 _ (h0.below hb0) (by omega)).mono ?_
  rintro e w1 ⟨rfl, hb1, hs1, F1⟩
  have z1 := hb1.size
  have B1 : Below w.heap.size w w1 := Below.on hb0 hb0.size hb1
  go_wp2_with fail
  refine (fine_spec _ _ 0 len0 len0 X0 a1 a2 F1.rw (by omega) (Nat.le_refl _) hNM.out).mono ?_
  rintro e w2 ⟨v, rfl, oV0, hb2⟩
  rw [← HLe.out] at oV0
  have oV := hid oV0
  clear oV0
  have z2 := hb2.size
  have B2 : Below w.heap.size w w2 := Below.on B1 B1.size hb2
  go_wp2_with fail
  refine (toReaderS_any p0 len0 cap0 X0 _ (h0.below B2) (by omega)).mono ?_
  rintro e w3 ⟨rfl, hb3, hs3, F3⟩
  have z3 := hb3.size
  have B3 : Below w.heap.size w w3 := Below.on B2 B2.size hb3
  go_wp2_with fail
  refine (fine_impl _ _ 0 len0 len0 X0 a1 a2 F3.rw (by omega) (Nat.le_refl _) hNM.out).mono ?_
  rintro e w4 ⟨g, rfl, oG0, hb4⟩
  rw [← HLe.out] at oG0
  have oG := hid oG0
  clear oG0
  have z4 := hb4.size
  have B4 : Below w.heap.size w w4 := Below.on B3 B3.size hb4
  go_wp2_with fail
  refine (eqReaderS_own g v LL _ _ _ oG.out ((oV.out.below hb3).below hb4) hLL).mono ?_
  rintro e w5 ⟨rfl, hb5⟩
  have z5 := hb5.size
  have B5 : Below w.heap.size w w5 := Below.on B4 B4.size hb5
  go_wp2_with fail
  refine (toReaderS_any p0 len0 cap0 X0 _ (h0.below B5) (by omega)).mono ?_
  rintro e w6 ⟨rfl, hb6, hs6, F6⟩
  have z6 := hb6.size
  have B6 : Below w.heap.size w w6 := Below.on B5 B5.size hb6
  go_wp2_with fail
  refine (eqReaderS_same _ _ 0 0 len0 len0 len0 X0 _ (((F3.rw.later' hb4).later' hb5).later' hb6) F6.rw (by omega) (Nat.le_refl _) (Nat.le_refl _)).mono ?_
  rintro e w7 ⟨rfl, hb7⟩
  have z7 := hb7.size
  have B7 : Below w.heap.size w w7 := Below.on B6 B6.size hb7
  go_wp2_with fail
  refine (markReaderS_any _ len0 len0 len0 1 _ ((((F3.below hb4 (by omega)).below hb5 (by omega)).below hb6 (by omega)).below hb7 (by omega)).blk (Nat.le_refl _) (Nat.le_refl _) (by omega) (by omega) (by omega)).mono ?_
  rintro e w8 ⟨rfl, gr8, _, _⟩
  have z8 := gr8.size
  have B8 : Below w.heap.size w w8 := B7.grown gr8 B7.size (fun k hk => by cases hk; omega)
  have oV8 := hid (((((((oV.out.below hb3).below hb4).below hb5).below hb6).below hb7)).kept gr8 (oV.out.ne_lo (by omega)))
  have oG8 := hid (((((oG.out.below hb5).below hb6).below hb7)).kept gr8 (oG.out.ne_hi (by omega)))
  go_wp2_with fail
  refine (eqReaderS_own g v LL _ _ _ oG8.out oV8.out hLL).mono ?_
  rintro e w9 ⟨rfl, hb9⟩
  have z9 := hb9.size
  have B9 : Below w.heap.size w w9 := Below.on B8 B8.size hb9
  go_wp2_with fail
  refine (markReaderS_own g LL _ 1 _ (oG8.out.below hb9) (by omega) (by omega) (by omega)).mono ?_
  rintro e w10 ⟨rfl, oM0, gr10⟩
  have oM := hid oM0
  clear oM0
  have z10 := gr10.size
  have B10 : Below w.heap.size w w10 := B9.grown gr10 B9.size (fun k hk => by have := oG.out.ge k hk; omega)
  have oV10 := hid ((oV8.out.below hb9).kept gr10 (own_ne oV.out.lt (fun k hk => by have := oG.out.ge k hk; omega)))
  go_wp2_with fail
  refine (heldReaderS_own g LL.length _ 1 _ oM.out (by omega) (by omega) (by omega)).mono ?_
  rintro e w11 ⟨rfl, hb11⟩
  have z11 := hb11.size
  have B11 : Below w.heap.size w w11 := Below.on B10 B10.size hb11
  go_wp2_with fail
  refine (toReaderS_any p0 len0 cap0 X0 _ (h0.below B11) (by omega)).mono ?_
  rintro e w12 ⟨rfl, hb12, hs12, F12⟩
  have z12 := hb12.size
  have B12 : Below w.heap.size w w12 := Below.on B11 B11.size hb12
  go_wp2_with fail
  refine (fine_impl _ _ 0 len0 len0 X0 a1 a2 F12.rw (by omega) (Nat.le_refl _) hNM.out).mono ?_
  rintro e w13 ⟨u, rfl, oH0, hb13⟩
  rw [← HLe.out] at oH0
  have oH := hid oH0
  clear oH0
  have z13 := hb13.size
  have B13 : Below w.heap.size w w13 := Below.on B12 B12.size hb13
  go_wp2_with fail
  refine (eqReaderS_own u v LL _ _ _ oH.out (((oV10.out.below hb11).below hb12).below hb13) hLL).mono ?_
  rintro e w14 ⟨rfl, hb14⟩
  have z14 := hb14.size
  have B14 : Below w.heap.size w w14 := Below.on B13 B13.size hb14
  go_wp2_with fail
  refine (heldReaderS_own g LL.length _ 1 _ ((((oM.out.below hb11).below hb12).below hb13).below hb14) (by omega) (by omega) (by omega)).mono ?_
  rintro e w15 ⟨rfl, hb15⟩
  have z15 := hb15.size
  have B15 : Below w.heap.size w w15 := Below.on B14 B14.size hb15
  go_wp2_with fail
  go_ret
  exact ⟨rfl, B15⟩

set_option maxRecDepth 100000 in
set_option maxHeartbeats 8000000 in
theorem walk_ExactPayFines (w : World) (p0 : Option Addr) (len0 cap0 : Nat) (X0 : Nat → ReaderD) (a1 : Int) (a2 : Int) (h0 : Sl w 5 p0 len0 (fun i => (X0 i).cells)) (ok0 : ∀ i, i < len0 → (X0 i).ok) (hm0 : len0 ≤ maxLen) (i1 : isI a1) (i2 : isI a2) :
    Calls Try.prog 13 #[.slice p0 len0 cap0, .int .i64 a1, .int .i64 a2] w fun e w' => e = .returned (.bool true) ∧ Below w.heap.size w w' := by
  go_enter Try.func13, Try.ntmps13
  go_wp2_with fail
  refine (szReaderS_any p0 len0 cap0 X0 _ h0 ok0 hm0).mono ?_
  rintro e w0 ⟨r, rfl, hb0, hr⟩
  have z0 := hb0.size
  clear ok0
  by_cases hr0 : r < 0
  · go_wp2_with fail
    go_ret
    exact ⟨rfl, hb0⟩
  obtain ⟨hL, hnm⟩ := hr (by omega)
  clear hr
  have hLL : (payL X0 len0 a1 a2).length ≤ 1048576 := by have := payL_le X0 len0 a1 a2; omega
  have hNM : Hid (∀ i, i < len0 → (X0 i).Name.size ≤ maxLen) := fun i hi => by have := hnm i hi; unfold maxLen; omega
  clear hnm
  obtain ⟨LL, hLe⟩ : ∃ LL, LL = payL X0 len0 a1 a2 := ⟨_, rfl⟩
  have HLe := hid hLe
  rw [← hLe] at hLL
  clear hLe
  go_wp2_with fail
  refine (toReaderS_any p0 len0 cap0 X0 _ (h0.below hb0) (by omega)).mono ?_
  rintro e w1 ⟨rfl, hb1, hs1, F1⟩
  have z1 := hb1.size
  have B1 : Below w.heap.size w w1 := Below.on hb0 hb0.size hb1
  go_wp2_with fail
  refine (pay_spec _ _ 0 len0 len0 X0 a1 a2 F1.rw (by omega) (Nat.le_refl _) hNM.out).mono ?_
  rintro e w2 ⟨v, rfl, oV0, hb2⟩
  rw [← HLe.out] at oV0
  have oV := hid oV0
  clear oV0
  have z2 := hb2.size
  have B2 : Below w.heap.size w w2 := Below.on B1 B1.size hb2
  go_wp2_with fail
  refine (toReaderS_any p0 len0 cap0 X0 _ (h0.below B2) (by omega)).mono ?_
  rintro e w3 ⟨rfl, hb3, hs3, F3⟩
  have z3 := hb3.size
  have B3 : Below w.heap.size w w3 := Below.on B2 B2.size hb3
  go_wp2_with fail
  refine (pay_impl _ _ 0 len0 len0 X0 a1 a2 F3.rw (by omega) (Nat.le_refl _) hNM.out).mono ?_
  rintro e w4 ⟨g, rfl, oG0, hb4⟩
  rw [← HLe.out] at oG0
  have oG := hid oG0
  clear oG0
  have z4 := hb4.size
  have B4 : Below w.heap.size w w4 := Below.on B3 B3.size hb4
  go_wp2_with fail
  refine (eqReaderS_own g v LL _ _ _ oG.out ((oV.out.below hb3).below hb4) hLL).mono ?_
  rintro e w5 ⟨rfl, hb5⟩
  have z5 := hb5.size
  have B5 : Below w.heap.size w w5 := Below.on B4 B4.size hb5
  go_wp2_with fail
  refine (toReaderS_any p0 len0 cap0 X0 _ (h0.below B5) (by omega)).mono ?_
  rintro e w6 ⟨rfl, hb6, hs6, F6⟩
  have z6 := hb6.size
  have B6 : Below w.heap.size w w6 := Below.on B5 B5.size hb6
  go_wp2_with fail
  refine (eqReaderS_same _ _ 0 0 len0 len0 len0 X0 _ (((F3.rw.later' hb4).later' hb5).later' hb6) F6.rw (by omega) (Nat.le_refl _) (Nat.le_refl _)).mono ?_
  rintro e w7 ⟨rfl, hb7⟩
  have z7 := hb7.size
  have B7 : Below w.heap.size w w7 := Below.on B6 B6.size hb7
  go_wp2_with fail
  refine (markReaderS_any _ len0 len0 len0 1 _ ((((F3.below hb4 (by omega)).below hb5 (by omega)).below hb6 (by omega)).below hb7 (by omega)).blk (Nat.le_refl _) (Nat.le_refl _) (by omega) (by omega) (by omega)).mono ?_
  rintro e w8 ⟨rfl, gr8, _, _⟩
  have z8 := gr8.size
  have B8 : Below w.heap.size w w8 := B7.grown gr8 B7.size (fun k hk => by cases hk; omega)
  have oV8 := hid (((((((oV.out.below hb3).below hb4).below hb5).below hb6).below hb7)).kept gr8 (oV.out.ne_lo (by omega)))
  have oG8 := hid (((((oG.out.below hb5).below hb6).below hb7)).kept gr8 (oG.out.ne_hi (by omega)))
  go_wp2_with fail
  refine (eqReaderS_own g v LL _ _ _ oG8.out oV8.out hLL).mono ?_
  rintro e w9 ⟨rfl, hb9⟩
  have z9 := hb9.size
  have B9 : Below w.heap.size w w9 := Below.on B8 B8.size hb9
  go_wp2_with fail
  refine (markReaderS_own g LL _ 1 _ (oG8.out.below hb9) (by omega) (by omega) (by omega)).mono ?_
  rintro e w10 ⟨rfl, oM0, gr10⟩
  have oM := hid oM0
  clear oM0
  have z10 := gr10.size
  have B10 : Below w.heap.size w w10 := B9.grown gr10 B9.size (fun k hk => by have := oG.out.ge k hk; omega)
  have oV10 := hid ((oV8.out.below hb9).kept gr10 (own_ne oV.out.lt (fun k hk => by have := oG.out.ge k hk; omega)))
  go_wp2_with fail
  refine (heldReaderS_own g LL.length _ 1 _ oM.out (by omega) (by omega) (by omega)).mono ?_
  rintro e w11 ⟨rfl, hb11⟩
  have z11 := hb11.size
  have B11 : Below w.heap.size w w11 := Below.on B10 B10.size hb11
  go_wp2_with fail
  refine (toReaderS_any p0 len0 cap0 X0 _ (h0.below B11) (by omega)).mono ?_
  rintro e w12 ⟨rfl, hb12, hs12, F12⟩
  have z12 := hb12.size
  have B12 : Below w.heap.size w w12 := Below.on B11 B11.size hb12
  go_wp2_with fail
  refine (pay_impl _ _ 0 len0 len0 X0 a1 a2 F12.rw (by omega) (Nat.le_refl _) hNM.out).mono ?_
  rintro e w13 ⟨u, rfl, oH0, hb13⟩
  rw [← HLe.out] at oH0
  have oH := hid oH0
  clear oH0
  have z13 := hb13.size
  have B13 : Below w.heap.size w w13 := Below.on B12 B12.size hb13
  go_wp2_with fail
  refine (eqReaderS_own u v LL _ _ _ oH.out (((oV10.out.below hb11).below hb12).below hb13) hLL).mono ?_
  rintro e w14 ⟨rfl, hb14⟩
  have z14 := hb14.size
  have B14 : Below w.heap.size w w14 := Below.on B13 B13.size hb14
  go_wp2_with fail
  refine (heldReaderS_own g LL.length _ 1 _ ((((oM.out.below hb11).below hb12).below hb13).below hb14) (by omega) (by omega) (by omega)).mono ?_
  rintro e w15 ⟨rfl, hb15⟩
  have z15 := hb15.size
  have B15 : Below w.heap.size w w15 := Below.on B14 B14.size hb15
  go_wp2_with fail
  go_ret
  exact ⟨rfl, B15⟩

set_option maxRecDepth 100000 in
set_option maxHeartbeats 8000000 in
theorem walk_ExactRaiseClass (w : World) (p0 : Option Addr) (len0 cap0 : Nat) (X0 : Nat → ReaderD) (a1 : Int) (a2 : Int) (h0 : Sl w 5 p0 len0 (fun i => (X0 i).cells)) (ok0 : ∀ i, i < len0 → (X0 i).ok) (hm0 : len0 ≤ maxLen) (i1 : isI a1) (i2 : isI a2) :
    Calls Try.prog 12 #[.slice p0 len0 cap0, .int .i64 a1, .int .i64 a2] w fun e w' => e = .returned (.bool true) ∧ Below w.heap.size w w' := by
  go_enter Try.func12, Try.ntmps12
  go_wp2_with fail
  refine (szReaderS_any p0 len0 cap0 X0 _ h0 ok0 hm0).mono ?_
  rintro e w0 ⟨r, rfl, hb0, hr⟩
  have z0 := hb0.size
  clear ok0
  by_cases hr0 : r < 0
  · go_wp2_with fail
    go_ret
    exact ⟨rfl, hb0⟩
  obtain ⟨hL, hnm⟩ := hr (by omega)
  clear hr
  have hLL : (raiseL X0 len0 a1 a2).length ≤ 1048576 := by have := raiseL_le X0 len0 a1 a2; omega
  have hNM : Hid (∀ i, i < len0 → (X0 i).Name.size ≤ maxLen) := fun i hi => by have := hnm i hi; unfold maxLen; omega
  clear hnm
  obtain ⟨LL, hLe⟩ : ∃ LL, LL = raiseL X0 len0 a1 a2 := ⟨_, rfl⟩
  have HLe := hid hLe
  rw [← hLe] at hLL
  clear hLe
  go_wp2_with fail
  refine (toReaderS_any p0 len0 cap0 X0 _ (h0.below hb0) (by omega)).mono ?_
  rintro e w1 ⟨rfl, hb1, hs1, F1⟩
  have z1 := hb1.size
  have B1 : Below w.heap.size w w1 := Below.on hb0 hb0.size hb1
  go_wp2_with fail
  refine (raise_spec _ _ 0 len0 len0 X0 a1 a2 F1.rw (by omega) (Nat.le_refl _) hNM.out).mono ?_
  rintro e w2 ⟨v, rfl, oV0, hb2⟩
  rw [← HLe.out] at oV0
  have oV := hid oV0
  clear oV0
  have z2 := hb2.size
  have B2 : Below w.heap.size w w2 := Below.on B1 B1.size hb2
  go_wp2_with fail
  refine (toReaderS_any p0 len0 cap0 X0 _ (h0.below B2) (by omega)).mono ?_
  rintro e w3 ⟨rfl, hb3, hs3, F3⟩
  have z3 := hb3.size
  have B3 : Below w.heap.size w w3 := Below.on B2 B2.size hb3
  go_wp2_with fail
  refine (raise_impl _ _ 0 len0 len0 X0 a1 a2 F3.rw (by omega) (Nat.le_refl _) hNM.out).mono ?_
  rintro e w4 ⟨g, rfl, oG0, hb4⟩
  rw [← HLe.out] at oG0
  have oG := hid oG0
  clear oG0
  have z4 := hb4.size
  have B4 : Below w.heap.size w w4 := Below.on B3 B3.size hb4
  go_wp2_with fail
  refine (eqReaderS_own g v LL _ _ _ oG.out ((oV.out.below hb3).below hb4) hLL).mono ?_
  rintro e w5 ⟨rfl, hb5⟩
  have z5 := hb5.size
  have B5 : Below w.heap.size w w5 := Below.on B4 B4.size hb5
  go_wp2_with fail
  refine (toReaderS_any p0 len0 cap0 X0 _ (h0.below B5) (by omega)).mono ?_
  rintro e w6 ⟨rfl, hb6, hs6, F6⟩
  have z6 := hb6.size
  have B6 : Below w.heap.size w w6 := Below.on B5 B5.size hb6
  go_wp2_with fail
  refine (eqReaderS_same _ _ 0 0 len0 len0 len0 X0 _ (((F3.rw.later' hb4).later' hb5).later' hb6) F6.rw (by omega) (Nat.le_refl _) (Nat.le_refl _)).mono ?_
  rintro e w7 ⟨rfl, hb7⟩
  have z7 := hb7.size
  have B7 : Below w.heap.size w w7 := Below.on B6 B6.size hb7
  go_wp2_with fail
  refine (markReaderS_any _ len0 len0 len0 1 _ ((((F3.below hb4 (by omega)).below hb5 (by omega)).below hb6 (by omega)).below hb7 (by omega)).blk (Nat.le_refl _) (Nat.le_refl _) (by omega) (by omega) (by omega)).mono ?_
  rintro e w8 ⟨rfl, gr8, _, _⟩
  have z8 := gr8.size
  have B8 : Below w.heap.size w w8 := B7.grown gr8 B7.size (fun k hk => by cases hk; omega)
  have oV8 := hid (((((((oV.out.below hb3).below hb4).below hb5).below hb6).below hb7)).kept gr8 (oV.out.ne_lo (by omega)))
  have oG8 := hid (((((oG.out.below hb5).below hb6).below hb7)).kept gr8 (oG.out.ne_hi (by omega)))
  go_wp2_with fail
  refine (eqReaderS_own g v LL _ _ _ oG8.out oV8.out hLL).mono ?_
  rintro e w9 ⟨rfl, hb9⟩
  have z9 := hb9.size
  have B9 : Below w.heap.size w w9 := Below.on B8 B8.size hb9
  go_wp2_with fail
  refine (markReaderS_own g LL _ 1 _ (oG8.out.below hb9) (by omega) (by omega) (by omega)).mono ?_
  rintro e w10 ⟨rfl, oM0, gr10⟩
  have oM := hid oM0
  clear oM0
  have z10 := gr10.size
  have B10 : Below w.heap.size w w10 := B9.grown gr10 B9.size (fun k hk => by have := oG.out.ge k hk; omega)
  have oV10 := hid ((oV8.out.below hb9).kept gr10 (own_ne oV.out.lt (fun k hk => by have := oG.out.ge k hk; omega)))
  go_wp2_with fail
  refine (heldReaderS_own g LL.length _ 1 _ oM.out (by omega) (by omega) (by omega)).mono ?_
  rintro e w11 ⟨rfl, hb11⟩
  have z11 := hb11.size
  have B11 : Below w.heap.size w w11 := Below.on B10 B10.size hb11
  go_wp2_with fail
  refine (toReaderS_any p0 len0 cap0 X0 _ (h0.below B11) (by omega)).mono ?_
  rintro e w12 ⟨rfl, hb12, hs12, F12⟩
  have z12 := hb12.size
  have B12 : Below w.heap.size w w12 := Below.on B11 B11.size hb12
  go_wp2_with fail
  refine (raise_impl _ _ 0 len0 len0 X0 a1 a2 F12.rw (by omega) (Nat.le_refl _) hNM.out).mono ?_
  rintro e w13 ⟨u, rfl, oH0, hb13⟩
  rw [← HLe.out] at oH0
  have oH := hid oH0
  clear oH0
  have z13 := hb13.size
  have B13 : Below w.heap.size w w13 := Below.on B12 B12.size hb13
  go_wp2_with fail
  refine (eqReaderS_own u v LL _ _ _ oH.out (((oV10.out.below hb11).below hb12).below hb13) hLL).mono ?_
  rintro e w14 ⟨rfl, hb14⟩
  have z14 := hb14.size
  have B14 : Below w.heap.size w w14 := Below.on B13 B13.size hb14
  go_wp2_with fail
  refine (heldReaderS_own g LL.length _ 1 _ ((((oM.out.below hb11).below hb12).below hb13).below hb14) (by omega) (by omega) (by omega)).mono ?_
  rintro e w15 ⟨rfl, hb15⟩
  have z15 := hb15.size
  have B15 : Below w.heap.size w w15 := Below.on B14 B14.size hb15
  go_wp2_with fail
  go_ret
  exact ⟨rfl, B15⟩

end Go.Proofs.Ytlcgjcbpoinboaa
