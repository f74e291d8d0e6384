/-
  One turn of a spot, forth and back, by the program and by the reference. No condition.
-/
import Derived.Test.YtigiihhfmdgdlaaSpot2
import Derived.Deep.Cut
namespace Go.Proofs.Ytigiihhfmdgdlaa
open Go.RowKit
set_option linter.unusedVariables false
set_option maxRecDepth 100000

theorem AtSpot.put0 {H : Nat} {s : Sp} {w : World} (h : AtSpot H s w) (x : Int) : AtSpot H ⟨x, s.Y, s.Den⟩ (w.setCell ⟨H, 0, none⟩ (.int .i64 x)) := heap_setCell_same w H 0 _ 33 (.int .i64 x) h
theorem AtSpot.put1 {H : Nat} {s : Sp} {w : World} (h : AtSpot H s w) (y : Int) : AtSpot H ⟨s.X, y, s.Den⟩ (w.setCell ⟨H, 1, none⟩ (.int .i64 y)) := heap_setCell_same w H 1 _ 33 (.int .i64 y) h
/-- Block H holds the turn t. -/
def AtTurn (H : Nat) (q n d e o : Int) (w : World) : Prop := w.heap[H]? = some (.cells #[.int .i64 q, .int .i64 n, .int .i64 d, .int .i64 e, .int .i64 o] 36 (0, 0))
theorem AtTurn.lt {H : Nat} {q n d e o : Int} {w : World} (h : AtTurn H q n d e o w) : H < w.heap.size := (Array.getElem?_eq_some_iff.1 h).1
theorem AtTurn.new (q n d e o : Int) (w : World) : AtTurn w.heap.size q n d e o (w.alloc (.cells #[.int .i64 q, .int .i64 n, .int .i64 d, .int .i64 e, .int .i64 o] 36)) := heap_alloc_new w _
theorem AtTurn.below {H : Nat} {q n d e o : Int} {w w' : World} (h : AtTurn H q n d e o w) (hb : Below w.heap.size w w') : AtTurn H q n d e o w' := (hb.block H h.lt).trans h
theorem AtTurn.other {H : Nat} {q n d e o : Int} {w : World} (h : AtTurn H q n d e o w) (K j : Nat) (v : Value) (hne : K ≠ H) : AtTurn H q n d e o (w.setCell ⟨K, j, none⟩ v) := (heap_setCell_other w ⟨K, j, none⟩ H v (by intro e; exact hne e.symm)).trans h
theorem AtTurn.c0 {H : Nat} {q n d e o : Int} {w : World} (h : AtTurn H q n d e o w) : w.cell? ⟨H, 0, none⟩ = some (.int .i64 q) := by
  have h' : w.heap[H]? = _ := h
  simp [World.cell?, h']
theorem AtTurn.c1 {H : Nat} {q n d e o : Int} {w : World} (h : AtTurn H q n d e o w) : w.cell? ⟨H, 1, none⟩ = some (.int .i64 n) := by
  have h' : w.heap[H]? = _ := h
  simp [World.cell?, h']
theorem AtTurn.c2 {H : Nat} {q n d e o : Int} {w : World} (h : AtTurn H q n d e o w) : w.cell? ⟨H, 2, none⟩ = some (.int .i64 d) := by
  have h' : w.heap[H]? = _ := h
  simp [World.cell?, h']
theorem AtTurn.c3 {H : Nat} {q n d e o : Int} {w : World} (h : AtTurn H q n d e o w) : w.cell? ⟨H, 3, none⟩ = some (.int .i64 e) := by
  have h' : w.heap[H]? = _ := h
  simp [World.cell?, h']
theorem AtTurn.c4 {H : Nat} {q n d e o : Int} {w : World} (h : AtTurn H q n d e o w) : w.cell? ⟨H, 4, none⟩ = some (.int .i64 o) := by
  have h' : w.heap[H]? = _ := h
  simp [World.cell?, h']

theorem mul_bd {a b : Int} (A B C : Nat) (ha : -(A : Int) ≤ a ∧ a ≤ A) (hb : -(B : Int) ≤ b ∧ b ≤ B) (hC : A * B = C) : -(C : Int) ≤ a * b ∧ a * b ≤ C := by
  have h1 : (a * b).natAbs = a.natAbs * b.natAbs := Int.natAbs_mul a b
  have h2 : a.natAbs * b.natAbs ≤ A * B := Nat.mul_le_mul (by omega) (by omega)
  omega
/-- The numbers of a spot are small. -/
def SpSm (s : Sp) : Prop := (-1099511627776 ≤ s.X ∧ s.X ≤ 1099511627776) ∧ (-1099511627776 ≤ s.Y ∧ s.Y ≤ 1099511627776) ∧ 1 ≤ s.Den ∧ s.Den ≤ 1048576
theorem rotS_sm : ∀ (q : Nat) {s : Sp}, SpSm s → SpSm (rotS q s)
  | 0, s, h => h
  | q + 1, s, h => rotS_sm q (s := rot1 s) (by unfold SpSm rot1 at *; simp only; omega)
theorem SpSm.bd {s : Sp} (h : SpSm s) : SpBd s := by unfold SpSm SpBd at *; omega
theorem turnB_bd {t : GridTurnD} (h : turnB t = true) : (0 ≤ t.Quarters ∧ t.Quarters ≤ 3) ∧ (1 ≤ t.Num ∧ t.Num ≤ 20) ∧ (1 ≤ t.Den ∧ t.Den ≤ 20) ∧ (-99999 ≤ t.East ∧ t.East ≤ 99999) ∧ (-99999 ≤ t.North ∧ t.North ≤ 99999) := by
  simp [turnB, inB] at h; omega

/-- Where a turn leads a spot; and the spot that it leads there. -/
def ledS (t : GridTurnD) (s : Sp) : Sp :=
  lowP ((rotS t.Quarters.toNat s).X * t.Num + t.East * ((rotS t.Quarters.toNat s).Den * t.Den)) ((rotS t.Quarters.toNat s).Y * t.Num + t.North * ((rotS t.Quarters.toNat s).Den * t.Den)) ((rotS t.Quarters.toNat s).Den * t.Den).toNat
def preS (t : GridTurnD) (s : Sp) : Sp := ⟨(s.X - t.East * s.Den) * t.Den, (s.Y - t.North * s.Den) * t.Den, s.Den * t.Num⟩
def backS (t : GridTurnD) (s : Sp) : Sp := lowP (rotS (4 - t.Quarters.toNat) (preS t s)).X (rotS (4 - t.Quarters.toNat) (preS t s)).Y (rotS (4 - t.Quarters.toNat) (preS t s)).Den.toNat

set_option maxHeartbeats 4000000 in
theorem led_impl (t : GridTurnD) (s : Sp) (ht : turnB t = true) (hs : SpSm s) (w : World) : Calls Try.prog 67 #[s.val, t.val] w fun e w' => e = .returned (ledS t s).val ∧ Below w.heap.size w w' := by
  obtain ⟨⟨q0, q1⟩, ⟨tn0, tn1⟩, ⟨td0, td1⟩, ⟨te0, te1⟩, to0, to1⟩ := turnB_bd ht
  clear ht
  rcases t with ⟨tq, tn, td, te, to⟩
  simp only at q0 q1 tn0 tn1 td0 td1 te0 te1 to0 to1
  obtain ⟨q, rfl⟩ : ∃ q : Nat, tq = (q : Int) := ⟨tq.toNat, by omega⟩
  obtain ⟨r, hr⟩ : ∃ r, rotS q s = r := ⟨_, rfl⟩
  obtain ⟨⟨r0, r1⟩, ⟨y0, y1⟩, d0, d1⟩ : SpSm r := hr ▸ rotS_sm q hs
  have hsb := hid hs.bd
  obtain ⟨a, ha⟩ : ∃ a, r.X * tn = a := ⟨_, rfl⟩
  obtain ⟨b, hb⟩ : ∃ b, r.Y * tn = b := ⟨_, rfl⟩
  have pa := mul_bd 1099511627776 20 21990232555520 (a := r.X) (b := tn) (by omega) (by omega) rfl
  have pb := mul_bd 1099511627776 20 21990232555520 (a := r.Y) (b := tn) (by omega) (by omega) rfl
  have pd := mul_bd 1048576 20 20971520 (a := r.Den) (b := td) (by omega) (by omega) rfl
  have pd0 : 1 ≤ r.Den * td := by have := Int.mul_le_mul d0 td0 (by omega) (by omega : (0 : Int) ≤ r.Den); omega
  obtain ⟨D, hD⟩ : ∃ D : Nat, r.Den * td = (D : Int) := ⟨(r.Den * td).toNat, by omega⟩
  rw [hD] at pd pd0
  have pe := mul_bd 99999 20971520 2097131028480 (a := te) (b := (D : Int)) (by omega) (by omega) rfl
  have pf := mul_bd 99999 20971520 2097131028480 (a := to) (b := (D : Int)) (by omega) (by omega) rfl
  obtain ⟨e, he⟩ : ∃ e, te * (D : Int) = e := ⟨_, rfl⟩
  obtain ⟨f, hf⟩ : ∃ f, to * (D : Int) = f := ⟨_, rfl⟩
  rw [ha] at pa
  rw [hb] at pb
  rw [he] at pe
  rw [hf] at pf
  have hp : Hid (ledS ⟨(q : Int), tn, td, te, to⟩ s = lowP (a + e) (b + f) D) := by
    unfold Hid ledS
    simp only [Int.toNat_natCast]
    rw [hr, hD, ha, hb, he, hf, Int.toNat_natCast]
  have n1 : IntKind.i64.wrap (r.X * tn) = a := (IntWalk.i64_in _ (by omega)).trans ha
  have n2 : IntKind.i64.wrap (r.Y * tn) = b := (IntWalk.i64_in _ (by omega)).trans hb
  have n3 : IntKind.i64.wrap (r.Den * td) = (D : Int) := (IntWalk.i64_in _ (by omega)).trans hD
  have n4 : IntKind.i64.wrap (te * (D : Int)) = e := (IntWalk.i64_in _ (by omega)).trans he
  have n5 : IntKind.i64.wrap (to * (D : Int)) = f := (IntWalk.i64_in _ (by omega)).trans hf
  have n6 : IntKind.i64.wrap (a + e) = a + e := IntWalk.i64_in _ (by omega)
  have n7 : IntKind.i64.wrap (b + f) = b + f := IntWalk.i64_in _ (by omega)
  have hsp : Hid (SpBd ⟨a + e, b + f, 0⟩ ∧ 0 < D ∧ D ≤ 4611686018427387904) := ⟨by unfold SpBd; simp only; omega, by omega, by omega⟩
  clear ha hb hD he hf hs pa pb pd pd0 pe pf
  have hA : Below w.heap.size w (((w.alloc (.cells #[.int .i64 s.X, .int .i64 s.Y, .int .i64 s.Den] 33)).alloc (.cells #[.int .i64 (q : Int), .int .i64 tn, .int .i64 td, .int .i64 te, .int .i64 to] 36)).alloc (.cells #[.int .i64 0, .int .i64 0, .int .i64 0] 33)) := by go_grown
  go_enter Try.func67, Try.ntmps67
  go_wp2_with fail
  refine (turned_impl s q (by omega) hsb.out _).mono ?_
  rintro ex w1 ⟨rfl, hb1⟩
  rw [hr]
  clear hr
  have BB := Below.on hA hA.size hb1
  have GR : Hid (AtSpot (w.heap.size + 2) ⟨0, 0, 0⟩ w1) := by
    have := (AtSpot.new ⟨0, 0, 0⟩ ((w.alloc (.cells #[.int .i64 s.X, .int .i64 s.Y, .int .i64 s.Den] 33)).alloc (.cells #[.int .i64 (q : Int), .int .i64 tn, .int .i64 td, .int .i64 te, .int .i64 to] 36))).below hb1
    simpa only [Hid, World.size_alloc] using this
  have GT : Hid (AtTurn (w.heap.size + 1) (q : Int) tn td te to w1) := by
    have := ((AtTurn.new (q : Int) tn td te to (w.alloc (.cells #[.int .i64 s.X, .int .i64 s.Y, .int .i64 s.Den] 33))).below (by go_grown : Below ((w.alloc (.cells #[.int .i64 s.X, .int .i64 s.Y, .int .i64 s.Den] 33)).alloc (.cells #[.int .i64 (q : Int), .int .i64 tn, .int .i64 td, .int .i64 te, .int .i64 to] 36)).heap.size ((w.alloc (.cells #[.int .i64 s.X, .int .i64 s.Y, .int .i64 s.Den] 33)).alloc (.cells #[.int .i64 (q : Int), .int .i64 tn, .int .i64 td, .int .i64 te, .int .i64 to] 36)) (((w.alloc (.cells #[.int .i64 s.X, .int .i64 s.Y, .int .i64 s.Den] 33)).alloc (.cells #[.int .i64 (q : Int), .int .i64 tn, .int .i64 td, .int .i64 te, .int .i64 to] 36)).alloc (.cells #[.int .i64 0, .int .i64 0, .int .i64 0] 33)))).below hb1
    simpa only [Hid, World.size_alloc] using this
  have G : Hid (AtSpot w.heap.size s w1) := hid (((AtSpot.new s w).below (by go_grown : Below (w.alloc (.cells #[.int .i64 s.X, .int .i64 s.Y, .int .i64 s.Den] 33)).heap.size (w.alloc (.cells #[.int .i64 s.X, .int .i64 s.Y, .int .i64 s.Den] 33)) (((w.alloc (.cells #[.int .i64 s.X, .int .i64 s.Y, .int .i64 s.Den] 33)).alloc (.cells #[.int .i64 (q : Int), .int .i64 tn, .int .i64 td, .int .i64 te, .int .i64 to] 36)).alloc (.cells #[.int .i64 0, .int .i64 0, .int .i64 0] 33)))).below hb1)
  have gl := G.out.lt
  have g0 := G.out.c0
  have g1 := G.out.c1
  have g2 := G.out.c2
  have gz0 := G.out.frozen (j := 0)
  have gz1 := G.out.frozen (j := 1)
  have gz2 := G.out.frozen (j := 2)
  have tl := GT.out.lt
  have t0 := GT.out.c0
  have t1 := GT.out.c1
  have t2 := GT.out.c2
  have t3 := GT.out.c3
  have t4 := GT.out.c4
  have ul := GR.out.lt
  go_upto_region 2 with fail
  have G2 : AtSpot (w.heap.size) r (((w1.setCell ⟨w.heap.size, 0, none⟩ (.int .i64 r.X)).setCell ⟨w.heap.size, 1, none⟩ (.int .i64 r.Y)).setCell ⟨w.heap.size, 2, none⟩ (.int .i64 r.Den)) := G.out.put r
  have GT2 := (((GT.out.other (w.heap.size) 0 (.int .i64 r.X) (by omega)).other (w.heap.size) 1 (.int .i64 r.Y) (by omega)).other (w.heap.size) 2 (.int .i64 r.Den) (by omega))
  have GR2 := (((GR.out.other (w.heap.size) 0 (.int .i64 r.X) (by omega)).other (w.heap.size) 1 (.int .i64 r.Y) (by omega)).other (w.heap.size) 2 (.int .i64 r.Den) (by omega))
  have BB2 : Below w.heap.size w (((w1.setCell ⟨w.heap.size, 0, none⟩ (.int .i64 r.X)).setCell ⟨w.heap.size, 1, none⟩ (.int .i64 r.Y)).setCell ⟨w.heap.size, 2, none⟩ (.int .i64 r.Den)) := by go_grown
  clear gl g0 g1 g2 gz0 gz1 gz2 tl t0 t1 t2 t3 t4 ul
  generalize (((w1.setCell ⟨w.heap.size, 0, none⟩ (.int .i64 r.X)).setCell ⟨w.heap.size, 1, none⟩ (.int .i64 r.Y)).setCell ⟨w.heap.size, 2, none⟩ (.int .i64 r.Den)) = wA at G2 GT2 GR2 BB2 ⊢
  clear G GT GR BB
  have G := hid G2
  have GT := hid GT2
  have GR := hid GR2
  have BB := BB2
  clear G2 GT2 GR2 BB2
  have gl := G.out.lt
  have g0 := G.out.c0
  have g1 := G.out.c1
  have g2 := G.out.c2
  have gz0 := G.out.frozen (j := 0)
  have gz1 := G.out.frozen (j := 1)
  have gz2 := G.out.frozen (j := 2)
  have tl := GT.out.lt
  have t0 := GT.out.c0
  have t1 := GT.out.c1
  have t2 := GT.out.c2
  have t3 := GT.out.c3
  have t4 := GT.out.c4
  have ul := GR.out.lt
  go_upto_region 3 with fail
  have G2 : AtSpot (w.heap.size) ⟨a, b, (D : Int)⟩ (((wA.setCell ⟨w.heap.size, 0, none⟩ (.int .i64 a)).setCell ⟨w.heap.size, 1, none⟩ (.int .i64 b)).setCell ⟨w.heap.size, 2, none⟩ (.int .i64 (D : Int))) := G.out.put ⟨a, b, (D : Int)⟩
  have GT2 := (((GT.out.other (w.heap.size) 0 (.int .i64 a) (by omega)).other (w.heap.size) 1 (.int .i64 b) (by omega)).other (w.heap.size) 2 (.int .i64 (D : Int)) (by omega))
  have GR2 := (((GR.out.other (w.heap.size) 0 (.int .i64 a) (by omega)).other (w.heap.size) 1 (.int .i64 b) (by omega)).other (w.heap.size) 2 (.int .i64 (D : Int)) (by omega))
  have BB2 : Below w.heap.size w (((wA.setCell ⟨w.heap.size, 0, none⟩ (.int .i64 a)).setCell ⟨w.heap.size, 1, none⟩ (.int .i64 b)).setCell ⟨w.heap.size, 2, none⟩ (.int .i64 (D : Int))) := by go_grown
  clear gl g0 g1 g2 gz0 gz1 gz2 tl t0 t1 t2 t3 t4 ul
  generalize (((wA.setCell ⟨w.heap.size, 0, none⟩ (.int .i64 a)).setCell ⟨w.heap.size, 1, none⟩ (.int .i64 b)).setCell ⟨w.heap.size, 2, none⟩ (.int .i64 (D : Int))) = wB at G2 GT2 GR2 BB2 ⊢
  clear G GT GR BB
  have G := hid G2
  have GT := hid GT2
  have GR := hid GR2
  have BB := BB2
  clear G2 GT2 GR2 BB2
  have gl := G.out.lt
  have g0 := G.out.c0
  have g1 := G.out.c1
  have g2 := G.out.c2
  have gz0 := G.out.frozen (j := 0)
  have gz1 := G.out.frozen (j := 1)
  have gz2 := G.out.frozen (j := 2)
  have tl := GT.out.lt
  have t0 := GT.out.c0
  have t1 := GT.out.c1
  have t2 := GT.out.c2
  have t3 := GT.out.c3
  have t4 := GT.out.c4
  have ul := GR.out.lt
  go_upto_region 4 with fail
  have G2 : AtSpot (w.heap.size) ⟨a + e, b, (D : Int)⟩ (wB.setCell ⟨w.heap.size, 0, none⟩ (.int .i64 (a + e))) := G.out.put0 (a + e)
  have GT2 := (GT.out.other (w.heap.size) 0 (.int .i64 (a + e)) (by omega))
  have GR2 := (GR.out.other (w.heap.size) 0 (.int .i64 (a + e)) (by omega))
  have BB2 : Below w.heap.size w (wB.setCell ⟨w.heap.size, 0, none⟩ (.int .i64 (a + e))) := by go_grown
  clear gl g0 g1 g2 gz0 gz1 gz2 tl t0 t1 t2 t3 t4 ul
  generalize (wB.setCell ⟨w.heap.size, 0, none⟩ (.int .i64 (a + e))) = wC at G2 GT2 GR2 BB2 ⊢
  clear G GT GR BB
  have G := hid G2
  have GT := hid GT2
  have GR := hid GR2
  have BB := BB2
  clear G2 GT2 GR2 BB2
  have gl := G.out.lt
  have g0 := G.out.c0
  have g1 := G.out.c1
  have g2 := G.out.c2
  have gz0 := G.out.frozen (j := 0)
  have gz1 := G.out.frozen (j := 1)
  have gz2 := G.out.frozen (j := 2)
  have tl := GT.out.lt
  have t0 := GT.out.c0
  have t1 := GT.out.c1
  have t2 := GT.out.c2
  have t3 := GT.out.c3
  have t4 := GT.out.c4
  have ul := GR.out.lt
  go_upto_region 5 with fail
  have G2 : AtSpot (w.heap.size) ⟨a + e, b + f, (D : Int)⟩ (wC.setCell ⟨w.heap.size, 1, none⟩ (.int .i64 (b + f))) := G.out.put1 (b + f)
  have GT2 := (GT.out.other (w.heap.size) 1 (.int .i64 (b + f)) (by omega))
  have GR2 := (GR.out.other (w.heap.size) 1 (.int .i64 (b + f)) (by omega))
  have BB2 : Below w.heap.size w (wC.setCell ⟨w.heap.size, 1, none⟩ (.int .i64 (b + f))) := by go_grown
  clear gl g0 g1 g2 gz0 gz1 gz2 tl t0 t1 t2 t3 t4 ul
  generalize (wC.setCell ⟨w.heap.size, 1, none⟩ (.int .i64 (b + f))) = wD at G2 GT2 GR2 BB2 ⊢
  clear G GT GR BB
  have G := hid G2
  have GT := hid GT2
  have GR := hid GR2
  have BB := BB2
  clear G2 GT2 GR2 BB2
  have gl := G.out.lt
  have g0 := G.out.c0
  have g1 := G.out.c1
  have g2 := G.out.c2
  have gz0 := G.out.frozen (j := 0)
  have gz1 := G.out.frozen (j := 1)
  have gz2 := G.out.frozen (j := 2)
  have tl := GT.out.lt
  have t0 := GT.out.c0
  have t1 := GT.out.c1
  have t2 := GT.out.c2
  have t3 := GT.out.c3
  have t4 := GT.out.c4
  have ul := GR.out.lt
  go_wp2_with fail

  refine (low_impl_pos (a + e) (b + f) D hsp.out.1 hsp.out.2.1 hsp.out.2.2 _).mono ?_
  rintro ex w2 ⟨rfl, hb2⟩
  have BB9 := Below.on BB BB.size hb2
  have GR9 := hid (GR.out.below hb2)
  clear GR BB hb2 ul
  have GR := GR9
  have ul := GR.out.lt
  have u0 := GR.out.c0
  have u1 := GR.out.c1
  have u2 := GR.out.c2
  have uz0 := GR.out.frozen (j := 0)
  have uz1 := GR.out.frozen (j := 1)
  have uz2 := GR.out.frozen (j := 2)
  go_wp2_with fail
  exact bodyPost_ret (v := (lowP (a + e) (b + f) D).val) (by simp [results, Try.results67, go_sem, ul, u0, u1, u2]) rfl ⟨by rw [hp.out], by go_grown⟩

set_option maxHeartbeats 4000000 in
theorem led_spec (t : GridTurnD) (s : Sp) (ht : turnB t = true) (hs : SpSm s) (w : World) : Calls Try.prog 66 #[t.val, s.val] w fun e w' => e = .returned (ledS t s).val ∧ Below w.heap.size w w' := by
  obtain ⟨⟨q0, q1⟩, ⟨tn0, tn1⟩, ⟨td0, td1⟩, ⟨te0, te1⟩, to0, to1⟩ := turnB_bd ht
  clear ht
  rcases t with ⟨tq, tn, td, te, to⟩
  simp only at q0 q1 tn0 tn1 td0 td1 te0 te1 to0 to1
  obtain ⟨q, rfl⟩ : ∃ q : Nat, tq = (q : Int) := ⟨tq.toNat, by omega⟩
  obtain ⟨r, hr⟩ : ∃ r, rotS q s = r := ⟨_, rfl⟩
  obtain ⟨⟨r0, r1⟩, ⟨y0, y1⟩, d0, d1⟩ : SpSm r := hr ▸ rotS_sm q hs
  have hsb := hid hs.bd
  obtain ⟨a, ha⟩ : ∃ a, r.X * tn = a := ⟨_, rfl⟩
  obtain ⟨b, hb⟩ : ∃ b, r.Y * tn = b := ⟨_, rfl⟩
  have pa := mul_bd 1099511627776 20 21990232555520 (a := r.X) (b := tn) (by omega) (by omega) rfl
  have pb := mul_bd 1099511627776 20 21990232555520 (a := r.Y) (b := tn) (by omega) (by omega) rfl
  have pd := mul_bd 1048576 20 20971520 (a := r.Den) (b := td) (by omega) (by omega) rfl
  have pd0 : 1 ≤ r.Den * td := by have := Int.mul_le_mul d0 td0 (by omega) (by omega : (0 : Int) ≤ r.Den); omega
  obtain ⟨D, hD⟩ : ∃ D : Nat, r.Den * td = (D : Int) := ⟨(r.Den * td).toNat, by omega⟩
  rw [hD] at pd pd0
  have pe := mul_bd 99999 20971520 2097131028480 (a := te) (b := (D : Int)) (by omega) (by omega) rfl
  have pf := mul_bd 99999 20971520 2097131028480 (a := to) (b := (D : Int)) (by omega) (by omega) rfl
  obtain ⟨e, he⟩ : ∃ e, te * (D : Int) = e := ⟨_, rfl⟩
  obtain ⟨f, hf⟩ : ∃ f, to * (D : Int) = f := ⟨_, rfl⟩
  rw [ha] at pa
  rw [hb] at pb
  rw [he] at pe
  rw [hf] at pf
  have hp : Hid (ledS ⟨(q : Int), tn, td, te, to⟩ s = lowP (a + e) (b + f) D) := by
    unfold Hid ledS
    simp only [Int.toNat_natCast]
    rw [hr, hD, ha, hb, he, hf, Int.toNat_natCast]
  have n1 : IntKind.i64.wrap (r.X * tn) = a := (IntWalk.i64_in _ (by omega)).trans ha
  have n2 : IntKind.i64.wrap (r.Y * tn) = b := (IntWalk.i64_in _ (by omega)).trans hb
  have n3 : IntKind.i64.wrap (r.Den * td) = (D : Int) := (IntWalk.i64_in _ (by omega)).trans hD
  have n4 : IntKind.i64.wrap (te * (D : Int)) = e := (IntWalk.i64_in _ (by omega)).trans he
  have n5 : IntKind.i64.wrap (to * (D : Int)) = f := (IntWalk.i64_in _ (by omega)).trans hf
  have n6 : IntKind.i64.wrap (a + e) = a + e := IntWalk.i64_in _ (by omega)
  have n7 : IntKind.i64.wrap (b + f) = b + f := IntWalk.i64_in _ (by omega)
  have hsp : Hid (SpBd ⟨a + e, b + f, 0⟩ ∧ 0 < D ∧ D ≤ 4611686018427387904) := ⟨by unfold SpBd; simp only; omega, by omega, by omega⟩
  clear ha hb hD he hf hs pa pb pd pd0 pe pf
  have hA : Below w.heap.size w (((w.alloc (.cells #[.int .i64 (q : Int), .int .i64 tn, .int .i64 td, .int .i64 te, .int .i64 to] 36)).alloc (.cells #[.int .i64 s.X, .int .i64 s.Y, .int .i64 s.Den] 33)).alloc (.cells #[.int .i64 0, .int .i64 0, .int .i64 0] 33)) := by go_grown
  go_enter Try.func66, Try.ntmps66
  go_wp2_with fail
  refine (turned_spec s q (by omega) hsb.out _).mono ?_
  rintro ex w1 ⟨rfl, hb1⟩
  rw [hr]
  clear hr
  have BB := Below.on hA hA.size hb1
  have GR : Hid (AtSpot (w.heap.size + 2) ⟨0, 0, 0⟩ w1) := by
    have := (AtSpot.new ⟨0, 0, 0⟩ ((w.alloc (.cells #[.int .i64 (q : Int), .int .i64 tn, .int .i64 td, .int .i64 te, .int .i64 to] 36)).alloc (.cells #[.int .i64 s.X, .int .i64 s.Y, .int .i64 s.Den] 33))).below hb1
    simpa only [Hid, World.size_alloc] using this
  have GT : Hid (AtTurn (w.heap.size) (q : Int) tn td te to w1) := by
    have := ((AtTurn.new (q : Int) tn td te to w).below (by go_grown : Below (w.alloc (.cells #[.int .i64 (q : Int), .int .i64 tn, .int .i64 td, .int .i64 te, .int .i64 to] 36)).heap.size (w.alloc (.cells #[.int .i64 (q : Int), .int .i64 tn, .int .i64 td, .int .i64 te, .int .i64 to] 36)) (((w.alloc (.cells #[.int .i64 (q : Int), .int .i64 tn, .int .i64 td, .int .i64 te, .int .i64 to] 36)).alloc (.cells #[.int .i64 s.X, .int .i64 s.Y, .int .i64 s.Den] 33)).alloc (.cells #[.int .i64 0, .int .i64 0, .int .i64 0] 33)))).below hb1
    simpa only [Hid, World.size_alloc] using this
  have tl := GT.out.lt
  have t0 := GT.out.c0
  have t1 := GT.out.c1
  have t2 := GT.out.c2
  have t3 := GT.out.c3
  have t4 := GT.out.c4
  have ul := GR.out.lt
  have BB1 : Below w.heap.size w (w1.alloc (.cells #[.int .i64 r.X, .int .i64 r.Y, .int .i64 r.Den] 33)) := BB.alloc BB.size _
  have GR1 := GR.out.below (by go_grown : Below w1.heap.size w1 (w1.alloc (.cells #[.int .i64 r.X, .int .i64 r.Y, .int .i64 r.Den] 33)))
  go_wp2_with fail
  clear GR BB
  have GR := hid GR1
  have BB := BB1

  refine (low_spec (a + e) (b + f) D hsp.out.1 hsp.out.2.1 hsp.out.2.2 _).mono ?_
  rintro ex w2 ⟨rfl, hb2⟩
  have BB9 := Below.on BB BB.size hb2
  have GR9 := hid (GR.out.below hb2)
  clear GR BB hb2 ul
  have GR := GR9
  have ul := GR.out.lt
  have u0 := GR.out.c0
  have u1 := GR.out.c1
  have u2 := GR.out.c2
  have uz0 := GR.out.frozen (j := 0)
  have uz1 := GR.out.frozen (j := 1)
  have uz2 := GR.out.frozen (j := 2)
  go_wp2_with fail
  exact bodyPost_ret (v := (lowP (a + e) (b + f) D).val) (by simp [results, Try.results66, go_sem, ul, u0, u1, u2]) rfl ⟨by rw [hp.out], by go_grown⟩

theorem rotS_bd : ∀ (q : Nat) {s : Sp}, SpBd s → SpBd (rotS q s)
  | 0, s, h => h
  | q + 1, s, h => rotS_bd q (rot1_bd h)
theorem rotS_den : ∀ (q : Nat) (s : Sp), (rotS q s).Den = s.Den
  | 0, s => rfl
  | q + 1, s => rotS_den q (rot1 s)
theorem rotS_mod {k : Nat} (s : Sp) (h : k ≤ 4) : rotS (k % 4) s = rotS k s := by
  by_cases h4 : k = 4
  · subst h4; exact (rotS_4 s).symm
  · rw [Nat.mod_eq_of_lt (by omega)]
theorem rotS_form (k : Nat) (a b : Int) (D : Nat) : ∃ x y, rotS k ⟨a, b, (D : Int)⟩ = ⟨x, y, (D : Int)⟩ := by
  refine ⟨(rotS k ⟨a, b, (D : Int)⟩).X, (rotS k ⟨a, b, (D : Int)⟩).Y, ?_⟩
  have := rotS_den k ⟨a, b, (D : Int)⟩
  cases h : rotS k ⟨a, b, (D : Int)⟩
  rw [h] at this
  simp only at this ⊢
  rw [this]

set_option maxHeartbeats 4000000 in
theorem back_impl (t : GridTurnD) (s : Sp) (ht : turnB t = true) (hs : SpSm s) (w : World) : Calls Try.prog 51 #[s.val, t.val] w fun e w' => e = .returned (backS t s).val ∧ Below w.heap.size w w' := by
  obtain ⟨⟨q0, q1⟩, ⟨tn0, tn1⟩, ⟨td0, td1⟩, ⟨te0, te1⟩, to0, to1⟩ := turnB_bd ht
  clear ht
  rcases t with ⟨tq, tn, td, te, to⟩
  simp only at q0 q1 tn0 tn1 td0 td1 te0 te1 to0 to1
  obtain ⟨q, rfl⟩ : ∃ q : Nat, tq = (q : Int) := ⟨tq.toNat, by omega⟩
  obtain ⟨⟨r0, r1⟩, ⟨y0, y1⟩, d0, d1⟩ := hs
  have pe := mul_bd 99999 1048576 104856551424 (a := te) (b := s.Den) (by omega) (by omega) rfl
  have pf := mul_bd 99999 1048576 104856551424 (a := to) (b := s.Den) (by omega) (by omega) rfl
  obtain ⟨e, he⟩ : ∃ e, te * s.Den = e := ⟨_, rfl⟩
  obtain ⟨f, hf⟩ : ∃ f, to * s.Den = f := ⟨_, rfl⟩
  rw [he] at pe
  rw [hf] at pf
  have pa := mul_bd 1204368179200 20 24087363584000 (a := s.X - e) (b := td) (by omega) (by omega) rfl
  have pb := mul_bd 1204368179200 20 24087363584000 (a := s.Y - f) (b := td) (by omega) (by omega) rfl
  have pd := mul_bd 1048576 20 20971520 (a := s.Den) (b := tn) (by omega) (by omega) rfl
  have pd0 : 1 ≤ s.Den * tn := by have := Int.mul_le_mul d0 tn0 (by omega) (by omega : (0 : Int) ≤ s.Den); omega
  obtain ⟨a, ha⟩ : ∃ a, (s.X - e) * td = a := ⟨_, rfl⟩
  obtain ⟨b, hb⟩ : ∃ b, (s.Y - f) * td = b := ⟨_, rfl⟩
  obtain ⟨D, hD⟩ : ∃ D : Nat, s.Den * tn = (D : Int) := ⟨(s.Den * tn).toNat, by omega⟩
  rw [ha] at pa
  rw [hb] at pb
  rw [hD] at pd pd0
  obtain ⟨k, hk⟩ : ∃ k : Nat, 4 - q = k := ⟨_, rfl⟩
  have hk4 : k ≤ 4 := by omega
  obtain ⟨x, y, hr⟩ := rotS_form k a b D
  have hp : Hid (backS ⟨(q : Int), tn, td, te, to⟩ s = lowP x y D) := by
    unfold Hid backS preS
    simp only [Int.toNat_natCast]
    rw [he, hf, ha, hb, hD, hk, hr, Int.toNat_natCast]
  have hsb : Hid (SpBd ⟨a, b, (D : Int)⟩) := by unfold Hid SpBd; simp only; omega
  have hsb2 : SpBd ⟨x, y, (D : Int)⟩ := hr ▸ rotS_bd k hsb.out
  have hsp : Hid (SpBd ⟨x, y, 0⟩ ∧ 0 < D ∧ D ≤ 4611686018427387904) := ⟨hsb2, by omega, by omega⟩
  have n1 : IntKind.i64.wrap (te * s.Den) = e := (IntWalk.i64_in _ (by omega)).trans he
  have n2 : IntKind.i64.wrap (to * s.Den) = f := (IntWalk.i64_in _ (by omega)).trans hf
  have n3 : IntKind.i64.wrap (s.X - e) = s.X - e := IntWalk.i64_in _ (by omega)
  have n4 : IntKind.i64.wrap (s.Y - f) = s.Y - f := IntWalk.i64_in _ (by omega)
  have n5 : IntKind.i64.wrap ((s.X - e) * td) = a := (IntWalk.i64_in _ (by omega)).trans ha
  have n6 : IntKind.i64.wrap ((s.Y - f) * td) = b := (IntWalk.i64_in _ (by omega)).trans hb
  have n7 : IntKind.i64.wrap (s.Den * tn) = (D : Int) := (IntWalk.i64_in _ (by omega)).trans hD
  have n8 : IntKind.i64.wrap (4 - (q : Int)) = (k : Int) := (IntWalk.i64_in _ (by omega)).trans (by omega)
  have n9 : IntKind.i64.wrap ((k : Int) % 4) = ((k % 4 : Nat) : Int) := (IntWalk.i64_in _ (by omega)).trans (by omega)
  have n10 : (0 : Int) ≤ (k : Int) := by omega
  have HR : Hid (rotS k ⟨a, b, (D : Int)⟩ = ⟨x, y, (D : Int)⟩) := hr
  clear ha hb hD he hf pa pb pd pd0 pe pf hk hr hsb2
  have hA : Below w.heap.size w (((w.alloc (.cells #[.int .i64 a, .int .i64 b, .int .i64 (D : Int)] 33)).alloc (.cells #[.int .i64 (q : Int), .int .i64 tn, .int .i64 td, .int .i64 te, .int .i64 to] 36)).alloc (.cells #[.int .i64 0, .int .i64 0, .int .i64 0] 33)) := by go_grown
  go_enter Try.func51, Try.ntmps51
  go_wp2_with fail
  refine (turned_impl ⟨a, b, (D : Int)⟩ k (by omega) hsb.out _).mono ?_
  rintro ex w1 ⟨rfl, hb1⟩
  rw [HR.out]
  have BB := Below.on hA hA.size hb1
  have GR : Hid (AtSpot (w.heap.size + 2) ⟨0, 0, 0⟩ w1) := by
    have := (AtSpot.new ⟨0, 0, 0⟩ ((w.alloc (.cells #[.int .i64 a, .int .i64 b, .int .i64 (D : Int)] 33)).alloc (.cells #[.int .i64 (q : Int), .int .i64 tn, .int .i64 td, .int .i64 te, .int .i64 to] 36))).below hb1
    simpa only [Hid, World.size_alloc] using this
  
  have ul := GR.out.lt
  go_wp2_with fail
  refine (low_impl_pos x y D hsp.out.1 hsp.out.2.1 hsp.out.2.2 _).mono ?_
  rintro ex w2 ⟨rfl, hb2⟩
  have BB9 := Below.on BB BB.size hb2
  have GR9 := hid (GR.out.below hb2)
  clear GR BB hb2 ul
  have GR := GR9
  have ul := GR.out.lt
  have u0 := GR.out.c0
  have u1 := GR.out.c1
  have u2 := GR.out.c2
  have uz0 := GR.out.frozen (j := 0)
  have uz1 := GR.out.frozen (j := 1)
  have uz2 := GR.out.frozen (j := 2)
  go_wp2_with fail
  exact bodyPost_ret (v := (lowP x y D).val) (by simp [results, Try.results51, go_sem, ul, u0, u1, u2]) rfl ⟨by rw [hp.out], by go_grown⟩

set_option maxHeartbeats 4000000 in
theorem back_spec (t : GridTurnD) (s : Sp) (ht : turnB t = true) (hs : SpSm s) (w : World) : Calls Try.prog 50 #[t.val, s.val] w fun e w' => e = .returned (backS t s).val ∧ Below w.heap.size w w' := by
  obtain ⟨⟨q0, q1⟩, ⟨tn0, tn1⟩, ⟨td0, td1⟩, ⟨te0, te1⟩, to0, to1⟩ := turnB_bd ht
  clear ht
  rcases t with ⟨tq, tn, td, te, to⟩
  simp only at q0 q1 tn0 tn1 td0 td1 te0 te1 to0 to1
  obtain ⟨q, rfl⟩ : ∃ q : Nat, tq = (q : Int) := ⟨tq.toNat, by omega⟩
  obtain ⟨⟨r0, r1⟩, ⟨y0, y1⟩, d0, d1⟩ := hs
  have pe := mul_bd 99999 1048576 104856551424 (a := te) (b := s.Den) (by omega) (by omega) rfl
  have pf := mul_bd 99999 1048576 104856551424 (a := to) (b := s.Den) (by omega) (by omega) rfl
  obtain ⟨e, he⟩ : ∃ e, te * s.Den = e := ⟨_, rfl⟩
  obtain ⟨f, hf⟩ : ∃ f, to * s.Den = f := ⟨_, rfl⟩
  rw [he] at pe
  rw [hf] at pf
  have pa := mul_bd 1204368179200 20 24087363584000 (a := s.X - e) (b := td) (by omega) (by omega) rfl
  have pb := mul_bd 1204368179200 20 24087363584000 (a := s.Y - f) (b := td) (by omega) (by omega) rfl
  have pd := mul_bd 1048576 20 20971520 (a := s.Den) (b := tn) (by omega) (by omega) rfl
  have pd0 : 1 ≤ s.Den * tn := by have := Int.mul_le_mul d0 tn0 (by omega) (by omega : (0 : Int) ≤ s.Den); omega
  obtain ⟨a, ha⟩ : ∃ a, (s.X - e) * td = a := ⟨_, rfl⟩
  obtain ⟨b, hb⟩ : ∃ b, (s.Y - f) * td = b := ⟨_, rfl⟩
  obtain ⟨D, hD⟩ : ∃ D : Nat, s.Den * tn = (D : Int) := ⟨(s.Den * tn).toNat, by omega⟩
  rw [ha] at pa
  rw [hb] at pb
  rw [hD] at pd pd0
  obtain ⟨k, hk⟩ : ∃ k : Nat, 4 - q = k := ⟨_, rfl⟩
  have hk4 : k ≤ 4 := by omega
  obtain ⟨x, y, hr⟩ := rotS_form k a b D
  have hp : Hid (backS ⟨(q : Int), tn, td, te, to⟩ s = lowP x y D) := by
    unfold Hid backS preS
    simp only [Int.toNat_natCast]
    rw [he, hf, ha, hb, hD, hk, hr, Int.toNat_natCast]
  have hsb : Hid (SpBd ⟨a, b, (D : Int)⟩) := by unfold Hid SpBd; simp only; omega
  have hsb2 : SpBd ⟨x, y, (D : Int)⟩ := hr ▸ rotS_bd k hsb.out
  have hsp : Hid (SpBd ⟨x, y, 0⟩ ∧ 0 < D ∧ D ≤ 4611686018427387904) := ⟨hsb2, by omega, by omega⟩
  have n1 : IntKind.i64.wrap (te * s.Den) = e := (IntWalk.i64_in _ (by omega)).trans he
  have n2 : IntKind.i64.wrap (to * s.Den) = f := (IntWalk.i64_in _ (by omega)).trans hf
  have n3 : IntKind.i64.wrap (s.X - e) = s.X - e := IntWalk.i64_in _ (by omega)
  have n4 : IntKind.i64.wrap (s.Y - f) = s.Y - f := IntWalk.i64_in _ (by omega)
  have n5 : IntKind.i64.wrap ((s.X - e) * td) = a := (IntWalk.i64_in _ (by omega)).trans ha
  have n6 : IntKind.i64.wrap ((s.Y - f) * td) = b := (IntWalk.i64_in _ (by omega)).trans hb
  have n7 : IntKind.i64.wrap (s.Den * tn) = (D : Int) := (IntWalk.i64_in _ (by omega)).trans hD
  have n8 : IntKind.i64.wrap (4 - (q : Int)) = (k : Int) := (IntWalk.i64_in _ (by omega)).trans (by omega)
  have n9 : IntKind.i64.wrap ((k : Int) % 4) = ((k % 4 : Nat) : Int) := (IntWalk.i64_in _ (by omega)).trans (by omega)
  have n10 : (0 : Int) ≤ (k : Int) := by omega
  have HR : Hid (rotS (k % 4) ⟨a, b, (D : Int)⟩ = ⟨x, y, (D : Int)⟩) := (rotS_mod _ hk4).trans hr
  clear ha hb hD he hf pa pb pd pd0 pe pf hk hr hsb2
  have hA : Below w.heap.size w (((((w.alloc (.cells #[.int .i64 (q : Int), .int .i64 tn, .int .i64 td, .int .i64 te, .int .i64 to] 36)).alloc (.cells #[.int .i64 s.X, .int .i64 s.Y, .int .i64 s.Den] 33))).alloc (.cells #[.int .i64 0, .int .i64 0, .int .i64 0] 33)).alloc (.cells #[.int .i64 a, .int .i64 b, .int .i64 (D : Int)] 33)) := by go_grown
  go_enter Try.func50, Try.ntmps50
  go_wp2_with fail
  refine (turned_spec ⟨a, b, (D : Int)⟩ (k % 4) (by omega) hsb.out _).mono ?_
  rintro ex w1 ⟨rfl, hb1⟩
  rw [HR.out]
  have BB := Below.on hA hA.size hb1
  have GR : Hid (AtSpot (w.heap.size + 2) ⟨0, 0, 0⟩ w1) := by
    have := ((AtSpot.new ⟨0, 0, 0⟩ ((w.alloc (.cells #[.int .i64 (q : Int), .int .i64 tn, .int .i64 td, .int .i64 te, .int .i64 to] 36)).alloc (.cells #[.int .i64 s.X, .int .i64 s.Y, .int .i64 s.Den] 33))).below (by go_grown : Below (((w.alloc (.cells #[.int .i64 (q : Int), .int .i64 tn, .int .i64 td, .int .i64 te, .int .i64 to] 36)).alloc (.cells #[.int .i64 s.X, .int .i64 s.Y, .int .i64 s.Den] 33)).alloc (.cells #[.int .i64 0, .int .i64 0, .int .i64 0] 33)).heap.size (((w.alloc (.cells #[.int .i64 (q : Int), .int .i64 tn, .int .i64 td, .int .i64 te, .int .i64 to] 36)).alloc (.cells #[.int .i64 s.X, .int .i64 s.Y, .int .i64 s.Den] 33)).alloc (.cells #[.int .i64 0, .int .i64 0, .int .i64 0] 33)) (((((w.alloc (.cells #[.int .i64 (q : Int), .int .i64 tn, .int .i64 td, .int .i64 te, .int .i64 to] 36)).alloc (.cells #[.int .i64 s.X, .int .i64 s.Y, .int .i64 s.Den] 33))).alloc (.cells #[.int .i64 0, .int .i64 0, .int .i64 0] 33)).alloc (.cells #[.int .i64 a, .int .i64 b, .int .i64 (D : Int)] 33)))).below hb1
    simpa only [Hid, World.size_alloc] using this
  have G : AtSpot (w.heap.size + 1 + 1 + 1) ⟨a, b, (D : Int)⟩ w1 := by
    have := (AtSpot.new ⟨a, b, (D : Int)⟩ (((w.alloc (.cells #[.int .i64 (q : Int), .int .i64 tn, .int .i64 td, .int .i64 te, .int .i64 to] 36)).alloc (.cells #[.int .i64 s.X, .int .i64 s.Y, .int .i64 s.Den] 33)).alloc (.cells #[.int .i64 0, .int .i64 0, .int .i64 0] 33))).below hb1
    simpa only [World.size_alloc] using this
  have gl := G.lt
  have g0 := G.c0
  have g1 := G.c1
  have g2 := G.c2
  have gz0 := G.frozen (j := 0)
  have gz1 := G.frozen (j := 1)
  have gz2 := G.frozen (j := 2)
  have G' := hid G
  clear G
  go_upto_region 3 with fail
  have G2 : AtSpot (w.heap.size + 1 + 1 + 1) ⟨x, y, (D : Int)⟩ (((w1.setCell ⟨w.heap.size + 1 + 1 + 1, 0, none⟩ (.int .i64 x)).setCell ⟨w.heap.size + 1 + 1 + 1, 1, none⟩ (.int .i64 y)).setCell ⟨w.heap.size + 1 + 1 + 1, 2, none⟩ (.int .i64 (D : Int))) := G'.out.put ⟨x, y, (D : Int)⟩
  have GR2 := (((GR.out.other (w.heap.size + 1 + 1 + 1) 0 (.int .i64 x) (by omega)).other (w.heap.size + 1 + 1 + 1) 1 (.int .i64 y) (by omega)).other (w.heap.size + 1 + 1 + 1) 2 (.int .i64 (D : Int)) (by omega))
  have BB2 : Below w.heap.size w (((w1.setCell ⟨w.heap.size + 1 + 1 + 1, 0, none⟩ (.int .i64 x)).setCell ⟨w.heap.size + 1 + 1 + 1, 1, none⟩ (.int .i64 y)).setCell ⟨w.heap.size + 1 + 1 + 1, 2, none⟩ (.int .i64 (D : Int))) := by go_grown
  clear gl g0 g1 g2 gz0 gz1 gz2
  generalize (((w1.setCell ⟨w.heap.size + 1 + 1 + 1, 0, none⟩ (.int .i64 x)).setCell ⟨w.heap.size + 1 + 1 + 1, 1, none⟩ (.int .i64 y)).setCell ⟨w.heap.size + 1 + 1 + 1, 2, none⟩ (.int .i64 (D : Int))) = wA at G2 GR2 BB2 ⊢
  clear G' GR BB hb1
  have GR := hid GR2
  have BB := BB2
  clear GR2 BB2
  have gl := G2.lt
  have g0 := G2.c0
  have g1 := G2.c1
  have g2 := G2.c2
  clear G2

  have ul := GR.out.lt
  go_wp2_with fail
  refine (low_spec x y D hsp.out.1 hsp.out.2.1 hsp.out.2.2 _).mono ?_
  rintro ex w2 ⟨rfl, hb2⟩
  have BB9 := Below.on BB BB.size hb2
  have GR9 := hid (GR.out.below hb2)
  clear GR BB hb2 ul
  have GR := GR9
  have ul := GR.out.lt
  have u0 := GR.out.c0
  have u1 := GR.out.c1
  have u2 := GR.out.c2
  have uz0 := GR.out.frozen (j := 0)
  have uz1 := GR.out.frozen (j := 1)
  have uz2 := GR.out.frozen (j := 2)
  go_wp2_with fail
  exact bodyPost_ret (v := (lowP x y D).val) (by simp [results, Try.results50, go_sem, ul, u0, u1, u2]) rfl ⟨by rw [hp.out], by go_grown⟩

end Go.Proofs.Ytigiihhfmdgdlaa
