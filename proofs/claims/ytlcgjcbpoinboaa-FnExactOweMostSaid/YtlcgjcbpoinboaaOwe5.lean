/-
  The readers that owe the most, by the reference; and the law's walk. No condition.
-/
import Derived.Test.YtlcgjcbpoinboaaOwe4
namespace Go.Proofs.Ytlcgjcbpoinboaa
open Go.RowKit
set_option linter.unusedVariables false
set_option maxRecDepth 100000

/-- append at a step of a region that draws, whatever it appends. -/
theorem step_append_own {P : Program} {w : World} {ops : Array Oper} {o : Oper} {a : Act} {K : Act → World → Prop} {Q : Exit → Act → World → Prop} {E : Prop} (hgd : o.guard = none) (s x : Operand) (t : TypeId)
    (ho : o.op = .call { callee := .builtin .append, args := #[s, x], argTypes := #[t, t] })
    (base : Nat) (e : TypeId) (i : TypeInfo) (z : Value) (size bytes : Nat) (ht : P.underlying t = some (.slice e)) (hi : P.info? e = some i) (hz : i.zero = some z)
    (hsize : i.size = size) (hby : i.bytes = bytes) (hzs : z.cells.size = size) (hsz : 0 < size)
    (v : Value) (n : Nat) (xs : List Value) (hs : a.eval s = v) (hown : w.ownsRow base e size v n xs)
    (ad : Addr) (m c : Nat) (news : List Value) (p : Option Addr) (hx : a.eval x = .slice p m c) (hp : p = some ad) (hl : news.length = m * size) (hnews : ∀ j u, news[j]? = some u → w.cell? (ad.add j) = some u) (h1 : ∀ u ∈ news, u.oneCell' = true)
    (h63 : n + m ≤ maxLen) (hbytes : (n + m) * bytes ≤ 140737488355328) (hbase : base ≤ w.heap.size)
    (h : ∀ v' w', w'.ownsRow base e size v' (n + m) (xs ++ news) → w.grownBy w' v.ownBlock → (∀ k, v.ownBlock = some k → base ≤ k) → K (a.put o.dst v') w') :
    if Region.wanted o (yielded ops a.tmps) = true then Oper.wp P o a w K Q else E := by
  have hw : Region.wanted o (yielded ops a.tmps) = true := by simp [Region.wanted, hgd]
  subst hp
  rw [if_pos hw]
  obtain ⟨v', w', hr, h2, h3, _⟩ := run_append_own_at (P := P) w base t o.type e i z size bytes ht hi hz hsize hby hzs hsz v n xs hown ad m c news hl hnews h1 h63 hbytes hbase
  unfold Oper.wp execOp
  simp only [ho, resolve, invoke, builtin, Sem.run_bind, Sem.run_pure, Result.andThen_ok, List.map_toArray, List.map_cons, List.map_nil, hs, hx, hr]
  exact h v' w' h2 h3 (fun k hk => (World.ownsRow.lt hown k hk).1)

theorem newsR (s : ReaderD) {w : World} {B : Nat} (h : w.heap[B]? = some (.cells #[.int .i64 s.Id, .string s.Name, .int .i64 s.Joined, .int .i64 s.Class, .int .i64 s.Fines] 33 (0, 0))) : ∀ j u, (s.cells)[j]? = some u → w.cell? ((⟨B, 0, none⟩ : Addr).add j) = some u := World.news_of_block h
theorem onesR (s : ReaderD) : ∀ u ∈ s.cells, u.oneCell' = true := by
  intro u hu
  simp [ReaderD.cells] at hu
  rcases hu with rfl | rfl | rfl | rfl | rfl <;> rfl
theorem cutR_stop {s : ReaderD} {O : List ReaderD} {k : Nat} (h : k = 0 ∨ s.Fines ≤ (O.getD (k - 1) default).Fines) : cutR s O k = k := by
  rcases k with _ | j
  · rfl
  · rcases h with h | h
    · omega
    · have h2 : s.Fines ≤ (O.getD j default).Fines := h
      unfold cutR; rw [if_neg (by omega)]
theorem cutR_go {s : ReaderD} {O : List ReaderD} {k : Nat} (h0 : 0 < k) (h : (O.getD (k - 1) default).Fines < s.Fines) : cutR s O k = cutR s O (k - 1) := by
  rcases k with _ | j
  · omega
  · conv => lhs; unfold cutR
    rw [if_pos (by simpa using h)]
    simp
/-- The cells of elements k0 .. of a row, as news. -/
theorem news_part {w : World} {g n : Nat} {O M : List ReaderD} {k0 : Nat} (h : Rw w g 0 5 n (fun i => (O.getD i default).cells)) (hM : ∀ i, i < M.length → M.getD i default = O.getD (k0 + i) default) (hn : k0 + M.length ≤ n) :
    ∀ j u, (M.flatMap ReaderD.cells)[j]? = some u → w.cell? ((⟨g, k0 * 5, none⟩ : Addr).add j) = some u := by
  intro j u hu
  have hl : j < M.length * 5 := by
    have h1 := (List.getElem?_eq_some_iff.1 hu).1
    rw [flat_len_Reader] at h1
    exact h1
  have hi : j / 5 < M.length := by omega
  have hr : j % 5 < 5 := Nat.mod_lt _ (by omega)
  have e : j = (j / 5) * 5 + j % 5 := by omega
  have h2 := h.2 (k0 + j / 5) (by omega) (j % 5) hr
  have h3 := flat_get_Reader M (j / 5) (j % 5) hi hr
  rw [← e, hM _ hi] at h3
  rw [← h3, hu] at h2
  have ha : ((⟨g, k0 * 5, none⟩ : Addr).add j) = ⟨g, 0 + (k0 + j / 5) * 5 + j % 5, none⟩ := by
    rw [show 0 + (k0 + j / 5) * 5 + j % 5 = k0 * 5 + j by omega]; simp [Addr.add]
  rw [ha]
  exact h2
theorem add_block (a : Addr) (j : Nat) : (a.add j).block = a.block := by unfold Addr.add; split <;> rfl
theorem news_below {w w' : World} {N : List Value} {ad : Addr} (h : ∀ j u, N[j]? = some u → w.cell? (ad.add j) = some u) (hb : Below w.heap.size w w') (hg : ad.block < w.heap.size) : ∀ j u, N[j]? = some u → w'.cell? (ad.add j) = some u := by
  intro j u hu
  exact (hb.cell (by rw [add_block]; exact hg)).trans (h j u hu)
theorem take_at {O : List ReaderD} {k i : Nat} (h : i < (O.take k).length) : (O.take k).getD i default = O.getD (0 + i) default := by
  rw [List.length_take] at h
  have h2 : i < k := by omega
  simp [List.getD, List.getElem?_take, h2]
theorem drop_at {O : List ReaderD} {k i : Nat} (h : i < (O.drop k).length) : (O.drop k).getD i default = O.getD (k + i) default := by
  simp [List.getD, List.getElem?_drop]

set_option maxHeartbeats 8000000 in
theorem owe_spec (w : World) (b off len cap : Nat) (X : Nat → ReaderD) (m : Int) (h : Rw w b off 5 len (fun i => (X i).cells)) (hm : len ≤ 1048576) (hlc : len ≤ cap) (hnm : ∀ i, i < len → (X i).Name.size ≤ maxLen) :
    Calls Try.prog 52 #[.slice (some ⟨b, off, none⟩) len cap, .int .i64 m] w (RetIB (oweL X len m) (oweOk X len m) w) := by
  have H := hid h
  have HN := hid hnm
  have hb := h.1
  clear h hnm
  obtain ⟨j0, hj, hy0, hy1, hy2⟩ := info_parts info_int
  obtain ⟨i0, hi, hz0, hz1, hz2⟩ := info_parts info_Reader
  have hE := hid (ownI_empty' w)
  have hA : Below w.heap.size w (w.alloc (.cells #[] 3)) := by go_grown
  go_enter Try.func52, Try.ntmps52
  go_wp2_with fail
  refine (readers_spec _ b off len cap X (H.out.later' hA) hm hlc HN.out).mono ?_
  rintro e w0 ⟨rfl, hb0'⟩
  have B0 : Below w.heap.size w w0 := Below.on hA hA.size hb0'
  have hA0 : w.heap.size < w0.heap.size := by have := hb0'.size; simp at this; omega
  have ho0 := hid (hE.out.below hb0')
  clear hE hb0'
  by_cases hS : readersB X len = true
  · by_cases hd : inB m 0 10 = true
    · have hd1 : 0 ≤ m ∧ m ≤ 10 := by simp [inB] at hd; omega
      have hP : Hid (oweOk X len m = true) := by simp [Hid, oweOk, hS, hd]
      have hQ : Hid (oweL X len m = idsN (isL (lstReader X len) len) (min m.toNat len)) := by unfold Hid oweL; rw [if_pos hP.out]
      have h10 : len ≤ 10 := readersB_le hS
      obtain ⟨mm, rfl⟩ : ∃ mm : Nat, m = (mm : Int) := ⟨m.toNat, by omega⟩
      have hb0 : b < w0.heap.size := by have := B0.size; omega
      have H0 := hid (H.out.later' B0)
      have HS := hid hS
      clear hS
      have hE0 : Hid (OwnReader w0.heap.size (w0.alloc (.cells #[] 33)) (.slice (some ⟨w0.heap.size, 0, none⟩) 0 0) (ordL (lstReader X len) 0)) := OwnReader.empty w0
      go_wp2_with (go_at_call 66; refine (in_spec _ _ _ _).mono ?_; rintro e w' ⟨rfl, rfl⟩)
      go_loopw [7, 8] (fun v iv wr => ∃ i : Nat, i ≤ len ∧ iv = .int .i64 i ∧ Below w0.heap.size w0 wr ∧ ∃ g cap', v = .slice (some ⟨g, 0, none⟩) i cap' ∧ i ≤ cap' ∧ Hid (OwnReader w0.heap.size wr v (ordL (lstReader X len) i))) (fun _ iv _ => len - (intOf iv).toNat)
      case atStart => exact ⟨0, by omega, rfl, by go_grown, _, _, rfl, Nat.le_refl _, hE0⟩
      case round =>
        clear hE0
        obtain ⟨i, hi', rfl, hB, g, cap', rfl, hic, hO⟩ := hrel
        rcases hO.out.form with ⟨hv, _⟩ | ⟨g', cap2, hv, hgB, hg2, _, _, hRw, _⟩
        · exact absurd hv (by simp)
        injection hv with e1 e2 e3
        injection e1 with e1
        injection e1 with e1
        subst e1
        subst e3
        clear e2
        rw [ordL_len (by rw [lstReader_length]; exact hi')] at hRw
        by_cases hlt : i < len
        · obtain ⟨O, hOe⟩ : ∃ O, ordL (lstReader X len) i = O := ⟨_, rfl⟩
          obtain ⟨s, hsA⟩ : ∃ s, (lstReader X len).getD i default = s := ⟨_, rfl⟩
          have hOl : O.length = i := by rw [← hOe]; exact ordL_len (by rw [lstReader_length]; exact hi')
          have hXs : X i = s := by rw [← hsA, lstReader_at hlt]
          have hsc : ∀ j, j < 5 → w0.cell? ⟨b, off + i * 5 + j, none⟩ = (s.cells)[j]? := fun j hj => by have hh := H0.out.2 i hlt j hj; simp only [hXs] at hh; exact hh
          rw [hOe] at hO hRw
          have HRw := hid hRw
          have HOe := hid hOe
          have HsA := hid hsA
          have HOl := hid hOl
          clear hOe hsA hXs hRw
          generalize wr = wo at *
          go_wp2_with fail
          go_loopw [9] (fun kv wi => ∃ k : Nat, k ≤ i ∧ kv = .int .i64 k ∧ Below wo.heap.size wo wi ∧ Hid (cutR s O i = cutR s O k)) (fun kv _ => (intOf kv).toNat)
          case atStart => exact ⟨i, by omega, rfl, Below.refl _ _, rfl⟩
          case round =>
            obtain ⟨k, hk, rfl, hBi, hcut⟩ := hrel
            have hq := fun x : Later wr => x.cell
            have e0 : IntKind.i64.wrap ((k : Int) - 1) = (k : Int) - 1 := IntWalk.i64_in _ (by omega)
            have e1 : ((k : Int) - 1).toNat = k - 1 := by omega
            have lbi : b < wr.heap.size := by have := hB.size; have := hBi.size; omega
            have lgi : g < wr.heap.size := by have := hBi.size; omega
            have y4 : wr.cell? ⟨b, off + i * 5 + 4, none⟩ = some (.int .i64 s.Fines) := ((Below.on hB hB.size hBi).cell hb0).trans (hsc 4 (by omega))
            have y5 : (i : Int) < (len : Int) := by omega
            have y6 : (0 : Int) ≤ (i : Int) := by omega
            obtain ⟨a, ha⟩ : ∃ a, (O.getD (k - 1) default).Fines = a := ⟨_, rfl⟩
            by_cases hk0 : 0 < k
            · have e2 : (0 : Int) ≤ (k : Int) - 1 := by omega
              have e3 : (k : Int) - 1 < (i : Int) := by omega
              have d0 : decide ((0 : Int) < (k : Int)) = true := by simp; omega
              have p4 : wr.cell? ⟨g, (k - 1) * 5 + 4, none⟩ = some (.int .i64 a) := (hBi.cell hg2).trans (by have hh := HRw.out.2 (k - 1) (by omega) 4 (by omega); rw [Nat.zero_add] at hh; exact hh.trans (by rw [← ha]; rfl))
              by_cases hF : a < s.Fines
              · have d1 : decide (a < s.Fines) = true := by simp [hF]
                have hgo : Hid (cutR s O i = cutR s O (k - 1)) := by unfold Hid; rw [hcut.out]; exact cutR_go hk0 (by rw [ha]; exact hF)
                clear ha hF
                go_wp2_with fail
                refine region_later (by kernel_rfl) (by kernel_rfl) ?_
                repeat (go_big_quiet_step (fail))
                refine wpQuiet_nil ?_
                intro _ hw'
                obtain ⟨x, rfl⟩ := hw'

                have hBx : Below wo.heap.size wo x.wd := Below.on hBi hBi.size x.below
                clear hq
                go_wp2_with fail
                go_roundw
                case rel => exact ⟨k - 1, by omega, by rw [show ((k - 1 : Nat) : Int) = (k : Int) - 1 by omega], hBx, hgo⟩
                case measure => simp [intOf]; omega
              · have d1 : decide (a < s.Fines) = false := by simp [hF]
                have hstop : Hid (k = 0 ∨ s.Fines ≤ (O.getD (k - 1) default).Fines) := .inr (by rw [ha]; omega)
                clear ha hF
                go_wp2_with fail
                refine region_later (by kernel_rfl) (by kernel_rfl) ?_
                repeat (go_big_quiet_step (fail))
                refine wpQuiet_nil ?_
                intro _ hw'
                obtain ⟨x, rfl⟩ := hw'

                have HC : Hid (cutR s O i = k) := by unfold Hid; rw [hcut.out]; exact cutR_stop hstop.out
                have BX : Below w0.heap.size w0 x.wd := Below.on hB hB.size (Below.on hBi hBi.size x.below)
                have N1 : Hid (∀ j u, ((O.take k).flatMap ReaderD.cells)[j]? = some u → x.wd.cell? ((⟨g, 0, none⟩ : Addr).add j) = some u) := by
                  have hh := news_part (k0 := 0) (M := O.take k) (HRw.out.later' (Below.on hBi hBi.size x.below)) (fun i hi => take_at hi) (by rw [List.length_take]; omega)
                  rw [Nat.zero_mul] at hh
                  exact hh
                have N2 : Hid (∀ j u, ((O.drop k).flatMap ReaderD.cells)[j]? = some u → x.wd.cell? ((if cap' = k then (⟨g, 0, none⟩ : Addr) else ⟨g, k * 5, none⟩).add j) = some u) := by
                  by_cases hck : cap' = k
                  · have hnil : O.drop k = [] := List.drop_eq_nil_of_le (by rw [HOl.out]; omega)
                    unfold Hid
                    intro j u hu
                    rw [hnil] at hu
                    simp at hu
                  · rw [if_neg hck]
                    exact news_part (k0 := k) (M := O.drop k) (HRw.out.later' (Below.on hBi hBi.size x.below)) (fun i hi => drop_at hi) (by rw [List.length_drop, HOl.out]; omega)
                have hgl : g < x.wd.heap.size := by have := x.size; have := hBi.size; omega
                have hbx : b < x.wd.heap.size := by have := x.size; omega
                have c0 : x.wd.cell? ⟨b, off + i * 5, none⟩ = some (.int .i64 s.Id) := (BX.cell hb0).trans ((congrArg _ rfl).trans (hsc 0 (by omega)))
                have c1 : x.wd.cell? ⟨b, off + i * 5 + 1, none⟩ = some (.string s.Name) := (BX.cell hb0).trans ((congrArg _ rfl).trans (hsc 1 (by omega)))
                have c2 : x.wd.cell? ⟨b, off + i * 5 + 2, none⟩ = some (.int .i64 s.Joined) := (BX.cell hb0).trans ((congrArg _ rfl).trans (hsc 2 (by omega)))
                have c3 : x.wd.cell? ⟨b, off + i * 5 + 3, none⟩ = some (.int .i64 s.Class) := (BX.cell hb0).trans ((congrArg _ rfl).trans (hsc 3 (by omega)))
                have c4 : x.wd.cell? ⟨b, off + i * 5 + 4, none⟩ = some (.int .i64 s.Fines) := (BX.cell hb0).trans ((congrArg _ rfl).trans (hsc 4 (by omega)))
                have z1 : (0 : Int) ≤ (k : Int) := by omega
                have z2 : (k : Int) ≤ (i : Int) := by omega
                have z3 : (k : Int) ≤ (cap' : Int) := by omega
                have z4 : (i : Int) ≤ (cap' : Int) := by omega
                clear hq hcut hBi hB p4 e0 e1 e2 e3 d0 d1
                generalize x.wd = wx at *
                have HE1 : Hid (((wx.drew.alloc (.cells #[] 33)).alloc (.cells #[.int .i64 s.Id, .string s.Name, .int .i64 s.Joined, .int .i64 s.Class, .int .i64 s.Fines] 33)).heap[wx.heap.size + 1]? = some (.cells #[.int .i64 s.Id, .string s.Name, .int .i64 s.Joined, .int .i64 s.Class, .int .i64 s.Fines] 33)) := by have := heap_alloc_new (wx.drew.alloc (.cells #[] 33)) (.cells #[.int .i64 s.Id, .string s.Name, .int .i64 s.Joined, .int .i64 s.Class, .int .i64 s.Fines] 33); simpa [Hid] using this
                have HE2 : Hid (((wx.drew.alloc (.cells #[.int .i64 s.Id, .string s.Name, .int .i64 s.Joined, .int .i64 s.Class, .int .i64 s.Fines] 33)).alloc (.cells #[] 33)).heap[wx.heap.size]? = some (.cells #[.int .i64 s.Id, .string s.Name, .int .i64 s.Joined, .int .i64 s.Class, .int .i64 s.Fines] 33)) := (heap_alloc_old _ _ (by simp)).trans (heap_alloc_new wx.drew _)
                have HE3 : Hid (OwnReader wx.heap.size ((wx.drew.alloc (.cells #[.int .i64 s.Id, .string s.Name, .int .i64 s.Joined, .int .i64 s.Class, .int .i64 s.Fines] 33)).alloc (.cells #[] 33)) (.slice (some ⟨wx.heap.size + 1, 0, none⟩) 0 0) []) := by
                  have hh := OwnReader.base (B' := wx.heap.size) (OwnReader.empty (wx.drew.alloc (.cells #[.int .i64 s.Id, .string s.Name, .int .i64 s.Joined, .int .i64 s.Class, .int .i64 s.Fines] 33))) (by first | (simp; done) | (simp; omega))
                  rw [show (wx.drew.alloc (.cells #[.int .i64 s.Id, .string s.Name, .int .i64 s.Joined, .int .i64 s.Class, .int .i64 s.Fines] 33)).heap.size = wx.heap.size + 1 from by simp] at hh
                  exact hh
                go_wp2_with fail
                go_region_law (first
                  | (refine step_append_own rfl (.tmp 52) (.tmp 57) 39 rfl wx.heap.size 33 i0 (.agg #[.int .i64 0, .string ByteArray.empty, .int .i64 0, .int .i64 0, .int .i64 0]) 5 48 Try.underlying39 hi hz0 hz1 hz2 rfl (by decide) v1 k ((O.take k).flatMap ReaderD.cells) rfl (by first | exact ho1 | exact World.ownsRow.alloc ho1 _) _ 1 1 (s.cells) _ rfl rfl rfl (by first | exact newsR s (heap_alloc_new w1 _) | exact newsR s ((hg1.block _ (by first | (simp; done) | (simp; omega)) (by first | (simp; done) | (simp; omega))).trans HE1.out) | exact newsR s ((hg1.block _ (by first | (simp; done) | (simp; omega)) (by first | (simp; done) | (simp; omega))).trans HE2.out)) (onesR _) (by unfold maxLen; omega) (by omega) (by have hh := B1.size; first | exact hh | (simp; omega)) ?_; intro v2 w2 hown2 hgrow2 hlo2; (have B2 : Below wx.heap.size wx w2 := by first | exact B1.grown hgrow2 B1.size hlo2 | exact (B1.alloc B1.size _).grown hgrow2 (B1.alloc B1.size _).size hlo2); clear hg1 hgrow1 hgrow2 q0 q1 q2 q3 q4)
                  | (refine step_append_own rfl (.tmp 58) (.tmp 61) 39 rfl wx.heap.size 33 i0 (.agg #[.int .i64 0, .string ByteArray.empty, .int .i64 0, .int .i64 0, .int .i64 0]) 5 48 Try.underlying39 hi hz0 hz1 hz2 rfl (by decide) v2 (k + 1) ((O.take k).flatMap ReaderD.cells ++ s.cells) rfl hown2 (if cap' = k then (⟨g, 0, none⟩ : Addr) else ⟨g, k * 5, none⟩) (i - k) (cap' - k) ((O.drop k).flatMap ReaderD.cells) _ rfl (by split <;> rfl) (by rw [flat_len_Reader, List.length_drop]; have := HOl.out; congr 1; omega) (news_below N2.out B2 (by split <;> exact hgl)) (flat_one_Reader _) (by unfold maxLen; omega) (by omega) B2.size ?_; intro v3 w3 hown3 hgrow3 hlo3; (have B3 : Below wx.heap.size wx w3 := B2.grown hgrow3 B2.size hlo3); clear hgrow3)
                  | (refine step_append_own rfl (.tmp 48) (.tmp 51) 39 rfl wx.heap.size 33 i0 (.agg #[.int .i64 0, .string ByteArray.empty, .int .i64 0, .int .i64 0, .int .i64 0]) 5 48 Try.underlying39 hi hz0 hz1 hz2 rfl (by decide) _ 0 [] rfl (by first | exact OwnReader.empty wx.drew | exact World.ownsRow.alloc (OwnReader.empty wx.drew) _ | exact HE3.out) ⟨g, 0, none⟩ k cap' ((O.take k).flatMap ReaderD.cells) _ rfl rfl (by rw [flat_len_Reader, List.length_take]; have := HOl.out; congr 1; omega) (news_below N1.out (by go_grown) hgl) (flat_one_Reader _) (by unfold maxLen; omega) (by omega) (by first | (simp; done) | (simp; omega)) ?_; intro v1 w1 hown1 hgrow1 hlo1; (have B1 : Below wx.heap.size wx w1 := Below.grown (by go_grown) hgrow1 (by first | (simp; done) | (simp; omega)) hlo1); (first | (have hg1 : World.grownBy _ w1 (some wx.heap.size) := hgrow1) | (have hg1 : World.grownBy _ w1 (some (wx.heap.size + 1)) := hgrow1)); (have ho1 : w1.ownsRow wx.heap.size 33 5 v1 k ((O.take k).flatMap ReaderD.cells) := by simpa using hown1); (have q0 := (B1.cell hbx).trans c0); (have q1 := (B1.cell hbx).trans c1); (have q2 := (B1.cell hbx).trans c2); (have q3 := (B1.cell hbx).trans c3); (have q4 := (B1.cell hbx).trans c4); clear hown1))
                all_goals
                  have hO3 : OwnReader w0.heap.size w3 v3 (ordL (lstReader X len) (i + 1)) := by
                    have hlA : i < (lstReader X len).length := by rw [lstReader_length]; exact hlt
                    unfold OwnReader
                    rw [ordL_len hlA, ordL_succ hlA, HsA.out, HOe.out, HC.out, List.flatMap_append, List.flatMap_cons, ← List.append_assoc]
                    have hh := ownsRow_base hown3 BX.size
                    rw [show k + 1 + (i - k) = i + 1 by omega] at hh
                    exact hh
                  have hB3 : Below w0.heap.size w0 w3 := Below.on BX BX.size B3
                  clear hown2 hown3 B1 B2 B3 ho1
                  rcases hO3.form with ⟨_, h0⟩ | ⟨g3, cap3, hv3, _, _, hc3, _⟩
                  · have := congrArg List.length h0
                    rw [ordL_len (by rw [lstReader_length]; omega)] at this
                    simp at this
                  · rw [ordL_len (by rw [lstReader_length]; omega)] at hv3 hc3
                    subst hv3
                    have HO3 := hid hO3
                    clear hO3
                    go_wp2_with fail
                    go_roundw
                    case rel => exact ⟨i + 1, by omega, by go_num, hB3, g3, cap3, rfl, hc3, HO3⟩
                    case measure => simp [intOf]; omega
            · have d0 : decide ((0 : Int) < (k : Int)) = false := by simp; omega
              have d0' : decide (0 < k) = false := by simp; omega
              have d1 : True := trivial
              have e2 : True := trivial
              have e3 : True := trivial
              have p4 : True := trivial
              have hstop : Hid (k = 0 ∨ s.Fines ≤ (O.getD (k - 1) default).Fines) := .inl (by omega)
              clear ha hk0
              go_wp2_with fail
              refine region_later (by kernel_rfl) (by kernel_rfl) ?_
              repeat (go_big_quiet_step (fail))
              refine wpQuiet_nil ?_
              intro _ hw'
              obtain ⟨x, rfl⟩ := hw'

              have HC : Hid (cutR s O i = k) := by unfold Hid; rw [hcut.out]; exact cutR_stop hstop.out
              have BX : Below w0.heap.size w0 x.wd := Below.on hB hB.size (Below.on hBi hBi.size x.below)
              have N1 : Hid (∀ j u, ((O.take k).flatMap ReaderD.cells)[j]? = some u → x.wd.cell? ((⟨g, 0, none⟩ : Addr).add j) = some u) := by
                have hh := news_part (k0 := 0) (M := O.take k) (HRw.out.later' (Below.on hBi hBi.size x.below)) (fun i hi => take_at hi) (by rw [List.length_take]; omega)
                rw [Nat.zero_mul] at hh
                exact hh
              have N2 : Hid (∀ j u, ((O.drop k).flatMap ReaderD.cells)[j]? = some u → x.wd.cell? ((if cap' = k then (⟨g, 0, none⟩ : Addr) else ⟨g, k * 5, none⟩).add j) = some u) := by
                by_cases hck : cap' = k
                · have hnil : O.drop k = [] := List.drop_eq_nil_of_le (by rw [HOl.out]; omega)
                  unfold Hid
                  intro j u hu
                  rw [hnil] at hu
                  simp at hu
                · rw [if_neg hck]
                  exact news_part (k0 := k) (M := O.drop k) (HRw.out.later' (Below.on hBi hBi.size x.below)) (fun i hi => drop_at hi) (by rw [List.length_drop, HOl.out]; omega)
              have hgl : g < x.wd.heap.size := by have := x.size; have := hBi.size; omega
              have hbx : b < x.wd.heap.size := by have := x.size; omega
              have c0 : x.wd.cell? ⟨b, off + i * 5, none⟩ = some (.int .i64 s.Id) := (BX.cell hb0).trans ((congrArg _ rfl).trans (hsc 0 (by omega)))
              have c1 : x.wd.cell? ⟨b, off + i * 5 + 1, none⟩ = some (.string s.Name) := (BX.cell hb0).trans ((congrArg _ rfl).trans (hsc 1 (by omega)))
              have c2 : x.wd.cell? ⟨b, off + i * 5 + 2, none⟩ = some (.int .i64 s.Joined) := (BX.cell hb0).trans ((congrArg _ rfl).trans (hsc 2 (by omega)))
              have c3 : x.wd.cell? ⟨b, off + i * 5 + 3, none⟩ = some (.int .i64 s.Class) := (BX.cell hb0).trans ((congrArg _ rfl).trans (hsc 3 (by omega)))
              have c4 : x.wd.cell? ⟨b, off + i * 5 + 4, none⟩ = some (.int .i64 s.Fines) := (BX.cell hb0).trans ((congrArg _ rfl).trans (hsc 4 (by omega)))
              have z1 : (0 : Int) ≤ (k : Int) := by omega
              have z2 : (k : Int) ≤ (i : Int) := by omega
              have z3 : (k : Int) ≤ (cap' : Int) := by omega
              have z4 : (i : Int) ≤ (cap' : Int) := by omega
              clear hq hcut hBi hB p4 e0 e1 e2 e3 d0 d1
              generalize x.wd = wx at *
              have HE1 : Hid (((wx.drew.alloc (.cells #[] 33)).alloc (.cells #[.int .i64 s.Id, .string s.Name, .int .i64 s.Joined, .int .i64 s.Class, .int .i64 s.Fines] 33)).heap[wx.heap.size + 1]? = some (.cells #[.int .i64 s.Id, .string s.Name, .int .i64 s.Joined, .int .i64 s.Class, .int .i64 s.Fines] 33)) := by have := heap_alloc_new (wx.drew.alloc (.cells #[] 33)) (.cells #[.int .i64 s.Id, .string s.Name, .int .i64 s.Joined, .int .i64 s.Class, .int .i64 s.Fines] 33); simpa [Hid] using this
              have HE2 : Hid (((wx.drew.alloc (.cells #[.int .i64 s.Id, .string s.Name, .int .i64 s.Joined, .int .i64 s.Class, .int .i64 s.Fines] 33)).alloc (.cells #[] 33)).heap[wx.heap.size]? = some (.cells #[.int .i64 s.Id, .string s.Name, .int .i64 s.Joined, .int .i64 s.Class, .int .i64 s.Fines] 33)) := (heap_alloc_old _ _ (by simp)).trans (heap_alloc_new wx.drew _)
              have HE3 : Hid (OwnReader wx.heap.size ((wx.drew.alloc (.cells #[.int .i64 s.Id, .string s.Name, .int .i64 s.Joined, .int .i64 s.Class, .int .i64 s.Fines] 33)).alloc (.cells #[] 33)) (.slice (some ⟨wx.heap.size + 1, 0, none⟩) 0 0) []) := by
                have hh := OwnReader.base (B' := wx.heap.size) (OwnReader.empty (wx.drew.alloc (.cells #[.int .i64 s.Id, .string s.Name, .int .i64 s.Joined, .int .i64 s.Class, .int .i64 s.Fines] 33))) (by first | (simp; done) | (simp; omega))
                rw [show (wx.drew.alloc (.cells #[.int .i64 s.Id, .string s.Name, .int .i64 s.Joined, .int .i64 s.Class, .int .i64 s.Fines] 33)).heap.size = wx.heap.size + 1 from by simp] at hh
                exact hh
              go_wp2_with fail
              go_region_law (first
                | (refine step_append_own rfl (.tmp 52) (.tmp 57) 39 rfl wx.heap.size 33 i0 (.agg #[.int .i64 0, .string ByteArray.empty, .int .i64 0, .int .i64 0, .int .i64 0]) 5 48 Try.underlying39 hi hz0 hz1 hz2 rfl (by decide) v1 k ((O.take k).flatMap ReaderD.cells) rfl (by first | exact ho1 | exact World.ownsRow.alloc ho1 _) _ 1 1 (s.cells) _ rfl rfl rfl (by first | exact newsR s (heap_alloc_new w1 _) | exact newsR s ((hg1.block _ (by first | (simp; done) | (simp; omega)) (by first | (simp; done) | (simp; omega))).trans HE1.out) | exact newsR s ((hg1.block _ (by first | (simp; done) | (simp; omega)) (by first | (simp; done) | (simp; omega))).trans HE2.out)) (onesR _) (by unfold maxLen; omega) (by omega) (by have hh := B1.size; first | exact hh | (simp; omega)) ?_; intro v2 w2 hown2 hgrow2 hlo2; (have B2 : Below wx.heap.size wx w2 := by first | exact B1.grown hgrow2 B1.size hlo2 | exact (B1.alloc B1.size _).grown hgrow2 (B1.alloc B1.size _).size hlo2); clear hg1 hgrow1 hgrow2 q0 q1 q2 q3 q4)
                | (refine step_append_own rfl (.tmp 58) (.tmp 61) 39 rfl wx.heap.size 33 i0 (.agg #[.int .i64 0, .string ByteArray.empty, .int .i64 0, .int .i64 0, .int .i64 0]) 5 48 Try.underlying39 hi hz0 hz1 hz2 rfl (by decide) v2 (k + 1) ((O.take k).flatMap ReaderD.cells ++ s.cells) rfl hown2 (if cap' = k then (⟨g, 0, none⟩ : Addr) else ⟨g, k * 5, none⟩) (i - k) (cap' - k) ((O.drop k).flatMap ReaderD.cells) _ rfl (by split <;> rfl) (by rw [flat_len_Reader, List.length_drop]; have := HOl.out; congr 1; omega) (news_below N2.out B2 (by split <;> exact hgl)) (flat_one_Reader _) (by unfold maxLen; omega) (by omega) B2.size ?_; intro v3 w3 hown3 hgrow3 hlo3; (have B3 : Below wx.heap.size wx w3 := B2.grown hgrow3 B2.size hlo3); clear hgrow3)
                | (refine step_append_own rfl (.tmp 48) (.tmp 51) 39 rfl wx.heap.size 33 i0 (.agg #[.int .i64 0, .string ByteArray.empty, .int .i64 0, .int .i64 0, .int .i64 0]) 5 48 Try.underlying39 hi hz0 hz1 hz2 rfl (by decide) _ 0 [] rfl (by first | exact OwnReader.empty wx.drew | exact World.ownsRow.alloc (OwnReader.empty wx.drew) _ | exact HE3.out) ⟨g, 0, none⟩ k cap' ((O.take k).flatMap ReaderD.cells) _ rfl rfl (by rw [flat_len_Reader, List.length_take]; have := HOl.out; congr 1; omega) (news_below N1.out (by go_grown) hgl) (flat_one_Reader _) (by unfold maxLen; omega) (by omega) (by first | (simp; done) | (simp; omega)) ?_; intro v1 w1 hown1 hgrow1 hlo1; (have B1 : Below wx.heap.size wx w1 := Below.grown (by go_grown) hgrow1 (by first | (simp; done) | (simp; omega)) hlo1); (first | (have hg1 : World.grownBy _ w1 (some wx.heap.size) := hgrow1) | (have hg1 : World.grownBy _ w1 (some (wx.heap.size + 1)) := hgrow1)); (have ho1 : w1.ownsRow wx.heap.size 33 5 v1 k ((O.take k).flatMap ReaderD.cells) := by simpa using hown1); (have q0 := (B1.cell hbx).trans c0); (have q1 := (B1.cell hbx).trans c1); (have q2 := (B1.cell hbx).trans c2); (have q3 := (B1.cell hbx).trans c3); (have q4 := (B1.cell hbx).trans c4); clear hown1))
              all_goals
                have hO3 : OwnReader w0.heap.size w3 v3 (ordL (lstReader X len) (i + 1)) := by
                  have hlA : i < (lstReader X len).length := by rw [lstReader_length]; exact hlt
                  unfold OwnReader
                  rw [ordL_len hlA, ordL_succ hlA, HsA.out, HOe.out, HC.out, List.flatMap_append, List.flatMap_cons, ← List.append_assoc]
                  have hh := ownsRow_base hown3 BX.size
                  rw [show k + 1 + (i - k) = i + 1 by omega] at hh
                  exact hh
                have hB3 : Below w0.heap.size w0 w3 := Below.on BX BX.size B3
                clear hown2 hown3 B1 B2 B3 ho1
                rcases hO3.form with ⟨_, h0⟩ | ⟨g3, cap3, hv3, _, _, hc3, _⟩
                · have := congrArg List.length h0
                  rw [ordL_len (by rw [lstReader_length]; omega)] at this
                  simp at this
                · rw [ordL_len (by rw [lstReader_length]; omega)] at hv3 hc3
                  subst hv3
                  have HO3 := hid hO3
                  clear hO3
                  go_wp2_with fail
                  go_roundw
                  case rel => exact ⟨i + 1, by omega, by go_num, hB3, g3, cap3, rfl, hc3, HO3⟩
                  case measure => simp [intOf]; omega
        · obtain rfl : i = len := by omega
          obtain ⟨L, hL⟩ : ∃ L, isL (lstReader X i) i = L := ⟨_, rfl⟩
          have hLl : L.length = i := by rw [← hL, isL_len, lstReader_length]
          have hOL : ordL (lstReader X i) i = L := by rw [← hL]; have := ordL_full (A := lstReader X i); rwa [lstReader_length] at this
          rw [hL] at hQ
          rw [hOL] at hO
          have HLl := hid hLl
          clear hL hLl hOL hRw
          obtain ⟨q, hq⟩ : ∃ q : Nat, min mm i = q := ⟨_, rfl⟩
          have hq1 : q ≤ i := by omega
          have hq3 : q ≤ mm := by omega
          have hq4 : q = mm ∨ q = i := by omega
          have hQ2 : Hid (oweL X i (mm : Int) = idsN L q) := by unfold Hid; rw [hQ.out, ← hq]; rfl
          clear hQ hq
          have ho1 := hid (ho0.out.below hB)
          clear ho0
          have Bw := Below.on B0 B0.size hB
          have hgw : w.heap.size < w0.heap.size := hA0
          clear hB
          go_wp2_with fail
          go_loopw [6, 10] (fun v iv wr => ∃ k : Nat, k ≤ q ∧ iv = .int .i64 k ∧ Below w.heap.size w wr ∧ Hid (OwnI w.heap.size wr v (idsN L k)) ∧ Hid (OwnReader w0.heap.size wr (.slice (some ⟨g, 0, none⟩) i cap') L) ∧ Hid (∀ j, v.ownBlock = some j → j ≠ g)) (fun _ iv _ => q - (intOf iv).toNat)
          case atStart => exact ⟨0, by omega, rfl, Bw, ho1, hO, by unfold Hid; intro j hj; simp [Value.ownBlock] at hj; omega⟩
          case round =>
            clear ho1 hO Bw hg2
            obtain ⟨k, hk, rfl, hBk, ho, hOr, hne⟩ := hrel
            rcases hOr.out.form with ⟨hv, _⟩ | ⟨g', cap2, hv, _, hg2, _, _, hRw, _⟩
            · exact absurd hv (by simp)
            injection hv with e1 e2 e3
            injection e1 with e1
            injection e1 with e1
            subst e1
            subst e3
            clear e2
            rw [HLl.out] at hRw
            have HRw := hid hRw
            clear hRw
            by_cases hlt : k < q
            · have hle := idsN_len L k
              obtain ⟨s, hs⟩ : ∃ s, L.getD k default = s := ⟨_, rfl⟩
              have c0 : wr.cell? ⟨g, k * 5, none⟩ = some (.int .i64 s.Id) := by have hh := HRw.out.2 k (by omega) 0 (by omega); simp only [hs, Nat.zero_add] at hh; exact hh
              have HSuc : Hid (idsN L (k + 1) = idsN L k ++ [s.Id]) := by unfold Hid; rw [idsN_succ (by rw [HLl.out]; omega), hs]
              clear hs
              have f0 : (k : Int) < (i : Int) := by omega
              have f1 : (k : Int) < (mm : Int) := by omega
              have f2 : decide ((k : Int) < (i : Int)) = true := by simp; omega
              have f3 : decide ((k : Int) < (mm : Int)) = true := by simp; omega
              go_wp2_with (at_builtin; refine wpList_append_own_at _ rfl _ _ 53 rfl w.heap.size 3 j0 (.int .i64 0) 1 8 Try.underlying53 hj hy0 hy1 hy2 rfl (by decide) _ _ _ rfl (World.ownsRow.alloc ho.out _) ⟨wr.heap.size, 0, none⟩ 1 1 [.int .i64 s.Id] rfl rfl (cell_one_new _ _ _) ?c2 ?c3 ?c4 ?c5 ?_)
              case c2 => first | rfl | (intro u hu; simp at hu; subst hu; rfl)
              case c3 => unfold maxLen; omega
              case c4 => omega
              case c5 => first | exact hBk.size | (have := hBk.size; omega) | (have := hBk.size; simp; omega)
              intro v' w3 hown' hgrow _ hor
              have hb2 : Below w.heap.size w w3 := (hBk.alloc hBk.size _).grown hgrow (by have := hBk.size; simp; omega) (fun g hg => (World.ownsRow.lt ho.out g hg).1)
              have hOr3 : Hid (OwnReader w0.heap.size w3 (.slice (some ⟨g, 0, none⟩) i cap') L) := (hOr.out.below (by go_grown)).kept hgrow (.inr (by intro e; exact hne.out g e.symm rfl))
              have hne3 : Hid (∀ j, v'.ownBlock = some j → j ≠ g) := by
                unfold Hid
                intro j hj
                rcases hor with h | h
                · exact hne.out j (by rw [← h]; exact hj)
                · rw [h] at hj
                  injection hj with hj
                  first | omega | (simp at hj; omega)
              have ho3 : Hid (OwnI w.heap.size w3 v' (idsN L (k + 1))) := by
                rw [HSuc.out]
                unfold Hid OwnI
                simpa using hown'
              clear hown' hgrow HSuc hor hOr hne
              go_wp2_with fail
              go_roundw
              case rel => exact ⟨k + 1, by omega, by go_num, hb2, ho3, hOr3, hne3⟩
              case measure => simp [intOf]; omega
            · obtain rfl : k = q := by omega
              by_cases hki : k < i
              · have f2 : decide ((k : Int) < (i : Int)) = true := by simp; omega
                have f3 : decide ((k : Int) < (mm : Int)) = false := by simp; omega
                go_wp2_with fail
                go_ret2
                exact ⟨_, by rw [hP.out]; rfl, by rw [hQ2.out]; exact ho.out, hBk⟩
              · have f2 : decide ((k : Int) < (i : Int)) = false := by simp; omega
                go_wp2_with fail
                go_ret2
                exact ⟨_, by rw [hP.out]; rfl, by rw [hQ2.out]; exact ho.out, hBk⟩
    · have hd' : inB m 0 10 = false := by simpa using hd
      have hP : oweOk X len m = false := by simp [oweOk, hd']
      have hQ : oweL X len m = [] := by unfold oweL; rw [hP]; rfl
      have hP := hid hP
      have hQ := hid hQ
      clear hd
      go_wp2_with (go_at_call 66; refine (in_spec _ _ _ _).mono ?_; rintro e w' ⟨rfl, rfl⟩)
      go_ret2
      exact ⟨_, by rw [hP.out]; rfl, by rw [hQ.out]; exact ho0.out, B0⟩
  · have hS' : readersB X len = false := by simpa using hS
    have hP : oweOk X len m = false := by simp [oweOk, hS']
    have hQ : oweL X len m = [] := by unfold oweL; rw [hP]; rfl
    have hP := hid hP
    have hQ := hid hQ
    clear hS
    go_wp2_with fail
    go_ret2
    exact ⟨_, by rw [hP.out]; rfl, by rw [hQ.out]; exact ho0.out, B0⟩

set_option maxRecDepth 100000 in
set_option maxHeartbeats 8000000 in
theorem walk_ExactOweMost (w : World) (p0 : Option Addr) (len0 cap0 : Nat) (X0 : Nat → ReaderD) (a1 : Int) (h0 : Sl w 5 p0 len0 (fun i => (X0 i).cells)) (ok0 : ∀ i, i < len0 → (X0 i).ok) (hm0 : len0 ≤ maxLen) (i1 : isI a1) :
    Calls Try.prog 14 #[.slice p0 len0 cap0, .int .i64 a1] w fun e w' => e = .returned (.bool true) ∧ Below w.heap.size w w' := by
  go_enter Try.func14, Try.ntmps14
  go_wp2_with fail
  refine (szReaderS_any p0 len0 cap0 X0 _ h0 ok0 hm0).mono ?_
  rintro e w0 ⟨r, rfl, hb0, hr⟩
  have z0 := hb0.size
  clear ok0
  by_cases hr0 : r < 0
  · go_wp2_with fail
    go_ret
    exact ⟨rfl, hb0⟩
  obtain ⟨hL, hnm⟩ := hr (by omega)
  clear hr
  have hLL : (oweL X0 len0 a1).length ≤ 1048576 := by have := oweL_le X0 len0 a1; omega
  have hNM : Hid (∀ i, i < len0 → (X0 i).Name.size ≤ maxLen) := fun i hi => by have := hnm i hi; unfold maxLen; omega
  clear hnm
  obtain ⟨LL, hLe⟩ : ∃ LL, LL = oweL X0 len0 a1 := ⟨_, rfl⟩
  have HLe := hid hLe
  rw [← hLe] at hLL
  clear hLe
  go_wp2_with fail
  refine (toReaderS_any p0 len0 cap0 X0 _ (h0.below hb0) (by omega)).mono ?_
  rintro e w1 ⟨rfl, hb1, hs1, F1⟩
  have z1 := hb1.size
  have B1 : Below w.heap.size w w1 := Below.on hb0 hb0.size hb1
  go_wp2_with fail
  refine (owe_spec _ _ 0 len0 len0 X0 a1 F1.rw (by omega) (Nat.le_refl _) hNM.out).mono ?_
  rintro e w2 ⟨v, rfl, oV0, hb2⟩
  rw [← HLe.out] at oV0
  have oV := hid oV0
  clear oV0
  have z2 := hb2.size
  have B2 : Below w.heap.size w w2 := Below.on B1 B1.size hb2
  go_wp2_with fail
  refine (toReaderS_any p0 len0 cap0 X0 _ (h0.below B2) (by omega)).mono ?_
  rintro e w3 ⟨rfl, hb3, hs3, F3⟩
  have z3 := hb3.size
  have B3 : Below w.heap.size w w3 := Below.on B2 B2.size hb3
  go_wp2_with fail
  refine (owe_impl _ _ 0 len0 len0 X0 a1 F3.rw (by omega) (Nat.le_refl _) hNM.out).mono ?_
  rintro e w4 ⟨g, rfl, oG0, hb4⟩
  rw [← HLe.out] at oG0
  have oG := hid oG0
  clear oG0
  have z4 := hb4.size
  have B4 : Below w.heap.size w w4 := Below.on B3 B3.size hb4
  go_wp2_with fail
  refine (eqIntS_own g v LL _ _ _ oG.out ((oV.out.below hb3).below hb4) hLL).mono ?_
  rintro e w5 ⟨rfl, hb5⟩
  have z5 := hb5.size
  have B5 : Below w.heap.size w w5 := Below.on B4 B4.size hb5
  go_wp2_with fail
  refine (toReaderS_any p0 len0 cap0 X0 _ (h0.below B5) (by omega)).mono ?_
  rintro e w6 ⟨rfl, hb6, hs6, F6⟩
  have z6 := hb6.size
  have B6 : Below w.heap.size w w6 := Below.on B5 B5.size hb6
  go_wp2_with fail
  refine (eqReaderS_same _ _ 0 0 len0 len0 len0 X0 _ (((F3.rw.later' hb4).later' hb5).later' hb6) F6.rw (by omega) (Nat.le_refl _) (Nat.le_refl _)).mono ?_
  rintro e w7 ⟨rfl, hb7⟩
  have z7 := hb7.size
  have B7 : Below w.heap.size w w7 := Below.on B6 B6.size hb7
  go_wp2_with fail
  refine (markReaderS_any _ len0 len0 len0 1 _ ((((F3.below hb4 (by omega)).below hb5 (by omega)).below hb6 (by omega)).below hb7 (by omega)).blk (Nat.le_refl _) (Nat.le_refl _) (by omega) (by omega) (by omega)).mono ?_
  rintro e w8 ⟨rfl, gr8, _, _⟩
  have z8 := gr8.size
  have B8 : Below w.heap.size w w8 := B7.grown gr8 B7.size (fun k hk => by cases hk; omega)
  have oV8 := hid (((((((oV.out.below hb3).below hb4).below hb5).below hb6).below hb7)).kept gr8 (oV.out.ne_lo (by omega)))
  have oG8 := hid (((((oG.out.below hb5).below hb6).below hb7)).kept gr8 (oG.out.ne_hi (by omega)))
  go_wp2_with fail
  refine (eqIntS_own g v LL _ _ _ oG8.out oV8.out hLL).mono ?_
  rintro e w9 ⟨rfl, hb9⟩
  have z9 := hb9.size
  have B9 : Below w.heap.size w w9 := Below.on B8 B8.size hb9
  go_wp2_with fail
  refine (markIntS_own g LL _ 1 _ (oG8.out.below hb9) (by omega) (by omega) (by omega)).mono ?_
  rintro e w10 ⟨rfl, oM0, gr10⟩
  have oM := hid oM0
  clear oM0
  have z10 := gr10.size
  have B10 : Below w.heap.size w w10 := B9.grown gr10 B9.size (fun k hk => by have := oG.out.ge k hk; omega)
  have oV10 := hid ((oV8.out.below hb9).kept gr10 (own_ne oV.out.lt (fun k hk => by have := oG.out.ge k hk; omega)))
  go_wp2_with fail
  refine (heldIntS_own g LL.length _ 1 _ oM.out (by omega) (by omega) (by omega)).mono ?_
  rintro e w11 ⟨rfl, rfl⟩
  go_wp2_with fail
  refine (toReaderS_any p0 len0 cap0 X0 _ (h0.below B10) (by omega)).mono ?_
  rintro e w12 ⟨rfl, hb12, hs12, F12⟩
  have z12 := hb12.size
  have B12 : Below w.heap.size w w12 := Below.on B10 B10.size hb12
  go_wp2_with fail
  refine (owe_impl _ _ 0 len0 len0 X0 a1 F12.rw (by omega) (Nat.le_refl _) hNM.out).mono ?_
  rintro e w13 ⟨u, rfl, oH0, hb13⟩
  rw [← HLe.out] at oH0
  have oH := hid oH0
  clear oH0
  have z13 := hb13.size
  have B13 : Below w.heap.size w w13 := Below.on B12 B12.size hb13
  go_wp2_with fail
  refine (eqIntS_own u v LL _ _ _ oH.out ((oV10.out.below hb12).below hb13) hLL).mono ?_
  rintro e w14 ⟨rfl, hb14⟩
  have z14 := hb14.size
  have B14 : Below w.heap.size w w14 := Below.on B13 B13.size hb14
  go_wp2_with fail
  refine (heldIntS_own g LL.length _ 1 _ (((oM.out.below hb12).below hb13).below hb14) (by omega) (by omega) (by omega)).mono ?_
  rintro e w15 ⟨rfl, rfl⟩
  go_wp2_with fail
  go_ret
  exact ⟨rfl, B14⟩

end Go.Proofs.Ytlcgjcbpoinboaa
