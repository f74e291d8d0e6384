/-
  A number put into a list of numbers, by the reference. No condition.
-/
import Derived.Test.YtejpmomedclnhaaDrawD3
import Derived.Deep.AppendLies
namespace Go.Proofs.Ytejpmomedclnhaa
open Go.RowKit
set_option linter.unusedVariables false
set_option maxRecDepth 100000

/-- append at a step of a region that draws, whatever it appends. -/
theorem step_append_own {P : Program} {w : World} {ops : Array Oper} {o : Oper} {a : Act} {K : Act → World → Prop} {Q : Exit → Act → World → Prop} {E : Prop} (hgd : o.guard = none) (s x : Operand) (t : TypeId)
    (ho : o.op = .call { callee := .builtin .append, args := #[s, x], argTypes := #[t, t] })
    (base : Nat) (e : TypeId) (i : TypeInfo) (z : Value) (size bytes : Nat) (ht : P.underlying t = some (.slice e)) (hi : P.info? e = some i) (hz : i.zero = some z)
    (hsize : i.size = size) (hby : i.bytes = bytes) (hzs : z.cells.size = size) (hsz : 0 < size)
    (v : Value) (n : Nat) (xs : List Value) (hs : a.eval s = v) (hown : w.ownsRow base e size v n xs)
    (ad : Addr) (m c : Nat) (news : List Value) (p : Option Addr) (hx : a.eval x = .slice p m c) (hp : p = some ad) (hl : news.length = m * size) (hnews : ∀ j u, news[j]? = some u → w.cell? (ad.add j) = some u) (h1 : ∀ u ∈ news, u.oneCell' = true)
    (h63 : n + m ≤ maxLen) (hbytes : (n + m) * bytes ≤ 140737488355328) (hbase : base ≤ w.heap.size)
    (h : ∀ v' w', w'.ownsRow base e size v' (n + m) (xs ++ news) → w.grownBy w' v.ownBlock → (∀ k, v.ownBlock = some k → base ≤ k) → K (a.put o.dst v') w') :
    if Region.wanted o (yielded ops a.tmps) = true then Oper.wp P o a w K Q else E := by
  have hw : Region.wanted o (yielded ops a.tmps) = true := by simp [Region.wanted, hgd]
  subst hp
  rw [if_pos hw]
  obtain ⟨v', w', hr, h2, h3, _⟩ := run_append_own_at (P := P) w base t o.type e i z size bytes ht hi hz hsize hby hzs hsz v n xs hown ad m c news hl hnews h1 h63 hbytes hbase
  unfold Oper.wp execOp
  simp only [ho, resolve, invoke, builtin, Sem.run_bind, Sem.run_pure, Result.andThen_ok, List.map_toArray, List.map_cons, List.map_nil, hs, hx, hr]
  exact h v' w' h2 h3 (fun k hk => (World.ownsRow.lt hown k hk).1)

theorem add_block (a : Addr) (j : Nat) : (a.add j).block = a.block := by unfold Addr.add; split <;> rfl
theorem news_below {w w' : World} {N : List Value} {ad : Addr} (h : ∀ j u, N[j]? = some u → w.cell? (ad.add j) = some u) (hb : Below w.heap.size w w') (hg : ad.block < w.heap.size) : ∀ j u, N[j]? = some u → w'.cell? (ad.add j) = some u := by
  intro j u hu
  exact (hb.cell (by rw [add_block]; exact hg)).trans (h j u hu)
theorem news1 (x : Int) {w : World} {B : Nat} (h : w.heap[B]? = some (.cells #[.int .i64 x] 3 (0, 0))) : ∀ j u, ([Value.int .i64 x])[j]? = some u → w.cell? ((⟨B, 0, none⟩ : Addr).add j) = some u := World.news_of_block h
theorem ones1 (x : Int) : ∀ u ∈ [Value.int .i64 x], u.oneCell' = true := fun u hu => by simp at hu; subst hu; rfl
theorem onesL (L : List Int) : ∀ u ∈ L.map (Value.int .i64), u.oneCell' = true := fun u hu => by simp at hu; obtain ⟨a, _, rfl⟩ := hu; rfl
theorem news_ints {w : World} {g off n : Nat} {f : Nat → Int} {M : List Int} {k0 : Nat} (h : ∀ k, k < n → w.cell? ⟨g, off + k, none⟩ = some (.int .i64 (f k))) (hM : ∀ i, i < M.length → M.getD i 0 = f (k0 + i)) (hn : k0 + M.length ≤ n) : ∀ j u, (M.map (Value.int .i64))[j]? = some u → w.cell? ((⟨g, off + k0, none⟩ : Addr).add j) = some u := by
  intro j u hu
  have hj : j < M.length := by have := (List.getElem?_eq_some_iff.1 hu).1; simpa using this
  have ha : ((⟨g, off + k0, none⟩ : Addr).add j) = ⟨g, off + (k0 + j), none⟩ := by rw [Addr.add_lit, Nat.add_assoc]
  rw [ha, h (k0 + j) (by omega), ← hM j hj]
  simp [hj] at hu
  rw [← hu]
  simp [List.getD, hj]

set_option maxHeartbeats 8000000 in
theorem put_spec (w : World) (v : Value) (L : List Int) (x : Int) (h : HasI w v L) (hL : L.length ≤ 1048576) (hx : L.contains x = false) : Calls Try.prog 84 #[v, .int .i64 x] w fun e w' => ∃ u, e = .returned u ∧ OwnJ w.heap.size w' u (insI x L) ∧ Below w.heap.size w w' := by
  obtain ⟨i0, hi, hz0, hz1, hz2⟩ := info_parts info_int
  obtain ⟨a, cap, rfl, hc, g, off, rfl, hg, hcell⟩ := h
  obtain ⟨f, hf⟩ : ∃ f : Nat → Int, ∀ k, L.getD k 0 = f k := ⟨_, fun _ => rfl⟩
  obtain ⟨n, hn⟩ : ∃ n, L.length = n := ⟨_, rfl⟩
  have hne : Hid (∀ k, k < n → f k ≠ x) := fun k hk e => by
    have : L.contains x = true := by
      rw [List.contains_iff_mem, ← e, ← hf]
      simp [List.getD, show k < L.length by omega]
    rw [hx] at this; cases this
  have HC : Hid (∀ k, k < n → w.cell? ⟨g, off + k, none⟩ = some (.int .i64 (f k))) := fun k hk => by rw [← hf]; exact hcell k (by omega)
  have HF := hid hf
  have HN := hid hn
  rw [hn] at hL hc ⊢
  clear hf hn hcell hx
  go_enter Try.func84, Try.ntmps84
  go_wp2_with fail
  go_loop [5] (fun q => ∃ k : Nat, k ≤ n ∧ q = .int .i64 k ∧ Hid (∀ i, i < k → f i < x)) (fun q => n - (intOf q).toNat)
  case atStart => exact ⟨0, by omega, rfl, fun i hi => absurd hi (by omega)⟩
  case round =>
    obtain ⟨k, hk, rfl, hlo⟩ := hrel
    have more : ∀ (hlt : k < n) (hfx : f k < x), True := fun _ _ => trivial
    by_cases hgo : k < n ∧ f k < x
    · obtain ⟨hlt, hfx⟩ := hgo
      have c0 : w.cell? ⟨g, off + k, none⟩ = some (.int .i64 (f k)) := HC.out k hlt
      have d0 : decide (f k < x) = true := by simpa using hfx
      have hok := hid hfx
      clear hfx
      go_wp2_with fail
      go_round
      case rel => exact ⟨k + 1, by omega, by go_num, fun i hi => by by_cases hik : i < k; exact hlo.out i hik; rw [show i = k by omega]; exact hok.out⟩
      case measure => simp [intOf]; omega
    · have hcut : Hid (cutI x L = k) := cutI_eq (by rw [HN.out]; exact hk) (fun i hi => by rw [HF.out]; exact hlo.out i hi) (by rw [HN.out, HF.out]; by_cases h : k = n; exact .inl h; exact .inr fun h2 => hgo ⟨by omega, h2⟩)
      have z1 : (0 : Int) ≤ (k : Int) := by omega
      have z2 : (k : Int) ≤ (n : Int) := by omega
      have z3 : (k : Int) ≤ (cap : Int) := by omega
      have z4 : (n : Int) ≤ (cap : Int) := by omega
      have N1 : Hid (∀ j u, ((L.take k).map (Value.int .i64))[j]? = some u → w.cell? ((⟨g, off, none⟩ : Addr).add j) = some u) := by
        have hh := news_ints (k0 := 0) (M := L.take k) HC.out (fun i hi => by have h9 : i < k := (by simp at hi; omega); rw [Nat.zero_add, ← HF.out]; simp [List.getD, List.getElem?_take_of_lt h9]) (by simp; have := HN.out; omega)
        exact hh
      have N2 : Hid (∀ j u, ((L.drop k).map (Value.int .i64))[j]? = some u → w.cell? ((if cap = k then (⟨g, off, none⟩ : Addr) else ⟨g, off + k, none⟩).add j) = some u) := by
        by_cases hck : cap = k
        · have hnil : L.drop k = [] := List.drop_eq_nil_of_le (by rw [HN.out]; omega)
          unfold Hid
          intro j u hu
          rw [hnil] at hu
          simp at hu
        · rw [if_neg hck]
          exact news_ints (k0 := k) (M := L.drop k) HC.out (fun i hi => by rw [← HF.out]; simp [List.getD]) (by rw [List.length_drop, HN.out]; omega)
      have HE1 : Hid (((w.drew.alloc (.cells #[] 3)).alloc (.cells #[.int .i64 x] 3)).heap[w.heap.size + 1]? = some (.cells #[.int .i64 x] 3)) := by have := heap_alloc_new (w.drew.alloc (.cells #[] 3)) (.cells #[.int .i64 x] 3); simpa [Hid] using this
      have HE2 : Hid (((w.drew.alloc (.cells #[.int .i64 x] 3)).alloc (.cells #[] 3)).heap[w.heap.size]? = some (.cells #[.int .i64 x] 3)) := (heap_alloc_old _ _ (by simp)).trans (heap_alloc_new w.drew _)
      have HE3 : Hid (OwnI w.heap.size ((w.drew.alloc (.cells #[.int .i64 x] 3)).alloc (.cells #[] 3)) (.slice (some ⟨w.heap.size + 1, 0, none⟩) 0 0) []) := by
        have hh := OwnI.base (B' := w.heap.size) (ownI_empty (w.drew.alloc (.cells #[.int .i64 x] 3))) (by first | (simp; done) | (simp; omega))
        rw [show (w.drew.alloc (.cells #[.int .i64 x] 3)).heap.size = w.heap.size + 1 from by simp] at hh
        exact hh
      by_cases hlt : k < n
      · have hfx : ¬ f k < x := fun h2 => hgo ⟨hlt, h2⟩
        have hfe : f k ≠ x := hne.out k hlt
        have c0 : w.cell? ⟨g, off + k, none⟩ = some (.int .i64 (f k)) := HC.out k hlt
        have d0 : decide (f k < x) = false := by simpa using hfx
        have d1 : (f k == x) = false := by simp [hfe]
        clear hfx hfe hgo more
        go_wp2_with fail
        go_region_law (first
          | (refine step_append_own rfl (.tmp 37) (.tmp 39) 24 rfl w.heap.size 3 i0 (.int .i64 0) 1 8 Try.underlying24 hi hz0 hz1 hz2 rfl (by decide) v1 k ((L.take k).map (Value.int .i64)) rfl (by first | exact ho1 | exact World.ownsRow.alloc ho1 _) _ 1 1 [.int .i64 x] _ rfl rfl rfl (by first | exact news1 x (heap_alloc_new w1 _) | exact news1 x ((hg1.block _ (by first | (simp; done) | (simp; omega)) (by first | (simp; done) | (simp; omega))).trans HE1.out) | exact news1 x ((hg1.block _ (by first | (simp; done) | (simp; omega)) (by first | (simp; done) | (simp; omega))).trans HE2.out)) (ones1 _) (by unfold maxLen; omega) (by omega) (by have hh := B1.size; first | exact hh | (simp; omega)) ?_; intro v2 w2 hown2 hgrow2 hlo2; (have B2 : Below w.heap.size w w2 := by first | exact B1.grown hgrow2 B1.size hlo2 | exact (B1.alloc B1.size _).grown hgrow2 (B1.alloc B1.size _).size hlo2); clear hg1 hgrow1 hgrow2)
          | (refine step_append_own rfl (.tmp 40) (.tmp 43) 24 rfl w.heap.size 3 i0 (.int .i64 0) 1 8 Try.underlying24 hi hz0 hz1 hz2 rfl (by decide) v2 (k + 1) ((L.take k).map (Value.int .i64) ++ [.int .i64 x]) rfl hown2 (if cap = k then (⟨g, off, none⟩ : Addr) else ⟨g, off + k, none⟩) (n - k) (cap - k) ((L.drop k).map (Value.int .i64)) _ rfl (by split <;> rfl) (by rw [List.length_map, List.length_drop]; have := HN.out; omega) (news_below N2.out B2 (by split <;> exact hg)) (onesL _) (by unfold maxLen; omega) (by omega) B2.size ?_; intro v3 w3 hown3 hgrow3 hlo3; (have B3 : Below w.heap.size w w3 := B2.grown hgrow3 B2.size hlo3); clear hgrow3)
          | (refine step_append_own rfl (.tmp 33) (.tmp 36) 24 rfl w.heap.size 3 i0 (.int .i64 0) 1 8 Try.underlying24 hi hz0 hz1 hz2 rfl (by decide) _ 0 [] rfl (by first | exact ownI_empty w.drew | exact World.ownsRow.alloc (ownI_empty w.drew) _ | exact HE3.out) ⟨g, off, none⟩ k cap ((L.take k).map (Value.int .i64)) _ rfl rfl (by rw [List.length_map, List.length_take]; have := HN.out; omega) (news_below N1.out (by go_grown) hg) (onesL _) (by unfold maxLen; omega) (by omega) (by first | (simp; done) | (simp; omega)) ?_; intro v1 w1 hown1 hgrow1 hlo1; (have B1 : Below w.heap.size w w1 := Below.grown (by go_grown) hgrow1 (by first | (simp; done) | (simp; omega)) hlo1); (first | (have hg1 : World.grownBy _ w1 (some w.heap.size) := hgrow1) | (have hg1 : World.grownBy _ w1 (some (w.heap.size + 1)) := hgrow1)); (have ho1 : w1.ownsRow w.heap.size 3 1 v1 k ((L.take k).map (Value.int .i64)) := by simpa using hown1); clear hown1))
        all_goals
          have hO3 : OwnJ w.heap.size w3 v3 (insI x L) := by
            refine ⟨?_, ?_⟩
            · unfold OwnI insI
              have h9 := hown3
              rw [hcut.out]
              have hlen : (L.take k ++ x :: L.drop k).length = k + 1 + (n - k) := by have := HN.out; simp; omega
              rw [hlen, List.map_append, List.map_cons]
              simpa using h9
            · obtain ⟨g3, c3, h3, _⟩ := World.ownsRow.form hown3 (by omega)
              exact ⟨g3, by rw [h3]; rfl⟩
          clear hown2 hown3 B1 B2 ho1
          have HO3 := hid hO3
          clear hO3
          go_wp2_with fail
          all_goals go_ret
          all_goals exact ⟨v3, rfl, HO3.out, B3⟩
      · obtain rfl : k = n := by omega
        clear hgo more
        go_wp2_with fail
        go_region_law (first
          | (refine step_append_own rfl (.tmp 37) (.tmp 39) 24 rfl w.heap.size 3 i0 (.int .i64 0) 1 8 Try.underlying24 hi hz0 hz1 hz2 rfl (by decide) v1 k ((L.take k).map (Value.int .i64)) rfl (by first | exact ho1 | exact World.ownsRow.alloc ho1 _) _ 1 1 [.int .i64 x] _ rfl rfl rfl (by first | exact news1 x (heap_alloc_new w1 _) | exact news1 x ((hg1.block _ (by first | (simp; done) | (simp; omega)) (by first | (simp; done) | (simp; omega))).trans HE1.out) | exact news1 x ((hg1.block _ (by first | (simp; done) | (simp; omega)) (by first | (simp; done) | (simp; omega))).trans HE2.out)) (ones1 _) (by unfold maxLen; omega) (by omega) (by have hh := B1.size; first | exact hh | (simp; omega)) ?_; intro v2 w2 hown2 hgrow2 hlo2; (have B2 : Below w.heap.size w w2 := by first | exact B1.grown hgrow2 B1.size hlo2 | exact (B1.alloc B1.size _).grown hgrow2 (B1.alloc B1.size _).size hlo2); clear hg1 hgrow1 hgrow2)
          | (refine step_append_own rfl (.tmp 40) (.tmp 43) 24 rfl w.heap.size 3 i0 (.int .i64 0) 1 8 Try.underlying24 hi hz0 hz1 hz2 rfl (by decide) v2 (k + 1) ((L.take k).map (Value.int .i64) ++ [.int .i64 x]) rfl hown2 (if cap = k then (⟨g, off, none⟩ : Addr) else ⟨g, off + k, none⟩) 0 (cap - k) ((L.drop k).map (Value.int .i64)) _ rfl (by split <;> rfl) (by rw [List.length_map, List.length_drop]; have := HN.out; omega) (news_below N2.out B2 (by split <;> exact hg)) (onesL _) (by unfold maxLen; omega) (by omega) B2.size ?_; intro v3 w3 hown3 hgrow3 hlo3; (have B3 : Below w.heap.size w w3 := B2.grown hgrow3 B2.size hlo3); clear hgrow3)
          | (refine step_append_own rfl (.tmp 33) (.tmp 36) 24 rfl w.heap.size 3 i0 (.int .i64 0) 1 8 Try.underlying24 hi hz0 hz1 hz2 rfl (by decide) _ 0 [] rfl (by first | exact ownI_empty w.drew | exact World.ownsRow.alloc (ownI_empty w.drew) _ | exact HE3.out) ⟨g, off, none⟩ k cap ((L.take k).map (Value.int .i64)) _ rfl rfl (by rw [List.length_map, List.length_take]; have := HN.out; omega) (news_below N1.out (by go_grown) hg) (onesL _) (by unfold maxLen; omega) (by omega) (by first | (simp; done) | (simp; omega)) ?_; intro v1 w1 hown1 hgrow1 hlo1; (have B1 : Below w.heap.size w w1 := Below.grown (by go_grown) hgrow1 (by first | (simp; done) | (simp; omega)) hlo1); (first | (have hg1 : World.grownBy _ w1 (some w.heap.size) := hgrow1) | (have hg1 : World.grownBy _ w1 (some (w.heap.size + 1)) := hgrow1)); (have ho1 : w1.ownsRow w.heap.size 3 1 v1 k ((L.take k).map (Value.int .i64)) := by simpa using hown1); clear hown1))
        all_goals
          have hO3 : OwnJ w.heap.size w3 v3 (insI x L) := by
            refine ⟨?_, ?_⟩
            · unfold OwnI insI
              have h9 := hown3
              rw [hcut.out]
              have hlen : (L.take k ++ x :: L.drop k).length = k + 1 + 0 := by have := HN.out; simp; omega
              rw [hlen, List.map_append, List.map_cons]
              simpa using h9
            · obtain ⟨g3, c3, h3, _⟩ := World.ownsRow.form hown3 (by omega)
              exact ⟨g3, by rw [h3]; rfl⟩
          clear hown2 hown3 B1 B2 ho1
          have HO3 := hid hO3
          clear hO3
          go_wp2_with fail
          all_goals go_ret
          all_goals exact ⟨v3, rfl, HO3.out, B3⟩
end Go.Proofs.Ytejpmomedclnhaa
