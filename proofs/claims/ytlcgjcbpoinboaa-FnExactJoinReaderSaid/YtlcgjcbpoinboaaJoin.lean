/-
  A reader appended to a list, by the program and by the reference. No condition.
-/
import Derived.Test.YtlcgjcbpoinboaaReaderMem
import Derived.Deep.AppendLies
import Derived.Deep.RegionLaw
namespace Go.Proofs.Ytlcgjcbpoinboaa
open Go.RowKit
set_option linter.unusedVariables false
set_option maxRecDepth 100000

/-- The number of a new reader. -/
def jid (X : Nat → ReaderD) (n : Nat) : Int := if n = 0 then 1 else IntKind.i64.wrap ((X (n - 1)).Id + 1)
def jR (X : Nat → ReaderD) (n : Nat) (nm : ByteArray) (d : Int) : ReaderD := ⟨jid X n, nm, d, 1, 0⟩
def jA (X : Nat → ReaderD) (n : Nat) (nm : ByteArray) (d : Int) : List ReaderD := lstReader X n ++ [jR X n nm d]
def jOk (X : Nat → ReaderD) (n : Nat) (nm : ByteArray) (d : Int) : Bool := readersB X n && readersB (fun i => (jA X n nm d).getD i default) (n + 1)
def jL (X : Nat → ReaderD) (n : Nat) (nm : ByteArray) (d : Int) : List ReaderD := if jOk X n nm d = true then jA X n nm d else []
def jI (X : Nat → ReaderD) (n : Nat) (nm : ByteArray) (d : Int) : Int := if jOk X n nm d = true then jid X n else 0
theorem jA_len (X : Nat → ReaderD) (n : Nat) (nm : ByteArray) (d : Int) : (jA X n nm d).length = n + 1 := by simp [jA, lstReader_length]
theorem jL_le (X : Nat → ReaderD) (n : Nat) (nm : ByteArray) (d : Int) : (jL X n nm d).length ≤ 10 := by
  unfold jL
  split
  · rename_i h
    unfold jOk at h
    rw [Bool.and_eq_true] at h
    rw [jA_len]
    exact readersB_le h.2
  · simp
theorem jL_ok {X : Nat → ReaderD} {n : Nat} {nm : ByteArray} {d : Int} (h : jOk X n nm d = true) : jL X n nm d = jA X n nm d ∧ jI X n nm d = jid X n := by unfold jL jI; rw [if_pos h, if_pos h]; exact ⟨rfl, rfl⟩
theorem jL_no {X : Nat → ReaderD} {n : Nat} {nm : ByteArray} {d : Int} (h : jOk X n nm d = false) : jL X n nm d = [] ∧ jI X n nm d = 0 := by unfold jL jI; rw [h]; exact ⟨rfl, rfl⟩
theorem jA_names {X : Nat → ReaderD} {n : Nat} {nm : ByteArray} {d : Int} (hnm : ∀ i, i < n → (X i).Name.size ≤ maxLen) (hs : nm.size ≤ maxLen) : ∀ i, i < n + 1 → ((jA X n nm d).getD i default).Name.size ≤ maxLen := by
  intro i hi
  by_cases h : i < n
  · have : (jA X n nm d).getD i default = X i := by simp [jA, List.getD, List.getElem?_append_left, lstReader_length, h, lstReader]
    rw [this]; exact hnm i h
  · have hin : i = n := by omega
    subst hin
    have : (jA X i nm d).getD i default = jR X i nm d := by simp [jA, List.getD, lstReader_length, List.getElem?_append_right]
    rw [this]; exact hs
theorem flat_app_Reader (L : List ReaderD) (s : ReaderD) : (L ++ [s]).flatMap ReaderD.cells = L.flatMap ReaderD.cells ++ s.cells := by simp [List.flatMap_append]
theorem news_Reader (s : ReaderD) {w : World} {B : Nat} (h : w.heap[B]? = some (.cells #[.int .i64 s.Id, .string s.Name, .int .i64 s.Joined, .int .i64 s.Class, .int .i64 s.Fines] 33 (0, 0))) : ∀ j u, (s.cells)[j]? = some u → w.cell? ((⟨B, 0, none⟩ : Addr).add j) = some u := World.news_of_block h
theorem cells_one_Reader (s : ReaderD) : ∀ u ∈ s.cells, u.oneCell' = true := by
  intro u hu
  simp [ReaderD.cells] at hu
  rcases hu with rfl | rfl | rfl | rfl | rfl <;> rfl

set_option maxHeartbeats 4000000 in
theorem join_spec (w : World) (b off len cap : Nat) (X : Nat → ReaderD) (nm : ByteArray) (d : Int) (h : Rw w b off 5 len (fun i => (X i).cells)) (hm : len ≤ 1048576) (hlc : len ≤ cap) (hnm : ∀ i, i < len → (X i).Name.size ≤ maxLen) (hs : nm.size ≤ maxLen) :
    Calls Try.prog 43 #[.slice (some ⟨b, off, none⟩) len cap, .string nm, .int .i64 d] w (RetReaderIB (jL X len nm d) (jI X len nm d) (jOk X len nm d) w) := by
  have H := hid h
  have HN := hid hnm
  have hb := h.1
  clear hnm
  obtain ⟨i0, hi, hz0, hz1, hz2⟩ := info_parts info_Reader
  have hA : Below w.heap.size w (w.alloc (.cells #[] 33)) := by go_grown
  have HR := hid (h.later' hA).flatReader
  have HE := hid (OwnReader.empty w)
  clear h
  by_cases hz : len = 0
  · have hz' : ¬ 0 < len := by omega
    have HZ := hid hz
    clear hz
    go_enter Try.func43, Try.ntmps43
    have HJ : Hid (jid X len = 1) := by unfold Hid jid; rw [if_pos HZ.out]
    go_wp2_with (at_builtin; refine wpList_append_own_at _ rfl _ _ 39 rfl w.heap.size 33 i0 (.agg #[.int .i64 0, .string ByteArray.empty, .int .i64 0, .int .i64 0, .int .i64 0]) 5 48 Try.underlying39 hi hz0 hz1 hz2 rfl (by decide) _ 0 [] rfl HE.out ⟨b, off, none⟩ len cap ((lstReader X len).flatMap ReaderD.cells) rfl ?c1 HR.out ?c2 ?c3 ?c4 ?c5 ?_)
    case c1 => rw [flat_len_Reader, lstReader_length]
    case c2 => exact flat_one_Reader _
    case c3 => unfold maxLen; omega
    case c4 => omega
    case c5 => simp
    intro v1 w1 hown hgrow _ _
    have B1 : Below w.heap.size w w1 := hA.grown hgrow (by simp) (fun g hg => by simp [Value.ownBlock] at hg; omega)
    have ho1 : w1.ownsRow w.heap.size 33 5 v1 len ((lstReader X len).flatMap ReaderD.cells) := by simpa using hown
    clear hown hgrow
    go_wp2_with (at_builtin; refine wpList_append_own_at _ rfl _ _ 39 rfl w.heap.size 33 i0 (.agg #[.int .i64 0, .string ByteArray.empty, .int .i64 0, .int .i64 0, .int .i64 0]) 5 48 Try.underlying39 hi hz0 hz1 hz2 rfl (by decide) _ len ((lstReader X len).flatMap ReaderD.cells) rfl (World.ownsRow.alloc ho1 _) ⟨w1.heap.size, 0, none⟩ 1 1 ((⟨(1 : Int), nm, d, 1, 0⟩ : ReaderD).cells) rfl rfl ?d1 ?d2 ?d3 ?d4 ?d5 ?_)
    case d1 => exact news_Reader ⟨(1 : Int), nm, d, 1, 0⟩ (heap_alloc_new w1 _)
    case d2 => exact cells_one_Reader _
    case d3 => unfold maxLen; omega
    case d4 => omega
    case d5 => have := B1.size; simp; omega
    intro v2 w2 hown hgrow _ _
    have B2 : Below w.heap.size w w2 := (B1.alloc B1.size _).grown hgrow (by have := B1.size; simp; omega) (fun g hg => by have := (World.ownsRow.lt ho1 g hg).1; omega)
    have ho : OwnReader w.heap.size w2 v2 (jA X len nm d) := by
      unfold OwnReader
      rw [jA_len]
      unfold jA jR
      rw [flat_app_Reader, HJ.out]
      exact hown
    clear hown hgrow ho1 HE HR hA
    rcases ho.form with ⟨_, h0⟩ | ⟨g, cap', hv2, hg, hgl, hc1, hc2, hRw, hBlk⟩
    · have := congrArg List.length h0
      rw [jA_len] at this
      simp at this
    · rw [jA_len] at hv2 hc1 hRw
      subst hv2
      have HO := hid ho
      clear ho hBlk
      have hRw2 := hid hRw
      clear hRw
      go_wp2_with fail
      refine (readers_spec _ b off len cap X (H.out.later' B2) hm hlc HN.out).mono ?_
      rintro e w3 ⟨rfl, hb3⟩
      have B3 : Below w.heap.size w w3 := Below.on B2 B2.size hb3
      by_cases hS : readersB X len = true
      · have HS := hid hS
        go_wp2_with fail
        refine (readers_spec _ g 0 (len + 1) cap' (fun i => (jA X len nm d).getD i default) (hRw2.out.later' hb3) (by have := readersB_le HS.out; omega) hc1 (jA_names HN.out hs)).mono ?_
        rintro e w4 ⟨he, hb4⟩
        have he2 : e = .returned (.bool (jOk X len nm d)) := by rw [he]; unfold jOk; rw [HS.out]; rfl
        clear he
        subst he2
        have B4 : Below w.heap.size w w4 := Below.on B3 B3.size hb4
        have HO4 := hid ((HO.out.below hb3).below hb4)
        clear hb3 hb4
        by_cases hk : jOk X len nm d = true
        · have HK := hid hk
          go_wp2_with fail
          go_ret3
          exact ⟨_, by rw [(jL_ok HK.out).2, HK.out, HJ.out]; rfl, by rw [(jL_ok HK.out).1]; exact HO4.out, B4⟩
        · have hk2 : jOk X len nm d = false := by simpa using hk
          have HK := hid hk2
          clear hk
          go_wp2_with fail
          go_ret3
          exact ⟨_, by rw [(jL_no HK.out).2, HK.out]; rfl, by rw [(jL_no HK.out).1]; exact (OwnReader.empty w4).base B4.size, B4.alloc B4.size _⟩
      · have hS' : readersB X len = false := by simpa using hS
        have HK : Hid (jOk X len nm d = false) := by unfold Hid jOk; rw [hS']; rfl
        clear hS
        go_wp2_with fail
        go_ret3
        exact ⟨_, by rw [(jL_no HK.out).2, HK.out]; rfl, by rw [(jL_no HK.out).1]; exact (OwnReader.empty w3).base B3.size, B3.alloc B3.size _⟩
  · have hz' : 0 < len := by omega
    have HZ := hid hz
    clear hz
    go_enter Try.func43, Try.ntmps43
    have n1 : IntKind.i64.wrap ((len : Int) - 1) = (len : Int) - 1 := IntWalk.i64_in _ (by omega)
    have n2 : ((len : Int) - 1).toNat = len - 1 := by omega
    have n3 : (0 : Int) ≤ (len : Int) - 1 := by omega
    have n4 : (len : Int) - 1 < (len : Int) := by omega
    have c0 : w.cell? ⟨b, off + (len - 1) * 5, none⟩ = some (.int .i64 (X (len - 1)).Id) := H.out.2 (len - 1) (by omega) 0 (by omega)
    obtain ⟨v, hv⟩ : ∃ v, IntKind.i64.wrap ((X (len - 1)).Id + 1) = v := ⟨_, rfl⟩
    have HJ : Hid (jid X len = v) := by unfold Hid jid; rw [if_neg HZ.out]; exact hv
    go_wp2_with (at_builtin; refine wpList_append_own_at _ rfl _ _ 39 rfl w.heap.size 33 i0 (.agg #[.int .i64 0, .string ByteArray.empty, .int .i64 0, .int .i64 0, .int .i64 0]) 5 48 Try.underlying39 hi hz0 hz1 hz2 rfl (by decide) _ 0 [] rfl HE.out ⟨b, off, none⟩ len cap ((lstReader X len).flatMap ReaderD.cells) rfl ?c1 HR.out ?c2 ?c3 ?c4 ?c5 ?_)
    case c1 => rw [flat_len_Reader, lstReader_length]
    case c2 => exact flat_one_Reader _
    case c3 => unfold maxLen; omega
    case c4 => omega
    case c5 => simp
    intro v1 w1 hown hgrow _ _
    have B1 : Below w.heap.size w w1 := hA.grown hgrow (by simp) (fun g hg => by simp [Value.ownBlock] at hg; omega)
    have ho1 : w1.ownsRow w.heap.size 33 5 v1 len ((lstReader X len).flatMap ReaderD.cells) := by simpa using hown
    clear hown hgrow
    go_wp2_with (at_builtin; refine wpList_append_own_at _ rfl _ _ 39 rfl w.heap.size 33 i0 (.agg #[.int .i64 0, .string ByteArray.empty, .int .i64 0, .int .i64 0, .int .i64 0]) 5 48 Try.underlying39 hi hz0 hz1 hz2 rfl (by decide) _ len ((lstReader X len).flatMap ReaderD.cells) rfl (World.ownsRow.alloc ho1 _) ⟨w1.heap.size, 0, none⟩ 1 1 ((⟨v, nm, d, 1, 0⟩ : ReaderD).cells) rfl rfl ?d1 ?d2 ?d3 ?d4 ?d5 ?_)
    case d1 => exact news_Reader ⟨v, nm, d, 1, 0⟩ (heap_alloc_new w1 _)
    case d2 => exact cells_one_Reader _
    case d3 => unfold maxLen; omega
    case d4 => omega
    case d5 => have := B1.size; simp; omega
    intro v2 w2 hown hgrow _ _
    have B2 : Below w.heap.size w w2 := (B1.alloc B1.size _).grown hgrow (by have := B1.size; simp; omega) (fun g hg => by have := (World.ownsRow.lt ho1 g hg).1; omega)
    have ho : OwnReader w.heap.size w2 v2 (jA X len nm d) := by
      unfold OwnReader
      rw [jA_len]
      unfold jA jR
      rw [flat_app_Reader, HJ.out]
      exact hown
    clear hown hgrow ho1 HE HR hA
    rcases ho.form with ⟨_, h0⟩ | ⟨g, cap', hv2, hg, hgl, hc1, hc2, hRw, hBlk⟩
    · have := congrArg List.length h0
      rw [jA_len] at this
      simp at this
    · rw [jA_len] at hv2 hc1 hRw
      subst hv2
      have HO := hid ho
      clear ho hBlk
      have hRw2 := hid hRw
      clear hRw
      go_wp2_with fail
      refine (readers_spec _ b off len cap X (H.out.later' B2) hm hlc HN.out).mono ?_
      rintro e w3 ⟨rfl, hb3⟩
      have B3 : Below w.heap.size w w3 := Below.on B2 B2.size hb3
      by_cases hS : readersB X len = true
      · have HS := hid hS
        go_wp2_with fail
        refine (readers_spec _ g 0 (len + 1) cap' (fun i => (jA X len nm d).getD i default) (hRw2.out.later' hb3) (by have := readersB_le HS.out; omega) hc1 (jA_names HN.out hs)).mono ?_
        rintro e w4 ⟨he, hb4⟩
        have he2 : e = .returned (.bool (jOk X len nm d)) := by rw [he]; unfold jOk; rw [HS.out]; rfl
        clear he
        subst he2
        have B4 : Below w.heap.size w w4 := Below.on B3 B3.size hb4
        have HO4 := hid ((HO.out.below hb3).below hb4)
        clear hb3 hb4
        by_cases hk : jOk X len nm d = true
        · have HK := hid hk
          go_wp2_with fail
          go_ret3
          exact ⟨_, by rw [(jL_ok HK.out).2, HK.out, HJ.out]; rfl, by rw [(jL_ok HK.out).1]; exact HO4.out, B4⟩
        · have hk2 : jOk X len nm d = false := by simpa using hk
          have HK := hid hk2
          clear hk
          go_wp2_with fail
          go_ret3
          exact ⟨_, by rw [(jL_no HK.out).2, HK.out]; rfl, by rw [(jL_no HK.out).1]; exact (OwnReader.empty w4).base B4.size, B4.alloc B4.size _⟩
      · have hS' : readersB X len = false := by simpa using hS
        have HK : Hid (jOk X len nm d = false) := by unfold Hid jOk; rw [hS']; rfl
        clear hS
        go_wp2_with fail
        go_ret3
        exact ⟨_, by rw [(jL_no HK.out).2, HK.out]; rfl, by rw [(jL_no HK.out).1]; exact (OwnReader.empty w3).base B3.size, B3.alloc B3.size _⟩

set_option maxHeartbeats 4000000 in
theorem join_impl (w : World) (b off len cap : Nat) (X : Nat → ReaderD) (nm : ByteArray) (d : Int) (h : Rw w b off 5 len (fun i => (X i).cells)) (hm : len ≤ 1048576) (hlc : len ≤ cap) (hnm : ∀ i, i < len → (X i).Name.size ≤ maxLen) (hs : nm.size ≤ maxLen) :
    Calls Try.prog 44 #[.slice (some ⟨b, off, none⟩) len cap, .string nm, .int .i64 d] w (RetReaderIB (jL X len nm d) (jI X len nm d) (jOk X len nm d) w) := by
  have H := hid h
  have HN := hid hnm
  have hb := h.1
  clear hnm h
  obtain ⟨i0, hi, hz0, hz1, hz2⟩ := info_parts info_Reader
  go_enter Try.func44, Try.ntmps44
  go_wp2_with fail
  refine (readers_impl _ b off len cap X H.out hm hlc HN.out).mono ?_
  rintro e w1 ⟨rfl, B1⟩
  by_cases hS : readersB X len = true
  · have HS := hid hS
    by_cases hz : len = 0
    · have hz' : ¬ 0 < len := by omega
      have HZ := hid hz
      clear hz
      have HJ : Hid (jid X len = 1) := by unfold Hid jid; rw [if_pos HZ.out]
      have B0 : Below w.heap.size w (w1.alloc (.cells #[.int .i64 1, .string nm, .int .i64 d, .int .i64 1, .int .i64 0] 33)) := B1.alloc B1.size _
      go_wp2_with fail
      go_region_law (first
        | (refine step_append_lies _ rfl (.tmp 30) (.tmp 32) 39 rfl w.heap.size 33 i0 (.agg #[.int .i64 0, .string ByteArray.empty, .int .i64 0, .int .i64 0, .int .i64 0]) 5 48 Try.underlying39 hi hz0 hz1 hz2 rfl (by decide) v3 len ((lstReader X len).flatMap ReaderD.cells) rfl (by first | exact ho4 | exact World.ownsRow.alloc ho4 _) _ 1 1 ((⟨1, nm, d, 1, 0⟩ : ReaderD).cells) rfl rfl (by first | exact news_Reader ⟨1, nm, d, 1, 0⟩ (heap_alloc_new w3 _) | exact news_Reader ⟨1, nm, d, 1, 0⟩ ((hb3.block _ (by first | (simp; done) | (simp; omega))).trans (by rw [show w1.heap.size + 1 = (w1.alloc (.cells #[.int .i64 1, .string nm, .int .i64 d, .int .i64 1, .int .i64 0] 33)).heap.size from by simp]; exact heap_alloc_new (w1.alloc (.cells #[.int .i64 1, .string nm, .int .i64 d, .int .i64 1, .int .i64 0] 33)) (.cells #[.int .i64 1, .string nm, .int .i64 d, .int .i64 1, .int .i64 0] 33)))) (cells_one_Reader _) (by omega) (by unfold maxLen; omega) (by omega) (by have hh := B1.size; have hh2 := hB3.size; first | omega | (simp; done) | (simp; omega)) _ rfl ?_; intro g cap' w4 hown hgrow hat hlt)
        | (go_simp; go_at_call 74; refine (cloneReader _ b off len cap X (H.out.later' (by first | exact B0.drew | exact (B0.alloc B0.size _).drew | exact B0.alloc B0.size _)) hm hlc).mono ?_; rintro e w3 ⟨v3, rfl, ho3, hb3⟩; have hz3 := hb3.size; (try simp only [World.size_drew, World.size_alloc] at hz3); (have hfar : ∀ k, v3.ownBlock = some k → w1.heap.size < k := fun k hk => by (have hh := (World.ownsRow.lt ho3 k hk).1; simp at hh; omega)); (have hB3 : Below w.heap.size w w3 := Below.on (by first | exact B0.drew | exact (B0.alloc B0.size _).drew | exact B0.alloc B0.size _) (by first | exact B0.drew.size | exact (B0.alloc B0.size _).drew.size | exact (B0.alloc B0.size _).size) hb3); (have hc30 : w3.cell? ⟨w1.heap.size, 0, none⟩ = some (.int .i64 1) := (hb3.cell (by first | (simp; done) | (simp; omega))).trans (by simp [go_sem])); (have hc31 : w3.cell? ⟨w1.heap.size, 1, none⟩ = some (.string nm) := (hb3.cell (by first | (simp; done) | (simp; omega))).trans (by simp [go_sem])); (have hc32 : w3.cell? ⟨w1.heap.size, 2, none⟩ = some (.int .i64 d) := (hb3.cell (by first | (simp; done) | (simp; omega))).trans (by simp [go_sem])); (have hc33 : w3.cell? ⟨w1.heap.size, 3, none⟩ = some (.int .i64 1) := (hb3.cell (by first | (simp; done) | (simp; omega))).trans (by simp [go_sem])); (have hc34 : w3.cell? ⟨w1.heap.size, 4, none⟩ = some (.int .i64 0) := (hb3.cell (by first | (simp; done) | (simp; omega))).trans (by simp [go_sem])); (have ho4 : w3.ownsRow w.heap.size 33 5 v3 len ((lstReader X len).flatMap ReaderD.cells) := by (have hh := ho3.base (B' := w.heap.size) (by first | exact B0.drew.size | exact (B0.alloc B0.size _).drew.size | exact (B0.alloc B0.size _).size); unfold OwnReader at hh; rwa [lstReader_length] at hh))))
      all_goals
        have hz1 := B1.size
        have hJ : OwnReader w.heap.size w4 (.slice (some ⟨g, 0, none⟩) (len + 1) cap') (jA X len nm d) := by
          unfold OwnReader
          rw [jA_len]
          unfold jA jR
          rw [flat_app_Reader, HJ.out]
          exact hown
        have hB4 : Below w.heap.size w w4 := by
          first
            | exact hB3.grown hgrow hB3.size (fun g hg => (World.ownsRow.lt ho4 g hg).1)
            | exact (hB3.alloc hB3.size _).grown hgrow (hB3.alloc hB3.size _).size (fun g hg => (World.ownsRow.lt ho4 g hg).1)
        have hC4 : w4.cell? ⟨w1.heap.size, 0, none⟩ = some (.int .i64 1) := by
          refine (hgrow.cell_far ⟨w1.heap.size, 0, none⟩ (by first | (simp only; omega) | (simp; omega)) (fun e => by have hh := hfar _ e.symm; simp at hh)).trans ?_
          first
            | exact hc30
            | exact (World.cell?_alloc_old _ _ _ (by simp only; omega)).trans hc30
        have hl4 : w1.heap.size < w4.heap.size := by have hh := hgrow.size; (try simp only [World.size_alloc] at hh); omega
        clear hown hgrow hat hlt ho3 ho4 hb3 hc30 hc31 hc32 hc33 hc34 hB3 hfar hi hz0 hz1 hz2
        rcases hJ.form with ⟨hv2, _⟩ | ⟨g', cap2, hv2, _, _, hc3, _, hRw2, _⟩
        · exact absurd hv2 (by simp)
        · rw [jA_len] at hv2 hc3 hRw2
          injection hv2 with e1 e2 e3
          injection e1 with e1
          injection e1 with e1
          subst e1
          subst e3
          have HJJ := hid hJ
          have HRw := hid hRw2
          clear hJ hRw2 e2
          go_wp2_with fail
          refine (readers_impl _ g 0 (len + 1) cap' (fun i => (jA X len nm d).getD i default) HRw.out (by have := readersB_le HS.out; omega) hc3 (jA_names HN.out hs)).mono ?_
          rintro e w5 ⟨he, hb5⟩
          have he2 : e = .returned (.bool (jOk X len nm d)) := by rw [he]; unfold jOk; rw [HS.out]; rfl
          clear he
          subst he2
          have hB5 : Below w.heap.size w w5 := Below.on hB4 hB4.size hb5
          have HJ5 := hid (HJJ.out.below hb5)
          have hC5 : w5.cell? ⟨w1.heap.size, 0, none⟩ = some (.int .i64 1) := (hb5.cell hl4).trans hC4
          have hl5 : w1.heap.size < w5.heap.size := by have := hb5.size; omega
          clear hb5 hC4 HRw
          by_cases hk : jOk X len nm d = true
          · have HK := hid hk
            go_wp2_with fail
            have hq0 : ∀ z : Later w5, z.wd.cell? ⟨w1.heap.size, 0, none⟩ = some (.int .i64 1) := fun z => (z.cell _ _ hl5).trans hC5
            refine region_later (by kernel_rfl) (by kernel_rfl) ?_
            repeat (go_big_quiet_step (fail))
            refine wpQuiet_nil ?_
            intro _ hw'
            obtain ⟨z, rfl⟩ := hw'
            clear hq0
            go_wp2_with fail
            go_ret3
            exact ⟨_, by rw [(jL_ok HK.out).2, HK.out, HJ.out]; rfl, by rw [(jL_ok HK.out).1]; exact HJ5.out.below z.below, Below.on hB5 hB5.size z.below⟩
          · have hk2 : jOk X len nm d = false := by simpa using hk
            have HK := hid hk2
            clear hk
            go_wp2_with fail
            go_ret3
            exact ⟨_, by rw [(jL_no HK.out).2, HK.out]; rfl, by rw [(jL_no HK.out).1]; exact OwnReader.nil _ _, hB5⟩
    · have hz' : 0 < len := by omega
      have HZ := hid hz
      clear hz
      have n1 : IntKind.i64.wrap ((len : Int) - 1) = (len : Int) - 1 := IntWalk.i64_in _ (by omega)
      have n2 : ((len : Int) - 1).toNat = len - 1 := by omega
      have n3 : (0 : Int) ≤ (len : Int) - 1 := by omega
      have n4 : (len : Int) - 1 < (len : Int) := by omega
      have c0 : w1.cell? ⟨b, off + (len - 1) * 5, none⟩ = some (.int .i64 (X (len - 1)).Id) := (B1.cell hb).trans (H.out.2 (len - 1) (by omega) 0 (by omega))
      have lb : b < w1.heap.size := by have := B1.size; omega
      obtain ⟨v, hv⟩ : ∃ v, IntKind.i64.wrap ((X (len - 1)).Id + 1) = v := ⟨_, rfl⟩
      have HJ : Hid (jid X len = v) := by unfold Hid jid; rw [if_neg HZ.out]; exact hv
      have B0 : Below w.heap.size w (w1.alloc (.cells #[.int .i64 v, .string nm, .int .i64 d, .int .i64 1, .int .i64 0] 33)) := B1.alloc B1.size _
      go_wp2_with fail
      go_region_law (first
        | (refine step_append_lies _ rfl (.tmp 30) (.tmp 32) 39 rfl w.heap.size 33 i0 (.agg #[.int .i64 0, .string ByteArray.empty, .int .i64 0, .int .i64 0, .int .i64 0]) 5 48 Try.underlying39 hi hz0 hz1 hz2 rfl (by decide) v3 len ((lstReader X len).flatMap ReaderD.cells) rfl (by first | exact ho4 | exact World.ownsRow.alloc ho4 _) _ 1 1 ((⟨v, nm, d, 1, 0⟩ : ReaderD).cells) rfl rfl (by first | exact news_Reader ⟨v, nm, d, 1, 0⟩ (heap_alloc_new w3 _) | exact news_Reader ⟨v, nm, d, 1, 0⟩ ((hb3.block _ (by first | (simp; done) | (simp; omega))).trans (by rw [show w1.heap.size + 1 = (w1.alloc (.cells #[.int .i64 v, .string nm, .int .i64 d, .int .i64 1, .int .i64 0] 33)).heap.size from by simp]; exact heap_alloc_new (w1.alloc (.cells #[.int .i64 v, .string nm, .int .i64 d, .int .i64 1, .int .i64 0] 33)) (.cells #[.int .i64 v, .string nm, .int .i64 d, .int .i64 1, .int .i64 0] 33)))) (cells_one_Reader _) (by omega) (by unfold maxLen; omega) (by omega) (by have hh := B1.size; have hh2 := hB3.size; first | omega | (simp; done) | (simp; omega)) _ rfl ?_; intro g cap' w4 hown hgrow hat hlt)
        | (go_simp; go_at_call 74; refine (cloneReader _ b off len cap X (H.out.later' (by first | exact B0.drew | exact (B0.alloc B0.size _).drew | exact B0.alloc B0.size _)) hm hlc).mono ?_; rintro e w3 ⟨v3, rfl, ho3, hb3⟩; have hz3 := hb3.size; (try simp only [World.size_drew, World.size_alloc] at hz3); (have hfar : ∀ k, v3.ownBlock = some k → w1.heap.size < k := fun k hk => by (have hh := (World.ownsRow.lt ho3 k hk).1; simp at hh; omega)); (have hB3 : Below w.heap.size w w3 := Below.on (by first | exact B0.drew | exact (B0.alloc B0.size _).drew | exact B0.alloc B0.size _) (by first | exact B0.drew.size | exact (B0.alloc B0.size _).drew.size | exact (B0.alloc B0.size _).size) hb3); (have hc30 : w3.cell? ⟨w1.heap.size, 0, none⟩ = some (.int .i64 v) := (hb3.cell (by first | (simp; done) | (simp; omega))).trans (by simp [go_sem])); (have hc31 : w3.cell? ⟨w1.heap.size, 1, none⟩ = some (.string nm) := (hb3.cell (by first | (simp; done) | (simp; omega))).trans (by simp [go_sem])); (have hc32 : w3.cell? ⟨w1.heap.size, 2, none⟩ = some (.int .i64 d) := (hb3.cell (by first | (simp; done) | (simp; omega))).trans (by simp [go_sem])); (have hc33 : w3.cell? ⟨w1.heap.size, 3, none⟩ = some (.int .i64 1) := (hb3.cell (by first | (simp; done) | (simp; omega))).trans (by simp [go_sem])); (have hc34 : w3.cell? ⟨w1.heap.size, 4, none⟩ = some (.int .i64 0) := (hb3.cell (by first | (simp; done) | (simp; omega))).trans (by simp [go_sem])); (have ho4 : w3.ownsRow w.heap.size 33 5 v3 len ((lstReader X len).flatMap ReaderD.cells) := by (have hh := ho3.base (B' := w.heap.size) (by first | exact B0.drew.size | exact (B0.alloc B0.size _).drew.size | exact (B0.alloc B0.size _).size); unfold OwnReader at hh; rwa [lstReader_length] at hh))))
      all_goals
        have hz1 := B1.size
        have hJ : OwnReader w.heap.size w4 (.slice (some ⟨g, 0, none⟩) (len + 1) cap') (jA X len nm d) := by
          unfold OwnReader
          rw [jA_len]
          unfold jA jR
          rw [flat_app_Reader, HJ.out]
          exact hown
        have hB4 : Below w.heap.size w w4 := by
          first
            | exact hB3.grown hgrow hB3.size (fun g hg => (World.ownsRow.lt ho4 g hg).1)
            | exact (hB3.alloc hB3.size _).grown hgrow (hB3.alloc hB3.size _).size (fun g hg => (World.ownsRow.lt ho4 g hg).1)
        have hC4 : w4.cell? ⟨w1.heap.size, 0, none⟩ = some (.int .i64 v) := by
          refine (hgrow.cell_far ⟨w1.heap.size, 0, none⟩ (by first | (simp only; omega) | (simp; omega)) (fun e => by have hh := hfar _ e.symm; simp at hh)).trans ?_
          first
            | exact hc30
            | exact (World.cell?_alloc_old _ _ _ (by simp only; omega)).trans hc30
        have hl4 : w1.heap.size < w4.heap.size := by have hh := hgrow.size; (try simp only [World.size_alloc] at hh); omega
        clear hown hgrow hat hlt ho3 ho4 hb3 hc30 hc31 hc32 hc33 hc34 hB3 hfar hi hz0 hz1 hz2
        rcases hJ.form with ⟨hv2, _⟩ | ⟨g', cap2, hv2, _, _, hc3, _, hRw2, _⟩
        · exact absurd hv2 (by simp)
        · rw [jA_len] at hv2 hc3 hRw2
          injection hv2 with e1 e2 e3
          injection e1 with e1
          injection e1 with e1
          subst e1
          subst e3
          have HJJ := hid hJ
          have HRw := hid hRw2
          clear hJ hRw2 e2
          go_wp2_with fail
          refine (readers_impl _ g 0 (len + 1) cap' (fun i => (jA X len nm d).getD i default) HRw.out (by have := readersB_le HS.out; omega) hc3 (jA_names HN.out hs)).mono ?_
          rintro e w5 ⟨he, hb5⟩
          have he2 : e = .returned (.bool (jOk X len nm d)) := by rw [he]; unfold jOk; rw [HS.out]; rfl
          clear he
          subst he2
          have hB5 : Below w.heap.size w w5 := Below.on hB4 hB4.size hb5
          have HJ5 := hid (HJJ.out.below hb5)
          have hC5 : w5.cell? ⟨w1.heap.size, 0, none⟩ = some (.int .i64 v) := (hb5.cell hl4).trans hC4
          have hl5 : w1.heap.size < w5.heap.size := by have := hb5.size; omega
          clear hb5 hC4 HRw
          by_cases hk : jOk X len nm d = true
          · have HK := hid hk
            go_wp2_with fail
            have hq0 : ∀ z : Later w5, z.wd.cell? ⟨w1.heap.size, 0, none⟩ = some (.int .i64 v) := fun z => (z.cell _ _ hl5).trans hC5
            refine region_later (by kernel_rfl) (by kernel_rfl) ?_
            repeat (go_big_quiet_step (fail))
            refine wpQuiet_nil ?_
            intro _ hw'
            obtain ⟨z, rfl⟩ := hw'
            clear hq0
            go_wp2_with fail
            go_ret3
            exact ⟨_, by rw [(jL_ok HK.out).2, HK.out, HJ.out]; rfl, by rw [(jL_ok HK.out).1]; exact HJ5.out.below z.below, Below.on hB5 hB5.size z.below⟩
          · have hk2 : jOk X len nm d = false := by simpa using hk
            have HK := hid hk2
            clear hk
            go_wp2_with fail
            go_ret3
            exact ⟨_, by rw [(jL_no HK.out).2, HK.out]; rfl, by rw [(jL_no HK.out).1]; exact OwnReader.nil _ _, hB5⟩
  · have hS' : readersB X len = false := by simpa using hS
    have HK : Hid (jOk X len nm d = false) := by unfold Hid jOk; rw [hS']; rfl
    clear hS
    go_wp2_with fail
    go_ret3
    exact ⟨_, by rw [(jL_no HK.out).2, HK.out]; rfl, by rw [(jL_no HK.out).1]; exact OwnReader.nil _ _, B1⟩

set_option maxRecDepth 100000 in
set_option maxHeartbeats 8000000 in
theorem walk_ExactJoinReader (w : World) (p0 : Option Addr) (len0 cap0 : Nat) (X0 : Nat → ReaderD) (a1 : ByteArray) (a2 : Int) (h0 : Sl w 5 p0 len0 (fun i => (X0 i).cells)) (ok0 : ∀ i, i < len0 → (X0 i).ok) (hm0 : len0 ≤ maxLen) (i1 : a1.size ≤ maxLen) (i2 : isI a2) :
    Calls Try.prog 10 #[.slice p0 len0 cap0, .string a1, .int .i64 a2] w fun e w' => e = .returned (.bool true) ∧ Below w.heap.size w w' := by
  by_cases hS1 : ¬ (a1.size : Int) ≤ 1048576
  · unfold maxLen at i1
    go_enter Try.func10, Try.ntmps10
    go_wp2_with fail
    go_ret
    exact ⟨rfl, Below.refl _ _⟩
  have hS1' : (a1.size : Int) ≤ 1048576 := by omega
  clear hS1
  go_enter Try.func10, Try.ntmps10
  go_wp2_with fail
  refine (szReaderS_any p0 len0 cap0 X0 _ h0 ok0 hm0).mono ?_
  rintro e w0 ⟨r, rfl, hb0, hr⟩
  have z0 := hb0.size
  clear ok0
  by_cases hr0 : r < 0
  · go_wp2_with fail
    go_ret
    exact ⟨rfl, hb0⟩
  obtain ⟨hL, hnm⟩ := hr (by omega)
  clear hr
  have hLL : (jL X0 len0 a1 a2).length ≤ 1048576 := by have := jL_le X0 len0 a1 a2; omega
  have hNM : Hid (∀ i, i < len0 → (X0 i).Name.size ≤ maxLen) := fun i hi => by have := hnm i hi; unfold maxLen; omega
  clear hnm
  obtain ⟨LL, hLe⟩ : ∃ LL, LL = jL X0 len0 a1 a2 := ⟨_, rfl⟩
  have HLe := hid hLe
  rw [← hLe] at hLL
  clear hLe
  go_wp2_with fail
  refine (toReaderS_any p0 len0 cap0 X0 _ (h0.below hb0) (by omega)).mono ?_
  rintro e w1 ⟨rfl, hb1, hs1, F1⟩
  have z1 := hb1.size
  have B1 : Below w.heap.size w w1 := Below.on hb0 hb0.size hb1
  go_wp2_with fail
  refine (join_spec _ _ 0 len0 len0 X0 a1 a2 F1.rw (by omega) (Nat.le_refl _) hNM.out (by unfold maxLen; omega)).mono ?_
  rintro e w2 ⟨v, rfl, oV0, hb2⟩
  rw [← HLe.out] at oV0
  have oV := hid oV0
  clear oV0
  have z2 := hb2.size
  have B2 : Below w.heap.size w w2 := Below.on B1 B1.size hb2
  go_wp2_with fail
  refine (toReaderS_any p0 len0 cap0 X0 _ (h0.below B2) (by omega)).mono ?_
  rintro e w3 ⟨rfl, hb3, hs3, F3⟩
  have z3 := hb3.size
  have B3 : Below w.heap.size w w3 := Below.on B2 B2.size hb3
  go_wp2_with fail
  refine (join_impl _ _ 0 len0 len0 X0 a1 a2 F3.rw (by omega) (Nat.le_refl _) hNM.out (by unfold maxLen; omega)).mono ?_
  rintro e w4 ⟨g, rfl, oG0, hb4⟩
  rw [← HLe.out] at oG0
  have oG := hid oG0
  clear oG0
  have z4 := hb4.size
  have B4 : Below w.heap.size w w4 := Below.on B3 B3.size hb4
  go_wp2_with fail
  refine (eqReaderS_own g v LL _ _ _ oG.out ((oV.out.below hb3).below hb4) hLL).mono ?_
  rintro e w5 ⟨rfl, hb5⟩
  have z5 := hb5.size
  have B5 : Below w.heap.size w w5 := Below.on B4 B4.size hb5
  go_wp2_with fail
  refine (toReaderS_any p0 len0 cap0 X0 _ (h0.below B5) (by omega)).mono ?_
  rintro e w6 ⟨rfl, hb6, hs6, F6⟩
  have z6 := hb6.size
  have B6 : Below w.heap.size w w6 := Below.on B5 B5.size hb6
  go_wp2_with fail
  refine (eqReaderS_same _ _ 0 0 len0 len0 len0 X0 _ (((F3.rw.later' hb4).later' hb5).later' hb6) F6.rw (by omega) (Nat.le_refl _) (Nat.le_refl _)).mono ?_
  rintro e w7 ⟨rfl, hb7⟩
  have z7 := hb7.size
  have B7 : Below w.heap.size w w7 := Below.on B6 B6.size hb7
  go_wp2_with fail
  refine (markReaderS_any _ len0 len0 len0 1 _ ((((F3.below hb4 (by omega)).below hb5 (by omega)).below hb6 (by omega)).below hb7 (by omega)).blk (Nat.le_refl _) (Nat.le_refl _) (by omega) (by omega) (by omega)).mono ?_
  rintro e w8 ⟨rfl, gr8, _, _⟩
  have z8 := gr8.size
  have B8 : Below w.heap.size w w8 := B7.grown gr8 B7.size (fun k hk => by cases hk; omega)
  have oV8 := hid (((((((oV.out.below hb3).below hb4).below hb5).below hb6).below hb7)).kept gr8 (oV.out.ne_lo (by omega)))
  have oG8 := hid (((((oG.out.below hb5).below hb6).below hb7)).kept gr8 (oG.out.ne_hi (by omega)))
  go_wp2_with fail
  refine (eqReaderS_own g v LL _ _ _ oG8.out oV8.out hLL).mono ?_
  rintro e w9 ⟨rfl, hb9⟩
  have z9 := hb9.size
  have B9 : Below w.heap.size w w9 := Below.on B8 B8.size hb9
  go_wp2_with fail
  refine (markReaderS_own g LL _ 1 _ (oG8.out.below hb9) (by omega) (by omega) (by omega)).mono ?_
  rintro e w10 ⟨rfl, oM0, gr10⟩
  have oM := hid oM0
  clear oM0
  have z10 := gr10.size
  have B10 : Below w.heap.size w w10 := B9.grown gr10 B9.size (fun k hk => by have := oG.out.ge k hk; omega)
  have oV10 := hid ((oV8.out.below hb9).kept gr10 (own_ne oV.out.lt (fun k hk => by have := oG.out.ge k hk; omega)))
  go_wp2_with fail
  refine (heldReaderS_own g LL.length _ 1 _ oM.out (by omega) (by omega) (by omega)).mono ?_
  rintro e w11 ⟨rfl, hb11⟩
  have z11 := hb11.size
  have B11 : Below w.heap.size w w11 := Below.on B10 B10.size hb11
  go_wp2_with fail
  refine (toReaderS_any p0 len0 cap0 X0 _ (h0.below B11) (by omega)).mono ?_
  rintro e w12 ⟨rfl, hb12, hs12, F12⟩
  have z12 := hb12.size
  have B12 : Below w.heap.size w w12 := Below.on B11 B11.size hb12
  go_wp2_with fail
  refine (join_impl _ _ 0 len0 len0 X0 a1 a2 F12.rw (by omega) (Nat.le_refl _) hNM.out (by unfold maxLen; omega)).mono ?_
  rintro e w13 ⟨u, rfl, oH0, hb13⟩
  rw [← HLe.out] at oH0
  have oH := hid oH0
  clear oH0
  have z13 := hb13.size
  have B13 : Below w.heap.size w w13 := Below.on B12 B12.size hb13
  go_wp2_with fail
  refine (eqReaderS_own u v LL _ _ _ oH.out (((oV10.out.below hb11).below hb12).below hb13) hLL).mono ?_
  rintro e w14 ⟨rfl, hb14⟩
  have z14 := hb14.size
  have B14 : Below w.heap.size w w14 := Below.on B13 B13.size hb14
  go_wp2_with fail
  refine (heldReaderS_own g LL.length _ 1 _ ((((oM.out.below hb11).below hb12).below hb13).below hb14) (by omega) (by omega) (by omega)).mono ?_
  rintro e w15 ⟨rfl, hb15⟩
  have z15 := hb15.size
  have B15 : Below w.heap.size w w15 := Below.on B14 B14.size hb15
  go_wp2_with fail
  go_ret
  exact ⟨rfl, B15⟩

end Go.Proofs.Ytlcgjcbpoinboaa
