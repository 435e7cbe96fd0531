/-
  The law FnExactHeapText: for all arguments the program's HeapText returns what the reference's returns. Conditions: none.
-/
import Derived.Test.YtbmlglkdlialgaaDoorHtD
import Derived.Test.YtbmlglkdlialgaaDoorHpU
import Derived.Test.YtbmlglkdlialgaaDoorHpO
import Derived.Test.YtbmlglkdlialgaaDoorLaid
import Derived.Test.YtbmlglkdlialgaaDoorTie
import Derived.Test.YtbmlglkdlialgaaDoorCards
namespace Go.Proofs.YtbmlglkdlialgaaDoor
open Go.ChangeShapes Go.WideShapes Go.ChangeAt Go.RowKit
attribute [local go_sem ↓] Go.wp_at_zero Go.wp_at_succ

set_option maxHeartbeats 4000000 in
theorem law_HeapText (D : HeapD) (B : Option Addr) (c : Nat) (w : World) (hT : Tab w.heap.size w) (hm : D.n ≤ maxLen) (h : Rd w B D.n 1 (ints D.L)) :
    Calls Tryd.prog 3 #[.agg #[.int .i64 D.id, .int .i64 D.gr, .slice B D.n c, .bool D.cov]] w fun e w' => e = .returned (.bool true) ∧ Below w.heap.size w w' := by
  obtain ⟨id, g, n, L, cov⟩ := D
  simp only at hm h ⊢
  have HT := hide hT
  clear hT
  have hn : n ≤ 9223372036854775807 := by simpa [maxLen] using hm
  clear hm
  by_cases hbig : (1048576 : Int) < n
  · have hs := hide (show szR 1048576 n = -1 by unfold szR; rw [if_pos hbig])
    clear hbig
    go_enter Tryd.func3, Tryd.ntmps3
    go_wp2_with fail
    go_at_call 5
    refine (szHeap_any _ _ _ _ _ _ _ _ hn (by omega) (by omega)).mono ?_
    rintro _ w1 ⟨rfl, hb1⟩
    rw [hs.out]
    go_wp2
    go_ret
    exact ⟨rfl, Below.trans (by (repeat' (first | exact Below.refl _ _ | assumption | refine Below.drew ?_ | refine Below.alloc ?_ (by first | omega | exact Below.size (by assumption) | (simp; done) | (simp; omega)) _ | refine Below.setCell ?_ (by first | omega | exact Below.size (by assumption) | (simp; done) | (simp; omega)) _))) (hb1.mono (by simp))⟩
  have hs := hide (show szR 1048576 n = 1048576 - n by unfold szR; rw [if_neg hbig])
  have hn1 : n ≤ 1048576 := by omega
  clear hbig
  go_enter Tryd.func3, Tryd.ntmps3
  go_wp2_with fail
  go_at_call 5
  refine (szHeap_any _ _ _ _ _ _ _ _ hn (by omega) (by omega)).mono ?_
  rintro _ w1 ⟨rfl, hb1⟩
  rw [hs.out]
  have hd : decide ((1048576 : Int) - n < 0) = false := by simp; omega
  have a0 := (hb1.cell (p := ⟨w.heap.size, 0, none⟩) (by simp)).trans (show _ = some (Value.int .i64 id) by go_simp)
  have a1 := (hb1.cell (p := ⟨w.heap.size, 1, none⟩) (by simp)).trans (show _ = some (Value.int .i64 g) by go_simp)
  have a2 := (hb1.cell (p := ⟨w.heap.size, 2, none⟩) (by simp)).trans (show _ = some (Value.slice B n c) by go_simp)
  have a3 := (hb1.cell (p := ⟨w.heap.size, 3, none⟩) (by simp)).trans (show _ = some (Value.bool cov) by go_simp)
  have hz : w.heap.size < w1.heap.size := by have := hb1.size; simp at this; omega
  have hbA : Below w.heap.size w w1 := Below.trans (by (repeat' (first | exact Below.refl _ _ | assumption | refine Below.drew ?_ | refine Below.alloc ?_ (by first | omega | exact Below.size (by assumption) | (simp; done) | (simp; omega)) _ | refine Below.setCell ?_ (by first | omega | exact Below.size (by assumption) | (simp; done) | (simp; omega)) _))) (hb1.mono (by simp))
  replace h := Rd.below h hbA
  clear hb1
  go_wp2_with fail
  go_at_call 7
  refine (toHeap_any _ _ _ _ _ _ _ _ hn1 h).mono ?_
  rintro _ w2 ⟨rfl, o2, s2, hb2⟩
  replace a0 := (Below.cell hb2 (p := ⟨w.heap.size, 0, none⟩) hz).trans a0
  replace a1 := (Below.cell hb2 (p := ⟨w.heap.size, 1, none⟩) hz).trans a1
  replace a2 := (Below.cell hb2 (p := ⟨w.heap.size, 2, none⟩) hz).trans a2
  replace a3 := (Below.cell hb2 (p := ⟨w.heap.size, 3, none⟩) hz).trans a3
  replace hz := Nat.lt_of_lt_of_le hz (Below.size hb2)
  replace hbA := gr hbA hb2
  replace h := Rd.below h hb2
  clear hb2
  have h2 := Sl.rd o2.sl (by omega)
  clear o2
  go_wp2_with fail
  go_at_call 6
  refine (spec_HeapText_any _ _ _ _ _ _ _ _ (by omega) h2).mono ?_
  rintro _ w3 ⟨rfl, hb3⟩
  clear h2 s2
  replace a0 := (Below.cell hb3 (p := ⟨w.heap.size, 0, none⟩) hz).trans a0
  replace a1 := (Below.cell hb3 (p := ⟨w.heap.size, 1, none⟩) hz).trans a1
  replace a2 := (Below.cell hb3 (p := ⟨w.heap.size, 2, none⟩) hz).trans a2
  replace a3 := (Below.cell hb3 (p := ⟨w.heap.size, 3, none⟩) hz).trans a3
  replace hz := Nat.lt_of_lt_of_le hz (Below.size hb3)
  replace hbA := gr hbA hb3
  replace h := Rd.below h hb3
  clear hb3
  go_wp2_with fail
  go_at_call 7
  refine (toHeap_any _ _ _ _ _ _ _ _ hn1 h).mono ?_
  rintro _ w4 ⟨rfl, o4, s4, hb4⟩
  replace a0 := (Below.cell hb4 (p := ⟨w.heap.size, 0, none⟩) hz).trans a0
  replace a1 := (Below.cell hb4 (p := ⟨w.heap.size, 1, none⟩) hz).trans a1
  replace a2 := (Below.cell hb4 (p := ⟨w.heap.size, 2, none⟩) hz).trans a2
  replace a3 := (Below.cell hb4 (p := ⟨w.heap.size, 3, none⟩) hz).trans a3
  replace hz := Nat.lt_of_lt_of_le hz (Below.size hb4)
  replace hbA := gr hbA hb4
  replace h := Rd.below h hb4
  clear hb4
  have h4 := Sl.rd o4.sl (by omega)
  clear o4
  go_wp2_with fail
  have hb5 : Below w4.heap.size w4 (w4.alloc (.cells #[.int .i64 id, .int .i64 g, .slice (some ⟨w3.heap.size + 3, 0, none⟩) n n, .bool cov] 28)) := (Below.refl _ _).alloc (Nat.le_refl _) _
  have x0 : World.cell? (w4.alloc (.cells #[.int .i64 id, .int .i64 g, .slice (some ⟨w3.heap.size + 3, 0, none⟩) n n, .bool cov] 28)) ⟨w4.heap.size, 0, none⟩ = some (.int .i64 id) := by rw [World.cell?_alloc_new]; rfl
  have x1 : World.cell? (w4.alloc (.cells #[.int .i64 id, .int .i64 g, .slice (some ⟨w3.heap.size + 3, 0, none⟩) n n, .bool cov] 28)) ⟨w4.heap.size, 1, none⟩ = some (.int .i64 g) := by rw [World.cell?_alloc_new]; rfl
  have x2 : World.cell? (w4.alloc (.cells #[.int .i64 id, .int .i64 g, .slice (some ⟨w3.heap.size + 3, 0, none⟩) n n, .bool cov] 28)) ⟨w4.heap.size, 2, none⟩ = some (.slice (some ⟨w3.heap.size + 3, 0, none⟩) n n) := by rw [World.cell?_alloc_new]; rfl
  have x3 : World.cell? (w4.alloc (.cells #[.int .i64 id, .int .i64 g, .slice (some ⟨w3.heap.size + 3, 0, none⟩) n n, .bool cov] 28)) ⟨w4.heap.size, 3, none⟩ = some (.bool cov) := by rw [World.cell?_alloc_new]; rfl
  have hz4 : w4.heap.size < (w4.alloc (.cells #[.int .i64 id, .int .i64 g, .slice (some ⟨w3.heap.size + 3, 0, none⟩) n n, .bool cov] 28)).heap.size := by simp
  generalize w4.alloc (.cells #[.int .i64 id, .int .i64 g, .slice (some ⟨w3.heap.size + 3, 0, none⟩) n n, .bool cov] 28) = w5 at hb5 x0 x1 x2 x3 hz4 ⊢
  clear s4
  replace h4 := Rd.below h4 hb5
  replace a0 := (Below.cell hb5 (p := ⟨w.heap.size, 0, none⟩) hz).trans a0
  replace a1 := (Below.cell hb5 (p := ⟨w.heap.size, 1, none⟩) hz).trans a1
  replace a2 := (Below.cell hb5 (p := ⟨w.heap.size, 2, none⟩) hz).trans a2
  replace a3 := (Below.cell hb5 (p := ⟨w.heap.size, 3, none⟩) hz).trans a3
  replace hz := Nat.lt_of_lt_of_le hz (Below.size hb5)
  replace hbA := gr hbA hb5
  replace h := Rd.below h hb5
  clear hb5
  go_wp2_with fail
  go_at_call 8
  refine (HeapText_any _ _ _ _ _ w.heap.size _ _ _ (by omega) hbA.size (HT.out.on hbA) h4).mono ?_
  rintro _ w6 ⟨rfl, hb6⟩
  replace h4 := Rd.below h4 hb6
  replace x0 := (hb6.cell (p := ⟨w4.heap.size, 0, none⟩) hz4).trans x0
  replace x1 := (hb6.cell (p := ⟨w4.heap.size, 1, none⟩) hz4).trans x1
  replace x2 := (hb6.cell (p := ⟨w4.heap.size, 2, none⟩) hz4).trans x2
  replace x3 := (hb6.cell (p := ⟨w4.heap.size, 3, none⟩) hz4).trans x3
  replace hz4 := Nat.lt_of_lt_of_le hz4 hb6.size
  replace a0 := (Below.cell hb6 (p := ⟨w.heap.size, 0, none⟩) hz).trans a0
  replace a1 := (Below.cell hb6 (p := ⟨w.heap.size, 1, none⟩) hz).trans a1
  replace a2 := (Below.cell hb6 (p := ⟨w.heap.size, 2, none⟩) hz).trans a2
  replace a3 := (Below.cell hb6 (p := ⟨w.heap.size, 3, none⟩) hz).trans a3
  replace hz := Nat.lt_of_lt_of_le hz (Below.size hb6)
  replace hbA := gr hbA hb6
  replace h := Rd.below h hb6
  clear hb6
  go_wp2
  have d0 : ∀ w', Below w6.heap.size w6 w' → w'.cell? ⟨w.heap.size, 0, none⟩ = some (.int .i64 id) := fun w' hb => (hb.cell (by exact hz)).trans a0
  have d1 : ∀ w', Below w6.heap.size w6 w' → w'.cell? ⟨w.heap.size, 1, none⟩ = some (.int .i64 g) := fun w' hb => (hb.cell (by exact hz)).trans a1
  have d2 : ∀ w', Below w6.heap.size w6 w' → w'.cell? ⟨w.heap.size, 2, none⟩ = some (.slice B n c) := fun w' hb => (hb.cell (by exact hz)).trans a2
  have d3 : ∀ w', Below w6.heap.size w6 w' → w'.cell? ⟨w.heap.size, 3, none⟩ = some (.bool cov) := fun w' hb => (hb.cell (by exact hz)).trans a3
  have y0 : ∀ w', Below w6.heap.size w6 w' → w'.cell? ⟨w4.heap.size, 0, none⟩ = some (.int .i64 id) := fun w' hb => (hb.cell (by exact hz4)).trans x0
  have y1 : ∀ w', Below w6.heap.size w6 w' → w'.cell? ⟨w4.heap.size, 1, none⟩ = some (.int .i64 g) := fun w' hb => (hb.cell (by exact hz4)).trans x1
  have y2 : ∀ w', Below w6.heap.size w6 w' → w'.cell? ⟨w4.heap.size, 2, none⟩ = some (.slice (some ⟨w3.heap.size + 3, 0, none⟩) n n) := fun w' hb => (hb.cell (by exact hz4)).trans x2
  have y3 : ∀ w', Below w6.heap.size w6 w' → w'.cell? ⟨w4.heap.size, 3, none⟩ = some (.bool cov) := fun w' hb => (hb.cell (by exact hz4)).trans x3
  clear a0 a1 a2 a3 x0 x1 x2 x3
  go_region_held3 (fun w' => Below w6.heap.size w6 w') ((repeat' (first | exact Below.refl _ _ | assumption | refine Below.drew ?_ | refine Below.alloc ?_ (by first | omega | exact Below.size (by assumption) | (simp; done) | (simp; omega)) _ | refine Below.setCell ?_ (by first | omega | exact Below.size (by assumption) | (simp; done) | (simp; omega)) _))) (first | (go_at_call 7; refine (toHeap_any _ _ _ _ _ _ _ _ hn1 (Rd.below h (by assumption))).mono ?_; rintro _ v1 ⟨rfl, o1, s1, hb1⟩; have B1 := gr (by assumption : Below w6.heap.size w6 _) hb1; have h1 := Sl.rd o1.sl (by omega); clear o1) | (go_at_call 9; refine (eqHeap_yes _ _ _ _ _ _ _ _ _ _ hn1 (Rd.below h4 (by assumption)) (by assumption)).mono ?_; rintro _ v2 ⟨rfl, hb2⟩; have B2 := gr (by assumption : Below w6.heap.size w6 _) hb2))
  go_wp2
  go_ret
  exact ⟨rfl, gr hbA B2⟩

namespace fnExactHeapText
set_option maxRecDepth 100000 in
theorem lifted (os : Os) (started : os.Started) (H : Type) (enc : TypeId × Value → H) :
    ReturnsInHanded {} Tryd.checked os 3 .any (fun w args => (Rows.fnExactHeapTextSpec.pre enc Tryd.prog Tryd.f3 Rows.fnExactHeapTextRow.domain false w args ∧ laidMetH Tryd.prog [("math/bits.deBruijn32tab", Rows.laid_math_bits_deBruijn32tab), ("math/bits.deBruijn64tab", Rows.laid_math_bits_deBruijn64tab), ("internal/strconv.uint64pow10", Rows.laid_internal_strconv_uint64pow10)] w) ∧ sizedMet enc Tryd.prog Tryd.f3 (OpenSpec.ofChange Rows.fnExactHeapTextSpec) false w args) (Rows.fnExactHeapTextSpec.post enc Tryd.prog Tryd.f3 false true false false) := by
  refine returnsInHanded_of_change_and (C := Tryd.checked) (X := fun w _ => laidMetH Tryd.prog [("math/bits.deBruijn32tab", Rows.laid_math_bits_deBruijn32tab), ("math/bits.deBruijn64tab", Rows.laid_math_bits_deBruijn64tab), ("internal/strconv.uint64pow10", Rows.laid_internal_strconv_uint64pow10)] w) (fun _ _ _ hh h => h.of_heap hh) own started (by kernel_rfl) Tryd.func3
    (ChangeSpec.witness_shaped (enc := enc) (C := Tryd.checked) (os := os) (X := fun w _ => laidMetH Tryd.prog [("math/bits.deBruijn32tab", Rows.laid_math_bits_deBruijn32tab), ("math/bits.deBruijn64tab", Rows.laid_math_bits_deBruijn64tab), ("internal/strconv.uint64pow10", Rows.laid_internal_strconv_uint64pow10)] w) false (World.laidAll Tryd.prog os [("math/bits.deBruijn32tab", Rows.laid_math_bits_deBruijn32tab), ("math/bits.deBruijn64tab", Rows.laid_math_bits_deBruijn64tab), ("internal/strconv.uint64pow10", Rows.laid_internal_strconv_uint64pow10)]) #[.agg #[.int .i64 0, .int .i64 0, .slice none 0 0, .bool false]] 8 (World.laidAll_os _ _ _)
      (World.shaped_of_ZipB (by kernel_rfl) (by kernel_rfl)) (by kernel_rfl) (by kernel_rfl) (by kernel_rfl)
      (by rw [MakeChecks.laidMetH_plain _ _ _ (by kernel_rfl)]; exact laidMet_laidAll _ (by kernel_rfl) (by kernel_rfl))) ?_
  intro W base args ds gs before hval0 hW _ _ hX _
  have hval : ∀ (j : Nat) t v, Tryd.f3.params[j]? = some t → args[j]? = some v → Value.okWide Tryd.prog W .any base t v := hval0
  have hW' := hW
  obtain ⟨p, q, hA0, hV, rfl, hfz, hnd⟩ := hW
  have hA : DataW.TrodAll enc Tryd.prog W 0 (fun _ => true) true Tryd.f3.params.toList args.toList ds p := hA0
  rw [Tryd.params3] at hA hval
  obtain ⟨v0, vs0, d0, ds0, p0, q0, hargs, rfl, rfl, h0, r0⟩ := trodAll_cons hA
  obtain ⟨rfl, rfl, rfl⟩ := trodAll_nil r0
  obtain rfl : args = #[v0] := by cases args; simp_all
  obtain ⟨rfl, rfl⟩ := trodVars_none hV
  have k0 := h0
  have lt0 : ∀ x ∈ p0, x.block < W.heap.size := by obtain ⟨m, hm⟩ := k0; exact DataW.trod_lt m _ _ _ hm
  obtain ⟨D0, B0, c0, rfl, w0, hl0⟩ : ∃ (h : HeapD) (B : Option Addr) (c : Nat), v0 = .agg #[.int .i64 h.id, .int .i64 h.gr, .slice B h.n c, .bool h.cov] ∧ Rd W B h.n 1 (ints h.L) ∧ h.n ≤ maxLen := by
    obtain ⟨c0, c1, c2, c3, y0, y1, y2, y3, m, rfl, -, -, hy0, hy1, hy2, hy3⟩ := Joins.open_agg4 Tryd.underlying24 (by kernel_rfl) (by kernel_rfl) (hval 0 24 v0 rfl rfl) h0
    obtain ⟨x, e0, -, -⟩ := DataW.trod_int Tryd.underlying3 hy0
    obtain ⟨y, e1, -, -⟩ := DataW.trod_int Tryd.underlying3 hy1
    obtain ⟨B, m, c, L, e2, hB, hm⟩ := ints_of_slice Tryd.underlying22 Tryd.underlying3 (by kernel_rfl) hy2
    obtain ⟨b, e3, -⟩ := DataW.trod_bool Tryd.underlying4 hy3
    simp at e0 e1 e2 e3
    exact ⟨⟨x, y, m, L, b⟩, B, c, by rw [e0, e1, e2, e3], hB, hm⟩
  clear hA0 hval0
  refine (law_HeapText (hT := Lib.tabBelow_of_tabIs (tab_of_laid hX)) D0 B0 c0 W hl0 w0).mono fun e W' ⟨he, bel⟩ => ?_
  subst he
  exact ⟨_, rfl, _, _, _, [], _, [], hW', trodAll_mk1 (shut_bool Tryd.underlying4 _), (trodAll_cons_mk (Below.trod laidOut (by kernel_rfl) (of_decide_eq_true (by kernel_rfl)) k0 bel lt0) trodAll_mk0), rfl, bel.frame _, fun h => by cases h⟩

theorem over : Rows.fnExactHeapTextRow.holds Tryd.pinned (OpenSpec.ofChange Rows.fnExactHeapTextSpec) :=
  OpenClaim.holds_of_wide 3 Tryd.f3 rfl rfl rfl rfl rfl rfl rfl ⟨rfl, rfl, rfl, rfl, rfl⟩ rfl rfl rfl rfl rfl (by kernel_rfl) Tryd.func3 (by kernel_rfl)
    (of_decide_eq_true (by kernel_rfl)) (by unfold Func.isWrapper; first | (rw [if_pos (by decide +kernel)]; kernel_rfl) | (rw [if_neg (by decide +kernel)]; exact ⟨rfl, rfl⟩))
    (fun os started H enc _ => lifted os started H enc)

theorem proved : Rows.FnExactHeapTextCardSaid :=
  Claim7.holds_tied_plain_at .later [] [.data, .data, .data] true (true, "12dd67f498114c09805f877693a740307cebe0ac99399d4ed4e3561014d30b32") false over (fun _ h => by cases h) (by kernel_rfl) (fun _ h => by cases h) fnExactHeapText_row_tie rfl ⟨rfl, rfl⟩ (by kernel_rfl) rfl
    (fun f fn hf hfn => by
      obtain rfl : f = 3 := Option.some.inj ((show Tryd.prog.funcNamed "loop.example/g01019/laws.FnExactHeapText" = some 3 by kernel_rfl).symm.trans hf) |>.symm
      obtain rfl : fn = Tryd.f3 := (Option.some.inj (Tryd.func3.symm.trans hfn)).symm
      exact ⟨by kernel_rfl, fun j t ht => by
        rw [Tryd.params3] at ht
        have hm : t ∈ [24] := by simpa using Array.mem_of_getElem? ht
        have hall : ([24].all fun u => !Tryd.prog.wantsStandIn u) = true := by kernel_rfl
        exact (show Tryd.prog.wantsStandIn t = false by simpa using List.all_eq_true.1 hall t hm)⟩)
    (by kernel_rfl)
end fnExactHeapText
#print axioms fnExactHeapText.proved
end Go.Proofs.YtbmlglkdlialgaaDoor
