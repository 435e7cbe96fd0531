/-
  Contracts: the arguments that are drawn for laws on suns. Conditions: codes of bytes.
-/
import Derived.Test.YtajmebclmippeaaDrS
import Derived.Test.YtajmebclmippeaaDrB
namespace Go.Proofs.Ytajmebclmippeaa
open Go.RowKit

/-- What a draw of a list, a brine and two numbers leaves. -/
def DrawLB2 (w : World) (N : Nat) (e : Ending) (w' : World) : Prop :=
  ∃ A n c F x y a d, e = .returned (.tuple #[.slice A n c, .agg #[.int .i64 x, .int .i64 y], .int .i64 a, .int .i64 d]) ∧ n ≤ N ∧ Ow w' w.heap.size w'.heap.size A n 2 (ints F) ∧ 0 ≤ a ∧ a ≤ 100001 ∧ Below w.heap.size w w'
def DrawLB3 (w : World) (N : Nat) (e : Ending) (w' : World) : Prop :=
  ∃ A n c F x y a d f, e = .returned (.tuple #[.slice A n c, .agg #[.int .i64 x, .int .i64 y], .int .i64 a, .int .i64 d, .int .i64 f]) ∧ n ≤ N ∧ Ow w' w.heap.size w'.heap.size A n 2 (ints F) ∧ Below w.heap.size w w'
set_option maxRecDepth 20000 in
set_option maxHeartbeats 2000000 in
theorem DrawAfterSun_any (A : Option Addr) (n c : Nat) (B : Nat → Int) (w : World) (h : CodeR w A n B) :
    Calls Try.prog 24 #[.slice A n c] w (DrawLB3 w 22) := by
  go_enter Try.func24, Try.ntmps24
  go_upto_region 1 with fail
  have hX := Box2.new w 32 (.int .i64 0) (.int .i64 0)
  have hcd := h.below (w' := w.alloc (.cells #[.int .i64 0, .int .i64 0] 32)) ((Below.refl _ _).alloc (Nat.le_refl _) _)
  have hs1 : (w.alloc (.cells #[.int .i64 0, .int .i64 0] 32)).heap.size = w.heap.size + 1 := by simp
  have hbA : Below w.heap.size w (w.alloc (.cells #[.int .i64 0, .int .i64 0] 32)) := (Below.refl _ _).alloc (Nat.le_refl _) _
  generalize w.alloc (.cells #[.int .i64 0, .int .i64 0] 32) = W1 at hX hcd hs1 hbA ⊢
  go_upto_region 2 with fail
  have hC := Cur.new hcd c 70
  replace hX := hX.alloc (.cells #[.slice A n c, .int .i64 0, .int .u64 0] 70)
  replace hbA := hbA.alloc (show _ ≤ _ by omega) (.cells #[.slice A n c, .int .i64 0, .int .u64 0] 70)
  rw [hs1] at hC
  generalize W1.alloc (.cells #[.slice A n c, .int .i64 0, .int .u64 0] 70) = W2 at hX hbA hC ⊢
  clear hcd
  have hD := DrS.start hC
  have hcu := hC.lt
  clear hC hs1
  go_wp2_with fail
  go_at_call 69
  refine (span6_any _ _ _ (by omega) hD.cur).mono ?_
  rintro _ w3 ⟨f, t, rfl, -, -, -, -, hDx⟩
  replace hX := hX.tch hDx.tch (by omega)
  replace hD := hD.trans hDx
  clear hDx
  go_wp2_with fail
  go_at_call 54
  refine (suns_any _ _ _ (by omega) hD.cur).mono ?_
  rintro _ w4 ⟨A5, n5, c5, F5, rfl, hn5, hO, hDx⟩
  have hsO := hD.size
  replace hX := hX.tch hDx.tch (by omega)
  replace hD := hD.trans hDx
  clear hDx
  go_wp2_with fail
  go_at_call 58
  refine (brine_any _ _ _ (by omega) hD.cur).mono ?_
  rintro _ w5 ⟨x, y, rfl, -, -, -, -, hDx⟩
  replace hX := hX.tch hDx.tch (by omega)
  have hzb := hDx.size
  replace hO := hO.tch hDx.tch (by omega) (by omega)
  replace hD := hD.trans hDx
  clear hDx
  go_wp2_with fail
  go_at_call 59
  refine (area_any _ _ _ (by omega) hD.cur).mono ?_
  rintro _ w6 ⟨a, rfl, a0, a1, hc, ht⟩
  replace hX := hX.tch ht (by omega)
  have hza := ht.size
  replace hO := hO.tch ht (by omega) (by omega)
  replace hD := hD.draw hc ht
  clear hc ht
  have hz := hD.size
  have hbE := ((hbA.trans (hD.tch.below (by omega) (by omega))).setCell (p := ⟨w.heap.size, 0, none⟩) (Nat.le_refl _) (.int .i64 x)).setCell (p := ⟨w.heap.size, 1, none⟩) (Nat.le_refl _) (.int .i64 y)
  replace hO : Ow ((w6.setCell ⟨w.heap.size, 0, none⟩ (.int .i64 x)).setCell ⟨w.heap.size, 1, none⟩ (.int .i64 y)) w.heap.size ((w6.setCell ⟨w.heap.size, 0, none⟩ (.int .i64 x)).setCell ⟨w.heap.size, 1, none⟩ (.int .i64 y)).heap.size A5 n5 2 (ints F5) :=
    (hO.agr fun k h1 h2 => (Below.heap_setCell _ _ _ _ (by show k ≠ w.heap.size; omega)).trans (Below.heap_setCell _ _ _ _ (by show k ≠ w.heap.size; omega))).mono (by omega) (by simp; omega)
  obtain ⟨x0, x1, x2, x3, x4⟩ := hX
  clear hD hbA
  go_wp2
  refine bodyPost_ret (v := .tuple #[.slice A5 n5 c5, .agg #[.int .i64 x, .int .i64 y], .int .i64 a, .int .i64 f, .int .i64 t]) (by simp only [results, Try.results24]; go_simp) rfl ⟨A5, n5, c5, F5, x, y, a, f, t, rfl, hn5, hO, hbE⟩
set_option maxRecDepth 20000 in
set_option maxHeartbeats 2000000 in
theorem DrawStrongOn_any (A : Option Addr) (n c : Nat) (B : Nat → Int) (w : World) (h : CodeR w A n B) :
    Calls Try.prog 29 #[.slice A n c] w (DrawLB3 w 22) := by
  go_enter Try.func29, Try.ntmps29
  go_upto_region 1 with fail
  have hX := Box2.new w 32 (.int .i64 0) (.int .i64 0)
  have hcd := h.below (w' := w.alloc (.cells #[.int .i64 0, .int .i64 0] 32)) ((Below.refl _ _).alloc (Nat.le_refl _) _)
  have hs1 : (w.alloc (.cells #[.int .i64 0, .int .i64 0] 32)).heap.size = w.heap.size + 1 := by simp
  have hbA : Below w.heap.size w (w.alloc (.cells #[.int .i64 0, .int .i64 0] 32)) := (Below.refl _ _).alloc (Nat.le_refl _) _
  generalize w.alloc (.cells #[.int .i64 0, .int .i64 0] 32) = W1 at hX hcd hs1 hbA ⊢
  go_upto_region 2 with fail
  have hC := Cur.new hcd c 70
  replace hX := hX.alloc (.cells #[.slice A n c, .int .i64 0, .int .u64 0] 70)
  replace hbA := hbA.alloc (show _ ≤ _ by omega) (.cells #[.slice A n c, .int .i64 0, .int .u64 0] 70)
  rw [hs1] at hC
  generalize W1.alloc (.cells #[.slice A n c, .int .i64 0, .int .u64 0] 70) = W2 at hX hbA hC ⊢
  clear hcd
  have hD := DrS.start hC
  have hcu := hC.lt
  clear hC hs1
  go_wp2_with fail
  go_at_call 73
  refine (rate2_any _ _ _ (by omega) hD.cur).mono ?_
  rintro _ w3 ⟨f, t, rfl, -, -, -, -, hDx⟩
  replace hX := hX.tch hDx.tch (by omega)
  replace hD := hD.trans hDx
  clear hDx
  go_wp2_with fail
  go_at_call 54
  refine (suns_any _ _ _ (by omega) hD.cur).mono ?_
  rintro _ w4 ⟨A5, n5, c5, F5, rfl, hn5, hO, hDx⟩
  have hsO := hD.size
  replace hX := hX.tch hDx.tch (by omega)
  replace hD := hD.trans hDx
  clear hDx
  go_wp2_with fail
  go_at_call 58
  refine (brine_any _ _ _ (by omega) hD.cur).mono ?_
  rintro _ w5 ⟨x, y, rfl, -, -, -, -, hDx⟩
  replace hX := hX.tch hDx.tch (by omega)
  have hzb := hDx.size
  replace hO := hO.tch hDx.tch (by omega) (by omega)
  replace hD := hD.trans hDx
  clear hDx
  go_wp2_with fail
  go_at_call 59
  refine (area_any _ _ _ (by omega) hD.cur).mono ?_
  rintro _ w6 ⟨a, rfl, a0, a1, hc, ht⟩
  replace hX := hX.tch ht (by omega)
  have hza := ht.size
  replace hO := hO.tch ht (by omega) (by omega)
  replace hD := hD.draw hc ht
  clear hc ht
  have hz := hD.size
  have hbE := ((hbA.trans (hD.tch.below (by omega) (by omega))).setCell (p := ⟨w.heap.size, 0, none⟩) (Nat.le_refl _) (.int .i64 x)).setCell (p := ⟨w.heap.size, 1, none⟩) (Nat.le_refl _) (.int .i64 y)
  replace hO : Ow ((w6.setCell ⟨w.heap.size, 0, none⟩ (.int .i64 x)).setCell ⟨w.heap.size, 1, none⟩ (.int .i64 y)) w.heap.size ((w6.setCell ⟨w.heap.size, 0, none⟩ (.int .i64 x)).setCell ⟨w.heap.size, 1, none⟩ (.int .i64 y)).heap.size A5 n5 2 (ints F5) :=
    (hO.agr fun k h1 h2 => (Below.heap_setCell _ _ _ _ (by show k ≠ w.heap.size; omega)).trans (Below.heap_setCell _ _ _ _ (by show k ≠ w.heap.size; omega))).mono (by omega) (by simp; omega)
  obtain ⟨x0, x1, x2, x3, x4⟩ := hX
  clear hD hbA
  go_wp2
  refine bodyPost_ret (v := .tuple #[.slice A5 n5 c5, .agg #[.int .i64 x, .int .i64 y], .int .i64 a, .int .i64 f, .int .i64 t]) (by simp only [results, Try.results29]; go_simp) rfl ⟨A5, n5, c5, F5, x, y, a, f, t, rfl, hn5, hO, hbE⟩
set_option maxRecDepth 20000 in
set_option maxHeartbeats 2000000 in
theorem DrawLossOn_any (A : Option Addr) (n c : Nat) (B : Nat → Int) (w : World) (h : CodeR w A n B) :
    Calls Try.prog 20 #[.slice A n c] w (DrawLB2 w 22) := by
  go_enter Try.func20, Try.ntmps20
  go_upto_region 1 with fail
  have hX := Box2.new w 32 (.int .i64 0) (.int .i64 0)
  have hcd := h.below (w' := w.alloc (.cells #[.int .i64 0, .int .i64 0] 32)) ((Below.refl _ _).alloc (Nat.le_refl _) _)
  have hs1 : (w.alloc (.cells #[.int .i64 0, .int .i64 0] 32)).heap.size = w.heap.size + 1 := by simp
  have hbA : Below w.heap.size w (w.alloc (.cells #[.int .i64 0, .int .i64 0] 32)) := (Below.refl _ _).alloc (Nat.le_refl _) _
  generalize w.alloc (.cells #[.int .i64 0, .int .i64 0] 32) = W1 at hX hcd hs1 hbA ⊢
  go_upto_region 2 with fail
  have hC := Cur.new hcd c 70
  replace hX := hX.alloc (.cells #[.slice A n c, .int .i64 0, .int .u64 0] 70)
  replace hbA := hbA.alloc (show _ ≤ _ by omega) (.cells #[.slice A n c, .int .i64 0, .int .u64 0] 70)
  rw [hs1] at hC
  generalize W1.alloc (.cells #[.slice A n c, .int .i64 0, .int .u64 0] 70) = W2 at hX hbA hC ⊢
  clear hcd
  have hD := DrS.start hC
  have hcu := hC.lt
  clear hC hs1
  go_wp2_with fail
  go_at_call 54
  refine (suns_any _ _ _ (by omega) hD.cur).mono ?_
  rintro _ w3 ⟨A5, n5, c5, F5, rfl, hn5, hO, hDx⟩
  have hsO := hD.size
  replace hX := hX.tch hDx.tch (by omega)
  replace hD := hD.trans hDx
  clear hDx
  go_wp2_with fail
  go_at_call 55
  refine (among_any _ _ _ _ _ 0 4001 _ (by omega) (by decide) (by decide) (Nat.ne_of_gt hD.cur.lt) (Lits.new _ _ _ (by rfl) (by decide)) (hD.cur.alloc _)).mono ?_
  rintro _ w4 ⟨d0, rfl, -, -, hc, ht⟩
  replace hX := (hX.alloc _).tch ht (by omega)
  have hz4 := ht.size
  simp at hz4
  replace hO := (hO.alloc (Nat.le_refl _) _).tch ht (by simp) (by omega)
  replace hD := (hD.alloc _).draw hc ht
  clear hc ht
  by_cases hn0 : 0 < n5
  rotate_left
  · have hn0' : n5 = 0 := by omega
    subst hn0'
    go_wp2_with fail
    go_at_call 58
    refine (brine_any _ _ _ (by omega) hD.cur).mono ?_
    rintro _ w5 ⟨x, y, rfl, -, -, -, -, hDx⟩
    replace hX := hX.tch hDx.tch (by omega)
    have hzb := hDx.size
    replace hO := hO.tch hDx.tch (by omega) (by omega)
    replace hD := hD.trans hDx
    clear hDx
    go_wp2_with fail
    go_at_call 59
    refine (area_any _ _ _ (by omega) hD.cur).mono ?_
    rintro _ w6 ⟨a, rfl, a0, a1, hc, ht⟩
    replace hX := hX.tch ht (by omega)
    have hza := ht.size
    replace hO := hO.tch ht (by omega) (by omega)
    replace hD := hD.draw hc ht
    clear hc ht
    have hz := hD.size
    have hbE := ((hbA.trans (hD.tch.below (by omega) (by omega))).setCell (p := ⟨w.heap.size, 0, none⟩) (Nat.le_refl _) (.int .i64 x)).setCell (p := ⟨w.heap.size, 1, none⟩) (Nat.le_refl _) (.int .i64 y)
    replace hO : Ow ((w6.setCell ⟨w.heap.size, 0, none⟩ (.int .i64 x)).setCell ⟨w.heap.size, 1, none⟩ (.int .i64 y)) w.heap.size ((w6.setCell ⟨w.heap.size, 0, none⟩ (.int .i64 x)).setCell ⟨w.heap.size, 1, none⟩ (.int .i64 y)).heap.size A5 0 2 (ints F5) :=
      (hO.agr fun k h1 h2 => (Below.heap_setCell _ _ _ _ (by show k ≠ w.heap.size; omega)).trans (Below.heap_setCell _ _ _ _ (by show k ≠ w.heap.size; omega))).mono (by omega) (by simp; omega)
    obtain ⟨x0, x1, x2, x3, x4⟩ := hX
    clear hD hbA
    go_wp2
    refine bodyPost_ret (v := .tuple #[.slice A5 0 c5, .agg #[.int .i64 x, .int .i64 y], .int .i64 a, .int .i64 d0]) (by simp only [results, Try.results20]; go_simp) rfl ⟨A5, 0, c5, F5, x, y, a, d0, rfl, hn5, hO, a0, a1, hbE⟩
  go_wp2_with fail
  go_at_call 56
  refine (one_any _ _ _ _ (by omega) (by decide) hD.cur).mono ?_
  rintro _ w7 ⟨bb, rfl, hc, ht⟩
  replace hX := hX.tch ht (by omega)
  have hz7 := ht.size
  replace hO := hO.tch ht (by omega) (by omega)
  replace hD := hD.draw hc ht
  clear hc ht
  cases bb
  · go_wp2_with fail
    go_at_call 57
    refine (pick_any _ _ _ _ (by omega) (by omega) hD.cur).mono ?_
    rintro _ w8 ⟨r, rfl, r0, r1, hc, ht⟩
    replace hX := hX.tch ht (by omega)
    have hz8 := ht.size
    replace hO := hO.tch ht (by omega) (by omega)
    replace hD := hD.draw hc ht
    clear hc ht
    have hr : r < n5 := by split at r1 <;> omega
    obtain ⟨i, rfl⟩ : ∃ i : Nat, r = i := ⟨r.toNat, by omega⟩
    have hin : i < n5 := by omega
    clear r1
    obtain ⟨b5, off5, rfl, l1, l2, hcell⟩ := hO.day hin (show 0 < 2 by omega)
    simp only [Nat.add_zero] at hcell
    go_upto_region 6 with fail
    clear hcell
    go_wp2_with fail
    go_at_call 58
    refine (brine_any _ _ _ (by omega) hD.cur).mono ?_
    rintro _ w5 ⟨x, y, rfl, -, -, -, -, hDx⟩
    replace hX := hX.tch hDx.tch (by omega)
    have hzb := hDx.size
    replace hO := hO.tch hDx.tch (by omega) (by omega)
    replace hD := hD.trans hDx
    clear hDx
    go_wp2_with fail
    go_at_call 59
    refine (area_any _ _ _ (by omega) hD.cur).mono ?_
    rintro _ w6 ⟨a, rfl, a0, a1, hc, ht⟩
    replace hX := hX.tch ht (by omega)
    have hza := ht.size
    replace hO := hO.tch ht (by omega) (by omega)
    replace hD := hD.draw hc ht
    clear hc ht
    have hz := hD.size
    have hbE := ((hbA.trans (hD.tch.below (by omega) (by omega))).setCell (p := ⟨w.heap.size, 0, none⟩) (Nat.le_refl _) (.int .i64 x)).setCell (p := ⟨w.heap.size, 1, none⟩) (Nat.le_refl _) (.int .i64 y)
    replace hO : Ow ((w6.setCell ⟨w.heap.size, 0, none⟩ (.int .i64 x)).setCell ⟨w.heap.size, 1, none⟩ (.int .i64 y)) w.heap.size ((w6.setCell ⟨w.heap.size, 0, none⟩ (.int .i64 x)).setCell ⟨w.heap.size, 1, none⟩ (.int .i64 y)).heap.size (some ⟨b5, off5, none⟩) n5 2 (ints F5) :=
      (hO.agr fun k h1 h2 => (Below.heap_setCell _ _ _ _ (by show k ≠ w.heap.size; omega)).trans (Below.heap_setCell _ _ _ _ (by show k ≠ w.heap.size; omega))).mono (by omega) (by simp; omega)
    obtain ⟨x0, x1, x2, x3, x4⟩ := hX
    clear hD hbA
    go_wp2
    refine bodyPost_ret (v := .tuple #[.slice (some ⟨b5, off5, none⟩) n5 c5, .agg #[.int .i64 x, .int .i64 y], .int .i64 a, .int .i64 (F5 i 0)]) (by simp only [results, Try.results20]; go_simp) rfl ⟨_, n5, c5, F5, x, y, a, F5 i 0, rfl, hn5, hO, a0, a1, hbE⟩
  · go_wp2_with fail
    go_at_call 58
    refine (brine_any _ _ _ (by omega) hD.cur).mono ?_
    rintro _ w5 ⟨x, y, rfl, -, -, -, -, hDx⟩
    replace hX := hX.tch hDx.tch (by omega)
    have hzb := hDx.size
    replace hO := hO.tch hDx.tch (by omega) (by omega)
    replace hD := hD.trans hDx
    clear hDx
    go_wp2_with fail
    go_at_call 59
    refine (area_any _ _ _ (by omega) hD.cur).mono ?_
    rintro _ w6 ⟨a, rfl, a0, a1, hc, ht⟩
    replace hX := hX.tch ht (by omega)
    have hza := ht.size
    replace hO := hO.tch ht (by omega) (by omega)
    replace hD := hD.draw hc ht
    clear hc ht
    have hz := hD.size
    have hbE := ((hbA.trans (hD.tch.below (by omega) (by omega))).setCell (p := ⟨w.heap.size, 0, none⟩) (Nat.le_refl _) (.int .i64 x)).setCell (p := ⟨w.heap.size, 1, none⟩) (Nat.le_refl _) (.int .i64 y)
    replace hO : Ow ((w6.setCell ⟨w.heap.size, 0, none⟩ (.int .i64 x)).setCell ⟨w.heap.size, 1, none⟩ (.int .i64 y)) w.heap.size ((w6.setCell ⟨w.heap.size, 0, none⟩ (.int .i64 x)).setCell ⟨w.heap.size, 1, none⟩ (.int .i64 y)).heap.size A5 n5 2 (ints F5) :=
      (hO.agr fun k h1 h2 => (Below.heap_setCell _ _ _ _ (by show k ≠ w.heap.size; omega)).trans (Below.heap_setCell _ _ _ _ (by show k ≠ w.heap.size; omega))).mono (by omega) (by simp; omega)
    obtain ⟨x0, x1, x2, x3, x4⟩ := hX
    clear hD hbA
    go_wp2
    refine bodyPost_ret (v := .tuple #[.slice A5 n5 c5, .agg #[.int .i64 x, .int .i64 y], .int .i64 a, .int .i64 d0]) (by simp only [results, Try.results20]; go_simp) rfl ⟨A5, n5, c5, F5, x, y, a, d0, rfl, hn5, hO, a0, a1, hbE⟩
set_option maxRecDepth 20000 in
set_option maxHeartbeats 4000000 in
theorem DrawSmallestArea_any (A : Option Addr) (n c : Nat) (B : Nat → Int) (w : World) (h : CodeR w A n B) :
    Calls Try.prog 26 #[.slice A n c] w (DrawLB3 w 22) := by
  go_enter Try.func26, Try.ntmps26
  go_upto_region 1 with fail
  have hX := Box2.new w 32 (.int .i64 0) (.int .i64 0)
  have hcd := h.below (w' := w.alloc (.cells #[.int .i64 0, .int .i64 0] 32)) ((Below.refl _ _).alloc (Nat.le_refl _) _)
  have hs1 : (w.alloc (.cells #[.int .i64 0, .int .i64 0] 32)).heap.size = w.heap.size + 1 := by simp
  have hbA : Below w.heap.size w (w.alloc (.cells #[.int .i64 0, .int .i64 0] 32)) := (Below.refl _ _).alloc (Nat.le_refl _) _
  generalize w.alloc (.cells #[.int .i64 0, .int .i64 0] 32) = W1 at hX hcd hs1 hbA ⊢
  go_upto_region 2 with fail
  have hC := Cur.new hcd c 70
  replace hX := hX.alloc (.cells #[.slice A n c, .int .i64 0, .int .u64 0] 70)
  replace hbA := hbA.alloc (show _ ≤ _ by omega) (.cells #[.slice A n c, .int .i64 0, .int .u64 0] 70)
  rw [hs1] at hC
  generalize W1.alloc (.cells #[.slice A n c, .int .i64 0, .int .u64 0] 70) = W2 at hX hbA hC ⊢
  clear hcd
  have hD := DrS.start hC
  have hcu := hC.lt
  clear hC hs1
  go_wp2_with fail
  go_at_call 69
  refine (span6_any _ _ _ (by omega) hD.cur).mono ?_
  rintro _ w3 ⟨f, t, rfl, -, -, -, -, hDx⟩
  replace hX := hX.tch hDx.tch (by omega)
  replace hD := hD.trans hDx
  clear hDx
  go_wp2_with fail
  go_at_call 58
  refine (brine_any _ _ _ (by omega) hD.cur).mono ?_
  rintro _ w4 ⟨x, y, rfl, x0, x1, -, -, hDx⟩
  replace hX := hX.tch hDx.tch (by omega)
  replace hD := hD.trans hDx
  clear hDx
  go_upto_region 4 with fail
  have hg4 : w.heap.size + 1 < w4.heap.size := by have := hD.size; omega
  have hY := Box2.new w4 32 (.int .i64 x) (.int .i64 y)
  replace hX := hX.alloc (.cells #[.int .i64 x, .int .i64 y] 32)
  replace hD := hD.alloc (.cells #[.int .i64 x, .int .i64 y] 32)
  generalize w4.alloc (.cells #[.int .i64 x, .int .i64 y] 32) = W at hX hY hD ⊢
  generalize w4.heap.size = gB at hY hg4 ⊢
  have hW1 : w.heap.size + 1 < W.heap.size := by have := hY.lt; omega
  have d0 := fun (w' : World) (ht : Tch w.heap.size (w.heap.size + 1 + 1) W w') => (ht.cell_ne (p := ⟨gB, 0, none⟩) hY.lt (by show ¬(w.heap.size ≤ gB ∧ gB < w.heap.size + 1 + 1); omega)).trans hY.c0
  have d1 := fun (w' : World) (ht : Tch w.heap.size (w.heap.size + 1 + 1) W w') => (ht.cell_ne (p := ⟨gB, 1, none⟩) hY.lt (by show ¬(w.heap.size ≤ gB ∧ gB < w.heap.size + 1 + 1); omega)).trans hY.c1
  have HL : ∀ W' v1, Below (W.alloc (.cells #[.int .i64 0, .int .i64 x, .int .i64 (IntKind.i64.wrap (x.tdiv 2)), .int .i64 (IntKind.i64.wrap (x - 1)), .int .i64 5, .int .i64 (-1)] 3)).heap.size (W.alloc (.cells #[.int .i64 0, .int .i64 x, .int .i64 (IntKind.i64.wrap (x.tdiv 2)), .int .i64 (IntKind.i64.wrap (x - 1)), .int .i64 5, .int .i64 (-1)] 3)) W' → Tch (w.heap.size + 1) (w.heap.size + 1 + 1) W' v1 → Lits0 v1 W.heap.size 6 := fun W' v1 hb ht => Lits0.tch (Lits0.below (Lits0.new W _ _ (by rfl) (by rfl)) hb) ht (by omega)
  go_region_held3 (fun w' => Tch w.heap.size (w.heap.size + 1 + 1) W w') ((repeat' (first | exact Tch.refl _ _ _ | assumption | refine Tch.drew ?_ | refine Tch.alloc ?_ _ | refine Tch.setCell ?_ (by first | exact Nat.le_refl _ | (simp; done) | (simp; omega)) (by first | (simp; done) | (simp; omega) | (show _ < _; omega)) _))) (first | (go_at_call 54; refine (suns_any _ _ _ (by omega) (Cur.below hD.cur (by (repeat' (first | exact Below.refl _ _ | assumption | refine Below.drew ?_ | refine Below.alloc ?_ (by first | omega | exact Below.size (by assumption) | (simp; done) | (simp; omega)) _ | refine Below.setCell ?_ (by first | omega | exact Below.size (by assumption) | (simp; done) | (simp; omega)) _))))).mono ?_; rintro _ v1 ⟨A5, n5, c5, F5, rfl, hn5, hO1, hDx⟩; have C1 := Tch.trans (by assumption : Tch w.heap.size (w.heap.size + 1 + 1) W _) (hDx.tch.widen (by omega) (by omega)); have X1 := (Box2.below hX (by (repeat' (first | exact Below.refl _ _ | assumption | refine Below.drew ?_ | refine Below.alloc ?_ (by first | omega | exact Below.size (by assumption) | (simp; done) | (simp; omega)) _ | refine Below.setCell ?_ (by first | omega | exact Below.size (by assumption) | (simp; done) | (simp; omega)) _)))).tch hDx.tch (by omega); have k1 : w.heap.size + 1 < v1.heap.size := hDx.cur.lt; have O1 : Ow v1 (w.heap.size + 1 + 1) v1.heap.size A5 n5 2 (ints F5) := hO1.mono (by first | omega | (simp; omega)) (Nat.le_refl _); (try (refine (fun (L1 : Lits0 v1 W.heap.size 6) => ?_) (HL _ v1 ?hb hDx.tch); (case hb => ((repeat' (first | exact Below.refl _ _ | assumption | refine Below.drew ?_ | refine Below.alloc ?_ (by first | omega | exact Below.size (by assumption) | (simp; done) | (simp; omega)) _ | refine Below.setCell ?_ (by first | omega | exact Below.size (by assumption) | (simp; done) | (simp; omega)) _)); done))))) | (go_at_call 55; refine (among0_any _ _ _ _ _ _ (by omega) (by decide) (by decide) (by first | omega | (simp; omega)) (by first | exact Lits0.below L1 (by (repeat' (first | exact Below.refl _ _ | assumption | refine Below.drew ?_ | refine Below.alloc ?_ (by first | omega | exact Below.size (by assumption) | (simp; done) | (simp; omega)) _ | refine Below.setCell ?_ (by first | omega | exact Below.size (by assumption) | (simp; done) | (simp; omega)) _))) | exact Lits0.new _ _ _ (by rfl) (by rfl)) (Cur.below hDx.cur (by (repeat' (first | exact Below.refl _ _ | assumption | refine Below.drew ?_ | refine Below.alloc ?_ (by first | omega | exact Below.size (by assumption) | (simp; done) | (simp; omega)) _ | refine Below.setCell ?_ (by first | omega | exact Below.size (by assumption) | (simp; done) | (simp; omega)) _))))).mono ?_; rintro _ v2 ⟨gl, rfl, hc2, ht2⟩; have C2 := Tch.trans (by assumption : Tch w.heap.size (w.heap.size + 1 + 1) W _) (ht2.widen (by omega) (by omega)); have X2 := (Box2.below X1 (by (repeat' (first | exact Below.refl _ _ | assumption | refine Below.drew ?_ | refine Below.alloc ?_ (by first | omega | exact Below.size (by assumption) | (simp; done) | (simp; omega)) _ | refine Below.setCell ?_ (by first | omega | exact Below.size (by assumption) | (simp; done) | (simp; omega)) _)))).tch ht2 (by omega); obtain ⟨z0, z1, z2, z3, z4⟩ := X2; have O2 : Ow v2 (w.heap.size + 1 + 1) v1.heap.size A5 n5 2 (ints F5) := (Ow.below O1 (by (repeat' (first | exact Below.refl _ _ | assumption | refine Below.drew ?_ | refine Below.alloc ?_ (by first | omega | exact Below.size (by assumption) | (simp; done) | (simp; omega)) _ | refine Below.setCell ?_ (by first | omega | exact Below.size (by assumption) | (simp; done) | (simp; omega)) _))) (Nat.le_refl _)).tch ht2 (by first | exact Nat.le_refl _ | (simp; done) | (simp; omega)) (by omega); have zz2 : v1.heap.size ≤ v2.heap.size := by have := ht2.size; first | exact this | (simp at this; omega)))
  all_goals
    have hbE := (((hbA.trans (hD.tch.below (by omega) (by omega))).trans (C2.below (Nat.le_refl _) (by omega))).setCell (p := ⟨w.heap.size, 0, none⟩) (Nat.le_refl _) (.int .i64 x)).setCell (p := ⟨w.heap.size, 1, none⟩) (Nat.le_refl _) (.int .i64 y)
    have hO : Ow ((v2.setCell ⟨w.heap.size, 0, none⟩ (.int .i64 x)).setCell ⟨w.heap.size, 1, none⟩ (.int .i64 y)) w.heap.size ((v2.setCell ⟨w.heap.size, 0, none⟩ (.int .i64 x)).setCell ⟨w.heap.size, 1, none⟩ (.int .i64 y)).heap.size A5 n5 2 (ints F5) :=
      (O2.agr fun k h1 h2 => (Below.heap_setCell _ _ _ _ (by show k ≠ w.heap.size; omega)).trans (Below.heap_setCell _ _ _ _ (by show k ≠ w.heap.size; omega))).mono (by omega) (by simp; omega)
    clear O1 O2 hO1 C1 C2 X1 hc2 ht2 hDx HL d0 d1 hX hY hD hbA
    go_wp2
    refine bodyPost_ret (v := .tuple #[.slice A5 n5 c5, .agg #[.int .i64 x, .int .i64 y], .int .i64 f, .int .i64 t, .int .i64 gl]) (by simp only [results, Try.results26]; go_simp) rfl ⟨A5, n5, c5, F5, x, y, f, t, gl, rfl, hn5, hO, hbE⟩
end Go.Proofs.Ytajmebclmippeaa
