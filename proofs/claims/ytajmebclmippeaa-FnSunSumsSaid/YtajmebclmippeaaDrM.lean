/-
  Contracts: the arguments that are drawn for the law on sums of suns. Conditions: codes of bytes.
-/
import Derived.Test.YtajmebclmippeaaDrSc
import Derived.Test.YtajmebclmippeaaDrB
import Derived.Deep.RegionLaw
namespace Go.Proofs.Ytajmebclmippeaa
open Go.RowKit

/-- What a draw of a list and a number leaves. -/
def DrawSI (w : World) (N : Nat) (e : Ending) (w' : World) : Prop :=
  ∃ A n c F a, e = .returned (.tuple #[.slice A n c, .int .i64 a]) ∧ n ≤ N ∧ Ow w' w.heap.size w'.heap.size A n 2 (ints F) ∧ Below w.heap.size w w'
/-- .. of a list and two numbers. -/
def DrawSI2 (w : World) (N : Nat) (e : Ending) (w' : World) : Prop :=
  ∃ A n c F a d, e = .returned (.tuple #[.slice A n c, .int .i64 a, .int .i64 d]) ∧ n ≤ N ∧ Ow w' w.heap.size w'.heap.size A n 2 (ints F) ∧ Below w.heap.size w w'
/-- .. of a list and a sun. -/
def DrawSS (w : World) (N : Nat) (e : Ending) (w' : World) : Prop :=
  ∃ A n c F t x, e = .returned (.tuple #[.slice A n c, .agg #[.int .i64 t, .int .i64 x]]) ∧ n ≤ N ∧ n ≤ c ∧ Ow w' w.heap.size w'.heap.size A n 2 (ints F) ∧ Below w.heap.size w w'
set_option maxRecDepth 20000 in
set_option maxHeartbeats 2000000 in
theorem DrawBestStart_any (A : Option Addr) (n c : Nat) (B : Nat → Int) (w : World) (h : CodeR w A n B) :
    Calls Try.prog 45 #[.slice A n c] w (DrawSI w 22) := by
  go_enter Try.func45, Try.ntmps45
  go_upto_region 2 with fail
  have hC := Cur.new h c 70
  have hbA : Below w.heap.size w (w.alloc (.cells #[.slice A n c, .int .i64 0, .int .u64 0] 70)) := (Below.refl _ _).alloc (Nat.le_refl _) _
  generalize w.alloc (.cells #[.slice A n c, .int .i64 0, .int .u64 0] 70) = W2 at hbA hC ⊢
  have hD := DrS.start hC
  have hcu := hC.lt
  clear hC
  go_wp2_with fail
  go_at_call 54
  refine (suns_any _ _ _ (by omega) hD.cur).mono ?_
  rintro _ w3 ⟨A5, n5, c5, F5, rfl, hn5, hO, hDx⟩
  have hsO := hD.size
  replace hD := hD.trans hDx
  clear hDx
  go_wp2_with fail
  go_at_call 55
  refine (among_any _ _ _ _ _ (0) (101) _ (by omega) (by decide) (by decide) (Nat.ne_of_gt hD.cur.lt) (Lits.new _ _ _ (by rfl) (by decide)) (hD.cur.alloc _)).mono ?_
  rintro _ w4 ⟨a, rfl, -, -, hc, ht⟩
  have hz_w4 := ht.size
  simp at hz_w4
  replace hO := (hO.alloc (by omega) _).tch ht (by first | (simp; done) | (simp; omega)) (by omega)
  replace hD := (hD.alloc _).draw hc ht
  clear hc ht
  have hz := hD.size
  have hbE := hbA.trans (hD.tch.below (by omega) (by omega))
  replace hO : Ow w4 w.heap.size w4.heap.size A5 n5 2 (ints F5) := hO.mono (by omega) (by omega)
  clear hD hbA
  go_wp2
  refine bodyPost_ret (v := .tuple #[.slice A5 n5 c5, .int .i64 a]) (by simp only [results, Try.results45]; go_simp) rfl ⟨A5, n5, c5, F5, a, rfl, hn5, hO, hbE⟩
set_option maxRecDepth 20000 in
set_option maxHeartbeats 2000000 in
theorem DrawSunSum_any (A : Option Addr) (n c : Nat) (B : Nat → Int) (w : World) (h : CodeR w A n B) :
    Calls Try.prog 48 #[.slice A n c] w (DrawSI2 w 22) := by
  go_enter Try.func48, Try.ntmps48
  go_upto_region 2 with fail
  have hC := Cur.new h c 70
  have hbA : Below w.heap.size w (w.alloc (.cells #[.slice A n c, .int .i64 0, .int .u64 0] 70)) := (Below.refl _ _).alloc (Nat.le_refl _) _
  generalize w.alloc (.cells #[.slice A n c, .int .i64 0, .int .u64 0] 70) = W2 at hbA hC ⊢
  have hD := DrS.start hC
  have hcu := hC.lt
  clear hC
  go_wp2_with fail
  go_at_call 69
  refine (span6_any _ _ _ (by omega) hD.cur).mono ?_
  rintro _ w3 ⟨f, t, rfl, -, -, -, -, hDx⟩
  replace hD := hD.trans hDx
  clear hDx
  go_wp2_with fail
  go_at_call 54
  refine (suns_any _ _ _ (by omega) hD.cur).mono ?_
  rintro _ w4 ⟨A5, n5, c5, F5, rfl, hn5, hO, hDx⟩
  have hsO := hD.size
  replace hD := hD.trans hDx
  clear hDx
  have hz := hD.size
  have hbE := hbA.trans (hD.tch.below (by omega) (by omega))
  replace hO : Ow w4 w.heap.size w4.heap.size A5 n5 2 (ints F5) := hO.mono (by omega) (by omega)
  clear hD hbA
  go_wp2
  refine bodyPost_ret (v := .tuple #[.slice A5 n5 c5, .int .i64 f, .int .i64 t]) (by simp only [results, Try.results48]; go_simp) rfl ⟨A5, n5, c5, F5, f, t, rfl, hn5, hO, hbE⟩
set_option maxRecDepth 20000 in
set_option maxHeartbeats 2000000 in
theorem DrawSunOn_any (A : Option Addr) (n c : Nat) (B : Nat → Int) (w : World) (h : CodeR w A n B) :
    Calls Try.prog 49 #[.slice A n c] w (DrawSI w 22) := by
  go_enter Try.func49, Try.ntmps49
  go_upto_region 2 with fail
  have hC := Cur.new h c 70
  have hbA : Below w.heap.size w (w.alloc (.cells #[.slice A n c, .int .i64 0, .int .u64 0] 70)) := (Below.refl _ _).alloc (Nat.le_refl _) _
  generalize w.alloc (.cells #[.slice A n c, .int .i64 0, .int .u64 0] 70) = W2 at hbA hC ⊢
  have hD := DrS.start hC
  have hcu := hC.lt
  clear hC
  go_wp2_with fail
  go_at_call 54
  refine (suns_any _ _ _ (by omega) hD.cur).mono ?_
  rintro _ w3 ⟨A5, n5, c5, F5, rfl, hn5, hO, hDx⟩
  have hsO := hD.size
  replace hD := hD.trans hDx
  clear hDx
  by_cases hn0 : 0 < n5
  rotate_left
  · have hn0' : n5 = 0 := by omega
    subst hn0'
    go_wp2_with fail
    go_at_call 55
    refine (among_any _ _ _ _ _ (-1) 4001 _ (by omega) (by decide) (by decide) (Nat.ne_of_gt hD.cur.lt) (Lits.new _ _ _ (by rfl) (by decide)) (hD.cur.alloc _)).mono ?_
    rintro _ w4 ⟨a, rfl, -, -, hc, ht⟩
    replace hD := (hD.alloc _).draw hc ht
    have hz := hD.size
    have hbE := hbA.trans (hD.tch.below (by omega) (by omega))
    go_wp2
    refine bodyPost_ret (v := .tuple #[.slice A5 0 c5, .int .i64 a]) (by simp only [results, Try.results49]; go_simp) rfl ⟨A5, 0, c5, F5, a, rfl, hn5, Ow.nil _ _ _ _ _ _, hbE⟩
  go_wp2_with fail
  go_at_call 56
  refine (one_any _ _ _ _ (by omega) (by decide) hD.cur).mono ?_
  rintro _ w4 ⟨bb, rfl, hc, ht⟩
  have hz_w4 := ht.size
  replace hO := hO.tch ht (by omega) (by omega)
  replace hD := hD.draw hc ht
  clear hc ht
  cases bb
  · go_upto_region 4 with fail
    have hcu2 := hD.cur.lt
    go_region_law ((go_simp; go_at_call 57; refine (pick_any _ _ _ _ (by omega) (by omega) (Cur.below hD.cur (by (repeat' (first | exact Below.refl _ _ | assumption | refine Below.drew ?_ | refine Below.alloc ?_ (by first | omega | exact Below.size (by assumption) | (simp; done) | (simp; omega)) _ | refine Below.setCell ?_ (by first | omega | exact Below.size (by assumption) | (simp; done) | (simp; omega)) _))))).mono ?_; rintro _ w5 ⟨r, rfl, r0, r1, hc, ht0⟩; have ht : Tch w.heap.size (w.heap.size + 1) w4 w5 := Tch.trans (Tch.drew (Tch.refl _ _ _)) ht0; have hr : r < n5 := (by split at r1 <;> omega); obtain ⟨i, rfl⟩ : ∃ i : Nat, r = i := ⟨r.toNat, by omega⟩; have hin : i < n5 := (by omega); clear r1 ht0; have hz5 := ht.size; replace hO := hO.tch ht (by omega) (by omega); replace hD := hD.draw hc ht; clear hc ht; obtain ⟨b5, off5, rfl, l1, l2, hcell⟩ := hO.day hin (show 0 < 2 by omega); simp only [Nat.add_zero] at hcell))
    all_goals
      have hz := hD.size
      have hbE := hbA.trans (hD.tch.below (by omega) (by omega))
      replace hO : Ow w5 w.heap.size w5.heap.size (some ⟨b5, off5, none⟩) n5 2 (ints F5) := hO.mono (by omega) (by omega)
      clear hD hbA
      go_wp2
      refine bodyPost_ret (v := .tuple #[.slice (some ⟨b5, off5, none⟩) n5 c5, .int .i64 (F5 i 0)]) (by simp only [results, Try.results49]; go_simp) rfl ⟨_, n5, c5, F5, F5 i 0, rfl, hn5, hO, hbE⟩
  · go_wp2_with fail
    go_at_call 55
    refine (among_any _ _ _ _ _ (-1) (4001) _ (by omega) (by decide) (by decide) (Nat.ne_of_gt hD.cur.lt) (Lits.new _ _ _ (by rfl) (by decide)) (hD.cur.alloc _)).mono ?_
    rintro _ w5 ⟨a, rfl, -, -, hc, ht⟩
    have hz_w5 := ht.size
    simp at hz_w5
    replace hO := (hO.alloc (by omega) _).tch ht (by first | (simp; done) | (simp; omega)) (by omega)
    replace hD := (hD.alloc _).draw hc ht
    clear hc ht
    have hz := hD.size
    have hbE := hbA.trans (hD.tch.below (by omega) (by omega))
    replace hO : Ow w5 w.heap.size w5.heap.size A5 n5 2 (ints F5) := hO.mono (by omega) (by omega)
    clear hD hbA
    go_wp2
    refine bodyPost_ret (v := .tuple #[.slice A5 n5 c5, .int .i64 a]) (by simp only [results, Try.results49]; go_simp) rfl ⟨A5, n5, c5, F5, a, rfl, hn5, hO, hbE⟩
set_option maxRecDepth 20000 in
set_option maxHeartbeats 4000000 in
theorem DrawPutSun_any (A : Option Addr) (n c : Nat) (B : Nat → Int) (w : World) (h : CodeR w A n B) :
    Calls Try.prog 46 #[.slice A n c] w (DrawSS w 22) := by
  go_enter Try.func46, Try.ntmps46
  go_upto_region 1 with fail
  have hX := Box2.new w 55 (.int .i64 0) (.int .i64 0)
  have hcd := h.below (w' := w.alloc (.cells #[.int .i64 0, .int .i64 0] 55)) ((Below.refl _ _).alloc (Nat.le_refl _) _)
  have hs1 : (w.alloc (.cells #[.int .i64 0, .int .i64 0] 55)).heap.size = w.heap.size + 1 := by simp
  have hbA : Below w.heap.size w (w.alloc (.cells #[.int .i64 0, .int .i64 0] 55)) := (Below.refl _ _).alloc (Nat.le_refl _) _
  generalize w.alloc (.cells #[.int .i64 0, .int .i64 0] 55) = W1 at hX hcd hs1 hbA ⊢
  go_upto_region 2 with fail
  have hC := Cur.new hcd c 70
  replace hX := hX.alloc (.cells #[.slice A n c, .int .i64 0, .int .u64 0] 70)
  replace hbA := hbA.alloc (show _ ≤ _ by omega) (.cells #[.slice A n c, .int .i64 0, .int .u64 0] 70)
  rw [hs1] at hC
  generalize W1.alloc (.cells #[.slice A n c, .int .i64 0, .int .u64 0] 70) = W2 at hX hbA hC ⊢
  clear hcd
  have hD := DrS.start hC
  have hcu := hC.lt
  clear hC hs1
  go_wp2_with fail
  go_at_call 54
  refine (suns_cap _ _ _ (by omega) hD.cur).mono ?_
  rintro _ w3 ⟨A5, n5, c5, F5, rfl, hn5, hcp, hO, hDx⟩
  have hs3 := hDx.size
  replace hX := hX.tch hDx.tch (by omega)
  replace hD := hD.trans hDx
  clear hDx
  go_wp2_with fail
  go_at_call 55
  refine (among_any _ _ _ _ _ 0 4001 _ (by omega) (by decide) (by decide) (Nat.ne_of_gt hD.cur.lt) (Lits.new _ _ _ (by rfl) (by decide)) (hD.cur.alloc _)).mono ?_
  rintro _ w4 ⟨t, rfl, -, -, hc, ht⟩
  replace hX := (hX.alloc _).tch ht (by omega)
  have hz4 := ht.size
  simp at hz4
  replace hO := (hO.alloc (by omega) _).tch ht (by first | (simp; done) | (simp; omega)) (by omega)
  replace hD := (hD.alloc _).draw hc ht
  clear hc ht
  go_wp2_with fail
  go_at_call 55
  refine (among_any _ _ _ _ _ 0 20001 _ (by omega) (by decide) (by decide) (Nat.ne_of_gt hD.cur.lt) (Lits.new _ _ _ (by rfl) (by decide)) (hD.cur.alloc _)).mono ?_
  rintro _ w5 ⟨x, rfl, -, -, hc, ht⟩
  replace hX := (hX.alloc _).tch ht (by omega)
  have hz5 := ht.size
  simp at hz5
  replace hO := (hO.alloc (by omega) _).tch ht (by first | (simp; done) | (simp; omega)) (by omega)
  replace hD := (hD.alloc _).draw hc ht
  clear hc ht
  go_upto_region 4 with fail
  have hS := Box2.new w5 55 (.int .i64 t) (.int .i64 x)
  replace hX := hX.alloc (.cells #[.int .i64 t, .int .i64 x] 55)
  replace hO := hO.alloc (by omega) (.cells #[.int .i64 t, .int .i64 x] 55)
  replace hD := hD.alloc (.cells #[.int .i64 t, .int .i64 x] 55)
  have hs6 : w5.heap.size < (w5.alloc (.cells #[.int .i64 t, .int .i64 x] 55)).heap.size := by simp
  have hs5 : w3.heap.size ≤ w5.heap.size := by omega
  generalize w5.alloc (.cells #[.int .i64 t, .int .i64 x] 55) = W6 at hS hX hO hD hs6 ⊢
  generalize w5.heap.size = gS at hS hs6 hs5 hz5 ⊢
  by_cases hn0 : 0 < n5
  rotate_left
  · have hn0' : n5 = 0 := by omega
    subst hn0'
    have hz := hD.size
    obtain ⟨x0, x1, x2, x3, x4⟩ := hX
    obtain ⟨y0, y1, y2, y3, y4⟩ := hS
    have hbE := (((hbA.trans (hD.tch.below (by omega) (by omega))).setCell (p := ⟨w.heap.size, 0, none⟩) (Nat.le_refl _) (.int .i64 t)).setCell (p := ⟨w.heap.size, 1, none⟩) (Nat.le_refl _) (.int .i64 x)).drew
    have hOE : Ow (((W6.setCell ⟨w.heap.size, 0, none⟩ (.int .i64 t)).setCell ⟨w.heap.size, 1, none⟩ (.int .i64 x)).drew) w.heap.size (((W6.setCell ⟨w.heap.size, 0, none⟩ (.int .i64 t)).setCell ⟨w.heap.size, 1, none⟩ (.int .i64 x)).drew).heap.size (A5) 0 2 (ints F5) :=
      (hO.agr (w' := ((W6.setCell ⟨w.heap.size, 0, none⟩ (.int .i64 t)).setCell ⟨w.heap.size, 1, none⟩ (.int .i64 x)).drew) fun k h1 h2 => (Below.heap_setCell _ _ _ _ (by show k ≠ w.heap.size; omega)).trans (Below.heap_setCell _ _ _ _ (by show k ≠ w.heap.size; omega))).mono (by omega) (by show _ ≤ ((W6.setCell _ _).setCell _ _).heap.size; simp; omega)
    clear hO hD hbA
    go_wp2_with fail
    go_region
    all_goals
      go_wp2
      refine bodyPost_ret (v := .tuple #[.slice (A5) 0 c5, .agg #[.int .i64 t, .int .i64 x]]) (by simp only [results, Try.results46]; go_simp) rfl ⟨_, 0, c5, F5, t, x, rfl, hn5, hcp, hOE, hbE⟩
  go_wp2_with fail
  go_at_call 56
  refine (one_any _ _ _ _ (by omega) (by decide) hD.cur).mono ?_
  rintro _ w7 ⟨bb, rfl, hc, ht⟩
  replace hX := hX.tch ht (by omega)
  replace hS := hS.tch ht (by omega)
  have hz7 := ht.size
  replace hO := hO.tch ht (by omega) (by omega)
  replace hD := hD.draw hc ht
  clear hc ht
  cases bb
  · have hz := hD.size
    obtain ⟨x0, x1, x2, x3, x4⟩ := hX
    obtain ⟨y0, y1, y2, y3, y4⟩ := hS
    have hbE := (((hbA.trans (hD.tch.below (by omega) (by omega))).setCell (p := ⟨w.heap.size, 0, none⟩) (Nat.le_refl _) (.int .i64 t)).setCell (p := ⟨w.heap.size, 1, none⟩) (Nat.le_refl _) (.int .i64 x)).drew
    have hOE : Ow (((w7.setCell ⟨w.heap.size, 0, none⟩ (.int .i64 t)).setCell ⟨w.heap.size, 1, none⟩ (.int .i64 x)).drew) w.heap.size (((w7.setCell ⟨w.heap.size, 0, none⟩ (.int .i64 t)).setCell ⟨w.heap.size, 1, none⟩ (.int .i64 x)).drew).heap.size (A5) n5 2 (ints F5) :=
      (hO.agr (w' := ((w7.setCell ⟨w.heap.size, 0, none⟩ (.int .i64 t)).setCell ⟨w.heap.size, 1, none⟩ (.int .i64 x)).drew) fun k h1 h2 => (Below.heap_setCell _ _ _ _ (by show k ≠ w.heap.size; omega)).trans (Below.heap_setCell _ _ _ _ (by show k ≠ w.heap.size; omega))).mono (by omega) (by show _ ≤ ((w7.setCell _ _).setCell _ _).heap.size; simp; omega)
    clear hO hD hbA
    go_wp2_with fail
    go_region
    all_goals
      go_wp2
      refine bodyPost_ret (v := .tuple #[.slice (A5) n5 c5, .agg #[.int .i64 t, .int .i64 x]]) (by simp only [results, Try.results46]; go_simp) rfl ⟨_, n5, c5, F5, t, x, rfl, hn5, hcp, hOE, hbE⟩
  · go_wp2_with fail
    go_at_call 57
    refine (pick_any _ _ _ _ (by omega) (by omega) hD.cur).mono ?_
    rintro _ w8 ⟨r, rfl, r0, r1, hc, ht⟩
    replace hX := hX.tch ht (by omega)
    replace hS := hS.tch ht (by omega)
    have hz8 := ht.size
    replace hO := hO.tch ht (by omega) (by omega)
    replace hD := hD.draw hc ht
    clear hc ht
    have hr : r < n5 := by split at r1 <;> omega
    obtain ⟨i, rfl⟩ : ∃ i : Nat, r = i := ⟨r.toNat, by omega⟩
    have hin : i < n5 := by omega
    clear r1
    obtain ⟨b5, off5, rfl, l1, l2, hcell⟩ := hO.day hin (show 0 < 2 by omega)
    simp only [Nat.add_zero] at hcell
    obtain ⟨y0, y1, y2, y3, y4⟩ := hS
    go_upto_region 6 with fail
    have hS : Box2 (w8.setCell ⟨gS, 0, none⟩ (.int .i64 (F5 i 0))) gS (.int .i64 (F5 i 0)) (.int .i64 x) := ⟨by simpa using y0, World.cell?_setCell_same _ _ _ y1, (World.cell?_setCell_other _ _ _ _ (by intro e; injection e with _ e2; omega)).trans y2, by simpa using y3, by simpa using y4⟩
    replace hX : Box2 (w8.setCell ⟨gS, 0, none⟩ (.int .i64 (F5 i 0))) w.heap.size (.int .i64 0) (.int .i64 0) := ⟨by simpa using hX.lt, (World.cell?_setCell_other _ _ _ _ (by intro e; injection e with e1 e2; omega)).trans hX.c0, (World.cell?_setCell_other _ _ _ _ (by intro e; injection e with e1 e2; omega)).trans hX.c1, by simpa using hX.f0, by simpa using hX.f1⟩
    replace hO : Ow (w8.setCell ⟨gS, 0, none⟩ (.int .i64 (F5 i 0))) W2.heap.size w3.heap.size (some ⟨b5, off5, none⟩) n5 2 (ints F5) := hO.agr fun k h1 h2 => Below.heap_setCell _ _ _ _ (by show k ≠ gS; omega)
    replace hD := hD.set (p := ⟨gS, 0, none⟩) (by show _ ≤ gS; omega) (.int .i64 (F5 i 0))
    generalize w8.setCell ⟨gS, 0, none⟩ (.int .i64 (F5 i 0)) = W9 at hS hX hO hD ⊢
    generalize F5 i 0 = t2 at *
    clear hcell y0 y1 y2 y3 y4
    have hz := hD.size
    obtain ⟨x0, x1, x2, x3, x4⟩ := hX
    obtain ⟨y0, y1, y2, y3, y4⟩ := hS
    have hbE := (((hbA.trans (hD.tch.below (by omega) (by omega))).setCell (p := ⟨w.heap.size, 0, none⟩) (Nat.le_refl _) (.int .i64 t2)).setCell (p := ⟨w.heap.size, 1, none⟩) (Nat.le_refl _) (.int .i64 x)).drew
    have hOE : Ow (((W9.setCell ⟨w.heap.size, 0, none⟩ (.int .i64 t2)).setCell ⟨w.heap.size, 1, none⟩ (.int .i64 x)).drew) w.heap.size (((W9.setCell ⟨w.heap.size, 0, none⟩ (.int .i64 t2)).setCell ⟨w.heap.size, 1, none⟩ (.int .i64 x)).drew).heap.size (some ⟨b5, off5, none⟩) n5 2 (ints F5) :=
      (hO.agr (w' := ((W9.setCell ⟨w.heap.size, 0, none⟩ (.int .i64 t2)).setCell ⟨w.heap.size, 1, none⟩ (.int .i64 x)).drew) fun k h1 h2 => (Below.heap_setCell _ _ _ _ (by show k ≠ w.heap.size; omega)).trans (Below.heap_setCell _ _ _ _ (by show k ≠ w.heap.size; omega))).mono (by omega) (by show _ ≤ ((W9.setCell _ _).setCell _ _).heap.size; simp; omega)
    clear hO hD hbA
    go_wp2_with fail
    go_region
    all_goals
      go_wp2
      refine bodyPost_ret (v := .tuple #[.slice (some ⟨b5, off5, none⟩) n5 c5, .agg #[.int .i64 t2, .int .i64 x]]) (by simp only [results, Try.results46]; go_simp) rfl ⟨_, n5, c5, F5, t2, x, rfl, hn5, hcp, hOE, hbE⟩
end Go.Proofs.Ytajmebclmippeaa
