/-
  Contracts: the arguments that are drawn for laws on rain. Conditions: codes of bytes.
-/
import Derived.Test.YtcjjpkleipjibaaDrS
import Derived.Test.YtcjjpkleipjibaaDrB
import Derived.Test.YtcjjpkleipjibaaDrW
namespace Go.Proofs.Ytcjjpkleipjibaa
open Go.RowKit

/-- What a draw of a list, a brine, an area, a cover and a day leaves. -/
def DrawRB3 (w : World) (N : Nat) (e : Ending) (w' : World) : Prop :=
  ∃ A n c F x y a d f, e = .returned (.tuple #[.slice A n c, .agg #[.int .i64 x, .int .i64 y], .int .i64 a, .int .i64 d, .int .i64 f]) ∧ n ≤ N ∧ Ow w' w.heap.size w'.heap.size A n 2 (ints F) ∧ Below w.heap.size w w'
/-- .. of a list, an area and a day. -/
def DrawRA (w : World) (N : Nat) (e : Ending) (w' : World) : Prop :=
  ∃ A n c F a d, e = .returned (.tuple #[.slice A n c, .int .i64 a, .int .i64 d]) ∧ n ≤ N ∧ Ow w' w.heap.size w'.heap.size A n 2 (ints F) ∧ Below w.heap.size w w'
/-- .. of two lists, a brine, an area and a day. -/
def DrawNB (w : World) (N : Nat) (e : Ending) (w' : World) : Prop :=
  ∃ A n c F A' n' c' F' x y a d, e = .returned (.tuple #[.slice A n c, .slice A' n' c', .agg #[.int .i64 x, .int .i64 y], .int .i64 a, .int .i64 d]) ∧ n ≤ N ∧ n' ≤ N ∧ Ow w' w.heap.size w'.heap.size A n 2 (ints F) ∧ Ow w' w.heap.size w'.heap.size A' n' 2 (ints F') ∧ Below w.heap.size w w'
set_option maxRecDepth 20000 in
set_option maxHeartbeats 2000000 in
theorem DrawAfterRain_any (A : Option Addr) (n c : Nat) (B : Nat → Int) (w : World) (h : CodeR w A n B) :
    Calls Try.prog 49 #[.slice A n c] w (DrawRB3 w 22) := by
  go_enter Try.func49, Try.ntmps49
  go_upto_region 1 with fail
  have hX := Box2.new w 39 (.int .i64 0) (.int .i64 0)
  have hcd := h.below (w' := w.alloc (.cells #[.int .i64 0, .int .i64 0] 39)) ((Below.refl _ _).alloc (Nat.le_refl _) _)
  have hs1 : (w.alloc (.cells #[.int .i64 0, .int .i64 0] 39)).heap.size = w.heap.size + 1 := by simp
  have hbA : Below w.heap.size w (w.alloc (.cells #[.int .i64 0, .int .i64 0] 39)) := (Below.refl _ _).alloc (Nat.le_refl _) _
  generalize w.alloc (.cells #[.int .i64 0, .int .i64 0] 39) = W1 at hX hcd hs1 hbA ⊢
  go_upto_region 2 with fail
  have hC := Cur.new hcd c 97
  replace hX := hX.alloc (.cells #[.slice A n c, .int .i64 0, .int .u64 0] 97)
  replace hbA := hbA.alloc (show _ ≤ _ by omega) (.cells #[.slice A n c, .int .i64 0, .int .u64 0] 97)
  rw [hs1] at hC
  generalize W1.alloc (.cells #[.slice A n c, .int .i64 0, .int .u64 0] 97) = W2 at hX hbA hC ⊢
  clear hcd
  have hD := DrS.start hC
  have hcu := hC.lt
  clear hC hs1
  go_wp2_with fail
  go_at_call 82
  refine (showers_any _ _ _ (by omega) hD.cur).mono ?_
  rintro _ w4 ⟨A5, n5, c5, F5, rfl, hn5, hO, hDx⟩
  have hsO := hD.size
  replace hX := hX.tch hDx.tch (by omega)
  replace hD := hD.trans hDx
  clear hDx
  go_wp2_with fail
  go_at_call 85
  refine (brine_any _ _ _ (by omega) hD.cur).mono ?_
  rintro _ w5 ⟨x, y, rfl, -, -, -, -, hDx⟩
  replace hX := hX.tch hDx.tch (by omega)
  have hzb := hDx.size
  replace hO := hO.tch hDx.tch (by omega) (by omega)
  replace hD := hD.trans hDx
  clear hDx
  go_wp2_with fail
  go_at_call 83
  refine (area_any _ _ _ (by omega) hD.cur).mono ?_
  rintro _ w6 ⟨a, rfl, a0, a1, hc, ht⟩
  replace hX := hX.tch ht (by omega)
  have hza := ht.size
  replace hO := hO.tch ht (by omega) (by omega)
  replace hD := hD.draw hc ht
  clear hc ht
  go_wp2_with fail
  go_at_call 86
  refine (among_any _ _ _ _ _ (-1) 101 _ (by omega) (by decide) (by decide) (Nat.ne_of_gt hD.cur.lt) (Lits.new _ _ _ (by rfl) (by decide)) (hD.cur.alloc _)).mono ?_
  rintro _ w7 ⟨cv, rfl, -, -, hc, ht⟩
  replace hX := (hX.alloc _).tch ht (by omega)
  have hz7 := ht.size
  simp at hz7
  replace hO := (hO.alloc (by omega) _).tch ht (by simp; omega) (by omega)
  replace hD := (hD.alloc _).draw hc ht
  clear hc ht
  go_wp2_with fail
  go_at_call 87
  refine (rainDay_any _ _ _ _ _ _ _ _ _ (by omega) (by omega) (by omega) (by omega) hO hD.cur).mono ?_
  rintro _ w8 ⟨d, rfl, hc, ht⟩
  replace hX := hX.tch ht (by omega)
  have hz8 := ht.size
  replace hO := hO.tch ht (by omega) (by omega)
  replace hD := hD.draw hc ht
  clear hc ht
  have hz := hD.size
  have hbE := ((hbA.trans (hD.tch.below (by omega) (by omega))).setCell (p := ⟨w.heap.size, 0, none⟩) (Nat.le_refl _) (.int .i64 x)).setCell (p := ⟨w.heap.size, 1, none⟩) (Nat.le_refl _) (.int .i64 y)
  replace hO : Ow ((w8.setCell ⟨w.heap.size, 0, none⟩ (.int .i64 x)).setCell ⟨w.heap.size, 1, none⟩ (.int .i64 y)) w.heap.size ((w8.setCell ⟨w.heap.size, 0, none⟩ (.int .i64 x)).setCell ⟨w.heap.size, 1, none⟩ (.int .i64 y)).heap.size A5 n5 2 (ints F5) :=
    (hO.agr fun k h1 h2 => (Below.heap_setCell _ _ _ _ (by show k ≠ w.heap.size; omega)).trans (Below.heap_setCell _ _ _ _ (by show k ≠ w.heap.size; omega))).mono (by omega) (by simp; omega)
  obtain ⟨x0, x1, x2, x3, x4⟩ := hX
  clear hD hbA
  go_wp2
  refine bodyPost_ret (v := .tuple #[.slice A5 n5 c5, .agg #[.int .i64 x, .int .i64 y], .int .i64 a, .int .i64 cv, .int .i64 d]) (by simp only [results, Try.results49]; go_simp) rfl ⟨A5, n5, c5, F5, x, y, a, cv, d, rfl, hn5, hO, hbE⟩
set_option maxRecDepth 20000 in
set_option maxHeartbeats 2000000 in
theorem DrawRainOnArea_any (A : Option Addr) (n c : Nat) (B : Nat → Int) (w : World) (h : CodeR w A n B) :
    Calls Try.prog 52 #[.slice A n c] w (DrawRA w 22) := by
  go_enter Try.func52, Try.ntmps52
  go_upto_region 2 with fail
  have hC := Cur.new h c 97
  have hbA : Below w.heap.size w (w.alloc (.cells #[.slice A n c, .int .i64 0, .int .u64 0] 97)) := (Below.refl _ _).alloc (Nat.le_refl _) _
  generalize w.alloc (.cells #[.slice A n c, .int .i64 0, .int .u64 0] 97) = W2 at hbA hC ⊢
  have hD := DrS.start hC
  have hcu := hC.lt
  clear hC
  go_wp2_with fail
  go_at_call 82
  refine (showers_any _ _ _ (by omega) hD.cur).mono ?_
  rintro _ w4 ⟨A5, n5, c5, F5, rfl, hn5, hO, hDx⟩
  have hsO := hD.size
  replace hD := hD.trans hDx
  clear hDx
  go_wp2_with fail
  go_at_call 83
  refine (area_any _ _ _ (by omega) hD.cur).mono ?_
  rintro _ w5 ⟨a, rfl, -, -, hc, ht⟩
  have hz5 := ht.size
  replace hO := hO.tch ht (by omega) (by omega)
  replace hD := hD.draw hc ht
  clear hc ht
  go_wp2_with fail
  go_at_call 87
  refine (rainDay_any _ _ _ _ _ _ _ _ _ (by omega) (by omega) (by omega) (by omega) hO hD.cur).mono ?_
  rintro _ w8 ⟨d, rfl, hc, ht⟩
  have hz8 := ht.size
  replace hO := hO.tch ht (by omega) (by omega)
  replace hD := hD.draw hc ht
  clear hc ht
  have hbE := hbA.trans (hD.tch.below (Nat.le_refl _) (by omega))
  have hO' := hO.mono (lo' := w.heap.size) (hi' := w8.heap.size) (by omega) (by omega)
  clear hO hD hbA
  go_wp2
  refine bodyPost_ret (v := .tuple #[.slice A5 n5 c5, .int .i64 a, .int .i64 d]) (by simp only [results, Try.results52]; go_simp) rfl ⟨A5, n5, c5, F5, a, d, rfl, hn5, hO', hbE⟩
set_option maxRecDepth 20000 in
set_option maxHeartbeats 2000000 in
theorem DrawNetOn_any (A : Option Addr) (n c : Nat) (B : Nat → Int) (w : World) (h : CodeR w A n B) :
    Calls Try.prog 51 #[.slice A n c] w (DrawNB w 22) := by
  go_enter Try.func51, Try.ntmps51
  go_upto_region 1 with fail
  have hX := Box2.new w 39 (.int .i64 0) (.int .i64 0)
  have hcd := h.below (w' := w.alloc (.cells #[.int .i64 0, .int .i64 0] 39)) ((Below.refl _ _).alloc (Nat.le_refl _) _)
  have hs1 : (w.alloc (.cells #[.int .i64 0, .int .i64 0] 39)).heap.size = w.heap.size + 1 := by simp
  have hbA : Below w.heap.size w (w.alloc (.cells #[.int .i64 0, .int .i64 0] 39)) := (Below.refl _ _).alloc (Nat.le_refl _) _
  generalize w.alloc (.cells #[.int .i64 0, .int .i64 0] 39) = W1 at hX hcd hs1 hbA ⊢
  go_upto_region 2 with fail
  have hC := Cur.new hcd c 97
  replace hX := hX.alloc (.cells #[.slice A n c, .int .i64 0, .int .u64 0] 97)
  replace hbA := hbA.alloc (show _ ≤ _ by omega) (.cells #[.slice A n c, .int .i64 0, .int .u64 0] 97)
  rw [hs1] at hC
  generalize W1.alloc (.cells #[.slice A n c, .int .i64 0, .int .u64 0] 97) = W2 at hX hbA hC ⊢
  clear hcd
  have hD := DrS.start hC
  have hcu := hC.lt
  clear hC hs1
  go_wp2_with fail
  go_at_call 82
  refine (showers_any _ _ _ (by omega) hD.cur).mono ?_
  rintro _ w4 ⟨A5, n5, c5, F5, rfl, hn5, hO, hDx⟩
  have hsO := hD.size
  replace hX := hX.tch hDx.tch (by omega)
  replace hD := hD.trans hDx
  clear hDx
  go_wp2_with fail
  go_at_call 88
  refine (suns_any _ _ _ (by omega) hD.cur).mono ?_
  rintro _ w3 ⟨A6, n6, c6, F6, rfl, hn6, hQ, hDx⟩
  have hsQ := hD.size
  have hzq := hDx.size
  replace hX := hX.tch hDx.tch (by omega)
  replace hO := hO.tch hDx.tch (by omega) (by omega)
  replace hD := hD.trans hDx
  clear hDx
  go_wp2_with fail
  go_at_call 85
  refine (brine_any _ _ _ (by omega) hD.cur).mono ?_
  rintro _ w5 ⟨x, y, rfl, -, -, -, -, hDx⟩
  replace hX := hX.tch hDx.tch (by omega)
  have hzb := hDx.size
  replace hO := hO.tch hDx.tch (by omega) (by omega)
  replace hQ := hQ.tch hDx.tch (by omega) (by omega)
  replace hD := hD.trans hDx
  clear hDx
  go_wp2_with fail
  go_at_call 83
  refine (area_any _ _ _ (by omega) hD.cur).mono ?_
  rintro _ w6 ⟨a, rfl, a0, a1, hc, ht⟩
  replace hX := hX.tch ht (by omega)
  have hza := ht.size
  replace hO := hO.tch ht (by omega) (by omega)
  replace hQ := hQ.tch ht (by omega) (by omega)
  replace hD := hD.draw hc ht
  clear hc ht
  go_wp2_with fail
  go_at_call 87
  refine (rainDay_any _ _ _ _ _ _ _ _ _ (by omega) (by omega) (by omega) (by omega) hO hD.cur).mono ?_
  rintro _ w8 ⟨d, rfl, hc, ht⟩
  replace hX := hX.tch ht (by omega)
  have hz8 := ht.size
  replace hO := hO.tch ht (by omega) (by omega)
  replace hQ := hQ.tch ht (by omega) (by omega)
  replace hD := hD.draw hc ht
  clear hc ht
  have hQ' : Ow ((w8.setCell ⟨w.heap.size, 0, none⟩ (.int .i64 x)).setCell ⟨w.heap.size, 1, none⟩ (.int .i64 y)) w.heap.size ((w8.setCell ⟨w.heap.size, 0, none⟩ (.int .i64 x)).setCell ⟨w.heap.size, 1, none⟩ (.int .i64 y)).heap.size A6 n6 2 (ints F6) :=
    (hQ.agr fun k h1 h2 => (Below.heap_setCell _ _ _ _ (by show k ≠ w.heap.size; omega)).trans (Below.heap_setCell _ _ _ _ (by show k ≠ w.heap.size; omega))).mono (by omega) (by simp; omega)
  clear hQ
  have hz := hD.size
  have hbE := ((hbA.trans (hD.tch.below (by omega) (by omega))).setCell (p := ⟨w.heap.size, 0, none⟩) (Nat.le_refl _) (.int .i64 x)).setCell (p := ⟨w.heap.size, 1, none⟩) (Nat.le_refl _) (.int .i64 y)
  replace hO : Ow ((w8.setCell ⟨w.heap.size, 0, none⟩ (.int .i64 x)).setCell ⟨w.heap.size, 1, none⟩ (.int .i64 y)) w.heap.size ((w8.setCell ⟨w.heap.size, 0, none⟩ (.int .i64 x)).setCell ⟨w.heap.size, 1, none⟩ (.int .i64 y)).heap.size A5 n5 2 (ints F5) :=
    (hO.agr fun k h1 h2 => (Below.heap_setCell _ _ _ _ (by show k ≠ w.heap.size; omega)).trans (Below.heap_setCell _ _ _ _ (by show k ≠ w.heap.size; omega))).mono (by omega) (by simp; omega)
  obtain ⟨x0, x1, x2, x3, x4⟩ := hX
  clear hD hbA
  go_wp2
  refine bodyPost_ret (v := .tuple #[.slice A5 n5 c5, .slice A6 n6 c6, .agg #[.int .i64 x, .int .i64 y], .int .i64 a, .int .i64 d]) (by simp only [results, Try.results51]; go_simp) rfl ⟨A5, n5, c5, F5, A6, n6, c6, F6, x, y, a, d, rfl, hn5, hn6, hO, hQ', hbE⟩
set_option maxRecDepth 20000 in
set_option maxHeartbeats 4000000 in
theorem DrawCoverNeeded_any (A : Option Addr) (n c : Nat) (B : Nat → Int) (w : World) (h : CodeR w A n B) :
    Calls Try.prog 50 #[.slice A n c] w (DrawRB3 w 22) := by
  go_enter Try.func50, Try.ntmps50
  go_upto_region 1 with fail
  have hX := Box2.new w 39 (.int .i64 0) (.int .i64 0)
  have hcd := h.below (w' := w.alloc (.cells #[.int .i64 0, .int .i64 0] 39)) ((Below.refl _ _).alloc (Nat.le_refl _) _)
  have hs1 : (w.alloc (.cells #[.int .i64 0, .int .i64 0] 39)).heap.size = w.heap.size + 1 := by simp
  have hbA : Below w.heap.size w (w.alloc (.cells #[.int .i64 0, .int .i64 0] 39)) := (Below.refl _ _).alloc (Nat.le_refl _) _
  generalize w.alloc (.cells #[.int .i64 0, .int .i64 0] 39) = W1 at hX hcd hs1 hbA ⊢
  go_upto_region 2 with fail
  have hC := Cur.new hcd c 97
  replace hX := hX.alloc (.cells #[.slice A n c, .int .i64 0, .int .u64 0] 97)
  replace hbA := hbA.alloc (show _ ≤ _ by omega) (.cells #[.slice A n c, .int .i64 0, .int .u64 0] 97)
  rw [hs1] at hC
  generalize W1.alloc (.cells #[.slice A n c, .int .i64 0, .int .u64 0] 97) = W2 at hX hbA hC ⊢
  clear hcd
  have hD := DrS.start hC
  have hcu := hC.lt
  clear hC hs1
  go_wp2_with fail
  go_at_call 82
  refine (showers_any _ _ _ (by omega) hD.cur).mono ?_
  rintro _ w3 ⟨A5, n5, c5, F5, rfl, hn5, hO, hDx⟩
  have hsO := hD.size
  replace hX := hX.tch hDx.tch (by omega)
  replace hD := hD.trans hDx
  clear hDx
  go_wp2_with fail
  go_at_call 85
  refine (brine_any _ _ _ (by omega) hD.cur).mono ?_
  rintro _ w4 ⟨x, y, rfl, x0, x1, -, -, hDx⟩
  replace hX := hX.tch hDx.tch (by omega)
  have hzb := hDx.size
  replace hO := hO.tch hDx.tch (by omega) (by omega)
  replace hD := hD.trans hDx
  clear hDx
  go_upto_region 4 with fail
  have hg4 : w.heap.size + 1 < w4.heap.size := by have := hD.size; omega
  have hY := Box2.new w4 39 (.int .i64 x) (.int .i64 y)
  replace hX := hX.alloc (.cells #[.int .i64 x, .int .i64 y] 39)
  replace hD := hD.alloc (.cells #[.int .i64 x, .int .i64 y] 39)
  replace hO := (hO.alloc (by omega) (.cells #[.int .i64 x, .int .i64 y] 39)).mono (lo' := w.heap.size + 1 + 1) (by omega) (Nat.le_refl _)
  generalize hiq : w3.heap.size = hiO at hO hzb
  have hW0 : hiO ≤ (w4.alloc (.cells #[.int .i64 x, .int .i64 y] 39)).heap.size := by simp; omega
  generalize w4.alloc (.cells #[.int .i64 x, .int .i64 y] 39) = W at hX hY hD hO hW0 ⊢
  generalize w4.heap.size = gB at hY hg4 ⊢
  have hW1 : w.heap.size + 1 < W.heap.size := by have := hY.lt; omega
  clear hiq hzb
  have d0 := fun (w' : World) (ht : Tch w.heap.size (w.heap.size + 1 + 1) W w') => (ht.cell_ne (p := ⟨gB, 0, none⟩) hY.lt (by show ¬(w.heap.size ≤ gB ∧ gB < w.heap.size + 1 + 1); omega)).trans hY.c0
  have d1 := fun (w' : World) (ht : Tch w.heap.size (w.heap.size + 1 + 1) W w') => (ht.cell_ne (p := ⟨gB, 1, none⟩) hY.lt (by show ¬(w.heap.size ≤ gB ∧ gB < w.heap.size + 1 + 1); omega)).trans hY.c1
  have HL : ∀ (U W' v1 : World), Below (U.alloc (.cells #[.int .i64 x, .int .i64 (IntKind.i64.wrap (x + 5)), .int .i64 (IntKind.i64.wrap (x + 100)), .int .i64 1000000, .int .i64 (IntKind.i64.wrap (x - 1)), .int .i64 0, .int .i64 (-1)] 3)).heap.size (U.alloc (.cells #[.int .i64 x, .int .i64 (IntKind.i64.wrap (x + 5)), .int .i64 (IntKind.i64.wrap (x + 100)), .int .i64 1000000, .int .i64 (IntKind.i64.wrap (x - 1)), .int .i64 0, .int .i64 (-1)] 3)) W' → Tch (w.heap.size + 1) (w.heap.size + 1 + 1) W' v1 → U.heap.size ≠ w.heap.size + 1 → Lits0 v1 U.heap.size 7 := fun U W' v1 hb ht hn => Lits0.tch (Lits0.below (Lits0.new U _ _ (by rfl) (by rfl)) hb) ht hn
  go_region_held3 (fun w' => Tch w.heap.size (w.heap.size + 1 + 1) W w') (repeat' (first | exact Tch.refl _ _ _ | assumption | refine Tch.drew ?_ | refine Tch.alloc ?_ _ | refine Tch.setCell ?_ (by first | exact Nat.le_refl _ | (simp; done) | (simp; omega)) (by first | (simp; done) | (simp; omega) | (show _ < _; omega)) _)) (first | (go_at_call 83; refine (area_any _ _ _ (by omega) (Cur.below hD.cur (by (repeat' (first | exact Below.refl _ _ | assumption | refine Below.drew ?_ | refine Below.alloc ?_ (by first | omega | exact Below.size (by assumption) | (simp; done) | (simp; omega)) _ | refine Below.setCell ?_ (by first | omega | exact Below.size (by assumption) | (simp; done) | (simp; omega)) _))))).mono ?_; rintro _ v1 ⟨ar, rfl, ar0, ar1, hc1, ht1⟩; have C1 := Tch.trans (by assumption : Tch w.heap.size (w.heap.size + 1 + 1) W _) (ht1.widen (by omega) (by omega)); have X1 := (Box2.below hX (by (repeat' (first | exact Below.refl _ _ | assumption | refine Below.drew ?_ | refine Below.alloc ?_ (by first | omega | exact Below.size (by assumption) | (simp; done) | (simp; omega)) _ | refine Below.setCell ?_ (by first | omega | exact Below.size (by assumption) | (simp; done) | (simp; omega)) _)))).tch ht1 (by omega); have k1 : w.heap.size + 1 < v1.heap.size := hc1.lt; have O1 : Ow v1 (w.heap.size + 1 + 1) hiO A5 n5 2 (ints F5) := (Ow.below hO (by (repeat' (first | exact Below.refl _ _ | assumption | refine Below.drew ?_ | refine Below.alloc ?_ (by first | omega | exact Below.size (by assumption) | (simp; done) | (simp; omega)) _ | refine Below.setCell ?_ (by first | omega | exact Below.size (by assumption) | (simp; done) | (simp; omega)) _))) (by omega)).tch ht1 (by first | omega | (simp; omega)) (by omega); have s1 : hiO ≤ v1.heap.size := (by have := ht1.size; first | omega | (simp at this; omega)); (try (refine (fun (L1 : Lits0 v1 W.heap.size 7) => ?_) (HL W _ v1 ?hb ht1 (by omega)); (case hb => ((repeat' (first | exact Below.refl _ _ | assumption | refine Below.drew ?_ | refine Below.alloc ?_ (by first | omega | exact Below.size (by assumption) | (simp; done) | (simp; omega)) _ | refine Below.setCell ?_ (by first | omega | exact Below.size (by assumption) | (simp; done) | (simp; omega)) _)); done))))) | (go_at_call 87; refine (rainDay_any _ _ _ _ _ (w.heap.size + 1 + 1) hiO _ _ (by omega) (by omega) (by omega) (by first | omega | (simp; omega)) (Ow.below O1 (by (repeat' (first | exact Below.refl _ _ | assumption | refine Below.drew ?_ | refine Below.alloc ?_ (by first | omega | exact Below.size (by assumption) | (simp; done) | (simp; omega)) _ | refine Below.setCell ?_ (by first | omega | exact Below.size (by assumption) | (simp; done) | (simp; omega)) _))) (by omega)) (Cur.below hc1 (by (repeat' (first | exact Below.refl _ _ | assumption | refine Below.drew ?_ | refine Below.alloc ?_ (by first | omega | exact Below.size (by assumption) | (simp; done) | (simp; omega)) _ | refine Below.setCell ?_ (by first | omega | exact Below.size (by assumption) | (simp; done) | (simp; omega)) _))))).mono ?_; rintro _ v2 ⟨dy, rfl, hc2, ht2⟩; have C2 := Tch.trans (by assumption : Tch w.heap.size (w.heap.size + 1 + 1) W _) (ht2.widen (by omega) (by omega)); have X2 := (Box2.below X1 (by (repeat' (first | exact Below.refl _ _ | assumption | refine Below.drew ?_ | refine Below.alloc ?_ (by first | omega | exact Below.size (by assumption) | (simp; done) | (simp; omega)) _ | refine Below.setCell ?_ (by first | omega | exact Below.size (by assumption) | (simp; done) | (simp; omega)) _)))).tch ht2 (by omega); have k2 : w.heap.size + 1 < v2.heap.size := hc2.lt; have O2 : Ow v2 (w.heap.size + 1 + 1) hiO A5 n5 2 (ints F5) := (Ow.below O1 (by (repeat' (first | exact Below.refl _ _ | assumption | refine Below.drew ?_ | refine Below.alloc ?_ (by first | omega | exact Below.size (by assumption) | (simp; done) | (simp; omega)) _ | refine Below.setCell ?_ (by first | omega | exact Below.size (by assumption) | (simp; done) | (simp; omega)) _))) (by omega)).tch ht2 (by first | omega | (simp; omega)) (by omega); have s2 : hiO ≤ v2.heap.size := (by have := ht2.size; first | omega | (simp at this; omega)); (try (refine (fun (L2 : Lits0 v2 W.heap.size 7) => ?_) (Lits0.tch (Lits0.below L1 ?hb) ht2 (by omega)); (case hb => ((repeat' (first | exact Below.refl _ _ | assumption | refine Below.drew ?_ | refine Below.alloc ?_ (by first | omega | exact Below.size (by assumption) | (simp; done) | (simp; omega)) _ | refine Below.setCell ?_ (by first | omega | exact Below.size (by assumption) | (simp; done) | (simp; omega)) _)); done)))); (try (refine (fun (L3 : Lits0 v2 v1.heap.size 7) => ?_) (HL v1 _ v2 ?hb ht2 (by omega)); (case hb => ((repeat' (first | exact Below.refl _ _ | assumption | refine Below.drew ?_ | refine Below.alloc ?_ (by first | omega | exact Below.size (by assumption) | (simp; done) | (simp; omega)) _ | refine Below.setCell ?_ (by first | omega | exact Below.size (by assumption) | (simp; done) | (simp; omega)) _)); done))))) | (go_at_call 86; refine (among0_any _ _ _ _ _ _ (by omega) (by decide) (by decide) (by first | omega | (simp; omega)) (by first | exact Lits0.below L2 (by (repeat' (first | exact Below.refl _ _ | assumption | refine Below.drew ?_ | refine Below.alloc ?_ (by first | omega | exact Below.size (by assumption) | (simp; done) | (simp; omega)) _ | refine Below.setCell ?_ (by first | omega | exact Below.size (by assumption) | (simp; done) | (simp; omega)) _))) | exact Lits0.below L3 (by (repeat' (first | exact Below.refl _ _ | assumption | refine Below.drew ?_ | refine Below.alloc ?_ (by first | omega | exact Below.size (by assumption) | (simp; done) | (simp; omega)) _ | refine Below.setCell ?_ (by first | omega | exact Below.size (by assumption) | (simp; done) | (simp; omega)) _))) | exact Lits0.new _ _ _ (by rfl) (by rfl)) (Cur.below hc2 (by (repeat' (first | exact Below.refl _ _ | assumption | refine Below.drew ?_ | refine Below.alloc ?_ (by first | omega | exact Below.size (by assumption) | (simp; done) | (simp; omega)) _ | refine Below.setCell ?_ (by first | omega | exact Below.size (by assumption) | (simp; done) | (simp; omega)) _))))).mono ?_; rintro _ v3 ⟨gl, rfl, hc3, ht3⟩; have C3 := Tch.trans (by assumption : Tch w.heap.size (w.heap.size + 1 + 1) W _) (ht3.widen (by omega) (by omega)); have X3 := (Box2.below X2 (by (repeat' (first | exact Below.refl _ _ | assumption | refine Below.drew ?_ | refine Below.alloc ?_ (by first | omega | exact Below.size (by assumption) | (simp; done) | (simp; omega)) _ | refine Below.setCell ?_ (by first | omega | exact Below.size (by assumption) | (simp; done) | (simp; omega)) _)))).tch ht3 (by omega); obtain ⟨z0, z1, z2, z3, z4⟩ := X3; have O3 : Ow v3 (w.heap.size + 1 + 1) hiO A5 n5 2 (ints F5) := (Ow.below O2 (by (repeat' (first | exact Below.refl _ _ | assumption | refine Below.drew ?_ | refine Below.alloc ?_ (by first | omega | exact Below.size (by assumption) | (simp; done) | (simp; omega)) _ | refine Below.setCell ?_ (by first | omega | exact Below.size (by assumption) | (simp; done) | (simp; omega)) _))) (by omega)).tch ht3 (by first | omega | (simp; omega)) (by omega); have s3 : hiO ≤ v3.heap.size := (by have := ht3.size; first | omega | (simp at this; omega))))
  all_goals
    have hbE := (((hbA.trans (hD.tch.below (by omega) (by omega))).trans (C3.below (Nat.le_refl _) (by omega))).setCell (p := ⟨w.heap.size, 0, none⟩) (Nat.le_refl _) (.int .i64 x)).setCell (p := ⟨w.heap.size, 1, none⟩) (Nat.le_refl _) (.int .i64 y)
    have hO : Ow ((v3.setCell ⟨w.heap.size, 0, none⟩ (.int .i64 x)).setCell ⟨w.heap.size, 1, none⟩ (.int .i64 y)) w.heap.size ((v3.setCell ⟨w.heap.size, 0, none⟩ (.int .i64 x)).setCell ⟨w.heap.size, 1, none⟩ (.int .i64 y)).heap.size A5 n5 2 (ints F5) :=
      (O3.agr fun k h1 h2 => (Below.heap_setCell _ _ _ _ (by show k ≠ w.heap.size; omega)).trans (Below.heap_setCell _ _ _ _ (by show k ≠ w.heap.size; omega))).mono (by omega) (by simp; omega)
    clear O1 O2 O3 C1 C2 C3 X1 X2 hc1 ht1 hc2 ht2 hc3 ht3 HL d0 d1 hX hY hD hbA
    go_wp2
    refine bodyPost_ret (v := .tuple #[.slice A5 n5 c5, .agg #[.int .i64 x, .int .i64 y], .int .i64 ar, .int .i64 dy, .int .i64 gl]) (by simp only [results, Try.results50]; go_simp) rfl ⟨A5, n5, c5, F5, x, y, ar, dy, gl, rfl, hn5, hO, hbE⟩
end Go.Proofs.Ytcjjpkleipjibaa
