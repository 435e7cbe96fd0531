/-
  Contracts: workers that are drawn. Conditions: fewer than 2^40 draws.
-/
import Derived.Test.YtmblkjnpibcmoaaCuB
import Derived.Test.YtmblkjnpibcmoaaWkM
namespace Go.Proofs.Ytmblkjnpibcmoaa
open Go.RowKit

abbrev Wk5 := Int × Int × Int × Bool × Int
/-- Workers, laid in a row. -/
def wcL : List Wk5 → List Value
  | [] => []
  | p :: l => .int .i64 p.1 :: .int .i64 p.2.1 :: .int .i64 p.2.2.1 :: .bool p.2.2.2.1 :: .int .i64 p.2.2.2.2 :: wcL l
theorem wcL_append (l : List Wk5) (p : Wk5) : wcL (l ++ [p]) = wcL l ++ [.int .i64 p.1, .int .i64 p.2.1, .int .i64 p.2.2.1, .bool p.2.2.2.1, .int .i64 p.2.2.2.2] := by
  induction l with
  | nil => rfl
  | cons q l ih => simp [wcL, ih]
def wcF (l : List Wk5) (i j : Nat) : Int := match j with
  | 0 => (l.getD i (0, 0, 0, false, 0)).1
  | 1 => (l.getD i (0, 0, 0, false, 0)).2.1
  | 2 => (l.getD i (0, 0, 0, false, 0)).2.2.1
  | _ => (l.getD i (0, 0, 0, false, 0)).2.2.2.2
def wcC (l : List Wk5) (i : Nat) : Bool := (l.getD i (0, 0, 0, false, 0)).2.2.2.1
theorem wcL_at (l : List Wk5) : ∀ i j, i < l.length → j < 5 → (wcL l).getD (i * 5 + j) undef = wkC (wcF l) (wcC l) i j := by
  induction l with
  | nil => intro i j h; simp at h
  | cons q l ih =>
    intro i j hi hj
    cases i with
    | zero => match j, hj with
      | 0, _ => simp [wcL, wkC, wcF]
      | 1, _ => simp [wcL, wkC, wcF]
      | 2, _ => simp [wcL, wkC, wcF]
      | 3, _ => simp [wcL, wkC, wcC]
      | 4, _ => simp [wcL, wkC, wcF]
    | succ i =>
      have := ih i j (by simpa using hi) hj
      have e : (i + 1) * 5 + j = (i * 5 + j) + 1 + 1 + 1 + 1 + 1 := by omega
      rw [e]
      simp only [wcL, List.getD_cons_succ]
      rw [this]
      match j, hj with
      | 0, _ => simp [wkC, wcF]
      | 1, _ => simp [wkC, wcF]
      | 2, _ => simp [wkC, wcF]
      | 3, _ => simp [wkC, wcC]
      | 4, _ => simp [wkC, wcF]
/-- A row of workers of the call's own. -/
def RowsW (w : World) (B : Nat) (e : TypeId) (v : Value) (n : Nat) : Prop := ∃ l, w.ownsRow B e 5 v n (wcL l) ∧ l.length = n
theorem RowsW.new {w : World} {B : Nat} {e : TypeId} (hB : B ≤ w.heap.size) : RowsW (w.alloc (.cells #[] e)) B e (.slice (some ⟨w.heap.size, 0, none⟩) 0 0) 0 :=
  ⟨[], World.ownsRow_lit (base := B) (e := e) (size := 5) w #[] 0 hB (Nat.zero_le _) (by simp), rfl⟩
theorem RowsW.below {w w' : World} {B : Nat} {e : TypeId} {n : Nat} {v : Value} (h : RowsW w B e v n) (hb : Below w.heap.size w w') : RowsW w' B e v n := by
  obtain ⟨l, h1, h2⟩ := h
  exact ⟨l, own_below h1 hb, h2⟩
theorem RowsW.alloc {w : World} {B : Nat} {e : TypeId} {n : Nat} {v : Value} (h : RowsW w B e v n) (o : Obj) : RowsW (w.alloc o) B e v n := h.below ((Below.refl _ _).alloc (Nat.le_refl _) _)
theorem RowsW.tch {w w' : World} {B cu : Nat} {e : TypeId} {n : Nat} {v : Value} (h : RowsW w B e v n) (ht : Tch cu (cu + 1) w w') (hc : cu < B) : RowsW w' B e v n := by
  obtain ⟨l, h1, h2⟩ := h
  refine ⟨l, h1.kept (row := some cu) ⟨ht.os, ht.tape, ht.output, ht.size, fun k hk hn => ht.block k hk (by intro h; exact hn (by congr 1; omega))⟩ ?_, h2⟩
  cases hv : v.ownBlock with
  | none => exact .inl rfl
  | some q =>
    refine .inr fun e' => ?_
    injection e' with e'
    subst e'
    have := (h1.lt _ hv).1
    omega
theorem RowsW.out {w : World} {B : Nat} {e : TypeId} {n : Nat} {v : Value} (h : RowsW w B e v n) : ∃ A c F C, v = .slice A n c ∧ Ow w B w.heap.size A n 5 (wkC F C) := by
  obtain ⟨l, h1, h2⟩ := h
  obtain ⟨A, c, e1, hO⟩ := own_sl h1
  exact ⟨A, c, wcF l, wcC l, e1, hO.congr fun i j hi hj => wcL_at l i j (by omega) hj⟩
/-- A box of a worker. -/
structure BoxW (w : World) (g : Nat) (p : Wk5) : Prop where
  lt : g < w.heap.size
  c0 : w.cell? ⟨g, 0, none⟩ = some (.int .i64 p.1)
  c1 : w.cell? ⟨g, 1, none⟩ = some (.int .i64 p.2.1)
  c2 : w.cell? ⟨g, 2, none⟩ = some (.int .i64 p.2.2.1)
  c3 : w.cell? ⟨g, 3, none⟩ = some (.bool p.2.2.2.1)
  c4 : w.cell? ⟨g, 4, none⟩ = some (.int .i64 p.2.2.2.2)
  fz : ∀ j, j < 5 → w.frozen? ⟨g, j, none⟩ = false
theorem BoxW.new (w : World) (t : TypeId) (p : Wk5) : BoxW (w.alloc (.cells #[.int .i64 p.1, .int .i64 p.2.1, .int .i64 p.2.2.1, .bool p.2.2.2.1, .int .i64 p.2.2.2.2] t)) w.heap.size p :=
  ⟨by simp, by rw [World.cell?_alloc_new]; rfl, by rw [World.cell?_alloc_new]; rfl, by rw [World.cell?_alloc_new]; rfl, by rw [World.cell?_alloc_new]; rfl, by rw [World.cell?_alloc_new]; rfl, fun _ _ => World.frozen?_alloc_new _ _ _ _⟩
theorem BoxW.agr {w w' : World} {g : Nat} {p : Wk5} (h : BoxW w g p) (ha : Agr g (g + 1) w w') (hs : w.heap.size ≤ w'.heap.size) : BoxW w' g p :=
  have k : ∀ j, w'.cell? ⟨g, j, none⟩ = w.cell? ⟨g, j, none⟩ := fun j => ha.cell (p := ⟨g, j, none⟩) (Nat.le_refl _) (Nat.lt_succ_self _)
  ⟨Nat.lt_of_lt_of_le h.lt hs, (k 0).trans h.c0, (k 1).trans h.c1, (k 2).trans h.c2, (k 3).trans h.c3, (k 4).trans h.c4, fun j hj => (ha.frozen (p := ⟨g, j, none⟩) (Nat.le_refl _) (Nat.lt_succ_self _)).trans (h.fz j hj)⟩
theorem BoxW.below {w w' : World} {g : Nat} {p : Wk5} (h : BoxW w g p) (hb : Below w.heap.size w w') : BoxW w' g p := h.agr (Below.agr hb h.lt) hb.size
theorem BoxW.alloc {w : World} {g : Nat} {p : Wk5} (h : BoxW w g p) (o : Obj) : BoxW (w.alloc o) g p := h.below ((Below.refl _ _).alloc (Nat.le_refl _) _)
theorem BoxW.tch {w w' : World} {g cu : Nat} {p : Wk5} (h : BoxW w g p) (ht : Tch cu (cu + 1) w w') (hn : g ≠ cu) : BoxW w' g p := h.agr (Tch.agr ht h.lt (by omega)) ht.size
/-- What a draw of a worker leaves. -/
def DrawW5 (w : World) (cu m : Nat) (e : Ending) (w' : World) : Prop :=
  ∃ p : Wk5, e = .returned (.agg #[.int .i64 p.1, .int .i64 p.2.1, .int .i64 p.2.2.1, .bool p.2.2.2.1, .int .i64 p.2.2.2.2]) ∧ DrS w w' cu m
set_option maxRecDepth 20000 in
set_option maxHeartbeats 2000000 in
theorem worker_any (cu m : Nat) (id : Int) (w : World) (hm : m ≤ 1099511600000) (h : Cur w cu m) :
    Calls Try.prog 72 #[.pointer (some ⟨cu, 0, none⟩), .int .i64 id] w (DrawW5 w cu (m + 10)) := by
  have hcu := h.lt
  have hD := DrS.start h
  go_enter Try.func72, Try.ntmps72
  go_upto_region 1 with fail
  have hX := BoxW.new w 54 (0, 0, 0, false, 0)
  replace hD := hD.alloc (.cells #[.int .i64 0, .int .i64 0, .int .i64 0, .bool false, .int .i64 0] 54)
  simp only at hX
  generalize w.alloc (.cells #[.int .i64 0, .int .i64 0, .int .i64 0, .bool false, .int .i64 0] 54) = W1 at hX hD ⊢
  go_wp2_with fail
  go_at_call 66
  refine (among0_any cu _ _ _ _ _ (by omega) (by decide) (by decide) (Nat.ne_of_gt hD.cur.lt) (Lits0.new _ _ _ (by rfl) (by rfl)) (hD.cur.alloc _)).mono ?_
  rintro _ w2 ⟨pg, rfl, hc, ht⟩
  replace hD := (hD.alloc _).draw hc ht
  replace hX := (hX.alloc _).tch ht (by omega)
  go_wp2_with fail
  go_at_call 66
  refine (among0_any cu _ _ _ _ _ (by omega) (by decide) (by decide) (Nat.ne_of_gt hD.cur.lt) (Lits0.new _ _ _ (by rfl) (by rfl)) (hD.cur.alloc _)).mono ?_
  rintro _ w3 ⟨pr, rfl, hc, ht⟩
  replace hD := (hD.alloc _).draw hc ht
  replace hX := (hX.alloc _).tch ht (by omega)
  clear hc ht
  go_wp2_with fail
  go_at_call 75
  refine (one_any _ _ _ _ (by omega) (by decide) hD.cur).mono ?_
  rintro _ w4 ⟨pc, rfl, hc, ht⟩
  replace hD := hD.draw hc ht
  replace hX := hX.tch ht (by omega)
  clear hc ht
  go_wp2_with fail
  go_at_call 67
  refine (pick_any _ _ _ _ (by omega) (by decide) hD.cur).mono ?_
  rintro _ w5 ⟨pf, rfl, -, -, hc, ht⟩
  replace hD := hD.draw hc ht
  replace hX := hX.tch ht (by omega)
  clear hc ht
  go_upto_region 2 with fail
  have hY := BoxW.new w5 54 (id, pg, pr, pc, pf)
  simp only at hY
  have hxl := hX.lt
  replace hX := hX.alloc (.cells #[.int .i64 id, .int .i64 pg, .int .i64 pr, .bool pc, .int .i64 pf] 54)
  replace hD := hD.alloc (.cells #[.int .i64 id, .int .i64 pg, .int .i64 pr, .bool pc, .int .i64 pf] 54)
  generalize w5.alloc (.cells #[.int .i64 id, .int .i64 pg, .int .i64 pr, .bool pc, .int .i64 pf] 54) = W6 at hX hY hD ⊢
  generalize hgy : w5.heap.size = gy at hY hxl ⊢
  have hne : gy ≠ w.heap.size := by omega
  have hgc : gy ≠ cu := by omega
  have hgw : w.heap.size ≤ gy := by omega
  clear hgy hxl
  go_wp2_with fail
  go_at_call 67
  refine (pick_any _ _ _ _ (by omega) (by decide) hD.cur).mono ?_
  rintro _ w7 ⟨r, rfl, -, -, hc, ht⟩
  replace hD := hD.draw hc ht
  replace hX := hX.tch ht (by omega)
  replace hY := hY.tch ht hgc
  clear hc ht
  by_cases hr0 : r = 0
  · subst hr0
    go_wp2_with fail
    go_at_call 66
    refine (among0_any cu _ _ _ _ _ (by omega) (by decide) (by decide) (Nat.ne_of_gt hD.cur.lt) (Lits0.new _ _ _ (by rfl) (by rfl)) (hD.cur.alloc _)).mono ?_
    rintro _ w8 ⟨z, rfl, hc, ht⟩
    replace hD := (hD.alloc _).draw hc ht
    replace hX := (hX.alloc _).tch ht (by omega)
    replace hY := (hY.alloc _).tch ht hgc
    clear hc ht
    obtain ⟨x0, x1, x2, x3, x4, x5, x6⟩ := hX
    obtain ⟨y0, y1, y2, y3, y4, y5, y6⟩ := hY
    have z0 := x6 0 (by omega)
    have z1 := x6 1 (by omega)
    have z2 := x6 2 (by omega)
    have z3 := x6 3 (by omega)
    have z4 := x6 4 (by omega)
    have v0 := y6 0 (by omega)
    have v1 := y6 1 (by omega)
    have v2 := y6 2 (by omega)
    have v4 := y6 4 (by omega)
    clear x6 y6
    simp only at x1 x2 x3 x4 x5 y1 y2 y3 y4 y5
    have hD2 := ((((((hD.set (p := ⟨gy, 0, none⟩) hgw (.int .i64 z)).set (p := ⟨w.heap.size, 0, none⟩) (Nat.le_refl _) (.int .i64 z)).set (p := ⟨w.heap.size, 1, none⟩) (Nat.le_refl _) (.int .i64 pg)).set (p := ⟨w.heap.size, 2, none⟩) (Nat.le_refl _) (.int .i64 pr)).set (p := ⟨w.heap.size, 3, none⟩) (Nat.le_refl _) (.bool pc)).set (p := ⟨w.heap.size, 4, none⟩) (Nat.le_refl _) (.int .i64 pf)).more (m' := m + 10) (by omega)
    clear hD
    go_wp2
    refine bodyPost_ret (v := .agg #[.int .i64 z, .int .i64 pg, .int .i64 pr, .bool pc, .int .i64 pf]) (by simp only [results, Try.results72]; go_simp) rfl ⟨(z, pg, pr, pc, pf), rfl, hD2⟩
  have hr0' : (r == 0) = false := by simpa using hr0
  clear hr0
  by_cases hr1 : r = 1
  · subst hr1
    clear hr0'
    go_wp2_with fail
    go_at_call 66
    refine (among0_any cu _ _ _ _ _ (by omega) (by decide) (by decide) (Nat.ne_of_gt hD.cur.lt) (Lits0.new _ _ _ (by rfl) (by rfl)) (hD.cur.alloc _)).mono ?_
    rintro _ w8 ⟨z, rfl, hc, ht⟩
    replace hD := (hD.alloc _).draw hc ht
    replace hX := (hX.alloc _).tch ht (by omega)
    replace hY := (hY.alloc _).tch ht hgc
    clear hc ht
    obtain ⟨x0, x1, x2, x3, x4, x5, x6⟩ := hX
    obtain ⟨y0, y1, y2, y3, y4, y5, y6⟩ := hY
    have z0 := x6 0 (by omega)
    have z1 := x6 1 (by omega)
    have z2 := x6 2 (by omega)
    have z3 := x6 3 (by omega)
    have z4 := x6 4 (by omega)
    have v0 := y6 0 (by omega)
    have v1 := y6 1 (by omega)
    have v2 := y6 2 (by omega)
    have v4 := y6 4 (by omega)
    clear x6 y6
    simp only at x1 x2 x3 x4 x5 y1 y2 y3 y4 y5
    have hD2 := ((((((hD.set (p := ⟨gy, 1, none⟩) hgw (.int .i64 z)).set (p := ⟨w.heap.size, 0, none⟩) (Nat.le_refl _) (.int .i64 id)).set (p := ⟨w.heap.size, 1, none⟩) (Nat.le_refl _) (.int .i64 z)).set (p := ⟨w.heap.size, 2, none⟩) (Nat.le_refl _) (.int .i64 pr)).set (p := ⟨w.heap.size, 3, none⟩) (Nat.le_refl _) (.bool pc)).set (p := ⟨w.heap.size, 4, none⟩) (Nat.le_refl _) (.int .i64 pf)).more (m' := m + 10) (by omega)
    clear hD
    go_wp2
    refine bodyPost_ret (v := .agg #[.int .i64 id, .int .i64 z, .int .i64 pr, .bool pc, .int .i64 pf]) (by simp only [results, Try.results72]; go_simp) rfl ⟨(id, z, pr, pc, pf), rfl, hD2⟩
  have hr1' : (r == 1) = false := by simpa using hr1
  clear hr1
  by_cases hr2 : r = 2
  · subst hr2
    clear hr0' hr1'
    go_wp2_with fail
    go_at_call 66
    refine (among0_any cu _ _ _ _ _ (by omega) (by decide) (by decide) (Nat.ne_of_gt hD.cur.lt) (Lits0.new _ _ _ (by rfl) (by rfl)) (hD.cur.alloc _)).mono ?_
    rintro _ w8 ⟨z, rfl, hc, ht⟩
    replace hD := (hD.alloc _).draw hc ht
    replace hX := (hX.alloc _).tch ht (by omega)
    replace hY := (hY.alloc _).tch ht hgc
    clear hc ht
    obtain ⟨x0, x1, x2, x3, x4, x5, x6⟩ := hX
    obtain ⟨y0, y1, y2, y3, y4, y5, y6⟩ := hY
    have z0 := x6 0 (by omega)
    have z1 := x6 1 (by omega)
    have z2 := x6 2 (by omega)
    have z3 := x6 3 (by omega)
    have z4 := x6 4 (by omega)
    have v0 := y6 0 (by omega)
    have v1 := y6 1 (by omega)
    have v2 := y6 2 (by omega)
    have v4 := y6 4 (by omega)
    clear x6 y6
    simp only at x1 x2 x3 x4 x5 y1 y2 y3 y4 y5
    have hD2 := ((((((hD.set (p := ⟨gy, 2, none⟩) hgw (.int .i64 z)).set (p := ⟨w.heap.size, 0, none⟩) (Nat.le_refl _) (.int .i64 id)).set (p := ⟨w.heap.size, 1, none⟩) (Nat.le_refl _) (.int .i64 pg)).set (p := ⟨w.heap.size, 2, none⟩) (Nat.le_refl _) (.int .i64 z)).set (p := ⟨w.heap.size, 3, none⟩) (Nat.le_refl _) (.bool pc)).set (p := ⟨w.heap.size, 4, none⟩) (Nat.le_refl _) (.int .i64 pf)).more (m' := m + 10) (by omega)
    clear hD
    go_wp2
    refine bodyPost_ret (v := .agg #[.int .i64 id, .int .i64 pg, .int .i64 z, .bool pc, .int .i64 pf]) (by simp only [results, Try.results72]; go_simp) rfl ⟨(id, pg, z, pc, pf), rfl, hD2⟩
  have hr2' : (r == 2) = false := by simpa using hr2
  clear hr2
  by_cases hr3 : r = 3
  · subst hr3
    clear hr0' hr1' hr2'
    go_wp2_with fail
    go_at_call 66
    refine (among0_any cu _ _ _ _ _ (by omega) (by decide) (by decide) (Nat.ne_of_gt hD.cur.lt) (Lits0.new _ _ _ (by rfl) (by rfl)) (hD.cur.alloc _)).mono ?_
    rintro _ w8 ⟨z, rfl, hc, ht⟩
    replace hD := (hD.alloc _).draw hc ht
    replace hX := (hX.alloc _).tch ht (by omega)
    replace hY := (hY.alloc _).tch ht hgc
    clear hc ht
    obtain ⟨x0, x1, x2, x3, x4, x5, x6⟩ := hX
    obtain ⟨y0, y1, y2, y3, y4, y5, y6⟩ := hY
    have z0 := x6 0 (by omega)
    have z1 := x6 1 (by omega)
    have z2 := x6 2 (by omega)
    have z3 := x6 3 (by omega)
    have z4 := x6 4 (by omega)
    have v0 := y6 0 (by omega)
    have v1 := y6 1 (by omega)
    have v2 := y6 2 (by omega)
    have v4 := y6 4 (by omega)
    clear x6 y6
    simp only at x1 x2 x3 x4 x5 y1 y2 y3 y4 y5
    have hD2 := ((((((hD.set (p := ⟨gy, 4, none⟩) hgw (.int .i64 z)).set (p := ⟨w.heap.size, 0, none⟩) (Nat.le_refl _) (.int .i64 id)).set (p := ⟨w.heap.size, 1, none⟩) (Nat.le_refl _) (.int .i64 pg)).set (p := ⟨w.heap.size, 2, none⟩) (Nat.le_refl _) (.int .i64 pr)).set (p := ⟨w.heap.size, 3, none⟩) (Nat.le_refl _) (.bool pc)).set (p := ⟨w.heap.size, 4, none⟩) (Nat.le_refl _) (.int .i64 z)).more (m' := m + 10) (by omega)
    clear hD
    go_wp2
    refine bodyPost_ret (v := .agg #[.int .i64 id, .int .i64 pg, .int .i64 pr, .bool pc, .int .i64 z]) (by simp only [results, Try.results72]; go_simp) rfl ⟨(id, pg, pr, pc, z), rfl, hD2⟩
  have hr3' : (r == 3) = false := by simpa using hr3
  clear hr3
  obtain ⟨x0, x1, x2, x3, x4, x5, x6⟩ := hX
  obtain ⟨y0, y1, y2, y3, y4, y5, y6⟩ := hY
  have z0 := x6 0 (by omega)
  have z1 := x6 1 (by omega)
  have z2 := x6 2 (by omega)
  have z3 := x6 3 (by omega)
  have z4 := x6 4 (by omega)
  have v0 := y6 0 (by omega)
  have v1 := y6 1 (by omega)
  have v2 := y6 2 (by omega)
  have v4 := y6 4 (by omega)
  clear x6 y6
  simp only at x1 x2 x3 x4 x5 y1 y2 y3 y4 y5
  have hD2 := ((((((hD).set (p := ⟨w.heap.size, 0, none⟩) (Nat.le_refl _) (.int .i64 id)).set (p := ⟨w.heap.size, 1, none⟩) (Nat.le_refl _) (.int .i64 pg)).set (p := ⟨w.heap.size, 2, none⟩) (Nat.le_refl _) (.int .i64 pr)).set (p := ⟨w.heap.size, 3, none⟩) (Nat.le_refl _) (.bool pc)).set (p := ⟨w.heap.size, 4, none⟩) (Nat.le_refl _) (.int .i64 pf)).more (m' := m + 10) (by omega)
  clear hD
  go_wp2
  refine bodyPost_ret (v := .agg #[.int .i64 id, .int .i64 pg, .int .i64 pr, .bool pc, .int .i64 pf]) (by simp only [results, Try.results72]; go_simp) rfl ⟨(id, pg, pr, pc, pf), rfl, hD2⟩
theorem info_worker5 : (Try.prog.info? 54).map (fun i => (i.zero, i.size, i.bytes)) = some (some (.agg #[.int .i64 0, .int .i64 0, .int .i64 0, .bool false, .int .i64 0]), 5, 40) := by kernel_rfl
/-- What a draw of workers leaves. -/
def DrawWs (w : World) (cu m : Nat) (e : Ending) (w' : World) : Prop :=
  ∃ A n c F C, e = .returned (.slice A n c) ∧ n ≤ 20 ∧ Ow w' w.heap.size w'.heap.size A n 5 (wkC F C) ∧ DrS w w' cu m
set_option maxRecDepth 20000 in
set_option maxHeartbeats 2000000 in
theorem workers_any (cu m : Nat) (w : World) (hm : m ≤ 1099511500000) (h : Cur w cu m) :
    Calls Try.prog 53 #[.pointer (some ⟨cu, 0, none⟩)] w (DrawWs w cu (m + 1000)) := by
  obtain ⟨i1, hi1, hy0, hy1, hy2⟩ := info_parts info_worker5
  have hcu := h.lt
  have hD := DrS.start h
  go_enter Try.func53, Try.ntmps53
  go_upto_region 2 with fail
  have hR := RowsW.new (w := w) (B := w.heap.size) (e := 54) (Nat.le_refl _)
  replace hD := hD.alloc (.cells #[] 54)
  generalize w.alloc (.cells #[] 54) = W1 at hR hD ⊢
  go_wp2_with fail
  go_at_call 67
  refine (pick_any _ _ _ _ (by omega) (by decide) hD.cur).mono ?_
  rintro _ w3 ⟨N0, rfl, N0a, N0b, hc, ht⟩
  replace hD := hD.draw hc ht
  replace hR := hR.tch ht hcu
  clear hc ht
  rw [if_neg (by decide)] at N0b
  obtain ⟨N1, rfl⟩ : ∃ N1 : Nat, N0 = N1 := ⟨N0.toNat, by omega⟩
  go_wp2
  go_loopw [3, 4, 5] (fun v d n wr => ∃ (k N : Nat) (D : Int), RowsW wr w.heap.size 54 v k ∧ d = .int .i64 D ∧ n = .int .i64 N ∧ k + N ≤ 11 ∧ -(k : Int) ≤ D ∧ D ≤ 10 * k ∧ DrS w wr cu (m + 2 + 20 * k)) (fun _ _ n _ => (intOf n).toNat)
  case atStart => exact ⟨0, N1, 0, hR, rfl, rfl, by omega, by omega, by omega, hD.more (by omega)⟩
  case round =>
    clear hR hD N0a N0b
    obtain ⟨k, N, D, hR, rfl, rfl, hkN, hD0, hD1, hD⟩ := hrel
    have hsz := hD.size
    by_cases hlt : 0 < N
    · obtain ⟨N', rfl⟩ : ∃ N', N = N' + 1 := ⟨N - 1, by omega⟩
      have hd : decide ((0 : Int) < ((N' + 1 : Nat) : Int)) = true := decide_eq_true (by omega)
      go_wp2_with fail
      go_at_call 67
      refine (pick_any _ _ _ _ (by omega) (by decide) hD.cur).mono ?_
      rintro _ w4 ⟨r, rfl, ra, rb, hc, ht⟩
      replace hD := hD.draw hc ht
      replace hR := hR.tch ht hcu
      clear hc ht
      rw [if_neg (by decide)] at rb
      go_wp2_with fail
      go_at_call 67
      refine (pick_any _ _ _ _ (by omega) (by decide) hD.cur).mono ?_
      rintro _ w6 ⟨q, rfl, qa, qb, hc, ht⟩
      replace hD := hD.draw hc ht
      replace hR := hR.tch ht hcu
      clear hc ht
      rw [if_neg (by decide)] at qb
      obtain ⟨q1, q2⟩ : 0 ≤ q / 119 ∧ q / 119 ≤ 1 := by omega
      obtain ⟨E, hE, hE1, hE2⟩ : ∃ E : Int, E = D + 1 + r - q / 119 ∧ -((k : Int) + 1) ≤ E ∧ E ≤ 10 * (k + 1) := ⟨_, rfl, by omega, by omega⟩
      go_upto_region 7 with fail
      rw [← hE]
      clear hE ra rb qa qb q1 q2 hD0 hD1
      have hsz := hD.size
      go_wp2_with fail
      go_at_call 72
      refine (worker_any _ _ _ _ (by omega) hD.cur).mono ?_
      rintro _ w7 ⟨⟨p0, p1, p2, p3, p4⟩, rfl, hDx⟩
      simp only
      have hs7 := hDx.size
      replace hR := hR.tch hDx.tch hcu
      replace hD := hD.trans hDx
      clear hDx
      obtain ⟨l, ho, hl⟩ := hR
      have ho2 := ho.alloc (.cells #[.int .i64 p0, .int .i64 p1, .int .i64 p2, .bool p3, .int .i64 p4] 54)
      go_upto_region 5 with (at_builtin; refine wpList_append_own_at _ rfl _ _ 26 rfl w.heap.size 54 i1 (.agg #[.int .i64 0, .int .i64 0, .int .i64 0, .bool false, .int .i64 0]) 5 40 Try.underlying26 hi1 hy0 hy1 hy2 rfl (by decide) _ k _ rfl ho2 ⟨w7.heap.size, 0, none⟩ 1 1 [.int .i64 p0, .int .i64 p1, .int .i64 p2, .bool p3, .int .i64 p4] rfl rfl (World.news_of_block (cs := #[.int .i64 p0, .int .i64 p1, .int .i64 p2, .bool p3, .int .i64 p4]) (t := 54) (fr := (0, 0)) (heap_alloc_new w7 _)) (by simp [Value.oneCell']) (by simp only [maxLen]; omega) (by omega) (by simp; omega) ?_; intro v5 w5 hown5 hg5 _ _)
      have hR : RowsW w5 w.heap.size 54 v5 (k + 1) := ⟨l ++ [((p0, p1, p2, p3, p4) : Wk5)], by rw [wcL_append]; exact hown5, by simp [hl]⟩
      have hb5 := grown_below ho2 hg5 (by simp; omega)
      replace hD := (hD.alloc (.cells #[.int .i64 p0, .int .i64 p1, .int .i64 p2, .bool p3, .int .i64 p4] 54)).grow hb5
      clear ho ho2 hown5 hg5 hb5
      go_wp2
      go_roundw
      case rel => exact ⟨k + 1, N', E, hR, rfl, by go_num, by omega, by omega, by omega, hD.more (by omega)⟩
      case measure => simp [intOf]
    · obtain rfl : N = 0 := by omega
      have hk : k ≤ 11 := by omega
      replace hD := hD.more (m' := m + 400) (by omega)
      clear hkN hD0 hD1 hlt
      go_wp2_with fail
      go_at_call 75
      refine (one_any _ _ _ _ (by omega) (by decide) hD.cur).mono ?_
      rintro _ w4 ⟨bb, rfl, hc, ht⟩
      replace hD := hD.draw hc ht
      replace hR := hR.tch ht hcu
      clear hc ht
      cases bb
      · obtain ⟨A6, c6, F6, C6, rfl, hO⟩ := hR.out
        go_wp2
        go_ret
        exact ⟨A6, k, c6, F6, C6, rfl, by omega, hO, hD.more (by omega)⟩
      · clear hR
        have hsz := hD.size
        go_upto_region 10 with fail
        have hR := RowsW.new (w := w4) (B := w.heap.size) (e := 54) hsz
        replace hD := hD.alloc (.cells #[] 54)
        generalize w4.alloc (.cells #[] 54) = W5 at hR hD ⊢
        go_wp2
        go_loopw [3, 6] (fun v i wx => ∃ (k : Nat), RowsW wx w.heap.size 54 v k ∧ i = .int .i64 k ∧ k ≤ 13 ∧ DrS w wx cu (m + 410 + 2 * k)) (fun _ i _ => 14 - (intOf i).toNat)
        case atStart => exact ⟨0, hR, rfl, by omega, hD.more (by omega)⟩
        case round =>
          clear hR hD hk
          obtain ⟨k, hR, rfl, hk, hD⟩ := hrel
          have hsz := hD.size
          go_wp2_with fail
          go_at_call 67
          refine (pick_any _ _ _ _ (by omega) (by decide) hD.cur).mono ?_
          rintro _ w6 ⟨r, rfl, ra, rb, hc, ht⟩
          replace hD := hD.draw hc ht
          replace hR := hR.tch ht hcu
          clear hc ht
          rw [if_neg (by decide)] at rb
          by_cases hlt : (k : Int) < 12 + r
          · have hsz := hD.size
            have t1 : 0 ≤ (k : Int) % 3 ∧ (k : Int) % 3 ≤ 2 := by omega
            have t2 : 0 ≤ (k : Int) % 7 ∧ (k : Int) % 7 ≤ 6 := by omega
            obtain ⟨t1a, t1b⟩ := t1
            obtain ⟨l, ho, hl⟩ := hR
            have ho2 := ho.alloc (.cells #[.int .i64 ((k : Int) + 1), .int .i64 (1 + (k : Int) % 3), .int .i64 9, .bool ((k : Int) % 4 == 0), .int .i64 ((k : Int) % 7)] 54)
            go_upto_region 12 with (at_builtin; refine wpList_append_own_at _ rfl _ _ 26 rfl w.heap.size 54 i1 (.agg #[.int .i64 0, .int .i64 0, .int .i64 0, .bool false, .int .i64 0]) 5 40 Try.underlying26 hi1 hy0 hy1 hy2 rfl (by decide) _ k _ rfl ho2 ⟨w6.heap.size, 0, none⟩ 1 1 [.int .i64 ((k : Int) + 1), .int .i64 (1 + (k : Int) % 3), .int .i64 9, .bool ((k : Int) % 4 == 0), .int .i64 ((k : Int) % 7)] rfl rfl (World.news_of_block (cs := #[.int .i64 ((k : Int) + 1), .int .i64 (1 + (k : Int) % 3), .int .i64 9, .bool ((k : Int) % 4 == 0), .int .i64 ((k : Int) % 7)]) (t := 54) (fr := (0, 0)) (heap_alloc_new w6 _)) (by simp [Value.oneCell']) (by simp only [maxLen]; omega) (by omega) (by simp; omega) ?_; intro v5 w5 hown5 hg5 _ _)
            have hR : RowsW w5 w.heap.size 54 v5 (k + 1) := ⟨l ++ [((((k : Int) + 1), (1 + (k : Int) % 3), 9, ((k : Int) % 4 == 0), ((k : Int) % 7)) : Wk5)], by rw [wcL_append]; exact hown5, by simp [hl]⟩
            have hb5 := grown_below ho2 hg5 (by simp; omega)
            replace hD := (hD.alloc (.cells #[.int .i64 ((k : Int) + 1), .int .i64 (1 + (k : Int) % 3), .int .i64 9, .bool ((k : Int) % 4 == 0), .int .i64 ((k : Int) % 7)] 54)).grow hb5
            clear ho ho2 hown5 hg5 hb5
            go_wp2
            go_roundw
            case rel => exact ⟨k + 1, hR, by go_num, by omega, hD.more (by omega)⟩
            case measure => simp [intOf]; omega
          · obtain ⟨A6, c6, F6, C6, rfl, hO⟩ := hR.out
            go_wp2
            go_ret
            exact ⟨A6, k, c6, F6, C6, rfl, by omega, hO, hD.more (by omega)⟩
end Go.Proofs.Ytmblkjnpibcmoaa
