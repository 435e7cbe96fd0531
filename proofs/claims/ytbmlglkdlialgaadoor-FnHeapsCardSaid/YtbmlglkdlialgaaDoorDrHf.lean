/-
  Contracts: the arguments that are drawn for laws on heaps, with ids, grades, tons. Conditions: codes of bytes.
-/
import Derived.Test.YtbmlglkdlialgaaDoorDrHe
namespace Go.Proofs.YtbmlglkdlialgaaDoor
open Go.RowKit

/-- What a draw of heaps and two numbers leaves. -/
def DrawHII (w : World) (e : Ending) (w' : World) : Prop :=
  ∃ A n c H r t, e = .returned (.tuple #[.slice A n c, .int .i64 r, .int .i64 t]) ∧ n ≤ 20 ∧ (∀ i, i < n → (H i).n ≤ 20) ∧ Hp w' w.heap.size w'.heap.size A n H ∧ Below w.heap.size w w'
/-- .. and three. -/
def DrawHIII (w : World) (e : Ending) (w' : World) : Prop :=
  ∃ A n c H r s t, e = .returned (.tuple #[.slice A n c, .int .i64 r, .int .i64 s, .int .i64 t]) ∧ n ≤ 20 ∧ (∀ i, i < n → (H i).n ≤ 20) ∧ Hp w' w.heap.size w'.heap.size A n H ∧ Below w.heap.size w w'
/-- .. of one heap. -/
def DrawH1 (w : World) (e : Ending) (w' : World) : Prop :=
  ∃ (id gr : Int) (A : Option Addr) (n c : Nat) (L : Nat → Nat → Int) (cv : Bool), e = .returned (.agg #[.int .i64 id, .int .i64 gr, .slice A n c, .bool cv]) ∧ n ≤ 20 ∧ Sl w' w.heap.size w'.heap.size A n 1 (ints L) ∧ Below w.heap.size w w'
set_option maxRecDepth 20000 in
set_option maxHeartbeats 2000000 in
theorem DrawTonsOf_any (A : Option Addr) (n c : Nat) (B : Nat → Int) (w : World) (h : CodeR w A n B) :
    Calls Tryd.prog 23 #[.slice A n c] w (DrawHI w) := by
  go_enter Tryd.func23, Tryd.ntmps23
  go_upto_region 2 with fail
  have hC := Cur.new h c 59
  have hbA : Below w.heap.size w (w.alloc (.cells #[.slice A n c, .int .i64 0, .int .u64 0] 59)) := (Below.refl _ _).alloc (Nat.le_refl _) _
  generalize w.alloc (.cells #[.slice A n c, .int .i64 0, .int .u64 0] 59) = W2 at hbA hC ⊢
  have hD := DrS.start hC
  have hcu := hC.lt
  clear hC
  go_wp2_with fail
  go_at_call 34
  refine (heaps_any _ _ _ (by omega) hD.cur).mono ?_
  rintro _ w4 ⟨A5, n5, c5, H5, rfl, hn5, hl5, hH, hDx⟩
  replace hD := hD.trans hDx
  clear hDx
  go_wp2_with fail
  go_at_call 39
  refine (grade7_any _ _ _ (by omega) hD.cur).mono ?_
  rintro _ w5 ⟨r1, rfl, hc, ht⟩
  replace hH := (hH.agr (Tch.agr ht (Nat.le_refl _) (.inr (by omega)))).mono (Nat.le_refl _) ht.size
  replace hD := hD.draw hc ht
  clear hc ht
  have hz := hD.size
  have hbE := hbA.trans (hD.tch.below (by omega) (by omega))
  have hHE := hH.mono (lo' := w.heap.size) (by omega) (Nat.le_refl _)
  clear hH hD hbA
  go_wp2
  refine bodyPost_ret (v := .tuple #[.slice A5 n5 c5, .int .i64 r1]) (by simp only [results, Tryd.results23]; go_simp) rfl ⟨A5, n5, c5, H5, r1, rfl, hn5, hl5, hHE, hbE⟩
set_option maxRecDepth 20000 in
set_option maxHeartbeats 2000000 in
theorem DrawHeapFor_any (A : Option Addr) (n c : Nat) (B : Nat → Int) (w : World) (h : CodeR w A n B) :
    Calls Tryd.prog 18 #[.slice A n c] w (DrawHII w) := by
  go_enter Tryd.func18, Tryd.ntmps18
  go_upto_region 2 with fail
  have hC := Cur.new h c 59
  have hbA : Below w.heap.size w (w.alloc (.cells #[.slice A n c, .int .i64 0, .int .u64 0] 59)) := (Below.refl _ _).alloc (Nat.le_refl _) _
  generalize w.alloc (.cells #[.slice A n c, .int .i64 0, .int .u64 0] 59) = W2 at hbA hC ⊢
  have hD := DrS.start hC
  have hcu := hC.lt
  clear hC
  go_wp2_with fail
  go_at_call 34
  refine (heaps_any _ _ _ (by omega) hD.cur).mono ?_
  rintro _ w4 ⟨A5, n5, c5, H5, rfl, hn5, hl5, hH, hDx⟩
  replace hD := hD.trans hDx
  clear hDx
  go_wp2_with fail
  go_at_call 39
  refine (grade7_any _ _ _ (by omega) hD.cur).mono ?_
  rintro _ w5 ⟨r1, rfl, hc, ht⟩
  replace hH := (hH.agr (Tch.agr ht (Nat.le_refl _) (.inr (by omega)))).mono (Nat.le_refl _) ht.size
  replace hD := hD.draw hc ht
  clear hc ht
  go_wp2_with fail
  go_at_call 37
  refine (tons7_any _ _ _ (by omega) hD.cur).mono ?_
  rintro _ w6 ⟨r2, rfl, hc, ht⟩
  replace hH := (hH.agr (Tch.agr ht (Nat.le_refl _) (.inr (by omega)))).mono (Nat.le_refl _) ht.size
  replace hD := hD.draw hc ht
  clear hc ht
  have hz := hD.size
  have hbE := hbA.trans (hD.tch.below (by omega) (by omega))
  have hHE := hH.mono (lo' := w.heap.size) (by omega) (Nat.le_refl _)
  clear hH hD hbA
  go_wp2
  refine bodyPost_ret (v := .tuple #[.slice A5 n5 c5, .int .i64 r1, .int .i64 r2]) (by simp only [results, Tryd.results18]; go_simp) rfl ⟨A5, n5, c5, H5, r1, r2, rfl, hn5, hl5, hHE, hbE⟩
set_option maxRecDepth 20000 in
set_option maxHeartbeats 4000000 in
theorem DrawPutLayer_any (A : Option Addr) (n c : Nat) (B : Nat → Int) (w : World) (h : CodeR w A n B) :
    Calls Tryd.prog 11 #[.slice A n c] w (DrawHIII w) := by
  go_enter Tryd.func11, Tryd.ntmps11
  go_upto_region 2 with fail
  have hC := Cur.new h c 59
  have hbA : Below w.heap.size w (w.alloc (.cells #[.slice A n c, .int .i64 0, .int .u64 0] 59)) := (Below.refl _ _).alloc (Nat.le_refl _) _
  generalize w.alloc (.cells #[.slice A n c, .int .i64 0, .int .u64 0] 59) = W2 at hbA hC ⊢
  have hD := DrS.start hC
  have hcu := hC.lt
  clear hC
  go_wp2_with fail
  go_at_call 34
  refine (heaps_any _ _ _ (by omega) hD.cur).mono ?_
  rintro _ w4 ⟨A5, n5, c5, H5, rfl, hn5, hl5, hH, hDx⟩
  replace hD := hD.trans hDx
  clear hDx
  by_cases h0 : n5 = 0
  · subst h0
    go_wp2_with fail
    go_at_call 38
    refine (heapId_any _ _ _ _ _ _ _ _ (by omega) hn5 hcu hH hD.cur).mono ?_
    rintro _ v1 ⟨r1, rfl, hc, ht⟩
    replace hH := (hH.agr (Tch.agr ht (Nat.le_refl _) (.inr (by omega)))).mono (Nat.le_refl _) ht.size
    replace hD := hD.draw hc ht
    clear hc ht
    go_wp2_with fail
    go_at_call 39
    refine (grade7_any _ _ _ (by omega) hD.cur).mono ?_
    rintro _ v2 ⟨r2, rfl, hc, ht⟩
    replace hH := (hH.agr (Tch.agr ht (Nat.le_refl _) (.inr (by omega)))).mono (Nat.le_refl _) ht.size
    replace hD := hD.draw hc ht
    clear hc ht
    go_wp2_with fail
    go_at_call 37
    refine (tons7_any _ _ _ (by omega) hD.cur).mono ?_
    rintro _ v3 ⟨r3, rfl, hc, ht⟩
    replace hH := (hH.agr (Tch.agr ht (Nat.le_refl _) (.inr (by omega)))).mono (Nat.le_refl _) ht.size
    replace hD := hD.draw hc ht
    clear hc ht
    have hz := hD.size
    have hbE := hbA.trans (hD.tch.below (by omega) (by omega))
    have hHE := hH.mono (lo' := w.heap.size) (by omega) (Nat.le_refl _)
    clear hH hD hbA
    go_wp2
    refine bodyPost_ret (v := .tuple #[.slice A5 0 c5, .int .i64 r1, .int .i64 r2, .int .i64 r3]) (by simp only [results, Tryd.results11]; go_simp) rfl ⟨A5, 0, c5, H5, r1, r2, r3, rfl, hn5, hl5, hHE, hbE⟩
  · have hd : decide ((0 : Int) < n5) = true := decide_eq_true (by omega)
    go_wp2_with fail
    go_at_call 35
    refine (one_any _ _ _ _ (by omega) (by decide) hD.cur).mono ?_
    rintro _ w5 ⟨bb, rfl, hc, ht⟩
    replace hH := (hH.agr (Tch.agr ht (Nat.le_refl _) (.inr (by omega)))).mono (Nat.le_refl _) ht.size
    replace hD := hD.draw hc ht
    clear hc ht
    cases bb
    rotate_left
    · go_wp2_with fail
      go_at_call 38
      refine (heapId_any _ _ _ _ _ _ _ _ (by omega) hn5 hcu hH hD.cur).mono ?_
      rintro _ v1 ⟨r1, rfl, hc, ht⟩
      replace hH := (hH.agr (Tch.agr ht (Nat.le_refl _) (.inr (by omega)))).mono (Nat.le_refl _) ht.size
      replace hD := hD.draw hc ht
      clear hc ht
      go_wp2_with fail
      go_at_call 39
      refine (grade7_any _ _ _ (by omega) hD.cur).mono ?_
      rintro _ v2 ⟨r2, rfl, hc, ht⟩
      replace hH := (hH.agr (Tch.agr ht (Nat.le_refl _) (.inr (by omega)))).mono (Nat.le_refl _) ht.size
      replace hD := hD.draw hc ht
      clear hc ht
      go_wp2_with fail
      go_at_call 37
      refine (tons7_any _ _ _ (by omega) hD.cur).mono ?_
      rintro _ v3 ⟨r3, rfl, hc, ht⟩
      replace hH := (hH.agr (Tch.agr ht (Nat.le_refl _) (.inr (by omega)))).mono (Nat.le_refl _) ht.size
      replace hD := hD.draw hc ht
      clear hc ht
      have hz := hD.size
      have hbE := hbA.trans (hD.tch.below (by omega) (by omega))
      have hHE := hH.mono (lo' := w.heap.size) (by omega) (Nat.le_refl _)
      clear hH hD hbA
      go_wp2
      refine bodyPost_ret (v := .tuple #[.slice A5 n5 c5, .int .i64 r1, .int .i64 r2, .int .i64 r3]) (by simp only [results, Tryd.results11]; go_simp) rfl ⟨A5, n5, c5, H5, r1, r2, r3, rfl, hn5, hl5, hHE, hbE⟩
    · go_wp2_with fail
      go_at_call 36
      refine (pick_any _ _ _ _ (by omega) (by omega) hD.cur).mono ?_
      rintro _ w6 ⟨q, rfl, qa, qb, hc, ht⟩
      replace hH := (hH.agr (Tch.agr ht (Nat.le_refl _) (.inr (by omega)))).mono (Nat.le_refl _) ht.size
      replace hD := hD.draw hc ht
      clear hc ht
      have qn : q < n5 := by split at qb <;> omega
      clear qb
      obtain ⟨k, rfl⟩ : ∃ k : Nat, q = k := ⟨q.toNat, by omega⟩
      have hk : k < n5 := by omega
      have hlk := hl5 k hk
      have hH0 := hH
      obtain ⟨Bf, cf, hS, hL⟩ := hH0
      have hLk := (hL k hk).1
      obtain ⟨b, off, rfl, hbw, hcc⟩ := hp_at (Sl.mono hS (Nat.zero_le _) (Nat.le_refl _)) (Below.refl _ _) (by omega)
      obtain ⟨y0, y1, y2, y3⟩ := hcc k hk
      have hsz6 := hD.size
      clear hcc hS hL qa qn
      go_upto_region 6 with fail
      clear y0 y1 y2 y3
      have hX := Box4.new w6 28 (.int .i64 (H5 k).id) (.int .i64 (H5 k).gr) (.slice (Bf k) (H5 k).n (cf k)) (.bool (H5 k).cov)
      have hbx : Below w6.heap.size w6 (w6.alloc (.cells #[.int .i64 (H5 k).id, .int .i64 (H5 k).gr, .slice (Bf k) (H5 k).n (cf k), .bool (H5 k).cov] 28)) := (Below.refl _ _).alloc (Nat.le_refl _) _
      replace hD := hD.alloc (.cells #[.int .i64 (H5 k).id, .int .i64 (H5 k).gr, .slice (Bf k) (H5 k).n (cf k), .bool (H5 k).cov] 28)
      replace hH := (hH.agr (Below.agr hbx (Nat.le_refl _))).mono (Nat.le_refl _) hbx.size
      replace hLk := (hLk.agr (Below.agr hbx (Nat.le_refl _))).mono (Nat.le_refl _) hbx.size
      clear hbx
      have hgB : w.heap.size < w6.heap.size := by omega
      generalize w6.alloc (.cells #[.int .i64 (H5 k).id, .int .i64 (H5 k).gr, .slice (Bf k) (H5 k).n (cf k), .bool (H5 k).cov] 28) = W at hX hD hH hLk ⊢
      generalize w6.heap.size = gB at hX hgB ⊢
      obtain ⟨xl, x0, x1, x2, x3, -, -, -, -⟩ := hX
      have hsW := hD.size
      have d0 := fun (w' : World) (ht : Tch w.heap.size (w.heap.size + 1) W w') => (ht.cell_ne (p := ⟨gB, 0, none⟩) xl (by show ¬(w.heap.size ≤ gB ∧ gB < w.heap.size + 1); omega)).trans x0
      have d1 := fun (w' : World) (ht : Tch w.heap.size (w.heap.size + 1) W w') => (ht.cell_ne (p := ⟨gB, 1, none⟩) xl (by show ¬(w.heap.size ≤ gB ∧ gB < w.heap.size + 1); omega)).trans x1
      clear x0 x1 x2 x3 hLk hd h0
      go_region_held3 (fun w' => Tch w.heap.size (w.heap.size + 1) W w') (repeat' (first | exact Tch.refl _ _ _ | assumption | refine Tch.drew ?_ | refine Tch.alloc ?_ _)) (first | (go_at_call 37; refine (tons7_any _ _ _ (by omega) (Cur.below hD.cur (by (repeat' (first | exact Below.refl _ _ | assumption | refine Below.drew ?_ | refine Below.alloc ?_ (by first | omega | exact Below.size (by assumption) | (simp; done) | (simp; omega)) _ | refine Below.setCell ?_ (by first | omega | exact Below.size (by assumption) | (simp; done) | (simp; omega)) _))))).mono ?_; rintro _ v1 ⟨r3, rfl, hc1, ht1⟩; have C1 := Tch.trans (by assumption : Tch w.heap.size (w.heap.size + 1) W _) ht1))
      all_goals
        have hbE := hbA.trans ((hD.tch.trans C1).below (by omega) (by omega))
        have hHE := ((hH.agr (Tch.agr C1 (Nat.le_refl _) (.inr (by omega)))).mono (Nat.le_refl _) C1.size).mono (lo' := w.heap.size) (by omega) (Nat.le_refl _)
        clear hH hD hbA d0 d1 hc1 ht1
        go_wp2
        refine bodyPost_ret (v := .tuple #[.slice _ n5 c5, .int .i64 (H5 k).id, .int .i64 (H5 k).gr, .int .i64 r3]) (by simp only [results, Tryd.results11]; go_simp) rfl ⟨_, n5, c5, H5, _, _, r3, rfl, hn5, hl5, hHE, hbE⟩
set_option maxRecDepth 20000 in
set_option maxHeartbeats 4000000 in
theorem DrawTakeTons_any (A : Option Addr) (n c : Nat) (B : Nat → Int) (w : World) (h : CodeR w A n B) :
    Calls Tryd.prog 21 #[.slice A n c] w (DrawHII w) := by
  go_enter Tryd.func21, Tryd.ntmps21
  go_upto_region 2 with fail
  have hC := Cur.new h c 59
  have hbA : Below w.heap.size w (w.alloc (.cells #[.slice A n c, .int .i64 0, .int .u64 0] 59)) := (Below.refl _ _).alloc (Nat.le_refl _) _
  generalize w.alloc (.cells #[.slice A n c, .int .i64 0, .int .u64 0] 59) = W2 at hbA hC ⊢
  have hD := DrS.start hC
  have hcu := hC.lt
  clear hC
  go_wp2_with fail
  go_at_call 34
  refine (heaps_any _ _ _ (by omega) hD.cur).mono ?_
  rintro _ w4 ⟨A5, n5, c5, H5, rfl, hn5, hl5, hH, hDx⟩
  replace hD := hD.trans hDx
  clear hDx
  by_cases h0 : n5 = 0
  · subst h0
    go_wp2_with fail
    go_at_call 38
    refine (heapId_any _ _ _ _ _ _ _ _ (by omega) hn5 hcu hH hD.cur).mono ?_
    rintro _ v1 ⟨r1, rfl, hc, ht⟩
    replace hH := (hH.agr (Tch.agr ht (Nat.le_refl _) (.inr (by omega)))).mono (Nat.le_refl _) ht.size
    replace hD := hD.draw hc ht
    clear hc ht
    go_wp2_with fail
    go_at_call 57
    refine (among0_any w.heap.size _ _ _ _ _ (by omega) (by decide) (by decide) (Nat.ne_of_gt hD.cur.lt) (Lits0.new _ _ _ (by rfl) (by rfl)) (hD.cur.alloc _)).mono ?_
    rintro _ v2 ⟨r2, rfl, hc, ht⟩
    replace hH := ((hH.agr (Below.agr ((Below.refl v1.heap.size v1).alloc (Nat.le_refl _) _) (Nat.le_refl _))).agr (Tch.agr ht (by simp) (.inr (by omega)))).mono (hi' := v2.heap.size) (Nat.le_refl _) (by have := ht.size; simp at this; omega)
    replace hD := (hD.alloc _).draw hc ht
    clear hc ht
    have hz := hD.size
    have hbE := hbA.trans (hD.tch.below (by omega) (by omega))
    have hHE := hH.mono (lo' := w.heap.size) (by omega) (Nat.le_refl _)
    clear hH hD hbA
    go_wp2
    refine bodyPost_ret (v := .tuple #[.slice A5 0 c5, .int .i64 r1, .int .i64 r2]) (by simp only [results, Tryd.results21]; go_simp) rfl ⟨A5, 0, c5, H5, r1, r2, rfl, hn5, hl5, hHE, hbE⟩
  · have hd : decide ((0 : Int) < n5) = true := decide_eq_true (by omega)
    go_wp2_with fail
    go_at_call 35
    refine (one_any _ _ _ _ (by omega) (by decide) hD.cur).mono ?_
    rintro _ w5 ⟨bb, rfl, hc, ht⟩
    replace hH := (hH.agr (Tch.agr ht (Nat.le_refl _) (.inr (by omega)))).mono (Nat.le_refl _) ht.size
    replace hD := hD.draw hc ht
    clear hc ht
    cases bb
    rotate_left
    · go_wp2_with fail
      go_at_call 38
      refine (heapId_any _ _ _ _ _ _ _ _ (by omega) hn5 hcu hH hD.cur).mono ?_
      rintro _ v1 ⟨r1, rfl, hc, ht⟩
      replace hH := (hH.agr (Tch.agr ht (Nat.le_refl _) (.inr (by omega)))).mono (Nat.le_refl _) ht.size
      replace hD := hD.draw hc ht
      clear hc ht
      go_wp2_with fail
      go_at_call 57
      refine (among0_any w.heap.size _ _ _ _ _ (by omega) (by decide) (by decide) (Nat.ne_of_gt hD.cur.lt) (Lits0.new _ _ _ (by rfl) (by rfl)) (hD.cur.alloc _)).mono ?_
      rintro _ v2 ⟨r2, rfl, hc, ht⟩
      replace hH := ((hH.agr (Below.agr ((Below.refl v1.heap.size v1).alloc (Nat.le_refl _) _) (Nat.le_refl _))).agr (Tch.agr ht (by simp) (.inr (by omega)))).mono (hi' := v2.heap.size) (Nat.le_refl _) (by have := ht.size; simp at this; omega)
      replace hD := (hD.alloc _).draw hc ht
      clear hc ht
      have hz := hD.size
      have hbE := hbA.trans (hD.tch.below (by omega) (by omega))
      have hHE := hH.mono (lo' := w.heap.size) (by omega) (Nat.le_refl _)
      clear hH hD hbA
      go_wp2
      refine bodyPost_ret (v := .tuple #[.slice A5 n5 c5, .int .i64 r1, .int .i64 r2]) (by simp only [results, Tryd.results21]; go_simp) rfl ⟨A5, n5, c5, H5, r1, r2, rfl, hn5, hl5, hHE, hbE⟩
    · go_wp2_with fail
      go_at_call 36
      refine (pick_any _ _ _ _ (by omega) (by omega) hD.cur).mono ?_
      rintro _ w6 ⟨q, rfl, qa, qb, hc, ht⟩
      replace hH := (hH.agr (Tch.agr ht (Nat.le_refl _) (.inr (by omega)))).mono (Nat.le_refl _) ht.size
      replace hD := hD.draw hc ht
      clear hc ht
      have qn : q < n5 := by split at qb <;> omega
      clear qb
      obtain ⟨k, rfl⟩ : ∃ k : Nat, q = k := ⟨q.toNat, by omega⟩
      have hk : k < n5 := by omega
      have hlk := hl5 k hk
      have hH0 := hH
      obtain ⟨Bf, cf, hS, hL⟩ := hH0
      have hLk := (hL k hk).1
      obtain ⟨b, off, rfl, hbw, hcc⟩ := hp_at (Sl.mono hS (Nat.zero_le _) (Nat.le_refl _)) (Below.refl _ _) (by omega)
      obtain ⟨y0, y1, y2, y3⟩ := hcc k hk
      have hsz6 := hD.size
      clear hcc hS hL qa qn
      go_upto_region 6 with fail
      clear y0 y1 y2 y3
      have hX := Box4.new w6 28 (.int .i64 (H5 k).id) (.int .i64 (H5 k).gr) (.slice (Bf k) (H5 k).n (cf k)) (.bool (H5 k).cov)
      have hbx : Below w6.heap.size w6 (w6.alloc (.cells #[.int .i64 (H5 k).id, .int .i64 (H5 k).gr, .slice (Bf k) (H5 k).n (cf k), .bool (H5 k).cov] 28)) := (Below.refl _ _).alloc (Nat.le_refl _) _
      replace hD := hD.alloc (.cells #[.int .i64 (H5 k).id, .int .i64 (H5 k).gr, .slice (Bf k) (H5 k).n (cf k), .bool (H5 k).cov] 28)
      replace hH := (hH.agr (Below.agr hbx (Nat.le_refl _))).mono (Nat.le_refl _) hbx.size
      replace hLk := (hLk.agr (Below.agr hbx (Nat.le_refl _))).mono (Nat.le_refl _) hbx.size
      clear hbx
      have hgB : w.heap.size < w6.heap.size := by omega
      generalize w6.alloc (.cells #[.int .i64 (H5 k).id, .int .i64 (H5 k).gr, .slice (Bf k) (H5 k).n (cf k), .bool (H5 k).cov] 28) = W at hX hD hH hLk ⊢
      generalize w6.heap.size = gB at hX hgB ⊢
      obtain ⟨xl, x0, x1, x2, x3, -, -, -, -⟩ := hX
      have hsW := hD.size
      have hs0 : DrS W W w.heap.size 9000 := DrS.start (hD.cur.more (by omega))
      have d0 := fun (w' : World) (hs : Tch w.heap.size (w.heap.size + 1) W w') => (hs.cell_ne (p := ⟨gB, 0, none⟩) xl (by show ¬(w.heap.size ≤ gB ∧ gB < w.heap.size + 1); omega)).trans x0
      have d1 := fun (w' : World) (hs : Tch w.heap.size (w.heap.size + 1) W w') => (hs.cell_ne (p := ⟨gB, 1, none⟩) xl (by show ¬(w.heap.size ≤ gB ∧ gB < w.heap.size + 1); omega)).trans x1
      have d2 := fun (w' : World) (hs : Tch w.heap.size (w.heap.size + 1) W w') => (hs.cell_ne (p := ⟨gB, 2, none⟩) xl (by show ¬(w.heap.size ≤ gB ∧ gB < w.heap.size + 1); omega)).trans x2
      have d3 := fun (w' : World) (hs : Tch w.heap.size (w.heap.size + 1) W w') => (hs.cell_ne (p := ⟨gB, 3, none⟩) xl (by show ¬(w.heap.size ≤ gB ∧ gB < w.heap.size + 1); omega)).trans x3
      have dl := fun (w' : World) (hs : Tch w.heap.size (w.heap.size + 1) W w') => ((hLk.agr (Tch.agr hs (Nat.le_refl _) (.inr (by omega)))).mono (Nat.zero_le _) hs.size : Rd w' (Bf k) (H5 k).n 1 (ints (H5 k).L))
      clear x0 x1 x2 x3 hLk hd h0
      go_region_held3 (fun w' => Tch w.heap.size (w.heap.size + 1) W w') (repeat' (first | exact Tch.refl _ _ _ | assumption | refine Tch.drew ?_ | refine Tch.alloc ?_ _)) (first | (go_at_call 58; refine (l7Tons0_any _ _ _ _ _ _ _ _ (by omega) (dl _ (by assumption))).mono ?_; rintro _ v1 ⟨⟨z1, rfl⟩, hb1⟩; have S1 := DrS.then (w0 := W) (cu := w.heap.size) (m := 9000) (by repeat' (first | assumption | refine DrS.drew ?_ | refine DrS.alloc ?_ _)) hb1; have C1 := S1.tch; have z2 : w.heap.size < v1.heap.size := S1.cur.lt) | (go_at_call 57; refine (among0_any w.heap.size 9000 _ 6 _ _ (by omega) (by decide) (by decide) (by first | omega | (simp; done) | (simp; omega)) (by (first | ((with_reducible refine Lits0.drew ?_); (first | ((with_reducible refine Lits0.new' _ _ _ ?hg ?hn ?ha); (case hg => (first | with_reducible rfl | (simp; done))); (case hn => rfl); (case ha => rfl)) | ((with_reducible refine Lits0.alloc ?_ _); ((with_reducible refine Lits0.new' _ _ _ ?hg ?hn ?ha); (case hg => (first | with_reducible rfl | (simp; done))); (case hn => rfl); (case ha => rfl))))) | (first | ((with_reducible refine Lits0.new' _ _ _ ?hg ?hn ?ha); (case hg => (first | with_reducible rfl | (simp; done))); (case hn => rfl); (case ha => rfl)) | ((with_reducible refine Lits0.alloc ?_ _); ((with_reducible refine Lits0.new' _ _ _ ?hg ?hn ?ha); (case hg => (first | with_reducible rfl | (simp; done))); (case hn => rfl); (case ha => rfl)))))) (DrS.cur (w0 := W) (m := 9000) (by repeat' (first | assumption | refine DrS.drew ?_ | refine DrS.alloc ?_ _)))).mono ?_; rintro _ v3 ⟨r2, rfl, hc3, ht3⟩; have C3 := (DrS.draw (w0 := W) (m := 9000) (by repeat' (first | assumption | refine DrS.drew ?_ | refine DrS.alloc ?_ _)) hc3 ht3).tch))
      all_goals
        have hbE := hbA.trans ((hD.tch.trans C3).below (by omega) (by omega))
        have hHE := ((hH.agr (Tch.agr C3 (Nat.le_refl _) (.inr (by omega)))).mono (Nat.le_refl _) C3.size).mono (lo' := w.heap.size) (by omega) (Nat.le_refl _)
        clear hH hD hbA d0 d1 d2 d3 dl hc3 ht3 hs0
        go_wp2
        refine bodyPost_ret (v := .tuple #[.slice _ n5 c5, .int .i64 (H5 k).id, .int .i64 r2]) (by simp only [results, Tryd.results21]; go_simp) rfl ⟨_, n5, c5, H5, _, r2, rfl, hn5, hl5, hHE, hbE⟩
theorem agr_set4 (wx : World) (g lo hi : Nat) (a b c d : Value) (hg : g < lo) : Agr lo hi wx ((((wx.setCell ⟨g, 0, none⟩ a).setCell ⟨g, 1, none⟩ b).setCell ⟨g, 2, none⟩ c).setCell ⟨g, 3, none⟩ d) := fun q h1 h2 =>
  (Below.heap_setCell _ _ _ _ (by show q ≠ g; omega)).trans ((Below.heap_setCell _ _ _ _ (by show q ≠ g; omega)).trans ((Below.heap_setCell _ _ _ _ (by show q ≠ g; omega)).trans (Below.heap_setCell _ _ _ _ (by show q ≠ g; omega))))
theorem below_set4 {w wx : World} {g : Nat} (hb : Below w.heap.size w wx) (hg : w.heap.size ≤ g) (a b c d : Value) : Below w.heap.size w ((((wx.setCell ⟨g, 0, none⟩ a).setCell ⟨g, 1, none⟩ b).setCell ⟨g, 2, none⟩ c).setCell ⟨g, 3, none⟩ d) :=
  (((hb.setCell (p := ⟨g, 0, none⟩) hg a).setCell (p := ⟨g, 1, none⟩) hg b).setCell (p := ⟨g, 2, none⟩) hg c).setCell (p := ⟨g, 3, none⟩) hg d
set_option maxRecDepth 20000 in
set_option maxHeartbeats 2000000 in
theorem DrawIsHeap_any (A : Option Addr) (n c : Nat) (B : Nat → Int) (w : World) (h : CodeR w A n B) :
    Calls Tryd.prog 60 #[.slice A n c] w (DrawH1 w) := by
  go_enter Tryd.func60, Tryd.ntmps60
  go_upto_region 1 with fail
  have hX := Box4.new w 28 (.int .i64 0) (.int .i64 0) (.slice none 0 0) (.bool false)
  have hb0 : Below w.heap.size w (w.alloc (.cells #[.int .i64 0, .int .i64 0, .slice none 0 0, .bool false] 28)) := (Below.refl _ _).alloc (Nat.le_refl _) _
  have hz0 : w.heap.size < (w.alloc (.cells #[.int .i64 0, .int .i64 0, .slice none 0 0, .bool false] 28)).heap.size := by simp
  have h2 := h.below hb0
  generalize w.alloc (.cells #[.int .i64 0, .int .i64 0, .slice none 0 0, .bool false] 28) = W1 at hX hb0 hz0 h2 ⊢
  go_upto_region 2 with fail
  have hC := Cur.new h2 c 59
  have hbA : Below W1.heap.size W1 (W1.alloc (.cells #[.slice A n c, .int .i64 0, .int .u64 0] 59)) := (Below.refl _ _).alloc (Nat.le_refl _) _
  replace hX := hX.alloc (.cells #[.slice A n c, .int .i64 0, .int .u64 0] 59)
  generalize W1.alloc (.cells #[.slice A n c, .int .i64 0, .int .u64 0] 59) = W2 at hbA hC hX ⊢
  have hD := DrS.start hC
  have hcu := hC.lt
  clear hC
  go_wp2_with fail
  go_at_call 57
  refine (among0_any _ _ _ _ _ _ (by omega) (by decide) (by decide) (Nat.ne_of_gt hD.cur.lt) (Lits0.new _ _ _ (by rfl) (by rfl)) (hD.cur.alloc _)).mono ?_
  rintro _ w3 ⟨i0, rfl, hc, ht⟩
  replace hX := (hX.alloc _).tch ht (by omega)
  replace hD := (hD.alloc _).draw hc ht
  clear hc ht
  have hz3 := hD.size
  go_wp2_with fail
  go_at_call 64
  refine (heap_any _ _ _ _ (by omega) hD.cur).mono ?_
  rintro _ w4 ⟨id, gr, A5, n5, c5, L5, cv, rfl, hn5, hO, hDx⟩
  replace hX := hX.tch hDx.tch (by omega)
  replace hD := hD.trans hDx
  clear hDx
  have hz4 := hD.size
  have hbE := hb0.trans ((hbA.trans (hD.tch.below (Nat.le_refl _) (by omega))).mono (by omega))
  replace hO := hO.sl.mono (lo' := W1.heap.size) (by omega) (Nat.le_refl _)
  obtain ⟨x0, x1, x2, x3, x4, x5, x6, x7, x8⟩ := hX
  have hO2 := (hO.agr (agr_set4 w4 w.heap.size W1.heap.size w4.heap.size (.int .i64 id) (.int .i64 gr) (.slice A5 n5 c5) (.bool cv) (by omega))).mono (lo' := w.heap.size) (hi' := w4.heap.size) (by omega) (Nat.le_refl _)
  have hb2 := below_set4 hbE (Nat.le_refl _) (.int .i64 id) (.int .i64 gr) (.slice A5 n5 c5) (.bool cv)
  clear hO hbE
  go_wp2
  refine bodyPost_ret (v := .agg #[.int .i64 id, .int .i64 gr, .slice A5 n5 c5, .bool cv]) (by simp only [results, Tryd.results60]; go_simp) rfl ⟨id, gr, A5, n5, c5, L5, cv, rfl, hn5, by simpa using hO2, hb2⟩
set_option maxRecDepth 20000 in
set_option maxHeartbeats 2000000 in
theorem DrawHeapText_any (A : Option Addr) (n c : Nat) (B : Nat → Int) (w : World) (h : CodeR w A n B) :
    Calls Tryd.prog 25 #[.slice A n c] w (DrawH1 w) := by
  go_enter Tryd.func25, Tryd.ntmps25
  go_upto_region 1 with fail
  have hX := Box4.new w 28 (.int .i64 0) (.int .i64 0) (.slice none 0 0) (.bool false)
  have hb0 : Below w.heap.size w (w.alloc (.cells #[.int .i64 0, .int .i64 0, .slice none 0 0, .bool false] 28)) := (Below.refl _ _).alloc (Nat.le_refl _) _
  have hz0 : w.heap.size < (w.alloc (.cells #[.int .i64 0, .int .i64 0, .slice none 0 0, .bool false] 28)).heap.size := by simp
  have h2 := h.below hb0
  generalize w.alloc (.cells #[.int .i64 0, .int .i64 0, .slice none 0 0, .bool false] 28) = W1 at hX hb0 hz0 h2 ⊢
  go_wp2_with fail
  go_at_call 60
  refine (DrawIsHeap_any _ _ _ _ _ h2).mono ?_
  rintro _ w4 ⟨id, gr, A5, n5, c5, L5, cv, rfl, hn5, hO, hb⟩
  replace hX := hX.below hb
  have hbE := hb0.trans (hb.mono (by omega))
  obtain ⟨x0, x1, x2, x3, x4, x5, x6, x7, x8⟩ := hX
  have hO2 := (hO.agr (agr_set4 w4 w.heap.size W1.heap.size w4.heap.size (.int .i64 id) (.int .i64 gr) (.slice A5 n5 c5) (.bool cv) (by omega))).mono (lo' := w.heap.size) (hi' := w4.heap.size) (by omega) (Nat.le_refl _)
  have hb2 := below_set4 hbE (Nat.le_refl _) (.int .i64 id) (.int .i64 gr) (.slice A5 n5 c5) (.bool cv)
  clear hO hbE
  go_wp2
  refine bodyPost_ret (v := .agg #[.int .i64 id, .int .i64 gr, .slice A5 n5 c5, .bool cv]) (by simp only [results, Tryd.results25]; go_simp) rfl ⟨id, gr, A5, n5, c5, L5, cv, rfl, hn5, by simpa using hO2, hb2⟩
end Go.Proofs.YtbmlglkdlialgaaDoor
