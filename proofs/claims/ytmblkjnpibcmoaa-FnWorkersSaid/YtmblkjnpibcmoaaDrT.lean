/-
  Contracts: the arguments that are drawn for the law FnWorkers. Conditions: codes of bytes.
-/
import Derived.Test.YtmblkjnpibcmoaaDrR
namespace Go.Proofs.Ytmblkjnpibcmoaa
open Go.RowKit

set_option maxHeartbeats 1000000 in
theorem DrawPutInGang_any (A : Option Addr) (n c : Nat) (B : Nat → Int) (w : World) (h : CodeR w A n B) :
    Calls Try.prog 36 #[.slice A n c] w (DrawN2 w) := by
  go_enter Try.func36, Try.ntmps36
  go_upto_region 2 with fail
  have hC := Cur.new h c 68
  have hbA : Below w.heap.size w (w.alloc (.cells #[.slice A n c, .int .i64 0, .int .u64 0] 68)) := (Below.refl _ _).alloc (Nat.le_refl _) _
  generalize w.alloc (.cells #[.slice A n c, .int .i64 0, .int .u64 0] 68) = W2 at hbA hC ⊢
  have hD := DrS.start hC
  have hcu := hC.lt
  clear hC
  go_wp2_with fail
  go_at_call 53
  refine (workers_any _ _ _ (by omega) hD.cur).mono ?_
  rintro _ w4 ⟨A5, n5, c5, F5, C5, rfl, hn5, hO, hDx⟩
  have hsO := hD.size
  replace hD := hD.trans hDx
  clear hDx
  have hcO : w.heap.size < W2.heap.size := hcu
  go_wp2_with fail
  go_at_call 61
  refine (workerId_any _ _ _ _ _ _ _ _ _ _ (by omega) (by omega) (by omega) (by omega) hO hD.cur).mono ?_
  rintro _ w6 ⟨a, rfl, hc, ht⟩
  have hz_w6 := ht.size
  replace hO := hO.tch ht (by omega) (by omega)
  replace hD := hD.draw hc ht
  clear hc ht
  have hD0 := hD
  go_wp2_with fail
  go_at_call 67
  refine (pick_any _ _ _ _ (by omega) (by decide) (hD.cur.alloc _)).mono ?_
  rintro _ w7 ⟨q, rfl, qa, qb, hc, ht⟩
  have hl := Lits0.tch (n := 6) (Lits0.new _ _ _ (by rfl) (by rfl)) ht (Nat.ne_of_gt hD.cur.lt)
  replace hD := (hD.alloc _).draw hc ht
  have hz7 := ht.size; simp at hz7; replace hO := (hO.alloc (by omega) _).tch ht (by simp; omega) (by omega); clear hc ht
  rw [if_neg (by decide)] at qb
  have hq : q / 11 = 0 ∨ q / 11 = 1 ∨ q / 11 = 2 := by omega
  rcases hq with e | e | e
  all_goals
    go_wp2_with fail
    go_at_call 66
    refine (among0_any _ _ _ _ _ _ (by omega) (by decide) (by decide) (Nat.ne_of_gt hD0.cur.lt) (hl.mono (by omega)) hD.cur).mono ?_
    rintro _ w8 ⟨r, rfl, hc, ht⟩
    have hz8 := ht.size
    replace hO := hO.tch ht (by omega) (by omega)
    replace hD := hD.draw hc ht
    clear hc ht hD0 hl
    have hbE := hbA.trans (hD.tch.below (Nat.le_refl _) (by omega))
    have hsE := hD.size
    have hO' := hO.mono (lo' := w.heap.size) (hi' := (World.heap w8).size) (by omega) (by omega)
    clear hO hD hbA
    go_wp2
    refine bodyPost_ret (v := .tuple #[.slice A5 n5 c5, .int .i64 a, .int .i64 r]) (by simp only [results, Try.results36]; go_simp) rfl ⟨A5, n5, c5, F5, C5, a, r, rfl, hn5, hO', hbE⟩
/-- What a draw of a worker leaves. -/
def DrawOne (w : World) (e : Ending) (w' : World) : Prop :=
  ∃ p : Wk5, e = .returned (.agg #[.int .i64 p.1, .int .i64 p.2.1, .int .i64 p.2.2.1, .bool p.2.2.2.1, .int .i64 p.2.2.2.2]) ∧ Below w.heap.size w w'
set_option maxHeartbeats 1000000 in
theorem DrawIsWorker_any (A : Option Addr) (n c : Nat) (B : Nat → Int) (w : World) (h : CodeR w A n B) :
    Calls Try.prog 39 #[.slice A n c] w (DrawOne w) := by
  go_enter Try.func39, Try.ntmps39
  go_upto_region 1 with fail
  have hX := BoxW.new w 54 (0, 0, 0, false, 0)
  simp only at hX
  have hcd := h.below (w' := w.alloc (.cells #[.int .i64 0, .int .i64 0, .int .i64 0, .bool false, .int .i64 0] 54)) ((Below.refl _ _).alloc (Nat.le_refl _) _)
  have hs1 : (w.alloc (.cells #[.int .i64 0, .int .i64 0, .int .i64 0, .bool false, .int .i64 0] 54)).heap.size = w.heap.size + 1 := by simp
  have hbA : Below w.heap.size w (w.alloc (.cells #[.int .i64 0, .int .i64 0, .int .i64 0, .bool false, .int .i64 0] 54)) := (Below.refl _ _).alloc (Nat.le_refl _) _
  generalize w.alloc (.cells #[.int .i64 0, .int .i64 0, .int .i64 0, .bool false, .int .i64 0] 54) = W1 at hX hcd hs1 hbA ⊢
  go_upto_region 2 with fail
  have hC := Cur.new hcd c 68
  replace hX := hX.alloc (.cells #[.slice A n c, .int .i64 0, .int .u64 0] 68)
  replace hbA := hbA.alloc (show _ ≤ _ by omega) (.cells #[.slice A n c, .int .i64 0, .int .u64 0] 68)
  rw [hs1] at hC
  generalize W1.alloc (.cells #[.slice A n c, .int .i64 0, .int .u64 0] 68) = W2 at hX hbA hC ⊢
  clear hcd
  have hD := DrS.start hC
  have hcu := hC.lt
  clear hC hs1
  go_wp2_with fail
  go_at_call 66
  refine (among0_any _ _ _ _ _ _ (by omega) (by decide) (by decide) (Nat.ne_of_gt hD.cur.lt) (Lits0.new _ _ _ (by rfl) (by rfl)) (hD.cur.alloc _)).mono ?_
  rintro _ w3 ⟨r, rfl, hc, ht⟩
  replace hD := (hD.alloc _).draw hc ht
  replace hX := (hX.alloc _).tch ht (by omega)
  clear hc ht
  go_wp2_with fail
  go_at_call 72
  refine (worker_any _ _ _ _ (by omega) hD.cur).mono ?_
  rintro _ w4 ⟨⟨p0, p1, p2, p3, p4⟩, rfl, hDx⟩
  simp only
  replace hX := hX.tch hDx.tch (by omega)
  replace hD := hD.trans hDx
  clear hDx
  have hbE := (((((hbA.trans (hD.tch.below (by omega) (by omega))).setCell (p := ⟨w.heap.size, 0, none⟩) (Nat.le_refl _) (.int .i64 p0)).setCell (p := ⟨w.heap.size, 1, none⟩) (Nat.le_refl _) (.int .i64 p1)).setCell (p := ⟨w.heap.size, 2, none⟩) (Nat.le_refl _) (.int .i64 p2)).setCell (p := ⟨w.heap.size, 3, none⟩) (Nat.le_refl _) (.bool p3)).setCell (p := ⟨w.heap.size, 4, none⟩) (Nat.le_refl _) (.int .i64 p4)
  obtain ⟨x0, x1, x2, x3, x4, x5, x6⟩ := hX
  have z0 := x6 0 (by omega)
  have z1 := x6 1 (by omega)
  have z2 := x6 2 (by omega)
  have z3 := x6 3 (by omega)
  have z4 := x6 4 (by omega)
  clear x6 hD hbA
  simp only at x1 x2 x3 x4 x5
  go_wp2
  refine bodyPost_ret (v := .agg #[.int .i64 p0, .int .i64 p1, .int .i64 p2, .bool p3, .int .i64 p4]) (by simp only [results, Try.results39]; go_simp) rfl ⟨(p0, p1, p2, p3, p4), rfl, hbE⟩
end Go.Proofs.Ytmblkjnpibcmoaa
