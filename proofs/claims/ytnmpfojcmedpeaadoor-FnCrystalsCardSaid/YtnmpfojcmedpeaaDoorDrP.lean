/-
  Contracts: the arguments that are drawn for AfterDrying. Conditions: codes of bytes.
-/
import Derived.Test.YtnmpfojcmedpeaaDoorDrN
namespace Go.Proofs.YtnmpfojcmedpeaaDoor
open Go.RowKit

theorem Kp.set {g : Nat} {a w : World} (h : Kp g a w) {p : Addr} (hp : p.block ≠ g) (u : Value) : Kp g a (w.setCell p u) := ⟨h.agr.trans fun k h1 h2 => Below.heap_setCell _ _ _ _ (by omega)⟩
set_option maxRecDepth 20000 in
set_option maxHeartbeats 4000000 in
theorem DrawAfterDrying_any (A : Option Addr) (n c : Nat) (B : Nat → Int) (w : World) (h : CodeR w A n B) :
    Calls Tryd.prog 35 #[.slice A n c] w (DrawKLi w) := by
  go_enter Tryd.func35, Tryd.ntmps35
  go_upto_region 1 with fail
  have hX := Box2.new w 27 (.int .i64 0) (.slice none 0 0)
  have hcd := h.below (w' := w.alloc (.cells #[.int .i64 0, .slice none 0 0] 27)) ((Below.refl _ _).alloc (Nat.le_refl _) _)
  have hs1 : (w.alloc (.cells #[.int .i64 0, .slice none 0 0] 27)).heap.size = w.heap.size + 1 := by simp
  have hbA : Below w.heap.size w (w.alloc (.cells #[.int .i64 0, .slice none 0 0] 27)) := (Below.refl _ _).alloc (Nat.le_refl _) _
  generalize w.alloc (.cells #[.int .i64 0, .slice none 0 0] 27) = W1 at hX hcd hs1 hbA ⊢
  go_upto_region 2 with fail
  have hC := Cur.new hcd c 76
  replace hX := hX.alloc (.cells #[.slice A n c, .int .i64 0, .int .u64 0] 76)
  replace hbA := hbA.alloc (show _ ≤ _ by omega) (.cells #[.slice A n c, .int .i64 0, .int .u64 0] 76)
  rw [hs1] at hC
  generalize W1.alloc (.cells #[.slice A n c, .int .i64 0, .int .u64 0] 76) = W2 at hX hbA hC ⊢
  clear hcd
  have hD := DrS.start hC
  have hcu := hC.lt
  clear hC hs1
  go_wp2_with fail
  go_at_call 69
  refine (kinds10_any _ _ _ (by omega) hD.cur).mono ?_
  rintro _ w3 ⟨A5, n5, c5, S5, F5, rfl, hn5, hO, hS5, hDx⟩
  have HS5 := hide hS5
  clear hS5
  have hsO := hD.size
  replace hX := hX.tch hDx.tch (by omega)
  replace hD := hD.trans hDx
  clear hDx
  go_wp2_with fail
  go_at_call 70
  refine (liquor_any _ _ _ _ _ _ (by omega) (by omega) hD.cur).mono ?_
  rintro _ w4 ⟨x, B5, m5, d5, L5, rfl, hm5, hQ, hDx⟩
  have hsQ := hD.size
  have hzq := hDx.size
  replace hX := hX.tch hDx.tch (by omega)
  replace hO := hO.tch hDx.tch (by omega) (by omega)
  replace hD := hD.trans hDx
  clear hDx
  go_upto_region 4 with fail
  have hg4 : w.heap.size + 1 < w4.heap.size := by omega
  have hY := Box2.new w4 27 (.int .i64 x) (.slice B5 m5 d5)
  replace hX := hX.alloc (.cells #[.int .i64 x, .slice B5 m5 d5] 27)
  replace hD := hD.alloc (.cells #[.int .i64 x, .slice B5 m5 d5] 27)
  replace hO := hO.alloc (by omega) (.cells #[.int .i64 x, .slice B5 m5 d5] 27)
  replace hQ := hQ.alloc (by omega) (.cells #[.int .i64 x, .slice B5 m5 d5] 27)
  have hW4 : w4.heap.size ≤ (w4.alloc (.cells #[.int .i64 x, .slice B5 m5 d5] 27)).heap.size := by simp
  generalize w4.alloc (.cells #[.int .i64 x, .slice B5 m5 d5] 27) = W at hX hY hD hO hQ hW4 ⊢
  have HW4 := hide hW4
  generalize hgB : w4.heap.size = gB at *
  clear hgB hW4
  have hW1 : w.heap.size + 1 < W.heap.size := by have := HW4.out; omega
  have hsW := hD.size
  have d0 : ∀ w', Kp gB W w' → w'.cell? ⟨gB, 0, none⟩ = some (.int .i64 x) := fun w' ha => (ha.agr.cell (p := ⟨gB, 0, none⟩) (Nat.le_refl _) (Nat.lt_succ_self _)).trans hY.c0
  have d1 : ∀ w', Kp gB W w' → w'.cell? ⟨gB, 1, none⟩ = some (.slice B5 m5 d5) := fun w' ha => (ha.agr.cell (p := ⟨gB, 1, none⟩) (Nat.le_refl _) (Nat.lt_succ_self _)).trans hY.c1
  have hgW := hY.lt
  go_region_held3 (fun w' => Kp gB W w') (repeat' (first | exact Kp.refl _ _ | assumption | refine Kp.drew ?_ | refine Kp.alloc ?_ (by first | omega | (simp; done) | (simp; omega)) _ | refine Kp.set ?_ (by show w.heap.size ≠ gB; omega) _)) (first | (go_at_call 71; refine (among0_any _ _ _ _ _ _ (by omega) (by decide) (by decide) (by first | omega | (simp; done) | (simp; omega)) (by (first | ((with_reducible refine Lits0.drew ?_); (first | ((with_reducible refine Lits0.new' _ _ _ ?hg ?hn ?ha); (case hg => (first | with_reducible rfl | (simp; done))); (case hn => rfl); (case ha => rfl)) | ((with_reducible refine Lits0.alloc ?_ _); ((with_reducible refine Lits0.new' _ _ _ ?hg ?hn ?ha); (case hg => (first | with_reducible rfl | (simp; done))); (case hn => rfl); (case ha => rfl))))) | (first | ((with_reducible refine Lits0.new' _ _ _ ?hg ?hn ?ha); (case hg => (first | with_reducible rfl | (simp; done))); (case hn => rfl); (case ha => rfl)) | ((with_reducible refine Lits0.alloc ?_ _); ((with_reducible refine Lits0.new' _ _ _ ?hg ?hn ?ha); (case hg => (first | with_reducible rfl | (simp; done))); (case hn => rfl); (case ha => rfl)))))) (Cur.below hD.cur (by (repeat' (first | exact Below.refl _ _ | assumption | refine Below.drew ?_ | refine Below.alloc ?_ (by first | omega | exact Below.size (by assumption) | (simp; done) | (simp; omega)) _ | refine Below.setCell ?_ (by first | omega | exact Below.size (by assumption) | (simp; done) | (simp; omega)) _))))).mono ?_; rintro _ v3 ⟨i, rfl, hc3, ht3⟩; have C3 : Kp gB W v3 := Kp.tch (by assumption) ht3 (by first | omega | (simp; done) | (simp; omega)) (by omega); have X3 := (Box2.below hX (by (repeat' (first | exact Below.refl _ _ | assumption | refine Below.drew ?_ | refine Below.alloc ?_ (by first | omega | exact Below.size (by assumption) | (simp; done) | (simp; omega)) _ | refine Below.setCell ?_ (by first | omega | exact Below.size (by assumption) | (simp; done) | (simp; omega)) _)))).tch ht3 (by omega); obtain ⟨z0, z1, z2, z3, z4⟩ := X3; have O3 := (Ow.below hO (by (repeat' (first | exact Below.refl _ _ | assumption | refine Below.drew ?_ | refine Below.alloc ?_ (by first | omega | exact Below.size (by assumption) | (simp; done) | (simp; omega)) _ | refine Below.setCell ?_ (by first | omega | exact Below.size (by assumption) | (simp; done) | (simp; omega)) _))) (by omega)).tch ht3 (by first | omega | (simp; done) | (simp; omega)) (by omega); have Q3 := (Ow.below hQ (by (repeat' (first | exact Below.refl _ _ | assumption | refine Below.drew ?_ | refine Below.alloc ?_ (by first | omega | exact Below.size (by assumption) | (simp; done) | (simp; omega)) _ | refine Below.setCell ?_ (by first | omega | exact Below.size (by assumption) | (simp; done) | (simp; omega)) _))) (by omega)).tch ht3 (by first | omega | (simp; done) | (simp; omega)) (by omega); have D3 := DrS.draw (DrS.grow hD (Below.mono (show Below W.heap.size W _ from (by (repeat' (first | exact Below.refl _ _ | assumption | refine Below.drew ?_ | refine Below.alloc ?_ (by first | omega | exact Below.size (by assumption) | (simp; done) | (simp; omega)) _ | refine Below.setCell ?_ (by first | omega | exact Below.size (by assumption) | (simp; done) | (simp; omega)) _)))) hsW)) hc3 ht3; have s3 : W.heap.size ≤ v3.heap.size := Nat.le_trans (Below.size (show Below W.heap.size W _ from (by (repeat' (first | exact Below.refl _ _ | assumption | refine Below.drew ?_ | refine Below.alloc ?_ (by first | omega | exact Below.size (by assumption) | (simp; done) | (simp; omega)) _ | refine Below.setCell ?_ (by first | omega | exact Below.size (by assumption) | (simp; done) | (simp; omega)) _))))) ht3.size))
  all_goals
    have hX3 : Box2 v3 w.heap.size (.int .i64 0) (.slice none 0 0) := ⟨z0, z1, z2, z3, z4⟩
    clear hD hO hQ hX z0 z1 z2 z3 z4 d0 d1 C3 hc3 ht3
    have hD := D3
    have hO := O3
    have hQ := Q3
    have hX := hX3
    clear D3 O3 Q3 hX3
    have hW5 := HW4.out
    have hz := hD.size
    have hbE := ((hbA.trans (hD.tch.below (by omega) (by omega))).setCell (p := ⟨w.heap.size, 0, none⟩) (Nat.le_refl _) (.int .i64 x)).setCell (p := ⟨w.heap.size, 1, none⟩) (Nat.le_refl _) (.slice B5 m5 d5)
    have hO' : Sl ((v3.setCell ⟨w.heap.size, 0, none⟩ (.int .i64 x)).setCell ⟨w.heap.size, 1, none⟩ (.slice B5 m5 d5)) w.heap.size ((v3.setCell ⟨w.heap.size, 0, none⟩ (.int .i64 x)).setCell ⟨w.heap.size, 1, none⟩ (.slice B5 m5 d5)).heap.size A5 n5 3 (kdC S5 F5) :=
      (hO.agr fun k h1 h2 => (Below.heap_setCell _ _ _ _ (by show k ≠ w.heap.size; omega)).trans (Below.heap_setCell _ _ _ _ (by show k ≠ w.heap.size; omega))).sl.mono (by omega) (by first | (simp; done) | (simp; omega))
    have hQ' : Sl ((v3.setCell ⟨w.heap.size, 0, none⟩ (.int .i64 x)).setCell ⟨w.heap.size, 1, none⟩ (.slice B5 m5 d5)) w.heap.size ((v3.setCell ⟨w.heap.size, 0, none⟩ (.int .i64 x)).setCell ⟨w.heap.size, 1, none⟩ (.slice B5 m5 d5)).heap.size B5 m5 1 (ints L5) :=
      (hQ.agr fun k h1 h2 => (Below.heap_setCell _ _ _ _ (by show k ≠ w.heap.size; omega)).trans (Below.heap_setCell _ _ _ _ (by show k ≠ w.heap.size; omega))).sl.mono (by omega) (by first | (simp; done) | (simp; omega))
    obtain ⟨x0, x1, x2, x3, x4⟩ := hX
    clear hD hbA hO hQ
    go_wp2
    refine bodyPost_ret (v := .tuple #[.slice A5 n5 c5, .agg #[.int .i64 x, .slice B5 m5 d5], .int .i64 i]) (by simp only [results, Tryd.results35]; go_simp) rfl ⟨A5, n5, c5, S5, F5, x, B5, m5, d5, L5, i, rfl, hn5, hm5, HS5, hO', hQ', hbE⟩
end Go.Proofs.YtnmpfojcmedpeaaDoor
