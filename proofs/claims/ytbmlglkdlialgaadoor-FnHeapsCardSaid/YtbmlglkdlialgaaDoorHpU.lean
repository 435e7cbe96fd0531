/-
  Contracts of the laws' helpers on lists of heaps: sizes, copies, comparison. Conditions: lengths up to 2^20.
-/
import Derived.Test.YtbmlglkdlialgaaDoorHpT
namespace Go.Proofs.YtbmlglkdlialgaaDoor
open Go.RowKit


theorem info_heap : (Tryd.prog.info? 28).map (fun i => (i.zero, i.size, i.bytes)) = some (some (.agg #[.int .i64 0, .int .i64 0, .slice none 0 0, .bool false]), 4, 48) := by kernel_rfl
theorem mk_heap (n : Nat) (hn : n ≤ 1048576) (u : World) : (Instr.makeSlice 34 (.int .i64 (n : Int)) (.int .i64 (n : Int))).run Tryd.prog u =
      .ok (.slice (some ⟨u.heap.size, 0, none⟩) n n) (u.alloc (.cells (madeCells #[.int .i64 0, .int .i64 0, .slice none 0 0, .bool false] (n * 4)) 28)) := by
  obtain ⟨i0, hi, hz0, hz1, hz2⟩ := info_parts info_heap
  have h := run_make (P := Tryd.prog) u 34 28 i0 _ Tryd.underlying34 hi hz0 .i64 .i64 (n : Int) (n : Int) (by omega) (Int.le_refl _) (by rw [hz2]; omega) (by omega)
  simpa [hz1, Value.cells] using h

/-- The heaps copied so far: their layers lie at b. -/
def cpG (H : Nat → HeapD) (b : Nat → Nat) (k : Nat) (G : Nat → Nat → Value) : Prop := ∀ i j, i < k → j < 4 → G i j = hpC H (fun i => some ⟨b i, 0, none⟩) (fun i => (H i).n) i j
def cpL (w : World) (lo : Nat) (H : Nat → HeapD) (b : Nat → Nat) (k : Nat) : Prop := (∀ i, i < k → Ow w lo w.heap.size (some ⟨b i, 0, none⟩) (H i).n 1 (ints (H i).L) ∧ lo ≤ b i ∧ b i < w.heap.size) ∧ ∀ i j, i < j → j < k → b i ≠ b j


set_option maxHeartbeats 1000000 in
theorem eqHeap_yes (id g : Int) (B B' : Option Addr) (n c c' : Nat) (L : Nat → Nat → Int) (cov : Bool) (w : World) (hn : n ≤ 1048576) (h : Rd w B n 1 (ints L)) (h' : Rd w B' n 1 (ints L)) :
    Calls Tryd.prog 9 #[.agg #[.int .i64 id, .int .i64 g, .slice B n c, .bool cov], .agg #[.int .i64 id, .int .i64 g, .slice B' n c', .bool cov]] w fun e w' => e = .returned (.bool true) ∧ Below w.heap.size w w' := by
  go_enter Tryd.func9, Tryd.ntmps9
  go_wp2_with fail
  go_at_call 33
  refine (eqIntS_yes _ _ _ _ _ _ _ hn (Rd.alloc (Rd.alloc h _) _) (Rd.alloc (Rd.alloc h' _) _)).mono ?_
  rintro _ w1 ⟨rfl, hb1⟩
  have hs1 : w.heap.size + 1 < w1.heap.size := by have := hb1.size; simp at this; omega
  have hb0 : Below w.heap.size w w1 := by
    refine Below.trans ?_ (hb1.mono (by simp; omega))
    (repeat' (first | exact Below.refl _ _ | assumption | refine Below.drew ?_ | refine Below.alloc ?_ (by first | omega | exact Below.size (by assumption) | (simp; done) | (simp; omega)) _ | refine Below.setCell ?_ (by first | omega | exact Below.size (by assumption) | (simp; done) | (simp; omega)) _))
  have c0 := (hb1.cell (p := ⟨w.heap.size, 3, none⟩) (by simp; omega)).trans (show _ = some (Value.bool cov) by go_simp)
  have c1 := (hb1.cell (p := ⟨w.heap.size + 1, 3, none⟩) (by simp)).trans (show _ = some (Value.bool cov) by go_simp)
  clear hb1
  cases cov
  all_goals
    go_wp2
    go_ret
    exact ⟨rfl, hb0⟩

end Go.Proofs.YtbmlglkdlialgaaDoor
