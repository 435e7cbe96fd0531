/-
  Contracts of the laws' helpers on heaps: sizes, copies, comparison. Conditions: lengths up to 2^20.
-/
import Derived.Test.YtbmlglkdlialgaaDoorInts
import Derived.Test.YtbmlglkdlialgaaDoorHpB
namespace Go.Proofs.YtbmlglkdlialgaaDoor
open Go.RowKit

/-- Block of a slice. -/
def blkO : Option Addr → Nat
  | some a => a.block
  | none => 0
/-- Heaps of the call's own: no two rows of layers share a block, nor one with the heaps' own row. -/
def HpO (w : World) (lo hi : Nat) (A : Option Addr) (n : Nat) (H : Nat → HeapD) : Prop :=
  ∃ B c, Ow w lo hi A n 4 (hpC H B c) ∧ (∀ i, i < n → Ow w lo hi (B i) (H i).n 1 (ints (H i).L) ∧ (H i).n ≤ maxLen) ∧
    (∀ i j, i < n → j < n → i ≠ j → 0 < (H i).n → 0 < (H j).n → blkO (B i) ≠ blkO (B j)) ∧ ∀ i, i < n → 0 < (H i).n → blkO (B i) ≠ blkO A
theorem HpO.agr {w w' : World} {lo hi : Nat} {A : Option Addr} {n : Nat} {H : Nat → HeapD} (h : HpO w lo hi A n H) (ha : Agr lo hi w w') : HpO w' lo hi A n H := by
  obtain ⟨B, c, h1, h2, h3, h4⟩ := h
  exact ⟨B, c, h1.agr ha, fun i hi => ⟨(h2 i hi).1.agr ha, (h2 i hi).2⟩, h3, h4⟩
theorem HpO.mono {w : World} {lo hi lo' hi' : Nat} {A : Option Addr} {n : Nat} {H : Nat → HeapD} (h : HpO w lo hi A n H) (hl : lo' ≤ lo) (hh : hi ≤ hi') : HpO w lo' hi' A n H := by
  obtain ⟨B, c, h1, h2, h3, h4⟩ := h
  exact ⟨B, c, h1.mono hl hh, fun i hi => ⟨(h2 i hi).1.mono hl hh, (h2 i hi).2⟩, h3, h4⟩
theorem HpO.sl {w : World} {lo hi : Nat} {A : Option Addr} {n : Nat} {H : Nat → HeapD} (h : HpO w lo hi A n H) : Hp w lo hi A n H := by
  obtain ⟨B, c, h1, h2, h3, h4⟩ := h
  exact ⟨B, c, h1.sl, fun i hi => ⟨(h2 i hi).1.sl, (h2 i hi).2⟩⟩
theorem HpO.nil (w : World) (lo hi : Nat) (A : Option Addr) (H : Nat → HeapD) : HpO w lo hi A 0 H :=
  ⟨fun _ => none, fun _ => 0, Ow.nil _ _ _ _ _ _, fun i hi => absurd hi (by omega), fun i j hi => absurd hi (by omega), fun i hi => absurd hi (by omega)⟩

set_option maxHeartbeats 4000000 in
theorem toHeap_any (id g : Int) (B : Option Addr) (n c : Nat) (L : Nat → Nat → Int) (cov : Bool) (w : World) (hn : n ≤ 1048576) (h : Rd w B n 1 (ints L)) :
    Calls Tryd.prog 7 #[.agg #[.int .i64 id, .int .i64 g, .slice B n c, .bool cov]] w fun e w' => e = .returned (.agg #[.int .i64 id, .int .i64 g, .slice (some ⟨w.heap.size + 3, 0, none⟩) n n, .bool cov]) ∧
      Ow w' (w.heap.size + 3) (w.heap.size + 4) (some ⟨w.heap.size + 3, 0, none⟩) n 1 (ints L) ∧ w.heap.size + 3 < w'.heap.size ∧ Below w.heap.size w w' := by
  go_enter Tryd.func7, Tryd.ntmps7
  go_wp2_with fail
  go_at_call 30
  refine (toIntS_at _ _ _ _ _ hn (Rd.alloc (Rd.alloc (Rd.alloc h _) _) _)).mono ?_
  rintro _ w1 ⟨rfl, hO, hs1, hb1⟩
  have hs1 : w.heap.size + 1 + 1 + 1 < w1.heap.size := by simpa using hs1
  have hb0 : Below w.heap.size w w1 := by
    refine Below.trans ?_ (hb1.mono (by simp; omega))
    (repeat' (first | exact Below.refl _ _ | assumption | refine Below.drew ?_ | refine Below.alloc ?_ (by first | omega | exact Below.size (by assumption) | (simp; done) | (simp; omega)) _ | refine Below.setCell ?_ (by first | omega | exact Below.size (by assumption) | (simp; done) | (simp; omega)) _))
  have c10 := (hb1.cell (p := ⟨w.heap.size + 1, 0, none⟩) (by simp)).trans (show _ = some (Value.int .i64 0) by go_simp)
  have c11 := (hb1.cell (p := ⟨w.heap.size + 1, 1, none⟩) (by simp)).trans (show _ = some (Value.int .i64 0) by go_simp)
  have c12 := (hb1.cell (p := ⟨w.heap.size + 1, 2, none⟩) (by simp)).trans (show _ = some (Value.slice none 0 0) by go_simp)
  have c13 := (hb1.cell (p := ⟨w.heap.size + 1, 3, none⟩) (by simp)).trans (show _ = some (Value.bool false) by go_simp)
  have f10 := (hb1.frozen (p := ⟨w.heap.size + 1, 0, none⟩) (by simp)).trans (show _ = false by go_simp)
  have f11 := (hb1.frozen (p := ⟨w.heap.size + 1, 1, none⟩) (by simp)).trans (show _ = false by go_simp)
  have f12 := (hb1.frozen (p := ⟨w.heap.size + 1, 2, none⟩) (by simp)).trans (show _ = false by go_simp)
  have f13 := (hb1.frozen (p := ⟨w.heap.size + 1, 3, none⟩) (by simp)).trans (show _ = false by go_simp)
  have a3 := (hb1.cell (p := ⟨w.heap.size, 3, none⟩) (by simp; omega)).trans (show _ = some (Value.bool cov) by go_simp)
  have c20 := (hb1.cell (p := ⟨w.heap.size + 1 + 1, 0, none⟩) (by simp)).trans (show _ = some (Value.int .i64 id) by go_simp)
  have c21 := (hb1.cell (p := ⟨w.heap.size + 1 + 1, 1, none⟩) (by simp)).trans (show _ = some (Value.int .i64 g) by go_simp)
  have c22 := (hb1.cell (p := ⟨w.heap.size + 1 + 1, 2, none⟩) (by simp)).trans (show _ = some (Value.slice none 0 0) by go_simp)
  have c23 := (hb1.cell (p := ⟨w.heap.size + 1 + 1, 3, none⟩) (by simp)).trans (show _ = some (Value.bool false) by go_simp)
  have f22 := (hb1.frozen (p := ⟨w.heap.size + 1 + 1, 2, none⟩) (by simp)).trans (show _ = false by go_simp)
  have f23 := (hb1.frozen (p := ⟨w.heap.size + 1 + 1, 3, none⟩) (by simp)).trans (show _ = false by go_simp)
  have hO' : Ow w1 (w.heap.size + 3) (w.heap.size + 4) (some ⟨w.heap.size + 3, 0, none⟩) n 1 (ints L) := by simpa using hO
  clear hb1 hO
  go_wp2
  refine bodyPost_ret (v := .agg #[.int .i64 id, .int .i64 g, .slice (some ⟨w.heap.size + 3, 0, none⟩) n n, .bool cov]) (by simp only [results, Tryd.results7]; go_simp) rfl ⟨rfl, ?_, ?_, ?_⟩
  · refine hO'.agr ?_
    intro k h1 h2
    repeat' (first | refine (Below.heap_setCell _ _ _ _ (by simp; omega)).trans ?_ | exact rfl)
  · simp; omega
  · repeat' (first | refine Below.setCell ?_ (by first | (simp; done) | (simp; omega)) _ | exact hb0)

theorem szHeap_any (id g : Int) (B : Option Addr) (n c : Nat) (cov : Bool) (l : Int) (w : World) (hn : n ≤ 9223372036854775807) (hl : 0 ≤ l) (hl2 : l ≤ 1048576) :
    Calls Tryd.prog 5 #[.agg #[.int .i64 id, .int .i64 g, .slice B n c, .bool cov], .int .i64 l] w fun e w' => e = .returned (.int .i64 (szR l n)) ∧ Below w.heap.size w w' := by
  have hb0 : Below w.heap.size w (w.alloc (.cells #[.int .i64 id, .int .i64 g, .slice B n c, .bool cov] 24)) := (Below.refl _ _).alloc (Nat.le_refl _) _
  by_cases hc : l < n
  · have hs := hide (show szR l n = -1 by unfold szR; rw [if_pos hc])
    rw [hs.out]
    clear hc
    go_enter Tryd.func5, Tryd.ntmps5
    go_wp2_with fail
    go_at_call 27
    refine (szIntS_any _ _ _ _ _ hn hl hl2).mono ?_
    rintro _ _ ⟨rfl, rfl⟩
    rw [hs.out]
    go_wp2
    go_ret
    exact ⟨rfl, hb0⟩
  · have hs := hide (show szR l n = l - n by unfold szR; rw [if_neg hc])
    rw [hs.out]
    have hc : (n : Int) ≤ l := by omega
    go_enter Tryd.func5, Tryd.ntmps5
    go_wp2_with fail
    go_at_call 27
    refine (szIntS_any _ _ _ _ _ hn hl hl2).mono ?_
    rintro _ _ ⟨rfl, rfl⟩
    rw [hs.out]
    have hc' : decide (l - n < 0) = false := by simp; omega
    go_wp2
    go_ret
    exact ⟨rfl, hb0⟩
end Go.Proofs.YtbmlglkdlialgaaDoor
