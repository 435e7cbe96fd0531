/-
  Contracts of the laws' helpers on liquors: sizes, copies, comparison. Conditions: lengths up to 2^20.
-/
import Derived.Test.YtnmpfojcmedpeaaDoorCrT
namespace Go.Proofs.YtnmpfojcmedpeaaDoor
open Go.RowKit

set_option maxHeartbeats 4000000 in
theorem toLiquor_any (x : Int) (B : Option Addr) (n c : Nat) (L : Nat → Nat → Int) (w : World) (hn : n ≤ 1048576) (h : Rd w B n 1 (ints L)) :
    Calls Tryd.prog 46 #[.agg #[.int .i64 x, .slice B n c]] w fun e w' => e = .returned (.agg #[.int .i64 x, .slice (some ⟨w.heap.size + 3, 0, none⟩) n n]) ∧
      Ow w' (w.heap.size + 3) (w.heap.size + 4) (some ⟨w.heap.size + 3, 0, none⟩) n 1 (ints L) ∧ w.heap.size + 3 < w'.heap.size ∧ Below w.heap.size w w' := by
  go_enter Tryd.func46, Tryd.ntmps46
  go_wp2_with fail
  go_at_call 80
  refine (toIntS_at _ _ _ _ _ hn (Rd.alloc (Rd.alloc (Rd.alloc h _) _) _)).mono ?_
  rintro _ w1 ⟨rfl, hO, hs1, hb1⟩
  have hs1 : w.heap.size + 1 + 1 + 1 < w1.heap.size := by simpa using hs1
  have hb0 : Below w.heap.size w w1 := by
    refine Below.trans ?_ (hb1.mono (by simp; omega))
    (repeat' (first | exact Below.refl _ _ | assumption | refine Below.drew ?_ | refine Below.alloc ?_ (by first | omega | exact Below.size (by assumption) | (simp; done) | (simp; omega)) _ | refine Below.setCell ?_ (by first | omega | exact Below.size (by assumption) | (simp; done) | (simp; omega)) _))
  have c10 := (hb1.cell (p := ⟨w.heap.size + 1, 0, none⟩) (by simp)).trans (show _ = some (Value.int .i64 0) by go_simp)
  have c11 := (hb1.cell (p := ⟨w.heap.size + 1, 1, none⟩) (by simp)).trans (show _ = some (Value.slice none 0 0) by go_simp)
  have f10 := (hb1.frozen (p := ⟨w.heap.size + 1, 0, none⟩) (by simp)).trans (show _ = false by go_simp)
  have f11 := (hb1.frozen (p := ⟨w.heap.size + 1, 1, none⟩) (by simp)).trans (show _ = false by go_simp)
  have c20 := (hb1.cell (p := ⟨w.heap.size + 1 + 1, 0, none⟩) (by simp)).trans (show _ = some (Value.int .i64 x) by go_simp)
  have c21 := (hb1.cell (p := ⟨w.heap.size + 1 + 1, 1, none⟩) (by simp)).trans (show _ = some (Value.slice none 0 0) by go_simp)
  have f21 := (hb1.frozen (p := ⟨w.heap.size + 1 + 1, 1, none⟩) (by simp)).trans (show _ = false by go_simp)
  have hO' : Ow w1 (w.heap.size + 3) (w.heap.size + 4) (some ⟨w.heap.size + 3, 0, none⟩) n 1 (ints L) := by simpa using hO
  clear hb1 hO
  go_wp2
  refine bodyPost_ret (v := .agg #[.int .i64 x, .slice (some ⟨w.heap.size + 3, 0, none⟩) n n]) (by simp only [results, Tryd.results46]; go_simp) rfl ⟨rfl, ?_, ?_, ?_⟩
  · refine hO'.agr ?_
    intro k h1 h2
    repeat' (first | refine (Below.heap_setCell _ _ _ _ (by simp; omega)).trans ?_ | exact rfl)
  · simp; omega
  · repeat' (first | refine Below.setCell ?_ (by first | (simp; done) | (simp; omega)) _ | exact hb0)

theorem szLiquor_any (x : Int) (B : Option Addr) (n c : Nat) (l : Int) (w : World) (hn : n ≤ 9223372036854775807) (hl : 0 ≤ l) (hl2 : l ≤ 1048576) :
    Calls Tryd.prog 45 #[.agg #[.int .i64 x, .slice B n c], .int .i64 l] w fun e w' => e = .returned (.int .i64 (szR l n)) ∧ Below w.heap.size w w' := by
  have hb0 : Below w.heap.size w (w.alloc (.cells #[.int .i64 x, .slice B n c] 54)) := (Below.refl _ _).alloc (Nat.le_refl _) _
  by_cases hc : l < n
  · have hs := hide (show szR l n = -1 by unfold szR; rw [if_pos hc])
    rw [hs.out]
    clear hc
    go_enter Tryd.func45, Tryd.ntmps45
    go_wp2_with fail
    go_at_call 79
    refine (szIntS_any _ _ _ _ _ hn hl hl2).mono ?_
    rintro _ _ ⟨rfl, rfl⟩
    rw [hs.out]
    go_wp2
    go_ret
    exact ⟨rfl, hb0⟩
  · have hs := hide (show szR l n = l - n by unfold szR; rw [if_neg hc])
    rw [hs.out]
    have hc : (n : Int) ≤ l := by omega
    go_enter Tryd.func45, Tryd.ntmps45
    go_wp2_with fail
    go_at_call 79
    refine (szIntS_any _ _ _ _ _ hn hl hl2).mono ?_
    rintro _ _ ⟨rfl, rfl⟩
    rw [hs.out]
    have hc' : decide (l - n < 0) = false := by simp; omega
    go_wp2
    go_ret
    exact ⟨rfl, hb0⟩

set_option maxHeartbeats 1000000 in
theorem eqLiquor_yes (x : Int) (B B' : Option Addr) (n c c' : Nat) (L : Nat → Nat → Int) (w : World) (hn : n ≤ 1048576) (h : Rd w B n 1 (ints L)) (h' : Rd w B' n 1 (ints L)) :
    Calls Tryd.prog 47 #[.agg #[.int .i64 x, .slice B n c], .agg #[.int .i64 x, .slice B' n c']] w fun e w' => e = .returned (.bool true) ∧ Below w.heap.size w w' := by
  go_enter Tryd.func47, Tryd.ntmps47
  go_wp2_with fail
  go_at_call 48
  refine (eqIntS_yes _ _ _ _ _ _ _ hn (Rd.alloc (Rd.alloc h _) _) (Rd.alloc (Rd.alloc h' _) _)).mono ?_
  rintro _ w1 ⟨rfl, hb1⟩
  have hb0 : Below w.heap.size w w1 := by
    refine Below.trans ?_ (hb1.mono (by simp; omega))
    (repeat' (first | exact Below.refl _ _ | assumption | refine Below.drew ?_ | refine Below.alloc ?_ (by first | omega | exact Below.size (by assumption) | (simp; done) | (simp; omega)) _ | refine Below.setCell ?_ (by first | omega | exact Below.size (by assumption) | (simp; done) | (simp; omega)) _))
  clear hb1
  go_wp2
  go_ret
  exact ⟨rfl, hb0⟩
end Go.Proofs.YtnmpfojcmedpeaaDoor
