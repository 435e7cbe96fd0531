/-
  Contracts on brines: validity, mass, what evaporates, copies, comparison, of the program and of the reference. Conditions: valid brines where a quotient is taken.
-/
import Derived.Test.YtjhhpepjjpejhaaSunA
namespace Go.Proofs.Ytjhhpepjjpejhaa
open Go.RowKit

theorem toBrine_any (x y : Int) (w : World) :
    Calls Try.prog 61 #[.agg #[.int .i64 x, .int .i64 y]] w fun e w' => e = .returned (.agg #[.int .i64 x, .int .i64 y]) ∧ Below w.heap.size w w' := by
  go_enter Try.func61, Try.ntmps61
  go_wp2
  refine bodyPost_ret (v := .agg #[.int .i64 x, .int .i64 y]) (by simp [results, Try.results61, go_sem]) rfl ⟨rfl, ?_⟩
  repeat' (first | exact Below.refl _ _ | refine Below.alloc ?_ (by simp <;> omega) _)
theorem eqBrine_yes (x y : Int) (w : World) :
    Calls Try.prog 63 #[.agg #[.int .i64 x, .int .i64 y], .agg #[.int .i64 x, .int .i64 y]] w fun e w' => e = .returned (.bool true) ∧ Below w.heap.size w w' := by
  go_enter Try.func63, Try.ntmps63
  go_wp2
  go_ret
  exact ⟨rfl, by repeat' (first | exact Below.refl _ _ | refine Below.alloc ?_ (by simp <;> omega) _)⟩

theorem l2Brine_any (x y : Int) (w : World) :
    Calls Try.prog 60 #[.agg #[.int .i64 x, .int .i64 y]] w fun e w' => e = .returned (.bool (brineB x y)) ∧ Below w.heap.size w w' := by
  cases h1 : inB x 0 1000000 <;>
  · go_enter Try.func60, Try.ntmps60
    go_wp2_with (first | (go_at_call 46; refine (l1In_any _ _ _ _).mono ?_; rintro _ _ ⟨rfl, rfl⟩))
    go_ret
    exact ⟨by simp [brineB, h1], (Below.refl _ _).alloc (Nat.le_refl _) _⟩
theorem IsBrine_any (x y : Int) (w : World) :
    Calls Try.prog 41 #[.agg #[.int .i64 x, .int .i64 y]] w fun e w' => e = .returned (.bool (brineB x y)) ∧ Below w.heap.size w w' := by
  cases h1 : inB x 0 1000000 <;>
  · go_enter Try.func41, Try.ntmps41
    go_wp2_with (first | (go_at_call 37; refine (within_any _ _ _ _).mono ?_; rintro _ _ ⟨rfl, rfl⟩))
    go_ret
    exact ⟨by simp [brineB, h1], (Below.refl _ _).alloc (Nat.le_refl _) _⟩
theorem l2Mass_any (x y : Int) (w : World) (h1 : 0 ≤ x) (h2 : x ≤ 1000000000) (h3 : 0 ≤ y) (h4 : y ≤ 1000000000) :
    Calls Try.prog 43 #[.agg #[.int .i64 x, .int .i64 y]] w fun e w' => e = .returned (.int .i64 (x + y)) ∧ Below w.heap.size w w' := by
  go_enter Try.func43, Try.ntmps43
  go_wp2
  go_ret
  exact ⟨rfl, (Below.refl _ _).alloc (Nat.le_refl _) _⟩
theorem mass_any (x y : Int) (w : World) (h1 : 0 ≤ x) (h2 : x ≤ 1000000000) (h3 : 0 ≤ y) (h4 : y ≤ 1000000000) :
    Calls Try.prog 45 #[.agg #[.int .i64 x, .int .i64 y]] w fun e w' => e = .returned (.int .i64 (x + y)) ∧ Below w.heap.size w w' := by
  go_enter Try.func45, Try.ntmps45
  go_wp2
  go_ret
  exact ⟨rfl, (Below.refl _ _).alloc (Nat.le_refl _) _⟩
theorem l1Least_any (a b : Int) (w : World) :
    Calls Try.prog 64 #[.int .i64 a, .int .i64 b] w fun e w' => e = .returned (.int .i64 (min a b)) ∧ w = w' := by
  by_cases h : a < b
  · have H := hide (show min a b = a by omega)
    go_enter Try.func64, Try.ntmps64
    go_wp2
    go_ret
    exact ⟨ret_int H.out.symm, rfl⟩
  · have H := hide (show min a b = b by omega)
    go_enter Try.func64, Try.ntmps64
    go_wp2
    go_ret
    exact ⟨ret_int H.out.symm, rfl⟩
end Go.Proofs.Ytjhhpepjjpejhaa
