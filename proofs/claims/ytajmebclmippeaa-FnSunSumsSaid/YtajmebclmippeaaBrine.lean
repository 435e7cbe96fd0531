/-
  Contracts on brines: validity, mass, what evaporates, copies, comparison, of the program and of the reference. Conditions: valid brines where a quotient is taken.
-/
import Derived.Test.YtajmebclmippeaaSunA
namespace Go.Proofs.Ytajmebclmippeaa
open Go.RowKit

theorem toBrine_any (x y : Int) (w : World) :
    Calls Try.prog 38 #[.agg #[.int .i64 x, .int .i64 y]] w fun e w' => e = .returned (.agg #[.int .i64 x, .int .i64 y]) ∧ Below w.heap.size w w' := by
  go_enter Try.func38, Try.ntmps38
  go_wp2
  refine bodyPost_ret (v := .agg #[.int .i64 x, .int .i64 y]) (by simp [results, Try.results38, go_sem]) rfl ⟨rfl, ?_⟩
  repeat' (first | exact Below.refl _ _ | refine Below.alloc ?_ (by simp <;> omega) _)
theorem eqBrine_yes (x y : Int) (w : World) :
    Calls Try.prog 39 #[.agg #[.int .i64 x, .int .i64 y], .agg #[.int .i64 x, .int .i64 y]] w fun e w' => e = .returned (.bool true) ∧ Below w.heap.size w w' := by
  go_enter Try.func39, Try.ntmps39
  go_wp2
  go_ret
  exact ⟨rfl, by repeat' (first | exact Below.refl _ _ | refine Below.alloc ?_ (by simp <;> omega) _)⟩

theorem l2Brine_any (x y : Int) (w : World) :
    Calls Try.prog 89 #[.agg #[.int .i64 x, .int .i64 y]] w fun e w' => e = .returned (.bool (brineB x y)) ∧ Below w.heap.size w w' := by
  cases h1 : inB x 0 1000000 <;>
  · go_enter Try.func89, Try.ntmps89
    go_wp2_with (first | (go_at_call 80; refine (l1In_any _ _ _ _).mono ?_; rintro _ _ ⟨rfl, rfl⟩))
    go_ret
    exact ⟨by simp [brineB, h1], (Below.refl _ _).alloc (Nat.le_refl _) _⟩
theorem IsBrine_any (x y : Int) (w : World) :
    Calls Try.prog 88 #[.agg #[.int .i64 x, .int .i64 y]] w fun e w' => e = .returned (.bool (brineB x y)) ∧ Below w.heap.size w w' := by
  cases h1 : inB x 0 1000000 <;>
  · go_enter Try.func88, Try.ntmps88
    go_wp2_with (first | (go_at_call 82; refine (within_any _ _ _ _).mono ?_; rintro _ _ ⟨rfl, rfl⟩))
    go_ret
    exact ⟨by simp [brineB, h1], (Below.refl _ _).alloc (Nat.le_refl _) _⟩
theorem l2Mass_any (x y : Int) (w : World) (h1 : 0 ≤ x) (h2 : x ≤ 1000000000) (h3 : 0 ≤ y) (h4 : y ≤ 1000000000) :
    Calls Try.prog 90 #[.agg #[.int .i64 x, .int .i64 y]] w fun e w' => e = .returned (.int .i64 (x + y)) ∧ Below w.heap.size w w' := by
  go_enter Try.func90, Try.ntmps90
  go_wp2
  go_ret
  exact ⟨rfl, (Below.refl _ _).alloc (Nat.le_refl _) _⟩
theorem mass_any (x y : Int) (w : World) (h1 : 0 ≤ x) (h2 : x ≤ 1000000000) (h3 : 0 ≤ y) (h4 : y ≤ 1000000000) :
    Calls Try.prog 75 #[.agg #[.int .i64 x, .int .i64 y]] w fun e w' => e = .returned (.int .i64 (x + y)) ∧ Below w.heap.size w w' := by
  go_enter Try.func75, Try.ntmps75
  go_wp2
  go_ret
  exact ⟨rfl, (Below.refl _ _).alloc (Nat.le_refl _) _⟩
theorem l1Least_any (a b : Int) (w : World) :
    Calls Try.prog 91 #[.int .i64 a, .int .i64 b] w fun e w' => e = .returned (.int .i64 (min a b)) ∧ w = w' := by
  by_cases h : a < b
  · have H := hide (show min a b = a by omega)
    go_enter Try.func91, Try.ntmps91
    go_wp2
    go_ret
    exact ⟨ret_int H.out.symm, rfl⟩
  · have H := hide (show min a b = b by omega)
    go_enter Try.func91, Try.ntmps91
    go_wp2
    go_ret
    exact ⟨ret_int H.out.symm, rfl⟩
end Go.Proofs.Ytajmebclmippeaa
