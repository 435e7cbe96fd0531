/-
  Contracts: numbers within bounds, of the program and of the reference. Conditions: none.
-/
import Derived.Test.YtajmebclmippeaaChecked
import Derived.Test.YtajmebclmippeaaMath
namespace Go.Proofs.Ytajmebclmippeaa
open Go.RowKit

theorem l1In_any (n a b : Int) (w : World) :
    Calls Try.prog 80 #[.int .i64 n, .int .i64 a, .int .i64 b] w fun e w' => e = .returned (.bool (inB n a b)) ∧ w = w' := by
  go_enter Try.func80, Try.ntmps80
  go_wp2
  all_goals go_ret
  all_goals exact ⟨by simp [inB, *] <;> omega, rfl⟩
theorem l2Day_any (n : Int) (w : World) :
    Calls Try.prog 64 #[.int .i64 n] w fun e w' => e = .returned (.bool (inB n 0 4000)) ∧ w = w' := by
  go_enter Try.func64, Try.ntmps64
  go_wp2_with (first | (go_at_call 80; refine (l1In_any _ _ _ _).mono ?_; rintro _ _ ⟨rfl, rfl⟩))
  all_goals go_ret
  all_goals exact ⟨rfl, rfl⟩
theorem within_any (n a b : Int) (w : World) :
    Calls Try.prog 82 #[.int .i64 n, .int .i64 a, .int .i64 b] w fun e w' => e = .returned (.bool (inB n a b)) ∧ w = w' := by
  go_enter Try.func82, Try.ntmps82
  go_wp2
  all_goals go_ret
  all_goals exact ⟨by simp [inB, *] <;> omega, rfl⟩
theorem isDay_any (n : Int) (w : World) :
    Calls Try.prog 51 #[.int .i64 n] w fun e w' => e = .returned (.bool (inB n 0 4000)) ∧ w = w' := by
  go_enter Try.func51, Try.ntmps51
  go_wp2_with (first | (go_at_call 82; refine (within_any _ _ _ _).mono ?_; rintro _ _ ⟨rfl, rfl⟩))
  all_goals go_ret
  all_goals exact ⟨rfl, rfl⟩

theorem isArea_any (n : Int) (w : World) :
    Calls Try.prog 72 #[.int .i64 n] w fun e w' => e = .returned (.bool (inB n 1 100000)) ∧ w = w' := by
  go_enter Try.func72, Try.ntmps72
  go_wp2_with (first | (go_at_call 82; refine (within_any _ _ _ _).mono ?_; rintro _ _ ⟨rfl, rfl⟩))
  all_goals go_ret
  all_goals exact ⟨rfl, rfl⟩

theorem l6Span_any (a b : Int) (w : World) :
    Calls Try.prog 70 #[.int .i64 a, .int .i64 b] w fun e w' => e = .returned (.bool (spanB a b)) ∧ w = w' := by
  cases h1 : inB a 0 4000 <;> cases h2 : inB b 0 4000
  all_goals
    have HR := hide (show spanB a b = (inB a 0 4000 && inB b 0 4000 && decide (a ≤ b)) from rfl)
    go_enter Try.func70, Try.ntmps70
    go_wp2_with (first | (go_at_call 64; refine (l2Day_any _ _).mono ?_; rintro _ _ ⟨rfl, rfl⟩))
    go_ret
    exact ⟨ret_bool (by rw [HR.out]; simp [*]), rfl⟩
theorem areDays_any (a b : Int) (w : World) :
    Calls Try.prog 67 #[.int .i64 a, .int .i64 b] w fun e w' => e = .returned (.bool (spanB a b)) ∧ w = w' := by
  cases h1 : inB a 0 4000 <;> cases h2 : inB b 0 4000
  all_goals
    have HR := hide (show spanB a b = (inB a 0 4000 && inB b 0 4000 && decide (a ≤ b)) from rfl)
    go_enter Try.func67, Try.ntmps67
    go_wp2_with (first | (go_at_call 51; refine (isDay_any _ _).mono ?_; rintro _ _ ⟨rfl, rfl⟩))
    go_ret
    exact ⟨ret_bool (by rw [HR.out]; simp [*]), rfl⟩
end Go.Proofs.Ytajmebclmippeaa
