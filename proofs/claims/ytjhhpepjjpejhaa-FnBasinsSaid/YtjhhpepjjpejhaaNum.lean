/-
  Contracts: numbers within bounds, of the program and of the reference. Conditions: none.
-/
import Derived.Test.YtjhhpepjjpejhaaChecked
import Derived.Test.YtjhhpepjjpejhaaMath
namespace Go.Proofs.Ytjhhpepjjpejhaa
open Go.RowKit

theorem l1In_any (n a b : Int) (w : World) :
    Calls Try.prog 46 #[.int .i64 n, .int .i64 a, .int .i64 b] w fun e w' => e = .returned (.bool (inB n a b)) ∧ w = w' := by
  go_enter Try.func46, Try.ntmps46
  go_wp2
  all_goals go_ret
  all_goals exact ⟨by simp [inB, *] <;> omega, rfl⟩
theorem within_any (n a b : Int) (w : World) :
    Calls Try.prog 37 #[.int .i64 n, .int .i64 a, .int .i64 b] w fun e w' => e = .returned (.bool (inB n a b)) ∧ w = w' := by
  go_enter Try.func37, Try.ntmps37
  go_wp2
  all_goals go_ret
  all_goals exact ⟨by simp [inB, *] <;> omega, rfl⟩

theorem isArea_any (n : Int) (w : World) :
    Calls Try.prog 40 #[.int .i64 n] w fun e w' => e = .returned (.bool (inB n 1 100000)) ∧ w = w' := by
  go_enter Try.func40, Try.ntmps40
  go_wp2_with (first | (go_at_call 37; refine (within_any _ _ _ _).mono ?_; rintro _ _ ⟨rfl, rfl⟩))
  all_goals go_ret
  all_goals exact ⟨rfl, rfl⟩

end Go.Proofs.Ytjhhpepjjpejhaa
