/-
  Contracts: numbers within bounds, of the program and of the reference. Conditions: none.
-/
import Derived.Test.YtbmlglkdlialgaaDoorChecked
import Derived.Test.YtbmlglkdlialgaaDoorMath
namespace Go.Proofs.YtbmlglkdlialgaaDoor
open Go.RowKit

theorem l1In_any (n a b : Int) (w : World) :
    Calls Tryd.prog 55 #[.int .i64 n, .int .i64 a, .int .i64 b] w fun e w' => e = .returned (.bool (inB n a b)) ∧ w = w' := by
  go_enter Tryd.func55, Tryd.ntmps55
  go_wp2
  all_goals go_ret
  all_goals exact ⟨by simp [inB, *] <;> omega, rfl⟩
theorem within_any (n a b : Int) (w : World) :
    Calls Tryd.prog 49 #[.int .i64 n, .int .i64 a, .int .i64 b] w fun e w' => e = .returned (.bool (inB n a b)) ∧ w = w' := by
  go_enter Tryd.func49, Tryd.ntmps49
  go_wp2
  all_goals go_ret
  all_goals exact ⟨by simp [inB, *] <;> omega, rfl⟩


end Go.Proofs.YtbmlglkdlialgaaDoor
