/-
  Contracts: numbers within bounds, of the program and of the reference. Conditions: none.
-/
import Derived.Test.YtnmpfojcmedpeaaDoorChecked
import Derived.Test.YtnmpfojcmedpeaaDoorMath
namespace Go.Proofs.YtnmpfojcmedpeaaDoor
open Go.RowKit

theorem l1In_any (n a b : Int) (w : World) :
    Calls Tryd.prog 73 #[.int .i64 n, .int .i64 a, .int .i64 b] w fun e w' => e = .returned (.bool (inB n a b)) ∧ w = w' := by
  go_enter Tryd.func73, Tryd.ntmps73
  go_wp2
  all_goals go_ret
  all_goals exact ⟨by simp [inB, *] <;> omega, rfl⟩
theorem within_any (n a b : Int) (w : World) :
    Calls Tryd.prog 63 #[.int .i64 n, .int .i64 a, .int .i64 b] w fun e w' => e = .returned (.bool (inB n a b)) ∧ w = w' := by
  go_enter Tryd.func63, Tryd.ntmps63
  go_wp2
  all_goals go_ret
  all_goals exact ⟨by simp [inB, *] <;> omega, rfl⟩


end Go.Proofs.YtnmpfojcmedpeaaDoor
