/-
  Contracts: numbers within bounds, of the program and of the reference. Conditions: none.
-/
import Derived.Test.YtidcmdnhnnhnhaaChecked
import Derived.Test.YtidcmdnhnnhnhaaMath
namespace Go.Proofs.Ytidcmdnhnnhnhaa
open Go.RowKit

theorem l1In_any (n a b : Int) (w : World) :
    Calls Try.prog 60 #[.int .i64 n, .int .i64 a, .int .i64 b] w fun e w' => e = .returned (.bool (inB n a b)) ∧ w = w' := by
  go_enter Try.func60, Try.ntmps60
  go_wp2
  all_goals go_ret
  all_goals exact ⟨by simp [inB, *] <;> omega, rfl⟩
theorem within_any (n a b : Int) (w : World) :
    Calls Try.prog 79 #[.int .i64 n, .int .i64 a, .int .i64 b] w fun e w' => e = .returned (.bool (inB n a b)) ∧ w = w' := by
  go_enter Try.func79, Try.ntmps79
  go_wp2
  all_goals go_ret
  all_goals exact ⟨by simp [inB, *] <;> omega, rfl⟩


end Go.Proofs.Ytidcmdnhnnhnhaa
