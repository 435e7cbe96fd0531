/-
  Contracts on suns and brines: whether they are valid, of the program and of the reference. Conditions: lengths up to 2^20.
-/
import Derived.Test.YtjhhpepjjpejhaaNum
namespace Go.Proofs.Ytjhhpepjjpejhaa
open Go.RowKit

theorem isRate_any (n : Int) (w : World) :
    Calls Try.prog 49 #[.int .i64 n] w fun e w' => e = .returned (.bool (inB n 0 20000)) ∧ w = w' := by
  go_enter Try.func49, Try.ntmps49
  go_wp2_with (first | (go_at_call 37; refine (within_any _ _ _ _).mono ?_; rintro _ _ ⟨rfl, rfl⟩))
  all_goals go_ret
  all_goals exact ⟨rfl, rfl⟩

end Go.Proofs.Ytjhhpepjjpejhaa
