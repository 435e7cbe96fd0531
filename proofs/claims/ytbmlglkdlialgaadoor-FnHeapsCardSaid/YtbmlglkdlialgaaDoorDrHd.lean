/-
  Contracts: the arguments that are drawn for laws on heaps. Conditions: codes of bytes.
-/
import Derived.Test.YtbmlglkdlialgaaDoorDrHc
namespace Go.Proofs.YtbmlglkdlialgaaDoor
open Go.RowKit

/-- What a draw of heaps and a number leaves. -/
def DrawHI (w : World) (e : Ending) (w' : World) : Prop :=
  ∃ A n c H r, e = .returned (.tuple #[.slice A n c, .int .i64 r]) ∧ n ≤ 20 ∧ (∀ i, i < n → (H i).n ≤ 20) ∧ Hp w' w.heap.size w'.heap.size A n H ∧ Below w.heap.size w w'
/-- .. of a list of numbers. -/
def DrawIs (w : World) (e : Ending) (w' : World) : Prop :=
  ∃ A n c F, e = .returned (.slice A n c) ∧ n ≤ 40 ∧ Ow w' w.heap.size w'.heap.size A n 1 (ints F) ∧ Below w.heap.size w w'
end Go.Proofs.YtbmlglkdlialgaaDoor
