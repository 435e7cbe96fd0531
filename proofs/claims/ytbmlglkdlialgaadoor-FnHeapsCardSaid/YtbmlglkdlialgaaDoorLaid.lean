/-
  Two closed facts on the translated program that every statement's frame wants. Conditions: none.
-/
import Derived.Test.YtbmlglkdlialgaaDoorRows
import Derived.ProofKit
import Derived.Carry
import Derived.JoinedOf
namespace Go.Proofs.YtbmlglkdlialgaaDoor
theorem own : ownKnob Tryd.prog.godebug = none := by kernel_rfl
theorem laidOut : laidOutB Tryd.prog = true := by kernel_rfl
end Go.Proofs.YtbmlglkdlialgaaDoor
