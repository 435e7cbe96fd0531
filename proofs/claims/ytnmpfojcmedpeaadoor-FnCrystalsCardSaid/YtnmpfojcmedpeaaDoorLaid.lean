/-
  Two closed facts on the translated program that every statement's frame wants. Conditions: none.
-/
import Derived.Test.YtnmpfojcmedpeaaDoorRows
import Derived.ProofKit
import Derived.Carry
import Derived.JoinedOf
namespace Go.Proofs.YtnmpfojcmedpeaaDoor
theorem own : ownKnob Tryd.prog.godebug = none := by kernel_rfl
theorem laidOut : laidOutB Tryd.prog = true := by kernel_rfl
end Go.Proofs.YtnmpfojcmedpeaaDoor
