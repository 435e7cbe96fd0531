/-
  Two closed facts on the translated program that every statement's frame wants. Conditions: none.
-/
import Derived.Test.YtidcmdnhnnhnhaaRows
import Derived.ProofKit
import Derived.Carry
import Derived.JoinedOf
namespace Go.Proofs.Ytidcmdnhnnhnhaa
theorem own : ownKnob Try.prog.godebug = none := by kernel_rfl
theorem laidOut : laidOutB Try.prog = true := by kernel_rfl
end Go.Proofs.Ytidcmdnhnnhnhaa
