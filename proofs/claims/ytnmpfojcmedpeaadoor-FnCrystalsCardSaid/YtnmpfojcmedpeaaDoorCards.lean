/-
  DERIVED. GIVEN WITH THE SEED: THE CARDS: each row of YtnmpfojcmedpeaaDoorRows.lean that lists a variable, with what it lists TIED to the program's text (the seventh form; the later family's looks); each row that meets fmt, with fmt's text TOLD by the authors' own Lean function (tested against real Go, not proved from fmt's source: count such statements apart). THE CARD IS WHAT COUNTS. Prove the row's statement (the work); the ties are given (YtnmpfojcmedpeaaDoorTie.lean); close each card by the builder's one call (the guide's Derived/Test/ToyasCard.lean, 'card_holds'). Laid BY PROGRAM, IN A SANDBOX (cutbox-door.mjs). By AI agents, Wed Nov 11 2026. No macro, syntax, notation, axiom, sorry.
-/
import Derived.Test.YtnmpfojcmedpeaaDoorRows
import GoSem.ClaimSeven
namespace Go.Proofs.YtnmpfojcmedpeaaDoor
namespace Rows

/-- THE TIED CARD OF 'laws.FnDrying'. -/
def fnDryingCard : Claim7 := { stood := { row := fnDryingRow, standIns := [], harness := (true, "7896a40067982a83cfd24083683a4453ea77e5aa9cd191f8d74f5adf758bff7b"), looks := false }, kinds := [], alts := [], laidByText := true, laidKinds := [.data, .pinned], laidTests := true, laidLooks := .later }
def FnDryingCardSaid : Prop := Claim7.holds Tryd.pinned (.plain (OpenSpec.ofChange fnDryingSpec)) fnDryingCard

/-- THE TIED CARD OF 'laws.FnCrystals'. -/
def fnCrystalsCard : Claim7 := { stood := { row := fnCrystalsRow, standIns := [], harness := (true, "7896a40067982a83cfd24083683a4453ea77e5aa9cd191f8d74f5adf758bff7b"), looks := false }, kinds := [], alts := [], laidByText := true, laidKinds := [.data, .pinned], laidTests := true, laidLooks := .later }
def FnCrystalsCardSaid : Prop := Claim7.holds Tryd.pinned (.plain (OpenSpec.ofChange fnCrystalsSpec)) fnCrystalsCard

/-- THE TIED CARD OF 'laws.FnExactAreKinds'. -/
def fnExactAreKindsCard : Claim7 := { stood := { row := fnExactAreKindsRow, standIns := [], harness := (true, "7896a40067982a83cfd24083683a4453ea77e5aa9cd191f8d74f5adf758bff7b"), looks := false }, kinds := [], alts := [], laidByText := true, laidKinds := [.data, .pinned], laidTests := true, laidLooks := .later }
def FnExactAreKindsCardSaid : Prop := Claim7.holds Tryd.pinned (.plain (OpenSpec.ofChange fnExactAreKindsSpec)) fnExactAreKindsCard

/-- THE TIED CARD OF 'laws.FnExactIsLiquor'. -/
def fnExactIsLiquorCard : Claim7 := { stood := { row := fnExactIsLiquorRow, standIns := [], harness := (true, "7896a40067982a83cfd24083683a4453ea77e5aa9cd191f8d74f5adf758bff7b"), looks := false }, kinds := [], alts := [], laidByText := true, laidKinds := [.data, .pinned], laidTests := true, laidLooks := .later }
def FnExactIsLiquorCardSaid : Prop := Claim7.holds Tryd.pinned (.plain (OpenSpec.ofChange fnExactIsLiquorSpec)) fnExactIsLiquorCard

/-- THE TIED CARD OF 'laws.FnExactIsFull'. -/
def fnExactIsFullCard : Claim7 := { stood := { row := fnExactIsFullRow, standIns := [], harness := (true, "7896a40067982a83cfd24083683a4453ea77e5aa9cd191f8d74f5adf758bff7b"), looks := false }, kinds := [], alts := [], laidByText := true, laidKinds := [.data, .pinned], laidTests := true, laidLooks := .later }
def FnExactIsFullCardSaid : Prop := Claim7.holds Tryd.pinned (.plain (OpenSpec.ofChange fnExactIsFullSpec)) fnExactIsFullCard

/-- THE TIED CARD OF 'laws.FnExactLiquorMass'. -/
def fnExactLiquorMassCard : Claim7 := { stood := { row := fnExactLiquorMassRow, standIns := [], harness := (true, "7896a40067982a83cfd24083683a4453ea77e5aa9cd191f8d74f5adf758bff7b"), looks := false }, kinds := [], alts := [], laidByText := true, laidKinds := [.data, .pinned], laidTests := true, laidLooks := .later }
def FnExactLiquorMassCardSaid : Prop := Claim7.holds Tryd.pinned (.plain (OpenSpec.ofChange fnExactLiquorMassSpec)) fnExactLiquorMassCard

/-- THE TIED CARD OF 'laws.FnExactDryToKeep'. -/
def fnExactDryToKeepCard : Claim7 := { stood := { row := fnExactDryToKeepRow, standIns := [], harness := (true, "7896a40067982a83cfd24083683a4453ea77e5aa9cd191f8d74f5adf758bff7b"), looks := false }, kinds := [], alts := [], laidByText := true, laidKinds := [.data, .pinned], laidTests := true, laidLooks := .later }
def FnExactDryToKeepCardSaid : Prop := Claim7.holds Tryd.pinned (.plain (OpenSpec.ofChange fnExactDryToKeepSpec)) fnExactDryToKeepCard

/-- THE TIED CARD OF 'laws.FnExactFirstToFall'. -/
def fnExactFirstToFallCard : Claim7 := { stood := { row := fnExactFirstToFallRow, standIns := [], harness := (true, "7896a40067982a83cfd24083683a4453ea77e5aa9cd191f8d74f5adf758bff7b"), looks := false }, kinds := [], alts := [], laidByText := true, laidKinds := [.data, .pinned], laidTests := true, laidLooks := .later }
def FnExactFirstToFallCardSaid : Prop := Claim7.holds Tryd.pinned (.plain (OpenSpec.ofChange fnExactFirstToFallSpec)) fnExactFirstToFallCard

/-- THE TIED CARD OF 'laws.FnExactPureBetween'. -/
def fnExactPureBetweenCard : Claim7 := { stood := { row := fnExactPureBetweenRow, standIns := [], harness := (true, "7896a40067982a83cfd24083683a4453ea77e5aa9cd191f8d74f5adf758bff7b"), looks := false }, kinds := [], alts := [], laidByText := true, laidKinds := [.data, .pinned], laidTests := true, laidLooks := .later }
def FnExactPureBetweenCardSaid : Prop := Claim7.holds Tryd.pinned (.plain (OpenSpec.ofChange fnExactPureBetweenSpec)) fnExactPureBetweenCard

/-- THE TIED CARD OF 'laws.FnExactAfterDrying'. -/
def fnExactAfterDryingCard : Claim7 := { stood := { row := fnExactAfterDryingRow, standIns := [], harness := (true, "7896a40067982a83cfd24083683a4453ea77e5aa9cd191f8d74f5adf758bff7b"), looks := false }, kinds := [], alts := [], laidByText := true, laidKinds := [.data, .pinned], laidTests := true, laidLooks := .later }
def FnExactAfterDryingCardSaid : Prop := Claim7.holds Tryd.pinned (.plain (OpenSpec.ofChange fnExactAfterDryingSpec)) fnExactAfterDryingCard

/-- THE TIED CARD OF 'laws.FnExactFallOut'. -/
def fnExactFallOutCard : Claim7 := { stood := { row := fnExactFallOutRow, standIns := [], harness := (true, "7896a40067982a83cfd24083683a4453ea77e5aa9cd191f8d74f5adf758bff7b"), looks := false }, kinds := [], alts := [], laidByText := true, laidKinds := [.data, .pinned], laidTests := true, laidLooks := .later }
def FnExactFallOutCardSaid : Prop := Claim7.holds Tryd.pinned (.plain (OpenSpec.ofChange fnExactFallOutSpec)) fnExactFallOutCard

/-- THE SECOND FORM's CARD OF 'laws.FnDrying'. -/
def fnDryingUptoCard : Claim7 := { stood := { row := fnDryingUptoRow, standIns := [], harness := (true, "7896a40067982a83cfd24083683a4453ea77e5aa9cd191f8d74f5adf758bff7b"), looks := false }, kinds := [], alts := [], laidByText := true, laidKinds := [.data, .pinned], laidTests := true, laidLooks := .later }
def FnDryingUptoCardSaid : Prop := Claim7.holds Tryd.pinned (.plain (OpenSpec.upto fnDryingSpec)) fnDryingUptoCard

/-- THE SECOND FORM's CARD OF 'laws.FnCrystals'. -/
def fnCrystalsUptoCard : Claim7 := { stood := { row := fnCrystalsUptoRow, standIns := [], harness := (true, "7896a40067982a83cfd24083683a4453ea77e5aa9cd191f8d74f5adf758bff7b"), looks := false }, kinds := [], alts := [], laidByText := true, laidKinds := [.data, .pinned], laidTests := true, laidLooks := .later }
def FnCrystalsUptoCardSaid : Prop := Claim7.holds Tryd.pinned (.plain (OpenSpec.upto fnCrystalsSpec)) fnCrystalsUptoCard

/-- THE SECOND FORM's CARD OF 'laws.FnExactAreKinds'. -/
def fnExactAreKindsUptoCard : Claim7 := { stood := { row := fnExactAreKindsUptoRow, standIns := [], harness := (true, "7896a40067982a83cfd24083683a4453ea77e5aa9cd191f8d74f5adf758bff7b"), looks := false }, kinds := [], alts := [], laidByText := true, laidKinds := [.data, .pinned], laidTests := true, laidLooks := .later }
def FnExactAreKindsUptoCardSaid : Prop := Claim7.holds Tryd.pinned (.plain (OpenSpec.upto fnExactAreKindsSpec)) fnExactAreKindsUptoCard

/-- THE SECOND FORM's CARD OF 'laws.FnExactIsLiquor'. -/
def fnExactIsLiquorUptoCard : Claim7 := { stood := { row := fnExactIsLiquorUptoRow, standIns := [], harness := (true, "7896a40067982a83cfd24083683a4453ea77e5aa9cd191f8d74f5adf758bff7b"), looks := false }, kinds := [], alts := [], laidByText := true, laidKinds := [.data, .pinned], laidTests := true, laidLooks := .later }
def FnExactIsLiquorUptoCardSaid : Prop := Claim7.holds Tryd.pinned (.plain (OpenSpec.upto fnExactIsLiquorSpec)) fnExactIsLiquorUptoCard

/-- THE SECOND FORM's CARD OF 'laws.FnExactIsFull'. -/
def fnExactIsFullUptoCard : Claim7 := { stood := { row := fnExactIsFullUptoRow, standIns := [], harness := (true, "7896a40067982a83cfd24083683a4453ea77e5aa9cd191f8d74f5adf758bff7b"), looks := false }, kinds := [], alts := [], laidByText := true, laidKinds := [.data, .pinned], laidTests := true, laidLooks := .later }
def FnExactIsFullUptoCardSaid : Prop := Claim7.holds Tryd.pinned (.plain (OpenSpec.upto fnExactIsFullSpec)) fnExactIsFullUptoCard

/-- THE SECOND FORM's CARD OF 'laws.FnExactLiquorMass'. -/
def fnExactLiquorMassUptoCard : Claim7 := { stood := { row := fnExactLiquorMassUptoRow, standIns := [], harness := (true, "7896a40067982a83cfd24083683a4453ea77e5aa9cd191f8d74f5adf758bff7b"), looks := false }, kinds := [], alts := [], laidByText := true, laidKinds := [.data, .pinned], laidTests := true, laidLooks := .later }
def FnExactLiquorMassUptoCardSaid : Prop := Claim7.holds Tryd.pinned (.plain (OpenSpec.upto fnExactLiquorMassSpec)) fnExactLiquorMassUptoCard

/-- THE SECOND FORM's CARD OF 'laws.FnExactDryToKeep'. -/
def fnExactDryToKeepUptoCard : Claim7 := { stood := { row := fnExactDryToKeepUptoRow, standIns := [], harness := (true, "7896a40067982a83cfd24083683a4453ea77e5aa9cd191f8d74f5adf758bff7b"), looks := false }, kinds := [], alts := [], laidByText := true, laidKinds := [.data, .pinned], laidTests := true, laidLooks := .later }
def FnExactDryToKeepUptoCardSaid : Prop := Claim7.holds Tryd.pinned (.plain (OpenSpec.upto fnExactDryToKeepSpec)) fnExactDryToKeepUptoCard

/-- THE SECOND FORM's CARD OF 'laws.FnExactFirstToFall'. -/
def fnExactFirstToFallUptoCard : Claim7 := { stood := { row := fnExactFirstToFallUptoRow, standIns := [], harness := (true, "7896a40067982a83cfd24083683a4453ea77e5aa9cd191f8d74f5adf758bff7b"), looks := false }, kinds := [], alts := [], laidByText := true, laidKinds := [.data, .pinned], laidTests := true, laidLooks := .later }
def FnExactFirstToFallUptoCardSaid : Prop := Claim7.holds Tryd.pinned (.plain (OpenSpec.upto fnExactFirstToFallSpec)) fnExactFirstToFallUptoCard

/-- THE SECOND FORM's CARD OF 'laws.FnExactPureBetween'. -/
def fnExactPureBetweenUptoCard : Claim7 := { stood := { row := fnExactPureBetweenUptoRow, standIns := [], harness := (true, "7896a40067982a83cfd24083683a4453ea77e5aa9cd191f8d74f5adf758bff7b"), looks := false }, kinds := [], alts := [], laidByText := true, laidKinds := [.data, .pinned], laidTests := true, laidLooks := .later }
def FnExactPureBetweenUptoCardSaid : Prop := Claim7.holds Tryd.pinned (.plain (OpenSpec.upto fnExactPureBetweenSpec)) fnExactPureBetweenUptoCard

/-- THE SECOND FORM's CARD OF 'laws.FnExactAfterDrying'. -/
def fnExactAfterDryingUptoCard : Claim7 := { stood := { row := fnExactAfterDryingUptoRow, standIns := [], harness := (true, "7896a40067982a83cfd24083683a4453ea77e5aa9cd191f8d74f5adf758bff7b"), looks := false }, kinds := [], alts := [], laidByText := true, laidKinds := [.data, .pinned], laidTests := true, laidLooks := .later }
def FnExactAfterDryingUptoCardSaid : Prop := Claim7.holds Tryd.pinned (.plain (OpenSpec.upto fnExactAfterDryingSpec)) fnExactAfterDryingUptoCard

/-- THE SECOND FORM's CARD OF 'laws.FnExactFallOut'. -/
def fnExactFallOutUptoCard : Claim7 := { stood := { row := fnExactFallOutUptoRow, standIns := [], harness := (true, "7896a40067982a83cfd24083683a4453ea77e5aa9cd191f8d74f5adf758bff7b"), looks := false }, kinds := [], alts := [], laidByText := true, laidKinds := [.data, .pinned], laidTests := true, laidLooks := .later }
def FnExactFallOutUptoCardSaid : Prop := Claim7.holds Tryd.pinned (.plain (OpenSpec.upto fnExactFallOutSpec)) fnExactFallOutUptoCard
end Rows
end Go.Proofs.YtnmpfojcmedpeaaDoor
