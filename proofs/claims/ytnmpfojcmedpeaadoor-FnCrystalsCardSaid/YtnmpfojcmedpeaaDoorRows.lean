/-
  NARROWER THAN 'FOR EVERY INPUT', by the rows' own cells (each row's printed sentence says how): FnDrying: laid · FnCrystals: laid · FnExactAreKinds: laid · FnExactIsLiquor: laid · FnExactIsFull: laid · FnExactLiquorMass: laid · FnExactDryToKeep: laid · FnExactFirstToFall: laid · FnExactPureBetween: laid · FnExactAfterDrying: laid · FnExactFallOut: laid.
  DERIVED. THE GIVEN ROWS OF THIS SEAT. 11 by the template 'for every input the law returns true; each argument reads behind the call as it read before'; 0 by the template 'total and deterministic' (their statements: YtnmpfojcmedpeaaDoorTotals.lean).
  GIVEN WITH THE SEED: the statements are not yours to turn. If you find one false, say at which input.
  Laid BY PROGRAM, IN A SANDBOX (cutbox-rows.mjs): the forced cells as the released guide's own fill.sh prints them over the translation 82f6c4fb8c7d3c4f… (all of the seat's roots in one cut). By AI agents, Wed Nov 11 2026. No macro, syntax, notation, axiom, sorry.
-/
import Derived.Test.YtnmpfojcmedpeaaDoorChecked
import GoSem.PinnedTables
import GoSem.Claim
import GoSem.ClaimJoined
import GoSem.ClaimMapViews
import Derived.JoinedTies
import Derived.KernelRfl
namespace Go.Proofs.YtnmpfojcmedpeaaDoor
/- THE CELL 'sum', in the pinned program and in every row, IS THE sha256 OF THE DUMP (.gsa) THAT YtnmpfojcmedpeaaDoorProg.lean LOADS. Nothing in Lean hashes anything: it is a label: what it is worth is what the hold of that sum in a sandbox is worth. -/
noncomputable def Tryd.pinned : Pinned := { name := "ytnmpfojcmedpeaadoor", sum := "82f6c4fb8c7d3c4f24631bef762927a87f62edf0d87ac1e6e7bb8c94ade9ec59", checked := Tryd.checked }
namespace Rows
def none {H : Type} : Left H := { results := [], args := [] }

/- WHAT THE LISTED PACKAGE-LEVEL VARIABLES READ AS WHEN THE CALL BEGINS. Each datum BY PROGRAM (the guide's laid-datum.mjs) off the statement by which the dump's own 'gosem.cut.vars' lays the variable. In a bare row this is a premise. The card (YtnmpfojcmedpeaaDoorCards.lean) ties it to the program's text. -/
def laid_unicode_utf8_acceptRanges {H : Type} : DataW H := .agg [.agg [.lit (.int .u8 128), .lit (.int .u8 191)], .agg [.lit (.int .u8 160), .lit (.int .u8 191)], .agg [.lit (.int .u8 128), .lit (.int .u8 159)], .agg [.lit (.int .u8 144), .lit (.int .u8 191)], .agg [.lit (.int .u8 128), .lit (.int .u8 143)], .agg [.lit (.int .u8 0), .lit (.int .u8 0)], .agg [.lit (.int .u8 0), .lit (.int .u8 0)], .agg [.lit (.int .u8 0), .lit (.int .u8 0)], .agg [.lit (.int .u8 0), .lit (.int .u8 0)], .agg [.lit (.int .u8 0), .lit (.int .u8 0)], .agg [.lit (.int .u8 0), .lit (.int .u8 0)], .agg [.lit (.int .u8 0), .lit (.int .u8 0)], .agg [.lit (.int .u8 0), .lit (.int .u8 0)], .agg [.lit (.int .u8 0), .lit (.int .u8 0)], .agg [.lit (.int .u8 0), .lit (.int .u8 0)], .agg [.lit (.int .u8 0), .lit (.int .u8 0)]]
/-- One of Go's own tables, pinned by name: the form's constant. -/
def laid_unicode_utf8_first : DataW Unit := Go.Pinned.utf8First

/-- 'laws.FnDrying': WHATEVER THE INPUT: true; the input reads as it did. -/
def fnDryingSpec : ChangeSpec := { name := "fnDrying", fn := fun _ => fun
  | [d] => { results := [.lit (.bool true)], args := [d] }
  | _ => none }
def fnDryingRow : OpenClaim := { program := "ytnmpfojcmedpeaadoor", sum := "82f6c4fb8c7d3c4f24631bef762927a87f62edf0d87ac1e6e7bb8c94ade9ec59", func := "loop.example/g01019/laws.FnDrying", spec := "fnDrying", inPlace := ["internal/bytealg.IndexByteString", "internal/bytealg.IndexString"], unfollowed := true, recurses := true, named := ["unicode/utf8.first", "unicode/utf8.acceptRanges", "internal/bytealg.MaxLen"], apart := false, laid := [("unicode/utf8.acceptRanges", laid_unicode_utf8_acceptRanges), ("unicode/utf8.first", laid_unicode_utf8_first)] }
def FnDryingSaid : Prop := fnDryingRow.holds Tryd.pinned (OpenSpec.ofChange fnDryingSpec)

/-- ITS FALSE NEIGHBOUR: 'it returns false'. Refute it at one input. -/
def fnDryingWrong : ChangeSpec := { name := "fnDrying", fn := fun _ => fun
  | [d] => { results := [.lit (.bool false)], args := [d] }
  | _ => none }
def FnDryingWrongFalsely : Prop := fnDryingRow.holds Tryd.pinned (OpenSpec.ofChange fnDryingWrong)

/-- 'laws.FnCrystals': WHATEVER THE INPUT: true; the input reads as it did. -/
def fnCrystalsSpec : ChangeSpec := { name := "fnCrystals", fn := fun _ => fun
  | [d] => { results := [.lit (.bool true)], args := [d] }
  | _ => none }
def fnCrystalsRow : OpenClaim := { program := "ytnmpfojcmedpeaadoor", sum := "82f6c4fb8c7d3c4f24631bef762927a87f62edf0d87ac1e6e7bb8c94ade9ec59", func := "loop.example/g01019/laws.FnCrystals", spec := "fnCrystals", inPlace := ["internal/bytealg.IndexByteString", "internal/bytealg.IndexString"], unfollowed := true, recurses := true, named := ["unicode/utf8.first", "unicode/utf8.acceptRanges", "internal/bytealg.MaxLen"], apart := false, laid := [("unicode/utf8.acceptRanges", laid_unicode_utf8_acceptRanges), ("unicode/utf8.first", laid_unicode_utf8_first)] }
def FnCrystalsSaid : Prop := fnCrystalsRow.holds Tryd.pinned (OpenSpec.ofChange fnCrystalsSpec)

/-- ITS FALSE NEIGHBOUR: 'it returns false'. Refute it at one input. -/
def fnCrystalsWrong : ChangeSpec := { name := "fnCrystals", fn := fun _ => fun
  | [d] => { results := [.lit (.bool false)], args := [d] }
  | _ => none }
def FnCrystalsWrongFalsely : Prop := fnCrystalsRow.holds Tryd.pinned (OpenSpec.ofChange fnCrystalsWrong)

/-- 'laws.FnExactAreKinds': WHATEVER THE INPUT: true; the input reads as it did. -/
def fnExactAreKindsSpec : ChangeSpec := { name := "fnExactAreKinds", fn := fun _ => fun
  | [d] => { results := [.lit (.bool true)], args := [d] }
  | _ => none }
def fnExactAreKindsRow : OpenClaim := { program := "ytnmpfojcmedpeaadoor", sum := "82f6c4fb8c7d3c4f24631bef762927a87f62edf0d87ac1e6e7bb8c94ade9ec59", func := "loop.example/g01019/laws.FnExactAreKinds", spec := "fnExactAreKinds", inPlace := ["internal/bytealg.IndexByteString", "internal/bytealg.IndexString"], named := ["unicode/utf8.first", "unicode/utf8.acceptRanges", "internal/bytealg.MaxLen"], apart := false, laid := [("unicode/utf8.acceptRanges", laid_unicode_utf8_acceptRanges), ("unicode/utf8.first", laid_unicode_utf8_first)] }
def FnExactAreKindsSaid : Prop := fnExactAreKindsRow.holds Tryd.pinned (OpenSpec.ofChange fnExactAreKindsSpec)

/-- ITS FALSE NEIGHBOUR: 'it returns false'. Refute it at one input. -/
def fnExactAreKindsWrong : ChangeSpec := { name := "fnExactAreKinds", fn := fun _ => fun
  | [d] => { results := [.lit (.bool false)], args := [d] }
  | _ => none }
def FnExactAreKindsWrongFalsely : Prop := fnExactAreKindsRow.holds Tryd.pinned (OpenSpec.ofChange fnExactAreKindsWrong)

/-- 'laws.FnExactIsLiquor': WHATEVER THE INPUT: true; the input reads as it did. -/
def fnExactIsLiquorSpec : ChangeSpec := { name := "fnExactIsLiquor", fn := fun _ => fun
  | [d1, d2] => { results := [.lit (.bool true)], args := [d1, d2] }
  | _ => none }
def fnExactIsLiquorRow : OpenClaim := { program := "ytnmpfojcmedpeaadoor", sum := "82f6c4fb8c7d3c4f24631bef762927a87f62edf0d87ac1e6e7bb8c94ade9ec59", func := "loop.example/g01019/laws.FnExactIsLiquor", spec := "fnExactIsLiquor", inPlace := ["internal/bytealg.IndexByteString", "internal/bytealg.IndexString"], unfollowed := true, recurses := true, named := ["unicode/utf8.first", "unicode/utf8.acceptRanges", "internal/bytealg.MaxLen"], apart := false, laid := [("unicode/utf8.acceptRanges", laid_unicode_utf8_acceptRanges), ("unicode/utf8.first", laid_unicode_utf8_first)] }
def FnExactIsLiquorSaid : Prop := fnExactIsLiquorRow.holds Tryd.pinned (OpenSpec.ofChange fnExactIsLiquorSpec)

/-- ITS FALSE NEIGHBOUR: 'it returns false'. Refute it at one input. -/
def fnExactIsLiquorWrong : ChangeSpec := { name := "fnExactIsLiquor", fn := fun _ => fun
  | [d1, d2] => { results := [.lit (.bool false)], args := [d1, d2] }
  | _ => none }
def FnExactIsLiquorWrongFalsely : Prop := fnExactIsLiquorRow.holds Tryd.pinned (OpenSpec.ofChange fnExactIsLiquorWrong)

/-- 'laws.FnExactIsFull': WHATEVER THE INPUT: true; the input reads as it did. -/
def fnExactIsFullSpec : ChangeSpec := { name := "fnExactIsFull", fn := fun _ => fun
  | [d1, d2, d3] => { results := [.lit (.bool true)], args := [d1, d2, d3] }
  | _ => none }
def fnExactIsFullRow : OpenClaim := { program := "ytnmpfojcmedpeaadoor", sum := "82f6c4fb8c7d3c4f24631bef762927a87f62edf0d87ac1e6e7bb8c94ade9ec59", func := "loop.example/g01019/laws.FnExactIsFull", spec := "fnExactIsFull", inPlace := ["internal/bytealg.IndexByteString", "internal/bytealg.IndexString"], unfollowed := true, recurses := true, named := ["unicode/utf8.first", "unicode/utf8.acceptRanges", "internal/bytealg.MaxLen"], apart := false, laid := [("unicode/utf8.acceptRanges", laid_unicode_utf8_acceptRanges), ("unicode/utf8.first", laid_unicode_utf8_first)] }
def FnExactIsFullSaid : Prop := fnExactIsFullRow.holds Tryd.pinned (OpenSpec.ofChange fnExactIsFullSpec)

/-- ITS FALSE NEIGHBOUR: 'it returns false'. Refute it at one input. -/
def fnExactIsFullWrong : ChangeSpec := { name := "fnExactIsFull", fn := fun _ => fun
  | [d1, d2, d3] => { results := [.lit (.bool false)], args := [d1, d2, d3] }
  | _ => none }
def FnExactIsFullWrongFalsely : Prop := fnExactIsFullRow.holds Tryd.pinned (OpenSpec.ofChange fnExactIsFullWrong)

/-- 'laws.FnExactLiquorMass': WHATEVER THE INPUT: true; the input reads as it did. -/
def fnExactLiquorMassSpec : ChangeSpec := { name := "fnExactLiquorMass", fn := fun _ => fun
  | [d1, d2] => { results := [.lit (.bool true)], args := [d1, d2] }
  | _ => none }
def fnExactLiquorMassRow : OpenClaim := { program := "ytnmpfojcmedpeaadoor", sum := "82f6c4fb8c7d3c4f24631bef762927a87f62edf0d87ac1e6e7bb8c94ade9ec59", func := "loop.example/g01019/laws.FnExactLiquorMass", spec := "fnExactLiquorMass", inPlace := ["internal/bytealg.IndexByteString", "internal/bytealg.IndexString"], unfollowed := true, recurses := true, named := ["unicode/utf8.first", "unicode/utf8.acceptRanges", "internal/bytealg.MaxLen"], apart := false, laid := [("unicode/utf8.acceptRanges", laid_unicode_utf8_acceptRanges), ("unicode/utf8.first", laid_unicode_utf8_first)] }
def FnExactLiquorMassSaid : Prop := fnExactLiquorMassRow.holds Tryd.pinned (OpenSpec.ofChange fnExactLiquorMassSpec)

/-- ITS FALSE NEIGHBOUR: 'it returns false'. Refute it at one input. -/
def fnExactLiquorMassWrong : ChangeSpec := { name := "fnExactLiquorMass", fn := fun _ => fun
  | [d1, d2] => { results := [.lit (.bool false)], args := [d1, d2] }
  | _ => none }
def FnExactLiquorMassWrongFalsely : Prop := fnExactLiquorMassRow.holds Tryd.pinned (OpenSpec.ofChange fnExactLiquorMassWrong)

/-- 'laws.FnExactDryToKeep': WHATEVER THE INPUT: true; the input reads as it did. -/
def fnExactDryToKeepSpec : ChangeSpec := { name := "fnExactDryToKeep", fn := fun _ => fun
  | [d1, d2, d3] => { results := [.lit (.bool true)], args := [d1, d2, d3] }
  | _ => none }
def fnExactDryToKeepRow : OpenClaim := { program := "ytnmpfojcmedpeaadoor", sum := "82f6c4fb8c7d3c4f24631bef762927a87f62edf0d87ac1e6e7bb8c94ade9ec59", func := "loop.example/g01019/laws.FnExactDryToKeep", spec := "fnExactDryToKeep", inPlace := ["internal/bytealg.IndexByteString", "internal/bytealg.IndexString"], unfollowed := true, recurses := true, named := ["unicode/utf8.first", "unicode/utf8.acceptRanges", "internal/bytealg.MaxLen"], apart := false, laid := [("unicode/utf8.acceptRanges", laid_unicode_utf8_acceptRanges), ("unicode/utf8.first", laid_unicode_utf8_first)] }
def FnExactDryToKeepSaid : Prop := fnExactDryToKeepRow.holds Tryd.pinned (OpenSpec.ofChange fnExactDryToKeepSpec)

/-- ITS FALSE NEIGHBOUR: 'it returns false'. Refute it at one input. -/
def fnExactDryToKeepWrong : ChangeSpec := { name := "fnExactDryToKeep", fn := fun _ => fun
  | [d1, d2, d3] => { results := [.lit (.bool false)], args := [d1, d2, d3] }
  | _ => none }
def FnExactDryToKeepWrongFalsely : Prop := fnExactDryToKeepRow.holds Tryd.pinned (OpenSpec.ofChange fnExactDryToKeepWrong)

/-- 'laws.FnExactFirstToFall': WHATEVER THE INPUT: true; the input reads as it did. -/
def fnExactFirstToFallSpec : ChangeSpec := { name := "fnExactFirstToFall", fn := fun _ => fun
  | [d1, d2] => { results := [.lit (.bool true)], args := [d1, d2] }
  | _ => none }
def fnExactFirstToFallRow : OpenClaim := { program := "ytnmpfojcmedpeaadoor", sum := "82f6c4fb8c7d3c4f24631bef762927a87f62edf0d87ac1e6e7bb8c94ade9ec59", func := "loop.example/g01019/laws.FnExactFirstToFall", spec := "fnExactFirstToFall", inPlace := ["internal/bytealg.IndexByteString", "internal/bytealg.IndexString"], unfollowed := true, recurses := true, named := ["unicode/utf8.first", "unicode/utf8.acceptRanges", "internal/bytealg.MaxLen"], apart := false, laid := [("unicode/utf8.acceptRanges", laid_unicode_utf8_acceptRanges), ("unicode/utf8.first", laid_unicode_utf8_first)] }
def FnExactFirstToFallSaid : Prop := fnExactFirstToFallRow.holds Tryd.pinned (OpenSpec.ofChange fnExactFirstToFallSpec)

/-- ITS FALSE NEIGHBOUR: 'it returns false'. Refute it at one input. -/
def fnExactFirstToFallWrong : ChangeSpec := { name := "fnExactFirstToFall", fn := fun _ => fun
  | [d1, d2] => { results := [.lit (.bool false)], args := [d1, d2] }
  | _ => none }
def FnExactFirstToFallWrongFalsely : Prop := fnExactFirstToFallRow.holds Tryd.pinned (OpenSpec.ofChange fnExactFirstToFallWrong)

/-- 'laws.FnExactPureBetween': WHATEVER THE INPUT: true; the input reads as it did. -/
def fnExactPureBetweenSpec : ChangeSpec := { name := "fnExactPureBetween", fn := fun _ => fun
  | [d1, d2, d3] => { results := [.lit (.bool true)], args := [d1, d2, d3] }
  | _ => none }
def fnExactPureBetweenRow : OpenClaim := { program := "ytnmpfojcmedpeaadoor", sum := "82f6c4fb8c7d3c4f24631bef762927a87f62edf0d87ac1e6e7bb8c94ade9ec59", func := "loop.example/g01019/laws.FnExactPureBetween", spec := "fnExactPureBetween", inPlace := ["internal/bytealg.IndexByteString", "internal/bytealg.IndexString"], unfollowed := true, recurses := true, named := ["unicode/utf8.first", "unicode/utf8.acceptRanges", "internal/bytealg.MaxLen"], apart := false, laid := [("unicode/utf8.acceptRanges", laid_unicode_utf8_acceptRanges), ("unicode/utf8.first", laid_unicode_utf8_first)] }
def FnExactPureBetweenSaid : Prop := fnExactPureBetweenRow.holds Tryd.pinned (OpenSpec.ofChange fnExactPureBetweenSpec)

/-- ITS FALSE NEIGHBOUR: 'it returns false'. Refute it at one input. -/
def fnExactPureBetweenWrong : ChangeSpec := { name := "fnExactPureBetween", fn := fun _ => fun
  | [d1, d2, d3] => { results := [.lit (.bool false)], args := [d1, d2, d3] }
  | _ => none }
def FnExactPureBetweenWrongFalsely : Prop := fnExactPureBetweenRow.holds Tryd.pinned (OpenSpec.ofChange fnExactPureBetweenWrong)

/-- 'laws.FnExactAfterDrying': WHATEVER THE INPUT: true; the input reads as it did. -/
def fnExactAfterDryingSpec : ChangeSpec := { name := "fnExactAfterDrying", fn := fun _ => fun
  | [d1, d2, d3] => { results := [.lit (.bool true)], args := [d1, d2, d3] }
  | _ => none }
def fnExactAfterDryingRow : OpenClaim := { program := "ytnmpfojcmedpeaadoor", sum := "82f6c4fb8c7d3c4f24631bef762927a87f62edf0d87ac1e6e7bb8c94ade9ec59", func := "loop.example/g01019/laws.FnExactAfterDrying", spec := "fnExactAfterDrying", inPlace := ["internal/bytealg.IndexByteString", "internal/bytealg.IndexString"], unfollowed := true, recurses := true, named := ["unicode/utf8.first", "unicode/utf8.acceptRanges", "internal/bytealg.MaxLen"], apart := false, laid := [("unicode/utf8.acceptRanges", laid_unicode_utf8_acceptRanges), ("unicode/utf8.first", laid_unicode_utf8_first)] }
def FnExactAfterDryingSaid : Prop := fnExactAfterDryingRow.holds Tryd.pinned (OpenSpec.ofChange fnExactAfterDryingSpec)

/-- ITS FALSE NEIGHBOUR: 'it returns false'. Refute it at one input. -/
def fnExactAfterDryingWrong : ChangeSpec := { name := "fnExactAfterDrying", fn := fun _ => fun
  | [d1, d2, d3] => { results := [.lit (.bool false)], args := [d1, d2, d3] }
  | _ => none }
def FnExactAfterDryingWrongFalsely : Prop := fnExactAfterDryingRow.holds Tryd.pinned (OpenSpec.ofChange fnExactAfterDryingWrong)

/-- 'laws.FnExactFallOut': WHATEVER THE INPUT: true; the input reads as it did. -/
def fnExactFallOutSpec : ChangeSpec := { name := "fnExactFallOut", fn := fun _ => fun
  | [d1, d2] => { results := [.lit (.bool true)], args := [d1, d2] }
  | _ => none }
def fnExactFallOutRow : OpenClaim := { program := "ytnmpfojcmedpeaadoor", sum := "82f6c4fb8c7d3c4f24631bef762927a87f62edf0d87ac1e6e7bb8c94ade9ec59", func := "loop.example/g01019/laws.FnExactFallOut", spec := "fnExactFallOut", inPlace := ["internal/bytealg.IndexByteString", "internal/bytealg.IndexString"], unfollowed := true, recurses := true, named := ["unicode/utf8.first", "unicode/utf8.acceptRanges", "internal/bytealg.MaxLen"], apart := false, laid := [("unicode/utf8.acceptRanges", laid_unicode_utf8_acceptRanges), ("unicode/utf8.first", laid_unicode_utf8_first)] }
def FnExactFallOutSaid : Prop := fnExactFallOutRow.holds Tryd.pinned (OpenSpec.ofChange fnExactFallOutSpec)

/-- ITS FALSE NEIGHBOUR: 'it returns false'. Refute it at one input. -/
def fnExactFallOutWrong : ChangeSpec := { name := "fnExactFallOut", fn := fun _ => fun
  | [d1, d2] => { results := [.lit (.bool false)], args := [d1, d2] }
  | _ => none }
def FnExactFallOutWrongFalsely : Prop := fnExactFallOutRow.holds Tryd.pinned (OpenSpec.ofChange fnExactFallOutWrong)

/- THE SECOND FORM. 'bulk': how many values and letters a reading holds, each counted each time it is reached (what is shared counts as often as it is met; a slice's spare places count too). A statement '..UptoSaid' is the law's where the arguments, and the package variables that the reading takes, are together of bulk at most 1048576: NARROWER than '..Said'. Prove '..Said' where nothing that the law and all that it calls make is longer than what came in: it says more and counts as full. Else prove '..UptoSaid'. A law counts once. -/
mutual
def uptoBulk {H : Type} : DataW H → Nat
  | .lit (.string bytes) => bytes.length + 1
  | .lit _ => 1
  | .nil => 1
  | .ptr d => uptoBulk d + 1
  | .slice elems spare => uptoBulkAll elems + uptoBulkAll spare + 1
  | .agg parts => uptoBulkAll parts + 1
  | .iface _ d => uptoBulk d + 1
  | .map entries => uptoBulkEntries entries + 1
  | .held _ => 1
def uptoBulkAll {H : Type} : List (DataW H) → Nat
  | [] => 0
  | d :: r => uptoBulk d + uptoBulkAll r
def uptoBulkEntries {H : Type} : List (Lit × DataW H) → Nat
  | [] => 0
  | x :: r => uptoBulkEntry x + uptoBulkEntries r
def uptoBulkEntry {H : Type} : Lit × DataW H → Nat
  | (.string bytes, d) => bytes.length + uptoBulk d + 1
  | (_, d) => uptoBulk d + 1
 end
def uptoSmall : (H : Type) → List (DataW H) → Bool := fun _ ds => decide (uptoBulkAll ds ≤ 1048576)
def OpenSpec.upto (s : _root_.Go.ChangeSpec) : _root_.Go.OpenSpec := { _root_.Go.OpenSpec.ofChange s with cond := some uptoSmall }

/-- 'laws.FnDrying', WHERE WHAT IT READS IS OF BULK AT MOST 1048576: true; the input reads as it did. -/
def fnDryingUptoRow : OpenClaim := { program := "ytnmpfojcmedpeaadoor", sum := "82f6c4fb8c7d3c4f24631bef762927a87f62edf0d87ac1e6e7bb8c94ade9ec59", func := "loop.example/g01019/laws.FnDrying", spec := "fnDrying", inPlace := ["internal/bytealg.IndexByteString", "internal/bytealg.IndexString"], unfollowed := true, recurses := true, named := ["unicode/utf8.first", "unicode/utf8.acceptRanges", "internal/bytealg.MaxLen"], apart := false, laid := [("unicode/utf8.acceptRanges", laid_unicode_utf8_acceptRanges), ("unicode/utf8.first", laid_unicode_utf8_first)], narrowed := true }
def FnDryingUptoSaid : Prop := fnDryingUptoRow.holds Tryd.pinned (OpenSpec.upto fnDryingSpec)

/-- 'laws.FnCrystals', WHERE WHAT IT READS IS OF BULK AT MOST 1048576: true; the input reads as it did. -/
def fnCrystalsUptoRow : OpenClaim := { program := "ytnmpfojcmedpeaadoor", sum := "82f6c4fb8c7d3c4f24631bef762927a87f62edf0d87ac1e6e7bb8c94ade9ec59", func := "loop.example/g01019/laws.FnCrystals", spec := "fnCrystals", inPlace := ["internal/bytealg.IndexByteString", "internal/bytealg.IndexString"], unfollowed := true, recurses := true, named := ["unicode/utf8.first", "unicode/utf8.acceptRanges", "internal/bytealg.MaxLen"], apart := false, laid := [("unicode/utf8.acceptRanges", laid_unicode_utf8_acceptRanges), ("unicode/utf8.first", laid_unicode_utf8_first)], narrowed := true }
def FnCrystalsUptoSaid : Prop := fnCrystalsUptoRow.holds Tryd.pinned (OpenSpec.upto fnCrystalsSpec)

/-- 'laws.FnExactAreKinds', WHERE WHAT IT READS IS OF BULK AT MOST 1048576: true; the input reads as it did. -/
def fnExactAreKindsUptoRow : OpenClaim := { program := "ytnmpfojcmedpeaadoor", sum := "82f6c4fb8c7d3c4f24631bef762927a87f62edf0d87ac1e6e7bb8c94ade9ec59", func := "loop.example/g01019/laws.FnExactAreKinds", spec := "fnExactAreKinds", inPlace := ["internal/bytealg.IndexByteString", "internal/bytealg.IndexString"], named := ["unicode/utf8.first", "unicode/utf8.acceptRanges", "internal/bytealg.MaxLen"], apart := false, laid := [("unicode/utf8.acceptRanges", laid_unicode_utf8_acceptRanges), ("unicode/utf8.first", laid_unicode_utf8_first)], narrowed := true }
def FnExactAreKindsUptoSaid : Prop := fnExactAreKindsUptoRow.holds Tryd.pinned (OpenSpec.upto fnExactAreKindsSpec)

/-- 'laws.FnExactIsLiquor', WHERE WHAT IT READS IS OF BULK AT MOST 1048576: true; the input reads as it did. -/
def fnExactIsLiquorUptoRow : OpenClaim := { program := "ytnmpfojcmedpeaadoor", sum := "82f6c4fb8c7d3c4f24631bef762927a87f62edf0d87ac1e6e7bb8c94ade9ec59", func := "loop.example/g01019/laws.FnExactIsLiquor", spec := "fnExactIsLiquor", inPlace := ["internal/bytealg.IndexByteString", "internal/bytealg.IndexString"], unfollowed := true, recurses := true, named := ["unicode/utf8.first", "unicode/utf8.acceptRanges", "internal/bytealg.MaxLen"], apart := false, laid := [("unicode/utf8.acceptRanges", laid_unicode_utf8_acceptRanges), ("unicode/utf8.first", laid_unicode_utf8_first)], narrowed := true }
def FnExactIsLiquorUptoSaid : Prop := fnExactIsLiquorUptoRow.holds Tryd.pinned (OpenSpec.upto fnExactIsLiquorSpec)

/-- 'laws.FnExactIsFull', WHERE WHAT IT READS IS OF BULK AT MOST 1048576: true; the input reads as it did. -/
def fnExactIsFullUptoRow : OpenClaim := { program := "ytnmpfojcmedpeaadoor", sum := "82f6c4fb8c7d3c4f24631bef762927a87f62edf0d87ac1e6e7bb8c94ade9ec59", func := "loop.example/g01019/laws.FnExactIsFull", spec := "fnExactIsFull", inPlace := ["internal/bytealg.IndexByteString", "internal/bytealg.IndexString"], unfollowed := true, recurses := true, named := ["unicode/utf8.first", "unicode/utf8.acceptRanges", "internal/bytealg.MaxLen"], apart := false, laid := [("unicode/utf8.acceptRanges", laid_unicode_utf8_acceptRanges), ("unicode/utf8.first", laid_unicode_utf8_first)], narrowed := true }
def FnExactIsFullUptoSaid : Prop := fnExactIsFullUptoRow.holds Tryd.pinned (OpenSpec.upto fnExactIsFullSpec)

/-- 'laws.FnExactLiquorMass', WHERE WHAT IT READS IS OF BULK AT MOST 1048576: true; the input reads as it did. -/
def fnExactLiquorMassUptoRow : OpenClaim := { program := "ytnmpfojcmedpeaadoor", sum := "82f6c4fb8c7d3c4f24631bef762927a87f62edf0d87ac1e6e7bb8c94ade9ec59", func := "loop.example/g01019/laws.FnExactLiquorMass", spec := "fnExactLiquorMass", inPlace := ["internal/bytealg.IndexByteString", "internal/bytealg.IndexString"], unfollowed := true, recurses := true, named := ["unicode/utf8.first", "unicode/utf8.acceptRanges", "internal/bytealg.MaxLen"], apart := false, laid := [("unicode/utf8.acceptRanges", laid_unicode_utf8_acceptRanges), ("unicode/utf8.first", laid_unicode_utf8_first)], narrowed := true }
def FnExactLiquorMassUptoSaid : Prop := fnExactLiquorMassUptoRow.holds Tryd.pinned (OpenSpec.upto fnExactLiquorMassSpec)

/-- 'laws.FnExactDryToKeep', WHERE WHAT IT READS IS OF BULK AT MOST 1048576: true; the input reads as it did. -/
def fnExactDryToKeepUptoRow : OpenClaim := { program := "ytnmpfojcmedpeaadoor", sum := "82f6c4fb8c7d3c4f24631bef762927a87f62edf0d87ac1e6e7bb8c94ade9ec59", func := "loop.example/g01019/laws.FnExactDryToKeep", spec := "fnExactDryToKeep", inPlace := ["internal/bytealg.IndexByteString", "internal/bytealg.IndexString"], unfollowed := true, recurses := true, named := ["unicode/utf8.first", "unicode/utf8.acceptRanges", "internal/bytealg.MaxLen"], apart := false, laid := [("unicode/utf8.acceptRanges", laid_unicode_utf8_acceptRanges), ("unicode/utf8.first", laid_unicode_utf8_first)], narrowed := true }
def FnExactDryToKeepUptoSaid : Prop := fnExactDryToKeepUptoRow.holds Tryd.pinned (OpenSpec.upto fnExactDryToKeepSpec)

/-- 'laws.FnExactFirstToFall', WHERE WHAT IT READS IS OF BULK AT MOST 1048576: true; the input reads as it did. -/
def fnExactFirstToFallUptoRow : OpenClaim := { program := "ytnmpfojcmedpeaadoor", sum := "82f6c4fb8c7d3c4f24631bef762927a87f62edf0d87ac1e6e7bb8c94ade9ec59", func := "loop.example/g01019/laws.FnExactFirstToFall", spec := "fnExactFirstToFall", inPlace := ["internal/bytealg.IndexByteString", "internal/bytealg.IndexString"], unfollowed := true, recurses := true, named := ["unicode/utf8.first", "unicode/utf8.acceptRanges", "internal/bytealg.MaxLen"], apart := false, laid := [("unicode/utf8.acceptRanges", laid_unicode_utf8_acceptRanges), ("unicode/utf8.first", laid_unicode_utf8_first)], narrowed := true }
def FnExactFirstToFallUptoSaid : Prop := fnExactFirstToFallUptoRow.holds Tryd.pinned (OpenSpec.upto fnExactFirstToFallSpec)

/-- 'laws.FnExactPureBetween', WHERE WHAT IT READS IS OF BULK AT MOST 1048576: true; the input reads as it did. -/
def fnExactPureBetweenUptoRow : OpenClaim := { program := "ytnmpfojcmedpeaadoor", sum := "82f6c4fb8c7d3c4f24631bef762927a87f62edf0d87ac1e6e7bb8c94ade9ec59", func := "loop.example/g01019/laws.FnExactPureBetween", spec := "fnExactPureBetween", inPlace := ["internal/bytealg.IndexByteString", "internal/bytealg.IndexString"], unfollowed := true, recurses := true, named := ["unicode/utf8.first", "unicode/utf8.acceptRanges", "internal/bytealg.MaxLen"], apart := false, laid := [("unicode/utf8.acceptRanges", laid_unicode_utf8_acceptRanges), ("unicode/utf8.first", laid_unicode_utf8_first)], narrowed := true }
def FnExactPureBetweenUptoSaid : Prop := fnExactPureBetweenUptoRow.holds Tryd.pinned (OpenSpec.upto fnExactPureBetweenSpec)

/-- 'laws.FnExactAfterDrying', WHERE WHAT IT READS IS OF BULK AT MOST 1048576: true; the input reads as it did. -/
def fnExactAfterDryingUptoRow : OpenClaim := { program := "ytnmpfojcmedpeaadoor", sum := "82f6c4fb8c7d3c4f24631bef762927a87f62edf0d87ac1e6e7bb8c94ade9ec59", func := "loop.example/g01019/laws.FnExactAfterDrying", spec := "fnExactAfterDrying", inPlace := ["internal/bytealg.IndexByteString", "internal/bytealg.IndexString"], unfollowed := true, recurses := true, named := ["unicode/utf8.first", "unicode/utf8.acceptRanges", "internal/bytealg.MaxLen"], apart := false, laid := [("unicode/utf8.acceptRanges", laid_unicode_utf8_acceptRanges), ("unicode/utf8.first", laid_unicode_utf8_first)], narrowed := true }
def FnExactAfterDryingUptoSaid : Prop := fnExactAfterDryingUptoRow.holds Tryd.pinned (OpenSpec.upto fnExactAfterDryingSpec)

/-- 'laws.FnExactFallOut', WHERE WHAT IT READS IS OF BULK AT MOST 1048576: true; the input reads as it did. -/
def fnExactFallOutUptoRow : OpenClaim := { program := "ytnmpfojcmedpeaadoor", sum := "82f6c4fb8c7d3c4f24631bef762927a87f62edf0d87ac1e6e7bb8c94ade9ec59", func := "loop.example/g01019/laws.FnExactFallOut", spec := "fnExactFallOut", inPlace := ["internal/bytealg.IndexByteString", "internal/bytealg.IndexString"], unfollowed := true, recurses := true, named := ["unicode/utf8.first", "unicode/utf8.acceptRanges", "internal/bytealg.MaxLen"], apart := false, laid := [("unicode/utf8.acceptRanges", laid_unicode_utf8_acceptRanges), ("unicode/utf8.first", laid_unicode_utf8_first)], narrowed := true }
def FnExactFallOutUptoSaid : Prop := fnExactFallOutUptoRow.holds Tryd.pinned (OpenSpec.upto fnExactFallOutSpec)

end Rows
end Go.Proofs.YtnmpfojcmedpeaaDoor
