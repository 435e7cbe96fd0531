/-
  No cell of these rows narrows 'for every input' (looked for: loops, veiled, ifaces, maps, wideKeys, modest, calm, conditions, laid).
  DERIVED. THE GIVEN ROWS OF THIS SEAT. 6 by the template 'for every input the law returns true; each argument reads behind the call as it read before'; 0 by the template 'total and deterministic' (their statements: YtjhhpepjjpejhaaTotals.lean).
  GIVEN WITH THE SEED: the statements are not yours to turn. If you find one false, say at which input.
  Laid BY PROGRAM, IN A SANDBOX (cutbox-rows.mjs): the forced cells as the released guide's own fill.sh prints them over the translation f6c4b5426db22221… (all of the seat's roots in one cut). By AI agents, Wed Nov 11 2026. No macro, syntax, notation, axiom, sorry.
-/
import Derived.Test.YtjhhpepjjpejhaaChecked
import GoSem.Claim
import GoSem.ClaimJoined
import GoSem.ClaimMapViews
import Derived.JoinedTies
import Derived.KernelRfl
namespace Go.Proofs.Ytjhhpepjjpejhaa
/- THE CELL 'sum', in the pinned program and in every row, IS THE sha256 OF THE DUMP (.gsa) THAT YtjhhpepjjpejhaaProg.lean LOADS. Nothing in Lean hashes anything: it is a label: what it is worth is what the hold of that sum in a sandbox is worth. -/
noncomputable def Try.pinned : Pinned := { name := "ytjhhpepjjpejhaa", sum := "f6c4b5426db22221b3af5ee46de8eaca264dfad416bbcc926693a058d717a80d", checked := Try.checked }
namespace Rows
def none {H : Type} : Left H := { results := [], args := [] }

/-- 'laws.FnExactIsSeries': WHATEVER THE INPUT: true; the input reads as it did. -/
def fnExactIsSeriesSpec : ChangeSpec := { name := "fnExactIsSeries", fn := fun _ => fun
  | [d] => { results := [.lit (.bool true)], args := [d] }
  | _ => none }
def fnExactIsSeriesRow : OpenClaim := { program := "ytjhhpepjjpejhaa", sum := "f6c4b5426db22221b3af5ee46de8eaca264dfad416bbcc926693a058d717a80d", func := "loop.example/g01019/laws.FnExactIsSeries", spec := "fnExactIsSeries", unfollowed := true, recurses := true, apart := false }
def FnExactIsSeriesSaid : Prop := fnExactIsSeriesRow.holds Try.pinned (OpenSpec.ofChange fnExactIsSeriesSpec)

/-- ITS FALSE NEIGHBOUR: 'it returns false'. Refute it at one input. -/
def fnExactIsSeriesWrong : ChangeSpec := { name := "fnExactIsSeries", fn := fun _ => fun
  | [d] => { results := [.lit (.bool false)], args := [d] }
  | _ => none }
def FnExactIsSeriesWrongFalsely : Prop := fnExactIsSeriesRow.holds Try.pinned (OpenSpec.ofChange fnExactIsSeriesWrong)

/-- 'laws.FnExactStrongestBasin': WHATEVER THE INPUT: true; the input reads as it did. -/
def fnExactStrongestBasinSpec : ChangeSpec := { name := "fnExactStrongestBasin", fn := fun _ => fun
  | [d] => { results := [.lit (.bool true)], args := [d] }
  | _ => none }
def fnExactStrongestBasinRow : OpenClaim := { program := "ytjhhpepjjpejhaa", sum := "f6c4b5426db22221b3af5ee46de8eaca264dfad416bbcc926693a058d717a80d", func := "loop.example/g01019/laws.FnExactStrongestBasin", spec := "fnExactStrongestBasin", unfollowed := true, recurses := true, apart := false }
def FnExactStrongestBasinSaid : Prop := fnExactStrongestBasinRow.holds Try.pinned (OpenSpec.ofChange fnExactStrongestBasinSpec)

/-- ITS FALSE NEIGHBOUR: 'it returns false'. Refute it at one input. -/
def fnExactStrongestBasinWrong : ChangeSpec := { name := "fnExactStrongestBasin", fn := fun _ => fun
  | [d] => { results := [.lit (.bool false)], args := [d] }
  | _ => none }
def FnExactStrongestBasinWrongFalsely : Prop := fnExactStrongestBasinRow.holds Try.pinned (OpenSpec.ofChange fnExactStrongestBasinWrong)

/-- 'laws.FnExactIsRising': WHATEVER THE INPUT: true; the input reads as it did. -/
def fnExactIsRisingSpec : ChangeSpec := { name := "fnExactIsRising", fn := fun _ => fun
  | [d] => { results := [.lit (.bool true)], args := [d] }
  | _ => none }
def fnExactIsRisingRow : OpenClaim := { program := "ytjhhpepjjpejhaa", sum := "f6c4b5426db22221b3af5ee46de8eaca264dfad416bbcc926693a058d717a80d", func := "loop.example/g01019/laws.FnExactIsRising", spec := "fnExactIsRising", unfollowed := true, recurses := true, apart := false }
def FnExactIsRisingSaid : Prop := fnExactIsRisingRow.holds Try.pinned (OpenSpec.ofChange fnExactIsRisingSpec)

/-- ITS FALSE NEIGHBOUR: 'it returns false'. Refute it at one input. -/
def fnExactIsRisingWrong : ChangeSpec := { name := "fnExactIsRising", fn := fun _ => fun
  | [d] => { results := [.lit (.bool false)], args := [d] }
  | _ => none }
def FnExactIsRisingWrongFalsely : Prop := fnExactIsRisingRow.holds Try.pinned (OpenSpec.ofChange fnExactIsRisingWrong)

/-- 'laws.FnExactSunOnSeries': WHATEVER THE INPUT: true; the input reads as it did. -/
def fnExactSunOnSeriesSpec : ChangeSpec := { name := "fnExactSunOnSeries", fn := fun _ => fun
  | [d1, d2] => { results := [.lit (.bool true)], args := [d1, d2] }
  | _ => none }
def fnExactSunOnSeriesRow : OpenClaim := { program := "ytjhhpepjjpejhaa", sum := "f6c4b5426db22221b3af5ee46de8eaca264dfad416bbcc926693a058d717a80d", func := "loop.example/g01019/laws.FnExactSunOnSeries", spec := "fnExactSunOnSeries", unfollowed := true, recurses := true, apart := false }
def FnExactSunOnSeriesSaid : Prop := fnExactSunOnSeriesRow.holds Try.pinned (OpenSpec.ofChange fnExactSunOnSeriesSpec)

/-- ITS FALSE NEIGHBOUR: 'it returns false'. Refute it at one input. -/
def fnExactSunOnSeriesWrong : ChangeSpec := { name := "fnExactSunOnSeries", fn := fun _ => fun
  | [d1, d2] => { results := [.lit (.bool false)], args := [d1, d2] }
  | _ => none }
def FnExactSunOnSeriesWrongFalsely : Prop := fnExactSunOnSeriesRow.holds Try.pinned (OpenSpec.ofChange fnExactSunOnSeriesWrong)

/-- 'laws.FnExactDepthOrder': WHATEVER THE INPUT: true; the input reads as it did. -/
def fnExactDepthOrderSpec : ChangeSpec := { name := "fnExactDepthOrder", fn := fun _ => fun
  | [d] => { results := [.lit (.bool true)], args := [d] }
  | _ => none }
def fnExactDepthOrderRow : OpenClaim := { program := "ytjhhpepjjpejhaa", sum := "f6c4b5426db22221b3af5ee46de8eaca264dfad416bbcc926693a058d717a80d", func := "loop.example/g01019/laws.FnExactDepthOrder", spec := "fnExactDepthOrder", unfollowed := true, recurses := true, apart := false }
def FnExactDepthOrderSaid : Prop := fnExactDepthOrderRow.holds Try.pinned (OpenSpec.ofChange fnExactDepthOrderSpec)

/-- ITS FALSE NEIGHBOUR: 'it returns false'. Refute it at one input. -/
def fnExactDepthOrderWrong : ChangeSpec := { name := "fnExactDepthOrder", fn := fun _ => fun
  | [d] => { results := [.lit (.bool false)], args := [d] }
  | _ => none }
def FnExactDepthOrderWrongFalsely : Prop := fnExactDepthOrderRow.holds Try.pinned (OpenSpec.ofChange fnExactDepthOrderWrong)

/-- 'laws.FnBasins': WHATEVER THE INPUT: true; the input reads as it did. -/
def fnBasinsSpec : ChangeSpec := { name := "fnBasins", fn := fun _ => fun
  | [d] => { results := [.lit (.bool true)], args := [d] }
  | _ => none }
def fnBasinsRow : OpenClaim := { program := "ytjhhpepjjpejhaa", sum := "f6c4b5426db22221b3af5ee46de8eaca264dfad416bbcc926693a058d717a80d", func := "loop.example/g01019/laws.FnBasins", spec := "fnBasins", unfollowed := true, recurses := true, apart := false }
def FnBasinsSaid : Prop := fnBasinsRow.holds Try.pinned (OpenSpec.ofChange fnBasinsSpec)

/-- ITS FALSE NEIGHBOUR: 'it returns false'. Refute it at one input. -/
def fnBasinsWrong : ChangeSpec := { name := "fnBasins", fn := fun _ => fun
  | [d] => { results := [.lit (.bool false)], args := [d] }
  | _ => none }
def FnBasinsWrongFalsely : Prop := fnBasinsRow.holds Try.pinned (OpenSpec.ofChange fnBasinsWrong)

/- THE SECOND FORM. 'bulk': how many values and letters a reading holds, each counted each time it is reached (what is shared counts as often as it is met; a slice's spare places count too). A statement '..UptoSaid' is the law's where the arguments, and the package variables that the reading takes, are together of bulk at most 1048576: NARROWER than '..Said'. Prove '..Said' where nothing that the law and all that it calls make is longer than what came in: it says more and counts as full. Else prove '..UptoSaid'. A law counts once. -/
mutual
def uptoBulk {H : Type} : DataW H → Nat
  | .lit (.string bytes) => bytes.length + 1
  | .lit _ => 1
  | .nil => 1
  | .ptr d => uptoBulk d + 1
  | .slice elems spare => uptoBulkAll elems + uptoBulkAll spare + 1
  | .agg parts => uptoBulkAll parts + 1
  | .iface _ d => uptoBulk d + 1
  | .map entries => uptoBulkEntries entries + 1
  | .held _ => 1
def uptoBulkAll {H : Type} : List (DataW H) → Nat
  | [] => 0
  | d :: r => uptoBulk d + uptoBulkAll r
def uptoBulkEntries {H : Type} : List (Lit × DataW H) → Nat
  | [] => 0
  | x :: r => uptoBulkEntry x + uptoBulkEntries r
def uptoBulkEntry {H : Type} : Lit × DataW H → Nat
  | (.string bytes, d) => bytes.length + uptoBulk d + 1
  | (_, d) => uptoBulk d + 1
 end
def uptoSmall : (H : Type) → List (DataW H) → Bool := fun _ ds => decide (uptoBulkAll ds ≤ 1048576)
def OpenSpec.upto (s : _root_.Go.ChangeSpec) : _root_.Go.OpenSpec := { _root_.Go.OpenSpec.ofChange s with cond := some uptoSmall }

/-- 'laws.FnExactIsSeries', WHERE WHAT IT READS IS OF BULK AT MOST 1048576: true; the input reads as it did. -/
def fnExactIsSeriesUptoRow : OpenClaim := { program := "ytjhhpepjjpejhaa", sum := "f6c4b5426db22221b3af5ee46de8eaca264dfad416bbcc926693a058d717a80d", func := "loop.example/g01019/laws.FnExactIsSeries", spec := "fnExactIsSeries", unfollowed := true, recurses := true, apart := false, narrowed := true }
def FnExactIsSeriesUptoSaid : Prop := fnExactIsSeriesUptoRow.holds Try.pinned (OpenSpec.upto fnExactIsSeriesSpec)

/-- 'laws.FnExactStrongestBasin', WHERE WHAT IT READS IS OF BULK AT MOST 1048576: true; the input reads as it did. -/
def fnExactStrongestBasinUptoRow : OpenClaim := { program := "ytjhhpepjjpejhaa", sum := "f6c4b5426db22221b3af5ee46de8eaca264dfad416bbcc926693a058d717a80d", func := "loop.example/g01019/laws.FnExactStrongestBasin", spec := "fnExactStrongestBasin", unfollowed := true, recurses := true, apart := false, narrowed := true }
def FnExactStrongestBasinUptoSaid : Prop := fnExactStrongestBasinUptoRow.holds Try.pinned (OpenSpec.upto fnExactStrongestBasinSpec)

/-- 'laws.FnExactIsRising', WHERE WHAT IT READS IS OF BULK AT MOST 1048576: true; the input reads as it did. -/
def fnExactIsRisingUptoRow : OpenClaim := { program := "ytjhhpepjjpejhaa", sum := "f6c4b5426db22221b3af5ee46de8eaca264dfad416bbcc926693a058d717a80d", func := "loop.example/g01019/laws.FnExactIsRising", spec := "fnExactIsRising", unfollowed := true, recurses := true, apart := false, narrowed := true }
def FnExactIsRisingUptoSaid : Prop := fnExactIsRisingUptoRow.holds Try.pinned (OpenSpec.upto fnExactIsRisingSpec)

/-- 'laws.FnExactSunOnSeries', WHERE WHAT IT READS IS OF BULK AT MOST 1048576: true; the input reads as it did. -/
def fnExactSunOnSeriesUptoRow : OpenClaim := { program := "ytjhhpepjjpejhaa", sum := "f6c4b5426db22221b3af5ee46de8eaca264dfad416bbcc926693a058d717a80d", func := "loop.example/g01019/laws.FnExactSunOnSeries", spec := "fnExactSunOnSeries", unfollowed := true, recurses := true, apart := false, narrowed := true }
def FnExactSunOnSeriesUptoSaid : Prop := fnExactSunOnSeriesUptoRow.holds Try.pinned (OpenSpec.upto fnExactSunOnSeriesSpec)

/-- 'laws.FnExactDepthOrder', WHERE WHAT IT READS IS OF BULK AT MOST 1048576: true; the input reads as it did. -/
def fnExactDepthOrderUptoRow : OpenClaim := { program := "ytjhhpepjjpejhaa", sum := "f6c4b5426db22221b3af5ee46de8eaca264dfad416bbcc926693a058d717a80d", func := "loop.example/g01019/laws.FnExactDepthOrder", spec := "fnExactDepthOrder", unfollowed := true, recurses := true, apart := false, narrowed := true }
def FnExactDepthOrderUptoSaid : Prop := fnExactDepthOrderUptoRow.holds Try.pinned (OpenSpec.upto fnExactDepthOrderSpec)

/-- 'laws.FnBasins', WHERE WHAT IT READS IS OF BULK AT MOST 1048576: true; the input reads as it did. -/
def fnBasinsUptoRow : OpenClaim := { program := "ytjhhpepjjpejhaa", sum := "f6c4b5426db22221b3af5ee46de8eaca264dfad416bbcc926693a058d717a80d", func := "loop.example/g01019/laws.FnBasins", spec := "fnBasins", unfollowed := true, recurses := true, apart := false, narrowed := true }
def FnBasinsUptoSaid : Prop := fnBasinsUptoRow.holds Try.pinned (OpenSpec.upto fnBasinsSpec)

end Rows
end Go.Proofs.Ytjhhpepjjpejhaa
