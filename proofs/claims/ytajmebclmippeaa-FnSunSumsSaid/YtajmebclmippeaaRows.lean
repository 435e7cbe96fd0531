/-
  No cell of these rows narrows 'for every input' (looked for: loops, veiled, ifaces, maps, wideKeys, modest, calm, conditions, laid).
  DERIVED. THE GIVEN ROWS OF THIS SEAT. 11 by the template 'for every input the law returns true; each argument reads behind the call as it read before'; 0 by the template 'total and deterministic' (their statements: YtajmebclmippeaaTotals.lean).
  GIVEN WITH THE SEED: the statements are not yours to turn. If you find one false, say at which input.
  Laid BY PROGRAM, IN A SANDBOX (cutbox-rows.mjs): the forced cells as the released guide's own fill.sh prints them over the translation ca737ef0b629972f… (all of the seat's roots in one cut). By AI agents, Wed Nov 11 2026. No macro, syntax, notation, axiom, sorry.
-/
import Derived.Test.YtajmebclmippeaaChecked
import GoSem.Claim
import GoSem.ClaimJoined
import GoSem.ClaimMapViews
import Derived.JoinedTies
import Derived.KernelRfl
namespace Go.Proofs.Ytajmebclmippeaa
/- THE CELL 'sum', in the pinned program and in every row, IS THE sha256 OF THE DUMP (.gsa) THAT YtajmebclmippeaaProg.lean LOADS. Nothing in Lean hashes anything: it is a label: what it is worth is what the hold of that sum in a sandbox is worth. -/
noncomputable def Try.pinned : Pinned := { name := "ytajmebclmippeaa", sum := "ca737ef0b629972fd5d7c3d62a2b8f81e2b4125926cf96bb950c699b2a5056a5", checked := Try.checked }
namespace Rows
def none {H : Type} : Left H := { results := [], args := [] }

/-- 'laws.FnExactAreSuns': WHATEVER THE INPUT: true; the input reads as it did. -/
def fnExactAreSunsSpec : ChangeSpec := { name := "fnExactAreSuns", fn := fun _ => fun
  | [d] => { results := [.lit (.bool true)], args := [d] }
  | _ => none }
def fnExactAreSunsRow : OpenClaim := { program := "ytajmebclmippeaa", sum := "ca737ef0b629972fd5d7c3d62a2b8f81e2b4125926cf96bb950c699b2a5056a5", func := "loop.example/g01019/laws.FnExactAreSuns", spec := "fnExactAreSuns", apart := false }
def FnExactAreSunsSaid : Prop := fnExactAreSunsRow.holds Try.pinned (OpenSpec.ofChange fnExactAreSunsSpec)

/-- ITS FALSE NEIGHBOUR: 'it returns false'. Refute it at one input. -/
def fnExactAreSunsWrong : ChangeSpec := { name := "fnExactAreSuns", fn := fun _ => fun
  | [d] => { results := [.lit (.bool false)], args := [d] }
  | _ => none }
def FnExactAreSunsWrongFalsely : Prop := fnExactAreSunsRow.holds Try.pinned (OpenSpec.ofChange fnExactAreSunsWrong)

/-- 'laws.FnSuns': WHATEVER THE INPUT: true; the input reads as it did. -/
def fnSunsSpec : ChangeSpec := { name := "fnSuns", fn := fun _ => fun
  | [d] => { results := [.lit (.bool true)], args := [d] }
  | _ => none }
def fnSunsRow : OpenClaim := { program := "ytajmebclmippeaa", sum := "ca737ef0b629972fd5d7c3d62a2b8f81e2b4125926cf96bb950c699b2a5056a5", func := "loop.example/g01019/laws.FnSuns", spec := "fnSuns", apart := false }
def FnSunsSaid : Prop := fnSunsRow.holds Try.pinned (OpenSpec.ofChange fnSunsSpec)

/-- ITS FALSE NEIGHBOUR: 'it returns false'. Refute it at one input. -/
def fnSunsWrong : ChangeSpec := { name := "fnSuns", fn := fun _ => fun
  | [d] => { results := [.lit (.bool false)], args := [d] }
  | _ => none }
def FnSunsWrongFalsely : Prop := fnSunsRow.holds Try.pinned (OpenSpec.ofChange fnSunsWrong)

/-- 'laws.FnExactSunOn': WHATEVER THE INPUT: true; the input reads as it did. -/
def fnExactSunOnSpec : ChangeSpec := { name := "fnExactSunOn", fn := fun _ => fun
  | [d1, d2] => { results := [.lit (.bool true)], args := [d1, d2] }
  | _ => none }
def fnExactSunOnRow : OpenClaim := { program := "ytajmebclmippeaa", sum := "ca737ef0b629972fd5d7c3d62a2b8f81e2b4125926cf96bb950c699b2a5056a5", func := "loop.example/g01019/laws.FnExactSunOn", spec := "fnExactSunOn", apart := false }
def FnExactSunOnSaid : Prop := fnExactSunOnRow.holds Try.pinned (OpenSpec.ofChange fnExactSunOnSpec)

/-- ITS FALSE NEIGHBOUR: 'it returns false'. Refute it at one input. -/
def fnExactSunOnWrong : ChangeSpec := { name := "fnExactSunOn", fn := fun _ => fun
  | [d1, d2] => { results := [.lit (.bool false)], args := [d1, d2] }
  | _ => none }
def FnExactSunOnWrongFalsely : Prop := fnExactSunOnRow.holds Try.pinned (OpenSpec.ofChange fnExactSunOnWrong)

/-- 'laws.FnExactSunSum': WHATEVER THE INPUT: true; the input reads as it did. -/
def fnExactSunSumSpec : ChangeSpec := { name := "fnExactSunSum", fn := fun _ => fun
  | [d1, d2, d3] => { results := [.lit (.bool true)], args := [d1, d2, d3] }
  | _ => none }
def fnExactSunSumRow : OpenClaim := { program := "ytajmebclmippeaa", sum := "ca737ef0b629972fd5d7c3d62a2b8f81e2b4125926cf96bb950c699b2a5056a5", func := "loop.example/g01019/laws.FnExactSunSum", spec := "fnExactSunSum", apart := false }
def FnExactSunSumSaid : Prop := fnExactSunSumRow.holds Try.pinned (OpenSpec.ofChange fnExactSunSumSpec)

/-- ITS FALSE NEIGHBOUR: 'it returns false'. Refute it at one input. -/
def fnExactSunSumWrong : ChangeSpec := { name := "fnExactSunSum", fn := fun _ => fun
  | [d1, d2, d3] => { results := [.lit (.bool false)], args := [d1, d2, d3] }
  | _ => none }
def FnExactSunSumWrongFalsely : Prop := fnExactSunSumRow.holds Try.pinned (OpenSpec.ofChange fnExactSunSumWrong)

/-- 'laws.FnExactBestStart': WHATEVER THE INPUT: true; the input reads as it did. -/
def fnExactBestStartSpec : ChangeSpec := { name := "fnExactBestStart", fn := fun _ => fun
  | [d1, d2] => { results := [.lit (.bool true)], args := [d1, d2] }
  | _ => none }
def fnExactBestStartRow : OpenClaim := { program := "ytajmebclmippeaa", sum := "ca737ef0b629972fd5d7c3d62a2b8f81e2b4125926cf96bb950c699b2a5056a5", func := "loop.example/g01019/laws.FnExactBestStart", spec := "fnExactBestStart", apart := false }
def FnExactBestStartSaid : Prop := fnExactBestStartRow.holds Try.pinned (OpenSpec.ofChange fnExactBestStartSpec)

/-- ITS FALSE NEIGHBOUR: 'it returns false'. Refute it at one input. -/
def fnExactBestStartWrong : ChangeSpec := { name := "fnExactBestStart", fn := fun _ => fun
  | [d1, d2] => { results := [.lit (.bool false)], args := [d1, d2] }
  | _ => none }
def FnExactBestStartWrongFalsely : Prop := fnExactBestStartRow.holds Try.pinned (OpenSpec.ofChange fnExactBestStartWrong)

/-- 'laws.FnExactLossOn': WHATEVER THE INPUT: true; the input reads as it did. -/
def fnExactLossOnSpec : ChangeSpec := { name := "fnExactLossOn", fn := fun _ => fun
  | [d1, d2, d3, d4] => { results := [.lit (.bool true)], args := [d1, d2, d3, d4] }
  | _ => none }
def fnExactLossOnRow : OpenClaim := { program := "ytajmebclmippeaa", sum := "ca737ef0b629972fd5d7c3d62a2b8f81e2b4125926cf96bb950c699b2a5056a5", func := "loop.example/g01019/laws.FnExactLossOn", spec := "fnExactLossOn", apart := false }
def FnExactLossOnSaid : Prop := fnExactLossOnRow.holds Try.pinned (OpenSpec.ofChange fnExactLossOnSpec)

/-- ITS FALSE NEIGHBOUR: 'it returns false'. Refute it at one input. -/
def fnExactLossOnWrong : ChangeSpec := { name := "fnExactLossOn", fn := fun _ => fun
  | [d1, d2, d3, d4] => { results := [.lit (.bool false)], args := [d1, d2, d3, d4] }
  | _ => none }
def FnExactLossOnWrongFalsely : Prop := fnExactLossOnRow.holds Try.pinned (OpenSpec.ofChange fnExactLossOnWrong)

/-- 'laws.FnExactAfterSun': WHATEVER THE INPUT: true; the input reads as it did. -/
def fnExactAfterSunSpec : ChangeSpec := { name := "fnExactAfterSun", fn := fun _ => fun
  | [d1, d2, d3, d4, d5] => { results := [.lit (.bool true)], args := [d1, d2, d3, d4, d5] }
  | _ => none }
def fnExactAfterSunRow : OpenClaim := { program := "ytajmebclmippeaa", sum := "ca737ef0b629972fd5d7c3d62a2b8f81e2b4125926cf96bb950c699b2a5056a5", func := "loop.example/g01019/laws.FnExactAfterSun", spec := "fnExactAfterSun", apart := false }
def FnExactAfterSunSaid : Prop := fnExactAfterSunRow.holds Try.pinned (OpenSpec.ofChange fnExactAfterSunSpec)

/-- ITS FALSE NEIGHBOUR: 'it returns false'. Refute it at one input. -/
def fnExactAfterSunWrong : ChangeSpec := { name := "fnExactAfterSun", fn := fun _ => fun
  | [d1, d2, d3, d4, d5] => { results := [.lit (.bool false)], args := [d1, d2, d3, d4, d5] }
  | _ => none }
def FnExactAfterSunWrongFalsely : Prop := fnExactAfterSunRow.holds Try.pinned (OpenSpec.ofChange fnExactAfterSunWrong)

/-- 'laws.FnExactSmallestArea': WHATEVER THE INPUT: true; the input reads as it did. -/
def fnExactSmallestAreaSpec : ChangeSpec := { name := "fnExactSmallestArea", fn := fun _ => fun
  | [d1, d2, d3, d4, d5] => { results := [.lit (.bool true)], args := [d1, d2, d3, d4, d5] }
  | _ => none }
def fnExactSmallestAreaRow : OpenClaim := { program := "ytajmebclmippeaa", sum := "ca737ef0b629972fd5d7c3d62a2b8f81e2b4125926cf96bb950c699b2a5056a5", func := "loop.example/g01019/laws.FnExactSmallestArea", spec := "fnExactSmallestArea", apart := false }
def FnExactSmallestAreaSaid : Prop := fnExactSmallestAreaRow.holds Try.pinned (OpenSpec.ofChange fnExactSmallestAreaSpec)

/-- ITS FALSE NEIGHBOUR: 'it returns false'. Refute it at one input. -/
def fnExactSmallestAreaWrong : ChangeSpec := { name := "fnExactSmallestArea", fn := fun _ => fun
  | [d1, d2, d3, d4, d5] => { results := [.lit (.bool false)], args := [d1, d2, d3, d4, d5] }
  | _ => none }
def FnExactSmallestAreaWrongFalsely : Prop := fnExactSmallestAreaRow.holds Try.pinned (OpenSpec.ofChange fnExactSmallestAreaWrong)

/-- 'laws.FnExactStrongOn': WHATEVER THE INPUT: true; the input reads as it did. -/
def fnExactStrongOnSpec : ChangeSpec := { name := "fnExactStrongOn", fn := fun _ => fun
  | [d1, d2, d3, d4, d5] => { results := [.lit (.bool true)], args := [d1, d2, d3, d4, d5] }
  | _ => none }
def fnExactStrongOnRow : OpenClaim := { program := "ytajmebclmippeaa", sum := "ca737ef0b629972fd5d7c3d62a2b8f81e2b4125926cf96bb950c699b2a5056a5", func := "loop.example/g01019/laws.FnExactStrongOn", spec := "fnExactStrongOn", apart := false }
def FnExactStrongOnSaid : Prop := fnExactStrongOnRow.holds Try.pinned (OpenSpec.ofChange fnExactStrongOnSpec)

/-- ITS FALSE NEIGHBOUR: 'it returns false'. Refute it at one input. -/
def fnExactStrongOnWrong : ChangeSpec := { name := "fnExactStrongOn", fn := fun _ => fun
  | [d1, d2, d3, d4, d5] => { results := [.lit (.bool false)], args := [d1, d2, d3, d4, d5] }
  | _ => none }
def FnExactStrongOnWrongFalsely : Prop := fnExactStrongOnRow.holds Try.pinned (OpenSpec.ofChange fnExactStrongOnWrong)

/-- 'laws.FnExactPutSun': WHATEVER THE INPUT: true; the input reads as it did. -/
def fnExactPutSunSpec : ChangeSpec := { name := "fnExactPutSun", fn := fun _ => fun
  | [d1, d2] => { results := [.lit (.bool true)], args := [d1, d2] }
  | _ => none }
def fnExactPutSunRow : OpenClaim := { program := "ytajmebclmippeaa", sum := "ca737ef0b629972fd5d7c3d62a2b8f81e2b4125926cf96bb950c699b2a5056a5", func := "loop.example/g01019/laws.FnExactPutSun", spec := "fnExactPutSun", inPlace := ["slices.overlaps[loop.example/g01019/impl.Sun]"], unfollowed := true, recurses := true, apart := false }
def FnExactPutSunSaid : Prop := fnExactPutSunRow.holds Try.pinned (OpenSpec.ofChange fnExactPutSunSpec)

/-- ITS FALSE NEIGHBOUR: 'it returns false'. Refute it at one input. -/
def fnExactPutSunWrong : ChangeSpec := { name := "fnExactPutSun", fn := fun _ => fun
  | [d1, d2] => { results := [.lit (.bool false)], args := [d1, d2] }
  | _ => none }
def FnExactPutSunWrongFalsely : Prop := fnExactPutSunRow.holds Try.pinned (OpenSpec.ofChange fnExactPutSunWrong)

/-- 'laws.FnSunSums': WHATEVER THE INPUT: true; the input reads as it did. -/
def fnSunSumsSpec : ChangeSpec := { name := "fnSunSums", fn := fun _ => fun
  | [d] => { results := [.lit (.bool true)], args := [d] }
  | _ => none }
def fnSunSumsRow : OpenClaim := { program := "ytajmebclmippeaa", sum := "ca737ef0b629972fd5d7c3d62a2b8f81e2b4125926cf96bb950c699b2a5056a5", func := "loop.example/g01019/laws.FnSunSums", spec := "fnSunSums", inPlace := ["slices.overlaps[loop.example/g01019/impl.Sun]"], unfollowed := true, recurses := true, apart := false }
def FnSunSumsSaid : Prop := fnSunSumsRow.holds Try.pinned (OpenSpec.ofChange fnSunSumsSpec)

/-- ITS FALSE NEIGHBOUR: 'it returns false'. Refute it at one input. -/
def fnSunSumsWrong : ChangeSpec := { name := "fnSunSums", fn := fun _ => fun
  | [d] => { results := [.lit (.bool false)], args := [d] }
  | _ => none }
def FnSunSumsWrongFalsely : Prop := fnSunSumsRow.holds Try.pinned (OpenSpec.ofChange fnSunSumsWrong)

/- THE SECOND FORM. 'bulk': how many values and letters a reading holds, each counted each time it is reached (what is shared counts as often as it is met; a slice's spare places count too). A statement '..UptoSaid' is the law's where the arguments, and the package variables that the reading takes, are together of bulk at most 1048576: NARROWER than '..Said'. Prove '..Said' where nothing that the law and all that it calls make is longer than what came in: it says more and counts as full. Else prove '..UptoSaid'. A law counts once. -/
mutual
def uptoBulk {H : Type} : DataW H → Nat
  | .lit (.string bytes) => bytes.length + 1
  | .lit _ => 1
  | .nil => 1
  | .ptr d => uptoBulk d + 1
  | .slice elems spare => uptoBulkAll elems + uptoBulkAll spare + 1
  | .agg parts => uptoBulkAll parts + 1
  | .iface _ d => uptoBulk d + 1
  | .map entries => uptoBulkEntries entries + 1
  | .held _ => 1
def uptoBulkAll {H : Type} : List (DataW H) → Nat
  | [] => 0
  | d :: r => uptoBulk d + uptoBulkAll r
def uptoBulkEntries {H : Type} : List (Lit × DataW H) → Nat
  | [] => 0
  | x :: r => uptoBulkEntry x + uptoBulkEntries r
def uptoBulkEntry {H : Type} : Lit × DataW H → Nat
  | (.string bytes, d) => bytes.length + uptoBulk d + 1
  | (_, d) => uptoBulk d + 1
 end
def uptoSmall : (H : Type) → List (DataW H) → Bool := fun _ ds => decide (uptoBulkAll ds ≤ 1048576)
def OpenSpec.upto (s : _root_.Go.ChangeSpec) : _root_.Go.OpenSpec := { _root_.Go.OpenSpec.ofChange s with cond := some uptoSmall }

/-- 'laws.FnExactAreSuns', WHERE WHAT IT READS IS OF BULK AT MOST 1048576: true; the input reads as it did. -/
def fnExactAreSunsUptoRow : OpenClaim := { program := "ytajmebclmippeaa", sum := "ca737ef0b629972fd5d7c3d62a2b8f81e2b4125926cf96bb950c699b2a5056a5", func := "loop.example/g01019/laws.FnExactAreSuns", spec := "fnExactAreSuns", apart := false, narrowed := true }
def FnExactAreSunsUptoSaid : Prop := fnExactAreSunsUptoRow.holds Try.pinned (OpenSpec.upto fnExactAreSunsSpec)

/-- 'laws.FnSuns', WHERE WHAT IT READS IS OF BULK AT MOST 1048576: true; the input reads as it did. -/
def fnSunsUptoRow : OpenClaim := { program := "ytajmebclmippeaa", sum := "ca737ef0b629972fd5d7c3d62a2b8f81e2b4125926cf96bb950c699b2a5056a5", func := "loop.example/g01019/laws.FnSuns", spec := "fnSuns", apart := false, narrowed := true }
def FnSunsUptoSaid : Prop := fnSunsUptoRow.holds Try.pinned (OpenSpec.upto fnSunsSpec)

/-- 'laws.FnExactSunOn', WHERE WHAT IT READS IS OF BULK AT MOST 1048576: true; the input reads as it did. -/
def fnExactSunOnUptoRow : OpenClaim := { program := "ytajmebclmippeaa", sum := "ca737ef0b629972fd5d7c3d62a2b8f81e2b4125926cf96bb950c699b2a5056a5", func := "loop.example/g01019/laws.FnExactSunOn", spec := "fnExactSunOn", apart := false, narrowed := true }
def FnExactSunOnUptoSaid : Prop := fnExactSunOnUptoRow.holds Try.pinned (OpenSpec.upto fnExactSunOnSpec)

/-- 'laws.FnExactSunSum', WHERE WHAT IT READS IS OF BULK AT MOST 1048576: true; the input reads as it did. -/
def fnExactSunSumUptoRow : OpenClaim := { program := "ytajmebclmippeaa", sum := "ca737ef0b629972fd5d7c3d62a2b8f81e2b4125926cf96bb950c699b2a5056a5", func := "loop.example/g01019/laws.FnExactSunSum", spec := "fnExactSunSum", apart := false, narrowed := true }
def FnExactSunSumUptoSaid : Prop := fnExactSunSumUptoRow.holds Try.pinned (OpenSpec.upto fnExactSunSumSpec)

/-- 'laws.FnExactBestStart', WHERE WHAT IT READS IS OF BULK AT MOST 1048576: true; the input reads as it did. -/
def fnExactBestStartUptoRow : OpenClaim := { program := "ytajmebclmippeaa", sum := "ca737ef0b629972fd5d7c3d62a2b8f81e2b4125926cf96bb950c699b2a5056a5", func := "loop.example/g01019/laws.FnExactBestStart", spec := "fnExactBestStart", apart := false, narrowed := true }
def FnExactBestStartUptoSaid : Prop := fnExactBestStartUptoRow.holds Try.pinned (OpenSpec.upto fnExactBestStartSpec)

/-- 'laws.FnExactLossOn', WHERE WHAT IT READS IS OF BULK AT MOST 1048576: true; the input reads as it did. -/
def fnExactLossOnUptoRow : OpenClaim := { program := "ytajmebclmippeaa", sum := "ca737ef0b629972fd5d7c3d62a2b8f81e2b4125926cf96bb950c699b2a5056a5", func := "loop.example/g01019/laws.FnExactLossOn", spec := "fnExactLossOn", apart := false, narrowed := true }
def FnExactLossOnUptoSaid : Prop := fnExactLossOnUptoRow.holds Try.pinned (OpenSpec.upto fnExactLossOnSpec)

/-- 'laws.FnExactAfterSun', WHERE WHAT IT READS IS OF BULK AT MOST 1048576: true; the input reads as it did. -/
def fnExactAfterSunUptoRow : OpenClaim := { program := "ytajmebclmippeaa", sum := "ca737ef0b629972fd5d7c3d62a2b8f81e2b4125926cf96bb950c699b2a5056a5", func := "loop.example/g01019/laws.FnExactAfterSun", spec := "fnExactAfterSun", apart := false, narrowed := true }
def FnExactAfterSunUptoSaid : Prop := fnExactAfterSunUptoRow.holds Try.pinned (OpenSpec.upto fnExactAfterSunSpec)

/-- 'laws.FnExactSmallestArea', WHERE WHAT IT READS IS OF BULK AT MOST 1048576: true; the input reads as it did. -/
def fnExactSmallestAreaUptoRow : OpenClaim := { program := "ytajmebclmippeaa", sum := "ca737ef0b629972fd5d7c3d62a2b8f81e2b4125926cf96bb950c699b2a5056a5", func := "loop.example/g01019/laws.FnExactSmallestArea", spec := "fnExactSmallestArea", apart := false, narrowed := true }
def FnExactSmallestAreaUptoSaid : Prop := fnExactSmallestAreaUptoRow.holds Try.pinned (OpenSpec.upto fnExactSmallestAreaSpec)

/-- 'laws.FnExactStrongOn', WHERE WHAT IT READS IS OF BULK AT MOST 1048576: true; the input reads as it did. -/
def fnExactStrongOnUptoRow : OpenClaim := { program := "ytajmebclmippeaa", sum := "ca737ef0b629972fd5d7c3d62a2b8f81e2b4125926cf96bb950c699b2a5056a5", func := "loop.example/g01019/laws.FnExactStrongOn", spec := "fnExactStrongOn", apart := false, narrowed := true }
def FnExactStrongOnUptoSaid : Prop := fnExactStrongOnUptoRow.holds Try.pinned (OpenSpec.upto fnExactStrongOnSpec)

/-- 'laws.FnExactPutSun', WHERE WHAT IT READS IS OF BULK AT MOST 1048576: true; the input reads as it did. -/
def fnExactPutSunUptoRow : OpenClaim := { program := "ytajmebclmippeaa", sum := "ca737ef0b629972fd5d7c3d62a2b8f81e2b4125926cf96bb950c699b2a5056a5", func := "loop.example/g01019/laws.FnExactPutSun", spec := "fnExactPutSun", inPlace := ["slices.overlaps[loop.example/g01019/impl.Sun]"], unfollowed := true, recurses := true, apart := false, narrowed := true }
def FnExactPutSunUptoSaid : Prop := fnExactPutSunUptoRow.holds Try.pinned (OpenSpec.upto fnExactPutSunSpec)

/-- 'laws.FnSunSums', WHERE WHAT IT READS IS OF BULK AT MOST 1048576: true; the input reads as it did. -/
def fnSunSumsUptoRow : OpenClaim := { program := "ytajmebclmippeaa", sum := "ca737ef0b629972fd5d7c3d62a2b8f81e2b4125926cf96bb950c699b2a5056a5", func := "loop.example/g01019/laws.FnSunSums", spec := "fnSunSums", inPlace := ["slices.overlaps[loop.example/g01019/impl.Sun]"], unfollowed := true, recurses := true, apart := false, narrowed := true }
def FnSunSumsUptoSaid : Prop := fnSunSumsUptoRow.holds Try.pinned (OpenSpec.upto fnSunSumsSpec)

end Rows
end Go.Proofs.Ytajmebclmippeaa
