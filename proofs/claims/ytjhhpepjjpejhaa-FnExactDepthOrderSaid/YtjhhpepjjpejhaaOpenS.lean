/-
  How a law's arguments, as the statements read them, come to the walks: slices of structs with a struct inside. Conditions: none; no program is named here.
-/
import Derived.Test.YtjhhpepjjpejhaaOpen
namespace Go.Proofs.Ytjhhpepjjpejhaa
open Go.ChangeShapes Go.WideShapes Go.ChangeAt Go.RowKit Go.Deep
section
variable {H : Type} {enc : TypeId × Value → H} {P : Program} {w : World} {base : Nat} {spare : Nat → Bool} {held : Bool}
theorem ints_of_struct12 {t : TypeId} {f0 f1 g0 g1 : Field} {cs : List Value} {n : Nat} {y : DataW H × List MemPlace} (hs : P.underlying t = some (.struct #[f0, f1])) (o0 : f0.offset = 0) (k0 : P.cellsOf f0.type = 1) (o1 : f1.offset = 1) (k1 : P.cellsOf f1.type = 2)
    (h0 : P.underlying f0.type = some (.int .i64)) (hs1 : P.underlying f1.type = some (.struct #[g0, g1])) (hone : oneCellFields P #[g0, g1] = true)
    (i0 : P.underlying g0.type = some (.int .i64)) (i1 : P.underlying g1.type = some (.int .i64)) (h : DataW.trod enc P w base spare held n t cs = some y) (hl : cs.length = 3) :
    ∃ l : List Int, cs = l.map (Value.int .i64) := by
  match cs, hl with
  | [c0, c1, c2], _ =>
    obtain ⟨xs, n', _, hx, _, hlen, hg⟩ := DataW.trod_struct hs h
    match xs, hlen with
    | [y0, y1], _ =>
      obtain ⟨z0, e0, -, -⟩ := DataW.trod_int h0 (by simpa [o0, k0] using hg 0 f0 rfl)
      obtain ⟨l, e1⟩ := ints_of_struct2 (cs := [c1, c2]) hs1 hone i0 i1 (by simpa [o1, k1] using hg 1 f1 rfl) rfl
      simp at e0
      exact ⟨z0 :: l, by rw [e0, e1]; rfl⟩
end
end Go.Proofs.Ytjhhpepjjpejhaa
