/-
  How workers, as the statements read them, come to the walks. Conditions: none; no program is named here.
-/
import Derived.Test.YtmblkjnpibcmoaaOpen
import Derived.Test.YtmblkjnpibcmoaaWkT
namespace Go.Proofs.Ytmblkjnpibcmoaa
open Go.ChangeShapes Go.WideShapes Go.ChangeAt Go.RowKit Go.Deep
section
variable {H : Type} {enc : TypeId × Value → H} {P : Program} {w : World} {base : Nat} {spare : Nat → Bool} {held : Bool}
/-- The five cells of a worker. -/
def workCs (cs : List Value) : Prop := ∃ (a b d : Int) (c : Bool) (f : Int), cs = [.int .i64 a, .int .i64 b, .int .i64 d, .bool c, .int .i64 f]
theorem worker_of_struct {t : TypeId} {f0 f1 f2 f3 f4 : Field} {cs : List Value} {n : Nat} {y : DataW H × List MemPlace} (hs : P.underlying t = some (.struct #[f0, f1, f2, f3, f4])) (hone : oneCellFields P #[f0, f1, f2, f3, f4] = true)
    (h0 : P.underlying f0.type = some (.int .i64)) (h1 : P.underlying f1.type = some (.int .i64)) (h2 : P.underlying f2.type = some (.int .i64)) (h3 : P.underlying f3.type = some .bool) (h4 : P.underlying f4.type = some (.int .i64))
    (h : DataW.trod enc P w base spare held n t cs = some y) (hl : cs.length = 5) : workCs cs := by
  match cs, hl with
  | [c0, c1, c2, c3, c4], _ =>
    obtain ⟨xs, n', _, hx, _, hlen, hg⟩ := DataW.trod_struct hs h
    obtain ⟨o0, k0⟩ := hone_of hone 0 f0 rfl
    obtain ⟨o1, k1⟩ := hone_of hone 1 f1 rfl
    obtain ⟨o2, k2⟩ := hone_of hone 2 f2 rfl
    obtain ⟨o3, k3⟩ := hone_of hone 3 f3 rfl
    obtain ⟨o4, k4⟩ := hone_of hone 4 f4 rfl
    match xs, hlen with
    | [y0, y1, y2, y3, y4], _ =>
      obtain ⟨z0, e0, -, -⟩ := DataW.trod_int h0 (by simpa [o0, k0] using hg 0 f0 rfl)
      obtain ⟨z1, e1, -, -⟩ := DataW.trod_int h1 (by simpa [o1, k1] using hg 1 f1 rfl)
      obtain ⟨z2, e2, -, -⟩ := DataW.trod_int h2 (by simpa [o2, k2] using hg 2 f2 rfl)
      obtain ⟨b, e3, -⟩ := DataW.trod_bool h3 (by simpa [o3, k3] using hg 3 f3 rfl)
      obtain ⟨z4, e4, -, -⟩ := DataW.trod_int h4 (by simpa [o4, k4] using hg 4 f4 rfl)
      simp at e0 e1 e2 e3 e4
      exact ⟨z0, z1, z2, b, z4, by rw [e0, e1, e2, e3, e4]⟩
theorem works_of_rows {A : Option Addr} {len : Nat} {F : Nat → Nat → Value} (h : Rd w A len 5 F) (hp : ∀ i, i < len → workCs ((List.range 5).map (F i))) : ∃ G, Rd w A len 5 (wkD G) := by
  have hex : ∀ i, ∃ q : Int × Int × Int × Bool × Int, i < len → (List.range 5).map (F i) = [.int .i64 q.1, .int .i64 q.2.1, .int .i64 q.2.2.1, .bool q.2.2.2.1, .int .i64 q.2.2.2.2] := fun i => by
    by_cases hi : i < len
    · obtain ⟨a, b, d, c, f, h1⟩ := hp i hi
      exact ⟨(a, b, d, c, f), fun _ => h1⟩
    · exact ⟨(0, 0, 0, false, 0), fun h => absurd h hi⟩
  obtain ⟨q, hq⟩ := Classical.axiomOfChoice hex
  refine ⟨(fun i j => match j with | 0 => (q i).1 | 1 => (q i).2.1 | 2 => (q i).2.2.1 | _ => (q i).2.2.2.2, fun i => (q i).2.2.2.1), h.congr fun i j hi hj => ?_⟩
  have e := hq i hi
  have e4 : (List.range 5).map (F i) = [F i 0, F i 1, F i 2, F i 3, F i 4] := rfl
  rw [e4] at e
  simp at e
  match j, hj with
  | 0, _ => exact e.1
  | 1, _ => exact e.2.1
  | 2, _ => exact e.2.2.1
  | 3, _ => exact e.2.2.2.1
  | 4, _ => exact e.2.2.2.2
end
end Go.Proofs.Ytmblkjnpibcmoaa
