/-
  How kinds and liquors, as the statements read them, come to the walks. Conditions: none; no program is named here.
-/
import Derived.Test.YtnmpfojcmedpeaaDoorOpen
import Derived.Test.YtnmpfojcmedpeaaDoorCrM
import Derived.LaidMore
import Derived.Lay
import Derived.LaidOnce
import Derived.SevenTiedAt
import Derived.Stop.Joined
namespace Go.Proofs.YtnmpfojcmedpeaaDoor
open Go.ChangeShapes Go.WideShapes Go.ChangeAt Go.RowKit Go.Deep
section
variable {H : Type} {enc : TypeId × Value → H} {P : Program} {w : World} {base : Nat} {spare : Nat → Bool} {held : Bool}
theorem ints_of_slice {t e : TypeId} {n : Nat} {cs : List Value} {y : DataW H × List MemPlace} (ht : P.underlying t = some (.slice e)) (he : P.underlying e = some (.int .i64)) (hc : P.cellsOf e = 1)
    (h : DataW.trod enc P w base spare held n t cs = some y) : ∃ (B : Option Addr) (m c : Nat) (L : Nat → Nat → Int), cs = [.slice B m c] ∧ Rd w B m 1 (ints L) ∧ m ≤ maxLen := by
  have key : ∀ (B : Option Addr) (m c : Nat), cs = [.slice B m c] → ∃ (B : Option Addr) (m c : Nat) (L : Nat → Nat → Int), cs = [.slice B m c] ∧ Rd w B m 1 (ints L) ∧ m ≤ maxLen := fun B m c hcs => by
    subst hcs
    obtain ⟨hl, F, hF, hp⟩ := rows_of_trod (sz := 1) ht hc (by decide) (fun cs => ∃ l : List Int, cs = l.map (Value.int .i64)) (fun n cs y hy _ => by obtain ⟨z, e, -, -⟩ := DataW.trod_int he hy; exact ⟨[z], by rw [e]; rfl⟩) h
    obtain ⟨L, hL⟩ := ints_of_rows hF hp
    exact ⟨B, m, c, L, rfl, hL, hl⟩
  rcases DataW.trod_slice ht h with ⟨e, -⟩ | ⟨a, len, cap, -, -, -, -, e, -⟩
  · exact key _ _ _ e
  · exact key _ _ _ e
/-- The three cells of a kind. -/
def kindCs (cs : List Value) : Prop := ∃ (s : ByteArray) (a b : Int), cs = [.string s, .int .i64 a, .int .i64 b] ∧ s.size ≤ maxLen
theorem kind_of_struct {t : TypeId} {f0 f1 f2 : Field} {cs : List Value} {n : Nat} {y : DataW H × List MemPlace} (hs : P.underlying t = some (.struct #[f0, f1, f2])) (hone : oneCellFields P #[f0, f1, f2] = true)
    (h0 : P.underlying f0.type = some .string) (h1 : P.underlying f1.type = some (.int .i64)) (h2 : P.underlying f2.type = some (.int .i64)) (h : DataW.trod enc P w base spare held n t cs = some y) (hl : cs.length = 3) : kindCs cs := by
  match cs, hl with
  | [c0, c1, c2], _ =>
    obtain ⟨xs, n', _, hx, _, hlen, hg⟩ := DataW.trod_struct hs h
    obtain ⟨o0, k0⟩ := hone_of hone 0 f0 rfl
    obtain ⟨o1, k1⟩ := hone_of hone 1 f1 rfl
    obtain ⟨o2, k2⟩ := hone_of hone 2 f2 rfl
    match xs, hlen with
    | [y0, y1, y2], _ =>
      obtain ⟨s, e0, -, hm⟩ := DataW.trod_string h0 (by simpa [o0, k0] using hg 0 f0 rfl)
      obtain ⟨z1, e1, -, -⟩ := DataW.trod_int h1 (by simpa [o1, k1] using hg 1 f1 rfl)
      obtain ⟨z2, e2, -, -⟩ := DataW.trod_int h2 (by simpa [o2, k2] using hg 2 f2 rfl)
      simp at e0 e1 e2
      exact ⟨s, z1, z2, by rw [e0, e1, e2], hm⟩
theorem kinds_of_rows {A : Option Addr} {len : Nat} {F : Nat → Nat → Value} (h : Rd w A len 3 F) (hp : ∀ i, i < len → kindCs ((List.range 3).map (F i))) : ∃ S G, Rd w A len 3 (kdC S G) ∧ ∀ i, i < len → (S i).size ≤ 9223372036854775807 := by
  have hex : ∀ i, ∃ q : ByteArray × Int × Int, i < len → (List.range 3).map (F i) = [.string q.1, .int .i64 q.2.1, .int .i64 q.2.2] ∧ q.1.size ≤ maxLen := fun i => by
    by_cases hi : i < len
    · obtain ⟨s, a, b, h1, h2⟩ := hp i hi
      exact ⟨(s, a, b), fun _ => ⟨h1, h2⟩⟩
    · exact ⟨(⟨#[]⟩, 0, 0), fun h => absurd h hi⟩
  obtain ⟨q, hq⟩ := Classical.axiomOfChoice hex
  refine ⟨fun i => (q i).1, fun i j => if j = 1 then (q i).2.1 else (q i).2.2, h.congr fun i j hi hj => ?_, fun i hi => by simpa [maxLen] using (hq i hi).2⟩
  have e := (hq i hi).1
  have e4 : (List.range 3).map (F i) = [F i 0, F i 1, F i 2] := rfl
  rw [e4] at e
  simp at e
  match j, hj with
  | 0, _ => exact e.1
  | 1, _ => exact e.2.1
  | 2, _ => exact e.2.2
end
end Go.Proofs.YtnmpfojcmedpeaaDoor
