/-
  How a code of bytes, as the statements read it, comes to the walks. Conditions: none; no program is named here.
-/
import Derived.Test.YtbmlglkdlialgaaDoorOpen
import Derived.Test.YtbmlglkdlialgaaDoorCuB
namespace Go.Proofs.YtbmlglkdlialgaaDoor
open Go.ChangeShapes Go.WideShapes Go.ChangeAt Go.RowKit Go.Deep

theorem byte_wf {z : Int} (h : (Lit.int .u8 z).wf = true) : 0 ≤ z ∧ z ≤ 255 := by
  simp only [Lit.wf, Bool.and_eq_true, decide_eq_true_eq] at h
  exact h
/-- One cell, a byte. -/
def byteCs (cs : List Value) : Prop := ∃ z : Int, cs = [.int .u8 z] ∧ 0 ≤ z ∧ z ≤ 255
theorem code_of_rows {w : World} {A : Option Addr} {len : Nat} {F : Nat → Nat → Value} (hl : len ≤ maxLen) (h : Rd w A len 1 F) (hp : ∀ i, i < len → byteCs ((List.range 1).map (F i))) : ∃ B, CodeR w A len B := by
  have hex : ∀ i, ∃ z : Int, (0 ≤ z ∧ z ≤ 255) ∧ (i < len → F i 0 = .int .u8 z) := fun i => by
    by_cases hi : i < len
    · obtain ⟨z, e, hz⟩ := hp i hi
      refine ⟨z, hz, fun _ => ?_⟩
      simpa using e
    · exact ⟨0, by omega, fun h => absurd h hi⟩
  obtain ⟨B, hB⟩ := Classical.axiomOfChoice hex
  exact ⟨B, hl, fun i => (hB i).1, h.congr fun i j hi hj => by
    obtain rfl : j = 0 := by omega
    exact (hB i).2 hi⟩
end Go.Proofs.YtbmlglkdlialgaaDoor
