/-
  Contracts of the laws' helpers on lists of numbers: sizes, copies, comparison, marks, and whether the marks are held. Conditions: lengths up to 2^20.
-/
import Derived.Test.YtajmebclmippeaaChecked
import Derived.Test.YtajmebclmippeaaMath
namespace Go.Proofs.Ytajmebclmippeaa
open Go.RowKit

theorem info_int : (Try.prog.info? 3).map (fun i => (i.zero, i.size, i.bytes)) = some (some (.int .i64 0), 1, 8) := by kernel_rfl
theorem mk_int (n : Nat) (hn : n ≤ 1048576) (u : World) : (Instr.makeSlice 73 (.int .i64 (n : Int)) (.int .i64 (n : Int))).run Try.prog u =
      .ok (.slice (some ⟨u.heap.size, 0, none⟩) n n) (u.alloc (.cells (madeCells #[.int .i64 0] (n * 1)) 3)) := by
  obtain ⟨i0, hi, hz0, hz1, hz2⟩ := info_parts info_int
  have h := run_make (P := Try.prog) u 73 3 i0 _ Try.underlying73 hi hz0 .i64 .i64 (n : Int) (n : Int) (by omega) (Int.le_refl _) (by rw [hz2]; omega) (by omega)
  simpa [hz1, Value.cells] using h
/-- The marks of a slice of numbers. -/
def marks1 (k0 : Int) : Nat → Nat → Int := fun i _ => k0 + i
end Go.Proofs.Ytajmebclmippeaa
