/-
  Contracts: the law's comparison of lists of basins and of numbers, at equal ones. Conditions: lengths up to 2^20.
-/
import Derived.Test.YtnmpfojcmedpeaaDoorChecked
import Derived.Test.YtnmpfojcmedpeaaDoorTail
namespace Go.Proofs.YtnmpfojcmedpeaaDoor
open Go.RowKit

set_option maxHeartbeats 400000 in
theorem vInts_yes (A B : Option Addr) (n c c' : Nat) (F : Nat → Nat → Int) (w : World) (hn : n ≤ 1048576) (h : Rd w A n 1 (ints F)) (h' : Rd w B n 1 (ints F)) :
    Calls Tryd.prog 29 #[.slice A n c, .slice B n c'] w fun e w' => e = .returned (.bool true) ∧ Below w.heap.size w w' := by
  go_enter Tryd.func29, Tryd.ntmps29
  go_wp2
  go_loopw [5] (fun i wr => ∃ k : Nat, k ≤ n ∧ i = .int .i64 k ∧ Below w.heap.size w wr) (fun i _ => n - (intOf i).toNat)
  case atStart => exact ⟨0, by omega, rfl, Below.refl _ _⟩
  case round =>
    obtain ⟨k, hk, rfl, hb⟩ := hrel
    by_cases hlt : k < n
    · obtain ⟨b, off, rfl, -, hbw, hc⟩ := Rd.below h hb (by omega)
      obtain ⟨b', off', rfl, -, hbw', hc'⟩ := Rd.below h' hb (by omega)
      have hc0 := fun x : After wr => x.cell (hc k 0 hlt (by omega)) hbw
      have hc0' := fun x : After wr => x.cell (hc' k 0 hlt (by omega)) hbw'
      simp only [Nat.add_zero, Nat.mul_one] at hc0 hc0'
      clear hc hc'
      go_wp2
      refine region_after (by kernel_rfl) (by kernel_rfl) ?_
      repeat (go_big_quiet_step ((first | fail)))
      refine wpQuiet_nil ?_
      rintro _ ⟨x, rfl⟩
      go_wp2
      go_roundw
      case rel => exact ⟨k + 1, by omega, by go_num, hb.trans (x.h.mono hb.size)⟩
      case measure => simp [intOf]; omega
    · obtain rfl : k = n := by omega
      go_wp2
      go_ret
      exact ⟨rfl, hb⟩
end Go.Proofs.YtnmpfojcmedpeaaDoor
