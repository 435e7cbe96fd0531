/-
  Contract: the sum of a list of numbers, of the program. Conditions: lengths up to 2^20, partial sums within bounds.
-/
import Derived.Test.YtnmpfojcmedpeaaDoorChecked
import Derived.Test.YtnmpfojcmedpeaaDoorMath
namespace Go.Proofs.YtnmpfojcmedpeaaDoor
open Go.RowKit

set_option maxHeartbeats 1000000 in
theorem sumOf_any (B : Option Addr) (n c : Nat) (L : Nat → Nat → Int) (w : World) (hn : n ≤ 1048576) (h : Rd w B n 1 (ints L)) (HB : Hid (∀ k, k ≤ n → 0 ≤ sumI (fun j => L j 0) k ∧ sumI (fun j => L j 0) k ≤ 1000000000000)) :
    Calls Tryd.prog 68 #[.slice B n c] w fun e w' => e = .returned (.int .i64 (sumI (fun j => L j 0) n)) ∧ w = w' := by
  go_enter Tryd.func68, Tryd.ntmps68
  go_wp2
  go_loop [3, 8] (fun s i => ∃ k : Nat, k ≤ n ∧ i = .int .i64 k ∧ s = .int .i64 (sumI (fun j => L j 0) k)) (fun _ i => n - (intOf i).toNat)
  case atStart => exact ⟨0, by omega, rfl, rfl⟩
  case round =>
    obtain ⟨k, hk, rfl, rfl⟩ := hrel
    by_cases hlt : k < n
    · obtain ⟨b, off, rfl, -, hbw, hc⟩ := h (by omega)
      have hc0 := hc k 0 hlt (by omega)
      simp only [Nat.add_zero, Nat.mul_one] at hc0
      clear hc
      obtain ⟨g1, g2⟩ := HB.out k hk
      obtain ⟨g3, g4⟩ := HB.out (k + 1) (by omega)
      have HS := hide (show sumI (fun j => L j 0) (k + 1) = sumI (fun j => L j 0) k + L k 0 from rfl)
      rw [HS.out] at g3 g4
      generalize sumI (fun j => L j 0) k = S at g1 g2 g3 g4 HS ⊢
      go_wp2
      go_round
      case rel => exact ⟨k + 1, by omega, by go_num, by rw [HS.out]⟩
      case measure => simp [intOf]; omega
    · obtain rfl : k = n := by omega
      go_wp2
      go_ret
      exact ⟨rfl, rfl⟩

end Go.Proofs.YtnmpfojcmedpeaaDoor
