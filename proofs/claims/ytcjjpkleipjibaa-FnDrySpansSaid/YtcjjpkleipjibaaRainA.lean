/-
  Contracts: whether a list are showers, of the reference. Conditions: lengths up to 2^20.
-/
import Derived.Test.YtcjjpkleipjibaaNum
namespace Go.Proofs.Ytcjjpkleipjibaa
open Go.RowKit

set_option maxHeartbeats 1000000 in
theorem l9Good_any (A : Option Addr) (n c : Nat) (F : Nat → Nat → Int) (w : World) (hn : n ≤ 1048576) (h : Rd w A n 2 (ints F)) :
    Calls Try.prog 53 #[.slice A n c] w fun e w' => e = .returned (.bool (showsB F n)) ∧ Below w.heap.size w w' := by
  go_enter Try.func53, Try.ntmps53
  go_wp2
  go_loopw [3] (fun i wr => ∃ k : Nat, k ≤ n ∧ i = .int .i64 k ∧ allB (showB F) k = true ∧ Below w.heap.size w wr) (fun i _ => n - (intOf i).toNat)
  case atStart => exact ⟨0, by omega, rfl, rfl, Below.refl _ _⟩
  case round =>
    obtain ⟨k, hk, rfl, hgood, hb⟩ := hrel
    have HG := hide hgood
    clear hgood
    by_cases hlt : k < n
    · obtain ⟨b, off, rfl, -, hbw, hc⟩ := Rd.below h hb (by omega)
      have hc0 := fun x : After wr => x.cell (hc k 0 hlt (by omega)) hbw
      have hc1 := fun x : After wr => x.cell (hc k 1 hlt (by omega)) hbw
      have hcp := fun x : After wr => x.cell (hc (k - 1) 0 (by omega) (by omega)) hbw
      simp only [Nat.add_zero] at hc0 hc1 hcp
      clear hc
      have HZ := hide (showsB_false (F := F) hlt)
      have HZ1 := hide (fun he : showB F k = true => allB_succ HG.out he)
      go_wp2
      cases h1 : inB (F k 0) 0 4000
      · refine region_after (by kernel_rfl) (by kernel_rfl) ?_
        repeat (go_big_quiet_step ((first | (go_at_call 59; exact Calls.after_same (l2Day_any _ _)) | (go_at_call 60; exact Calls.after_same (l1In_any _ _ _ _)))))
        refine wpQuiet_nil ?_
        rintro _ ⟨x, rfl⟩
        go_wp2
        go_ret
        exact ⟨ret_bool (HZ.out (by simp [showB, h1])).symm, hb.trans (x.h.mono hb.size)⟩
      · cases h2 : inB (F k 1) 1 200000
        · refine region_after (by kernel_rfl) (by kernel_rfl) ?_
          repeat (go_big_quiet_step ((first | (go_at_call 59; exact Calls.after_same (l2Day_any _ _)) | (go_at_call 60; exact Calls.after_same (l1In_any _ _ _ _)))))
          refine wpQuiet_nil ?_
          rintro _ ⟨x, rfl⟩
          go_wp2
          go_ret
          exact ⟨ret_bool (HZ.out (by simp [showB, h1, h2])).symm, hb.trans (x.h.mono hb.size)⟩
        · by_cases h3 : 0 < k
          · refine region_after (by kernel_rfl) (by kernel_rfl) ?_
            repeat (go_big_quiet_step ((first | (go_at_call 59; exact Calls.after_same (l2Day_any _ _)) | (go_at_call 60; exact Calls.after_same (l1In_any _ _ _ _)))))
            refine wpQuiet_nil ?_
            rintro _ ⟨x, rfl⟩
            go_wp2
            · go_ret
              have h4 : F k 0 ≤ F (k - 1) 0 := by assumption
              exact ⟨ret_bool (HZ.out (by simp [showB, h1, h2]; omega)).symm, hb.trans (x.h.mono hb.size)⟩
            · have h4 : F (k - 1) 0 < F k 0 := by assumption
              go_roundw
              case rel => exact ⟨k + 1, by omega, by go_num, HZ1.out (by simp [showB, h1, h2, h4]), hb.trans (x.h.mono hb.size)⟩
              case measure => simp [intOf]; omega
          · have h4 : decide (0 < (k : Int)) = false := by simp; omega
            have h5 : k = 0 := by omega
            have H5 := hide h5
            clear h5
            refine region_after (by kernel_rfl) (by kernel_rfl) ?_
            repeat (go_big_quiet_step ((first | (go_at_call 59; exact Calls.after_same (l2Day_any _ _)) | (go_at_call 60; exact Calls.after_same (l1In_any _ _ _ _)))))
            refine wpQuiet_nil ?_
            rintro _ ⟨x, rfl⟩
            go_wp2
            go_roundw
            case rel => exact ⟨k + 1, by omega, by go_num, HZ1.out (by simp [showB, h1, h2]; exact Or.inl H5.out), hb.trans (x.h.mono hb.size)⟩
            case measure => simp [intOf]; omega
    · go_wp2
      go_ret
      obtain rfl : k = n := by omega
      exact ⟨ret_bool (by simp [showsB, HG.out]), hb⟩
end Go.Proofs.Ytcjjpkleipjibaa
