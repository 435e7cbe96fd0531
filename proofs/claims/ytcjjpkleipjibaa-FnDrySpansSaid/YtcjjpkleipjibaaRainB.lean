/-
  Contracts: whether a list are showers, of the program. Conditions: lengths up to 2^20.
-/
import Derived.Test.YtcjjpkleipjibaaRainA
namespace Go.Proofs.Ytcjjpkleipjibaa
open Go.RowKit

theorem spec_AreShowers_any (A : Option Addr) (n c : Nat) (F : Nat → Nat → Int) (w : World) (hn : n ≤ 1048576) (h : Rd w A n 2 (ints F)) :
    Calls Try.prog 15 #[.slice A n c] w fun e w' => e = .returned (.bool (showsB F n)) ∧ Below w.heap.size w w' := by
  go_enter Try.func15, Try.ntmps15
  go_wp2_with (first | (go_at_call 53; refine (l9Good_any _ _ _ _ _ hn h).mono ?_; rintro _ w1 ⟨rfl, hb_w1⟩; have hc_w1 := bcell hb_w1))
  go_ret
  exact ⟨rfl, hb_w1⟩

set_option maxHeartbeats 1000000 in
theorem AreShowers_any (A : Option Addr) (n c : Nat) (F : Nat → Nat → Int) (w : World) (hn : n ≤ 1048576) (h : Rd w A n 2 (ints F)) :
    Calls Try.prog 17 #[.slice A n c] w fun e w' => e = .returned (.bool (showsB F n)) ∧ Below w.heap.size w w' := by
  go_enter Try.func17, Try.ntmps17
  go_wp2
  go_loopw [7] (fun i wr => ∃ k : Nat, k ≤ n ∧ i = .int .i64 k ∧ allB (showB F) k = true ∧ Below w.heap.size w wr) (fun i _ => n - (intOf i).toNat)
  case atStart => exact ⟨0, by omega, rfl, rfl, Below.refl _ _⟩
  case round =>
    obtain ⟨k, hk, rfl, hgood, hb⟩ := hrel
    have HG := hide hgood
    clear hgood
    by_cases hlt : k < n
    · obtain ⟨b, off, rfl, -, hbw, hc⟩ := Rd.below h hb (by omega)
      have hc0 := hc k 0 hlt (by omega)
      have hc1 := hc k 1 hlt (by omega)
      have hcp := hc (k - 1) 0 (by omega) (by omega)
      simp only [Nat.add_zero] at hc0 hc1 hcp
      clear hc
      have HZ := hide (showsB_false (F := F) hlt)
      have HZ1 := hide (fun he : showB F k = true => allB_succ HG.out he)
      go_wp2
      generalize hW : wr.alloc (.cells #[.int .i64 (F k 0), .int .i64 (F k 1)] 68) = W2
      have hbW : Below wr.heap.size wr W2 := by rw [← hW]; exact (Below.refl _ _).alloc (Nat.le_refl _) _
      have hsW : wr.heap.size < W2.heap.size := by rw [← hW]; simp
      have e0 : W2.cell? ⟨wr.heap.size, 0, none⟩ = some (.int .i64 (F k 0)) := by rw [← hW]; simp
      have e1 : W2.cell? ⟨wr.heap.size, 1, none⟩ = some (.int .i64 (F k 1)) := by rw [← hW]; simp
      have ep := (hbW.cell (by exact hbw)).trans hcp
      clear hW hc0 hc1 hcp
      have hc0 := fun x : After W2 => x.cell e0 hsW
      have hc1 := fun x : After W2 => x.cell e1 hsW
      have hcp := fun x : After W2 => x.cell ep (Nat.lt_trans hbw hsW)
      have hbx := fun x : After W2 => (hb.trans (hbW.mono hb.size)).trans (x.h.mono (Nat.le_trans hb.size (Nat.le_of_lt hsW)))
      clear e0 e1 ep
      cases h1 : inB (F k 0) 0 4000
      · refine region_after (by kernel_rfl) (by kernel_rfl) ?_
        repeat (go_big_quiet_step ((first | (go_at_call 55; exact Calls.after_same (isDay_any _ _)) | (go_at_call 56; exact Calls.after_same (within_any _ _ _ _)))))
        refine wpQuiet_nil ?_
        rintro _ ⟨x, rfl⟩
        go_wp2
        go_ret
        exact ⟨ret_bool (HZ.out (by simp [showB, h1])).symm, hbx x⟩
      · cases h2 : inB (F k 1) 1 200000
        · refine region_after (by kernel_rfl) (by kernel_rfl) ?_
          repeat (go_big_quiet_step ((first | (go_at_call 55; exact Calls.after_same (isDay_any _ _)) | (go_at_call 56; exact Calls.after_same (within_any _ _ _ _)))))
          refine wpQuiet_nil ?_
          rintro _ ⟨x, rfl⟩
          go_wp2
          go_ret
          exact ⟨ret_bool (HZ.out (by simp [showB, h1, h2])).symm, hbx x⟩
        · by_cases h3 : 0 < k
          · refine region_after (by kernel_rfl) (by kernel_rfl) ?_
            repeat (go_big_quiet_step ((first | (go_at_call 55; exact Calls.after_same (isDay_any _ _)) | (go_at_call 56; exact Calls.after_same (within_any _ _ _ _)))))
            refine wpQuiet_nil ?_
            rintro _ ⟨x, rfl⟩
            go_wp2
            · go_ret
              have h4 : F k 0 ≤ F (k - 1) 0 := by assumption
              exact ⟨ret_bool (HZ.out (by simp [showB, h1, h2]; omega)).symm, hbx x⟩
            · have h4 : F (k - 1) 0 < F k 0 := by assumption
              go_roundw
              case rel => exact ⟨k + 1, by omega, by go_num, HZ1.out (by simp [showB, h1, h2, h4]), hbx x⟩
              case measure => simp [intOf]; omega
          · have h4 : decide (0 < (k : Int)) = false := by simp; omega
            have h5 : k = 0 := by omega
            have H5 := hide h5
            clear h5
            refine region_after (by kernel_rfl) (by kernel_rfl) ?_
            repeat (go_big_quiet_step ((first | (go_at_call 55; exact Calls.after_same (isDay_any _ _)) | (go_at_call 56; exact Calls.after_same (within_any _ _ _ _)))))
            refine wpQuiet_nil ?_
            rintro _ ⟨x, rfl⟩
            go_wp2
            go_roundw
            case rel => exact ⟨k + 1, by omega, by go_num, HZ1.out (by simp [showB, h1, h2]; exact Or.inl H5.out), hbx x⟩
            case measure => simp [intOf]; omega
    · go_wp2
      go_ret
      obtain rfl : k = n := by omega
      exact ⟨ret_bool (by simp [showsB, HG.out]), hb⟩
end Go.Proofs.Ytcjjpkleipjibaa
