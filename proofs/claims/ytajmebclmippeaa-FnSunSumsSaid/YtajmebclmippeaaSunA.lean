/-
  Contracts on suns and brines: whether they are valid, of the program and of the reference. Conditions: lengths up to 2^20.
-/
import Derived.Test.YtajmebclmippeaaNum
namespace Go.Proofs.Ytajmebclmippeaa
open Go.RowKit

theorem isRate_any (n : Int) (w : World) :
    Calls Try.prog 52 #[.int .i64 n] w fun e w' => e = .returned (.bool (inB n 0 20000)) ∧ w = w' := by
  go_enter Try.func52, Try.ntmps52
  go_wp2_with (first | (go_at_call 82; refine (within_any _ _ _ _).mono ?_; rintro _ _ ⟨rfl, rfl⟩))
  all_goals go_ret
  all_goals exact ⟨rfl, rfl⟩

set_option maxHeartbeats 1000000 in
theorem l6Good_any (A : Option Addr) (n c : Nat) (F : Nat → Nat → Int) (w : World) (hn : n ≤ 1048576) (h : Rd w A n 2 (ints F)) :
    Calls Try.prog 50 #[.slice A n c] w fun e w' => e = .returned (.bool (sunsB F n)) ∧ Below w.heap.size w w' := by
  go_enter Try.func50, Try.ntmps50
  go_wp2
  go_loopw [3] (fun i wr => ∃ k : Nat, k ≤ n ∧ i = .int .i64 k ∧ allB (sunB F) k = true ∧ Below w.heap.size w wr) (fun i _ => n - (intOf i).toNat)
  case atStart => exact ⟨0, by omega, rfl, rfl, Below.refl _ _⟩
  case round =>
    obtain ⟨k, hk, rfl, hgood, hb⟩ := hrel
    have HG := hide hgood
    clear hgood
    by_cases hlt : k < n
    · obtain ⟨b, off, rfl, -, hbw, hc⟩ := Rd.below h hb (by omega)
      have hc0 := fun x : After wr => x.cell (hc k 0 hlt (by omega)) hbw
      have hc1 := fun x : After wr => x.cell (hc k 1 hlt (by omega)) hbw
      have hcp := fun x : After wr => x.cell (hc (k - 1) 0 (by omega) (by omega)) hbw
      simp only [Nat.add_zero] at hc0 hc1 hcp
      clear hc
      have HZ := hide (sunsB_false (F := F) hlt)
      have HZ1 := hide (fun he : sunB F k = true => allB_succ HG.out he)
      go_wp2
      cases h1 : inB (F k 0) 0 4000
      · refine region_after (by kernel_rfl) (by kernel_rfl) ?_
        repeat (go_big_quiet_step ((first | (go_at_call 64; exact Calls.after_same (l2Day_any _ _)) | (go_at_call 80; exact Calls.after_same (l1In_any _ _ _ _)))))
        refine wpQuiet_nil ?_
        rintro _ ⟨x, rfl⟩
        go_wp2
        go_ret
        exact ⟨ret_bool (HZ.out (by simp [sunB, h1])).symm, hb.trans (x.h.mono hb.size)⟩
      · cases h2 : inB (F k 1) 0 20000
        · refine region_after (by kernel_rfl) (by kernel_rfl) ?_
          repeat (go_big_quiet_step ((first | (go_at_call 64; exact Calls.after_same (l2Day_any _ _)) | (go_at_call 80; exact Calls.after_same (l1In_any _ _ _ _)))))
          refine wpQuiet_nil ?_
          rintro _ ⟨x, rfl⟩
          go_wp2
          go_ret
          exact ⟨ret_bool (HZ.out (by simp [sunB, h1, h2])).symm, hb.trans (x.h.mono hb.size)⟩
        · by_cases h3 : 0 < k
          · refine region_after (by kernel_rfl) (by kernel_rfl) ?_
            repeat (go_big_quiet_step ((first | (go_at_call 64; exact Calls.after_same (l2Day_any _ _)) | (go_at_call 80; exact Calls.after_same (l1In_any _ _ _ _)))))
            refine wpQuiet_nil ?_
            rintro _ ⟨x, rfl⟩
            go_wp2
            · go_ret
              have h4 : F k 0 ≤ F (k - 1) 0 := by assumption
              exact ⟨ret_bool (HZ.out (by simp [sunB, h1, h2]; omega)).symm, hb.trans (x.h.mono hb.size)⟩
            · have h4 : F (k - 1) 0 < F k 0 := by assumption
              go_roundw
              case rel => exact ⟨k + 1, by omega, by go_num, HZ1.out (by simp [sunB, h1, h2, h4]), hb.trans (x.h.mono hb.size)⟩
              case measure => simp [intOf]; omega
          · have h4 : decide (0 < (k : Int)) = false := by simp; omega
            have h5 : k = 0 := by omega
            have H5 := hide h5
            clear h5
            refine region_after (by kernel_rfl) (by kernel_rfl) ?_
            repeat (go_big_quiet_step ((first | (go_at_call 64; exact Calls.after_same (l2Day_any _ _)) | (go_at_call 80; exact Calls.after_same (l1In_any _ _ _ _)))))
            refine wpQuiet_nil ?_
            rintro _ ⟨x, rfl⟩
            go_wp2
            go_roundw
            case rel => exact ⟨k + 1, by omega, by go_num, HZ1.out (by simp [sunB, h1, h2]; exact Or.inl H5.out), hb.trans (x.h.mono hb.size)⟩
            case measure => simp [intOf]; omega
    · go_wp2
      go_ret
      obtain rfl : k = n := by omega
      exact ⟨ret_bool (by simp [sunsB, HG.out]), hb⟩
theorem spec_AreSuns_any (A : Option Addr) (n c : Nat) (F : Nat → Nat → Int) (w : World) (hn : n ≤ 1048576) (h : Rd w A n 2 (ints F)) :
    Calls Try.prog 15 #[.slice A n c] w fun e w' => e = .returned (.bool (sunsB F n)) ∧ Below w.heap.size w w' := by
  go_enter Try.func15, Try.ntmps15
  go_wp2_with (first | (go_at_call 50; refine (l6Good_any _ _ _ _ _ hn h).mono ?_; rintro _ w1 ⟨rfl, hb_w1⟩; have hc_w1 := bcell hb_w1))
  go_ret
  exact ⟨rfl, hb_w1⟩

set_option maxHeartbeats 1000000 in
theorem AreSuns_any (A : Option Addr) (n c : Nat) (F : Nat → Nat → Int) (w : World) (hn : n ≤ 1048576) (h : Rd w A n 2 (ints F)) :
    Calls Try.prog 17 #[.slice A n c] w fun e w' => e = .returned (.bool (sunsB F n)) ∧ Below w.heap.size w w' := by
  go_enter Try.func17, Try.ntmps17
  go_wp2
  go_loopw [7] (fun i wr => ∃ k : Nat, k ≤ n ∧ i = .int .i64 k ∧ allB (sunB F) k = true ∧ Below w.heap.size w wr) (fun i _ => n - (intOf i).toNat)
  case atStart => exact ⟨0, by omega, rfl, rfl, Below.refl _ _⟩
  case round =>
    obtain ⟨k, hk, rfl, hgood, hb⟩ := hrel
    have HG := hide hgood
    clear hgood
    by_cases hlt : k < n
    · obtain ⟨b, off, rfl, -, hbw, hc⟩ := Rd.below h hb (by omega)
      have hc0 := hc k 0 hlt (by omega)
      have hc1 := hc k 1 hlt (by omega)
      have hcp := hc (k - 1) 0 (by omega) (by omega)
      simp only [Nat.add_zero] at hc0 hc1 hcp
      clear hc
      have HZ := hide (sunsB_false (F := F) hlt)
      have HZ1 := hide (fun he : sunB F k = true => allB_succ HG.out he)
      go_wp2
      generalize hW : wr.alloc (.cells #[.int .i64 (F k 0), .int .i64 (F k 1)] 55) = W2
      have hbW : Below wr.heap.size wr W2 := by rw [← hW]; exact (Below.refl _ _).alloc (Nat.le_refl _) _
      have hsW : wr.heap.size < W2.heap.size := by rw [← hW]; simp
      have e0 : W2.cell? ⟨wr.heap.size, 0, none⟩ = some (.int .i64 (F k 0)) := by rw [← hW]; simp
      have e1 : W2.cell? ⟨wr.heap.size, 1, none⟩ = some (.int .i64 (F k 1)) := by rw [← hW]; simp
      have ep := (hbW.cell (by exact hbw)).trans hcp
      clear hW hc0 hc1 hcp
      have hc0 := fun x : After W2 => x.cell e0 hsW
      have hc1 := fun x : After W2 => x.cell e1 hsW
      have hcp := fun x : After W2 => x.cell ep (Nat.lt_trans hbw hsW)
      have hbx := fun x : After W2 => (hb.trans (hbW.mono hb.size)).trans (x.h.mono (Nat.le_trans hb.size (Nat.le_of_lt hsW)))
      clear e0 e1 ep
      cases h1 : inB (F k 0) 0 4000
      · refine region_after (by kernel_rfl) (by kernel_rfl) ?_
        repeat (go_big_quiet_step ((first | (go_at_call 51; exact Calls.after_same (isDay_any _ _)) | (go_at_call 52; exact Calls.after_same (isRate_any _ _)))))
        refine wpQuiet_nil ?_
        rintro _ ⟨x, rfl⟩
        go_wp2
        go_ret
        exact ⟨ret_bool (HZ.out (by simp [sunB, h1])).symm, hbx x⟩
      · cases h2 : inB (F k 1) 0 20000
        · refine region_after (by kernel_rfl) (by kernel_rfl) ?_
          repeat (go_big_quiet_step ((first | (go_at_call 51; exact Calls.after_same (isDay_any _ _)) | (go_at_call 52; exact Calls.after_same (isRate_any _ _)))))
          refine wpQuiet_nil ?_
          rintro _ ⟨x, rfl⟩
          go_wp2
          go_ret
          exact ⟨ret_bool (HZ.out (by simp [sunB, h1, h2])).symm, hbx x⟩
        · by_cases h3 : 0 < k
          · refine region_after (by kernel_rfl) (by kernel_rfl) ?_
            repeat (go_big_quiet_step ((first | (go_at_call 51; exact Calls.after_same (isDay_any _ _)) | (go_at_call 52; exact Calls.after_same (isRate_any _ _)))))
            refine wpQuiet_nil ?_
            rintro _ ⟨x, rfl⟩
            go_wp2
            · go_ret
              have h4 : F k 0 ≤ F (k - 1) 0 := by assumption
              exact ⟨ret_bool (HZ.out (by simp [sunB, h1, h2]; omega)).symm, hbx x⟩
            · have h4 : F (k - 1) 0 < F k 0 := by assumption
              go_roundw
              case rel => exact ⟨k + 1, by omega, by go_num, HZ1.out (by simp [sunB, h1, h2, h4]), hbx x⟩
              case measure => simp [intOf]; omega
          · have h4 : decide (0 < (k : Int)) = false := by simp; omega
            have h5 : k = 0 := by omega
            have H5 := hide h5
            clear h5
            refine region_after (by kernel_rfl) (by kernel_rfl) ?_
            repeat (go_big_quiet_step ((first | (go_at_call 51; exact Calls.after_same (isDay_any _ _)) | (go_at_call 52; exact Calls.after_same (isRate_any _ _)))))
            refine wpQuiet_nil ?_
            rintro _ ⟨x, rfl⟩
            go_wp2
            go_roundw
            case rel => exact ⟨k + 1, by omega, by go_num, HZ1.out (by simp [sunB, h1, h2]; exact Or.inl H5.out), hbx x⟩
            case measure => simp [intOf]; omega
    · go_wp2
      go_ret
      obtain rfl : k = n := by omega
      exact ⟨ret_bool (by simp [sunsB, HG.out]), hb⟩
end Go.Proofs.Ytajmebclmippeaa
