/-
  Contracts on workers: whether one is valid, and whether a list is, of the program and of the reference. Conditions: lengths up to 2^20.
-/
import Derived.Test.YtmblkjnpibcmoaaNum
import Derived.Test.YtmblkjnpibcmoaaWkM
namespace Go.Proofs.Ytmblkjnpibcmoaa
open Go.RowKit

theorem isId_any (n : Int) (w : World) :
    Calls Try.prog 73 #[.int .i64 n] w fun e w' => e = .returned (.bool (inB n 1 99)) ∧ w = w' := by
  go_enter Try.func73, Try.ntmps73
  go_wp2_with (first | (go_at_call 68; refine (within_any _ _ _ _).mono ?_; rintro _ _ ⟨rfl, rfl⟩))
  all_goals go_ret
  all_goals exact ⟨rfl, rfl⟩

set_option maxHeartbeats 1000000 in
theorem l5One_any (id g r f : Int) (c : Bool) (w : World) :
    Calls Try.prog 74 #[.agg #[.int .i64 id, .int .i64 g, .int .i64 r, .bool c, .int .i64 f]] w fun e w' => e = .returned (.bool (workerB id g r f)) ∧ Below w.heap.size w w' := by
  cases h1 : inB id 1 99
  · go_enter Try.func74, Try.ntmps74
    go_wp2_with (first | (go_at_call 70; refine (l1In_any _ _ _ _).mono ?_; rintro _ _ ⟨rfl, rfl⟩) | (go_at_call 70; refine (l1In_any _ _ _ _).mono ?_; rintro _ _ ⟨rfl, rfl⟩))
    go_ret
    exact ⟨ret_bool (by simp [workerB, h1]), (Below.refl _ _).alloc (Nat.le_refl _) _⟩
  cases h2 : inB g 0 5
  · go_enter Try.func74, Try.ntmps74
    go_wp2_with (first | (go_at_call 70; refine (l1In_any _ _ _ _).mono ?_; rintro _ _ ⟨rfl, rfl⟩) | (go_at_call 70; refine (l1In_any _ _ _ _).mono ?_; rintro _ _ ⟨rfl, rfl⟩))
    go_ret
    exact ⟨ret_bool (by simp [workerB, h1, h2]), (Below.refl _ _).alloc (Nat.le_refl _) _⟩
  cases h3 : inB r 1 50
  · go_enter Try.func74, Try.ntmps74
    go_wp2_with (first | (go_at_call 70; refine (l1In_any _ _ _ _).mono ?_; rintro _ _ ⟨rfl, rfl⟩) | (go_at_call 70; refine (l1In_any _ _ _ _).mono ?_; rintro _ _ ⟨rfl, rfl⟩))
    go_ret
    exact ⟨ret_bool (by simp [workerB, h1, h2, h3]), (Below.refl _ _).alloc (Nat.le_refl _) _⟩
  cases h4 : inB f 0 6
  · go_enter Try.func74, Try.ntmps74
    go_wp2_with (first | (go_at_call 70; refine (l1In_any _ _ _ _).mono ?_; rintro _ _ ⟨rfl, rfl⟩) | (go_at_call 70; refine (l1In_any _ _ _ _).mono ?_; rintro _ _ ⟨rfl, rfl⟩))
    go_ret
    exact ⟨ret_bool (by simp [workerB, h1, h2, h3, h4]), (Below.refl _ _).alloc (Nat.le_refl _) _⟩
  · go_enter Try.func74, Try.ntmps74
    go_wp2_with (first | (go_at_call 70; refine (l1In_any _ _ _ _).mono ?_; rintro _ _ ⟨rfl, rfl⟩) | (go_at_call 70; refine (l1In_any _ _ _ _).mono ?_; rintro _ _ ⟨rfl, rfl⟩))
    go_ret
    exact ⟨ret_bool (by simp [workerB, h1, h2, h3, h4]), (Below.refl _ _).alloc (Nat.le_refl _) _⟩
set_option maxHeartbeats 1000000 in
theorem IsWorker_any (id g r f : Int) (c : Bool) (w : World) :
    Calls Try.prog 40 #[.agg #[.int .i64 id, .int .i64 g, .int .i64 r, .bool c, .int .i64 f]] w fun e w' => e = .returned (.bool (workerB id g r f)) ∧ Below w.heap.size w w' := by
  cases h1 : inB id 1 99
  · go_enter Try.func40, Try.ntmps40
    go_wp2_with (first | (go_at_call 73; refine (isId_any _ _).mono ?_; rintro _ _ ⟨rfl, rfl⟩) | (go_at_call 68; refine (within_any _ _ _ _).mono ?_; rintro _ _ ⟨rfl, rfl⟩))
    go_ret
    exact ⟨ret_bool (by simp [workerB, h1]), (Below.refl _ _).alloc (Nat.le_refl _) _⟩
  cases h2 : inB g 0 5
  · go_enter Try.func40, Try.ntmps40
    go_wp2_with (first | (go_at_call 73; refine (isId_any _ _).mono ?_; rintro _ _ ⟨rfl, rfl⟩) | (go_at_call 68; refine (within_any _ _ _ _).mono ?_; rintro _ _ ⟨rfl, rfl⟩))
    go_ret
    exact ⟨ret_bool (by simp [workerB, h1, h2]), (Below.refl _ _).alloc (Nat.le_refl _) _⟩
  cases h3 : inB r 1 50
  · go_enter Try.func40, Try.ntmps40
    go_wp2_with (first | (go_at_call 73; refine (isId_any _ _).mono ?_; rintro _ _ ⟨rfl, rfl⟩) | (go_at_call 68; refine (within_any _ _ _ _).mono ?_; rintro _ _ ⟨rfl, rfl⟩))
    go_ret
    exact ⟨ret_bool (by simp [workerB, h1, h2, h3]), (Below.refl _ _).alloc (Nat.le_refl _) _⟩
  cases h4 : inB f 0 6
  · go_enter Try.func40, Try.ntmps40
    go_wp2_with (first | (go_at_call 73; refine (isId_any _ _).mono ?_; rintro _ _ ⟨rfl, rfl⟩) | (go_at_call 68; refine (within_any _ _ _ _).mono ?_; rintro _ _ ⟨rfl, rfl⟩))
    go_ret
    exact ⟨ret_bool (by simp [workerB, h1, h2, h3, h4]), (Below.refl _ _).alloc (Nat.le_refl _) _⟩
  · go_enter Try.func40, Try.ntmps40
    go_wp2_with (first | (go_at_call 73; refine (isId_any _ _).mono ?_; rintro _ _ ⟨rfl, rfl⟩) | (go_at_call 68; refine (within_any _ _ _ _).mono ?_; rintro _ _ ⟨rfl, rfl⟩))
    go_ret
    exact ⟨ret_bool (by simp [workerB, h1, h2, h3, h4]), (Below.refl _ _).alloc (Nat.le_refl _) _⟩

theorem wk_at {w w' : World} {A : Option Addr} {n : Nat} {F : Nat → Nat → Int} {C : Nat → Bool} (h1 : Rd w A n 5 (wkC F C)) (hb : Below w.heap.size w w') (hn : 0 < n) :
    ∃ b off, A = some ⟨b, off, none⟩ ∧ b < w'.heap.size ∧ ∀ k, k < n → w'.cell? ⟨b, off + k * 5, none⟩ = some (.int .i64 (F k 0)) ∧ w'.cell? ⟨b, off + k * 5 + 1, none⟩ = some (.int .i64 (F k 1)) ∧
      w'.cell? ⟨b, off + k * 5 + 2, none⟩ = some (.int .i64 (F k 2)) ∧ w'.cell? ⟨b, off + k * 5 + 3, none⟩ = some (.bool (C k)) ∧ w'.cell? ⟨b, off + k * 5 + 4, none⟩ = some (.int .i64 (F k 4)) := by
  obtain ⟨b, off, e, -, h2, hc⟩ := Rd.below h1 hb hn
  refine ⟨b, off, e, h2, fun k hk => ⟨?_, ?_, ?_, ?_, ?_⟩⟩
  · simpa [wkC] using hc k 0 hk (by omega)
  · simpa [wkC] using hc k 1 hk (by omega)
  · simpa [wkC] using hc k 2 hk (by omega)
  · simpa [wkC] using hc k 3 hk (by omega)
  · simpa [wkC] using hc k 4 hk (by omega)

set_option maxHeartbeats 2000000 in
theorem l5Good_any (A : Option Addr) (n c : Nat) (F : Nat → Nat → Int) (C : Nat → Bool) (w : World) (hn : n ≤ 1048576) (h : Rd w A n 5 (wkC F C)) :
    Calls Try.prog 56 #[.slice A n c] w fun e w' => e = .returned (.bool (worksB F n)) ∧ Below w.heap.size w w' := by
  go_enter Try.func56, Try.ntmps56
  go_wp2
  go_loopw [3] (fun i wr => ∃ k : Nat, k ≤ n ∧ i = .int .i64 k ∧ allB (workAtB F) k = true ∧ Below w.heap.size w wr) (fun i _ => n - (intOf i).toNat)
  case atStart => exact ⟨0, by omega, rfl, rfl, Below.refl _ _⟩
  case round =>
    obtain ⟨k, hk, rfl, hgood, hb⟩ := hrel
    have HG := hide hgood
    clear hgood
    by_cases hlt : k < n
    · obtain ⟨b, off, rfl, hbw, hc⟩ := wk_at h hb (by omega)
      obtain ⟨c0, c1, c2, c3, c4⟩ := hc k hlt
      have cp := (hc (k - 1) (by omega)).1
      clear hc
      have d0 := fun x : After wr => x.cell c0 hbw
      have d1 := fun x : After wr => x.cell c1 hbw
      have d2 := fun x : After wr => x.cell c2 hbw
      have d3 := fun x : After wr => x.cell c3 hbw
      have d4 := fun x : After wr => x.cell c4 hbw
      have dp := fun x : After wr => x.cell cp hbw
      have hbx := fun x : After wr => gr hb x.h
      clear c0 c1 c2 c3 c4 cp
      go_wp2
      have HZ := hide (fun he : workAtB F k = false => (by simp [worksB, allB_false hlt he] : worksB F n = false))
      have HZ1 := hide (fun he : workAtB F k = true => allB_succ HG.out he)
      cases h1 : workerB (F k 0) (F k 1) (F k 2) (F k 4)
      · refine region_after (by kernel_rfl) (by kernel_rfl) ?_
        repeat (go_big_quiet_step ((first | (go_at_call 74; exact Calls.after (l5One_any _ _ _ _ _ _)))))
        refine wpQuiet_nil ?_
        rintro _ ⟨x, rfl⟩
        go_wp2
        go_ret
        exact ⟨ret_bool (HZ.out (by simp [workAtB, h1])).symm, hbx x⟩
      · by_cases h3 : 0 < k
        · refine region_after (by kernel_rfl) (by kernel_rfl) ?_
          repeat (go_big_quiet_step ((first | (go_at_call 74; exact Calls.after (l5One_any _ _ _ _ _ _)))))
          refine wpQuiet_nil ?_
          rintro _ ⟨x, rfl⟩
          go_wp2
          · go_ret
            have h4 : F k 0 ≤ F (k - 1) 0 := by assumption
            exact ⟨ret_bool (HZ.out (by simp [workAtB, h1]; omega)).symm, hbx x⟩
          · have h4 : F (k - 1) 0 < F k 0 := by assumption
            go_roundw
            case rel => exact ⟨k + 1, by omega, by go_num, HZ1.out (by simp [workAtB, h1, h4]), hbx x⟩
            case measure => simp [intOf]; omega
        · have h4 : decide (0 < (k : Int)) = false := by simp; omega
          have h5 : k = 0 := by omega
          have H5 := hide h5
          clear h5
          refine region_after (by kernel_rfl) (by kernel_rfl) ?_
          repeat (go_big_quiet_step ((first | (go_at_call 74; exact Calls.after (l5One_any _ _ _ _ _ _)))))
          refine wpQuiet_nil ?_
          rintro _ ⟨x, rfl⟩
          go_wp2
          go_roundw
          case rel => exact ⟨k + 1, by omega, by go_num, HZ1.out (by simp [workAtB, h1]; exact Or.inl H5.out), hbx x⟩
          case measure => simp [intOf]; omega
    · go_wp2
      go_ret
      obtain rfl : k = n := by omega
      exact ⟨ret_bool (by simp [worksB, HG.out]), hb⟩
set_option maxHeartbeats 2000000 in
theorem AreWorkers_any (A : Option Addr) (n c : Nat) (F : Nat → Nat → Int) (C : Nat → Bool) (w : World) (hn : n ≤ 1048576) (h : Rd w A n 5 (wkC F C)) :
    Calls Try.prog 42 #[.slice A n c] w fun e w' => e = .returned (.bool (worksB F n)) ∧ Below w.heap.size w w' := by
  go_enter Try.func42, Try.ntmps42
  go_wp2
  go_loopw [7] (fun i wr => ∃ k : Nat, k ≤ n ∧ i = .int .i64 k ∧ allB (workAtB F) k = true ∧ Below w.heap.size w wr) (fun i _ => n - (intOf i).toNat)
  case atStart => exact ⟨0, by omega, rfl, rfl, Below.refl _ _⟩
  case round =>
    obtain ⟨k, hk, rfl, hgood, hb⟩ := hrel
    have HG := hide hgood
    clear hgood
    by_cases hlt : k < n
    · obtain ⟨b, off, rfl, hbw, hc⟩ := wk_at h hb (by omega)
      obtain ⟨c0, c1, c2, c3, c4⟩ := hc k hlt
      have cp := (hc (k - 1) (by omega)).1
      clear hc
      go_wp2
      have hbW : Below wr.heap.size wr (wr.alloc (.cells #[.int .i64 (F k 0), .int .i64 (F k 1), .int .i64 (F k 2), .bool (C k), .int .i64 (F k 4)] 54)) := (Below.refl _ _).alloc (Nat.le_refl _) _
      have hsW : wr.heap.size < (wr.alloc (.cells #[.int .i64 (F k 0), .int .i64 (F k 1), .int .i64 (F k 2), .bool (C k), .int .i64 (F k 4)] 54)).heap.size := by simp
      have e0 : World.cell? (wr.alloc (.cells #[.int .i64 (F k 0), .int .i64 (F k 1), .int .i64 (F k 2), .bool (C k), .int .i64 (F k 4)] 54)) ⟨wr.heap.size, 0, none⟩ = some (.int .i64 (F k 0)) := by rw [World.cell?_alloc_new]; rfl
      have e1 : World.cell? (wr.alloc (.cells #[.int .i64 (F k 0), .int .i64 (F k 1), .int .i64 (F k 2), .bool (C k), .int .i64 (F k 4)] 54)) ⟨wr.heap.size, 1, none⟩ = some (.int .i64 (F k 1)) := by rw [World.cell?_alloc_new]; rfl
      have e2 : World.cell? (wr.alloc (.cells #[.int .i64 (F k 0), .int .i64 (F k 1), .int .i64 (F k 2), .bool (C k), .int .i64 (F k 4)] 54)) ⟨wr.heap.size, 2, none⟩ = some (.int .i64 (F k 2)) := by rw [World.cell?_alloc_new]; rfl
      have e3 : World.cell? (wr.alloc (.cells #[.int .i64 (F k 0), .int .i64 (F k 1), .int .i64 (F k 2), .bool (C k), .int .i64 (F k 4)] 54)) ⟨wr.heap.size, 3, none⟩ = some (.bool (C k)) := by rw [World.cell?_alloc_new]; rfl
      have e4 : World.cell? (wr.alloc (.cells #[.int .i64 (F k 0), .int .i64 (F k 1), .int .i64 (F k 2), .bool (C k), .int .i64 (F k 4)] 54)) ⟨wr.heap.size, 4, none⟩ = some (.int .i64 (F k 4)) := by rw [World.cell?_alloc_new]; rfl
      generalize wr.alloc (.cells #[.int .i64 (F k 0), .int .i64 (F k 1), .int .i64 (F k 2), .bool (C k), .int .i64 (F k 4)] 54) = W2 at hbW hsW e0 e1 e2 e3 e4 ⊢
      have hbz : b < W2.heap.size := by omega
      have cp2 := (hbW.cell (by exact hbw)).trans cp
      clear c0 c1 c2 c3 c4 cp
      have hbx := fun x : After W2 => gr hb (gr hbW x.h)
      have d0 := fun x : After W2 => x.cell e0 hsW
      have d1 := fun x : After W2 => x.cell e1 hsW
      have d2 := fun x : After W2 => x.cell e2 hsW
      have d3 := fun x : After W2 => x.cell e3 hsW
      have d4 := fun x : After W2 => x.cell e4 hsW
      have dp := fun x : After W2 => x.cell cp2 hbz
      clear e0 e1 e2 e3 e4 cp2
      have HZ := hide (fun he : workAtB F k = false => (by simp [worksB, allB_false hlt he] : worksB F n = false))
      have HZ1 := hide (fun he : workAtB F k = true => allB_succ HG.out he)
      cases h1 : workerB (F k 0) (F k 1) (F k 2) (F k 4)
      · refine region_after (by kernel_rfl) (by kernel_rfl) ?_
        repeat (go_big_quiet_step ((first | (go_at_call 40; exact Calls.after (IsWorker_any _ _ _ _ _ _)))))
        refine wpQuiet_nil ?_
        rintro _ ⟨x, rfl⟩
        go_wp2
        go_ret
        exact ⟨ret_bool (HZ.out (by simp [workAtB, h1])).symm, hbx x⟩
      · by_cases h3 : 0 < k
        · refine region_after (by kernel_rfl) (by kernel_rfl) ?_
          repeat (go_big_quiet_step ((first | (go_at_call 40; exact Calls.after (IsWorker_any _ _ _ _ _ _)))))
          refine wpQuiet_nil ?_
          rintro _ ⟨x, rfl⟩
          go_wp2
          · go_ret
            have h4 : F k 0 ≤ F (k - 1) 0 := by assumption
            exact ⟨ret_bool (HZ.out (by simp [workAtB, h1]; omega)).symm, hbx x⟩
          · have h4 : F (k - 1) 0 < F k 0 := by assumption
            go_roundw
            case rel => exact ⟨k + 1, by omega, by go_num, HZ1.out (by simp [workAtB, h1, h4]), hbx x⟩
            case measure => simp [intOf]; omega
        · have h4 : decide (0 < (k : Int)) = false := by simp; omega
          have h5 : k = 0 := by omega
          have H5 := hide h5
          clear h5
          refine region_after (by kernel_rfl) (by kernel_rfl) ?_
          repeat (go_big_quiet_step ((first | (go_at_call 40; exact Calls.after (IsWorker_any _ _ _ _ _ _)))))
          refine wpQuiet_nil ?_
          rintro _ ⟨x, rfl⟩
          go_wp2
          go_roundw
          case rel => exact ⟨k + 1, by omega, by go_num, HZ1.out (by simp [workAtB, h1]; exact Or.inl H5.out), hbx x⟩
          case measure => simp [intOf]; omega
    · go_wp2
      go_ret
      obtain rfl : k = n := by omega
      exact ⟨ret_bool (by simp [worksB, HG.out]), hb⟩
end Go.Proofs.Ytmblkjnpibcmoaa
