/-
  Contracts: the rate on a day, and what evaporates of a valid brine, of the program and of the reference. Conditions: lengths up to 2^20; valid brines, areas and rates.
-/
import Derived.Test.YtajmebclmippeaaBrine
import Derived.Test.YtajmebclmippeaaTail
namespace Go.Proofs.Ytajmebclmippeaa
open Go.RowKit

theorem l6On_any (A : Option Addr) (n c : Nat) (F : Nat → Nat → Int) (day : Int) (w : World) (hn : n ≤ 1048576) (h : Rd w A n 2 (ints F)) :
    Calls Try.prog 66 #[.slice A n c, .int .i64 day] w fun e w' => e = .returned (.int .i64 (onV F day n)) ∧ Below w.heap.size w w' := by
  go_enter Try.func66, Try.ntmps66
  go_wp2
  go_loopw [5] (fun i wr => ∃ k : Nat, k ≤ n ∧ i = .int .i64 k ∧ firstB (fun i => F i 0 == day) k = none ∧ Below w.heap.size w wr) (fun i _ => n - (intOf i).toNat)
  case atStart => exact ⟨0, by omega, rfl, rfl, Below.refl _ _⟩
  case round =>
    obtain ⟨k, hk, rfl, hf, hb⟩ := hrel
    have HF := hide hf
    clear hf
    by_cases hlt : k < n
    · obtain ⟨b, off, rfl, -, hbw, hc⟩ := Rd.below h hb (by omega)
      have hc0 := hc k 0 hlt (by omega)
      have hc1 := hc k 1 hlt (by omega)
      simp only [Nat.add_zero] at hc0 hc1
      clear hc
      cases hd : (F k 0 == day)
      · go_wp2
        go_roundw
        case rel => exact ⟨k + 1, by omega, by go_num, firstB_succ_none HF.out hd, hb⟩
        case measure => simp [intOf]; omega
      · go_wp2
        go_ret
        exact ⟨ret_int (onV_of HF.out (by simpa using hd) hlt).symm, hb⟩
    · go_wp2
      go_ret
      obtain rfl : k = n := by omega
      exact ⟨ret_int (onV_none HF.out).symm, hb⟩

theorem sunOn_any (A : Option Addr) (n c : Nat) (F : Nat → Nat → Int) (day : Int) (w : World) (hn : n ≤ 1048576) (h : Rd w A n 2 (ints F)) :
    Calls Try.prog 62 #[.slice A n c, .int .i64 day] w fun e w' => e = .returned (.int .i64 (onV F day n)) ∧ Below w.heap.size w w' := by
  go_enter Try.func62, Try.ntmps62
  go_wp2
  go_loopw [9] (fun i wr => ∃ k : Nat, k ≤ n ∧ i = .int .i64 k ∧ firstB (fun i => F i 0 == day) k = none ∧ Below w.heap.size w wr) (fun i _ => n - (intOf i).toNat)
  case atStart => exact ⟨0, by omega, rfl, rfl, Below.refl _ _⟩
  case round =>
    obtain ⟨k, hk, rfl, hf, hb⟩ := hrel
    have HF := hide hf
    clear hf
    by_cases hlt : k < n
    · obtain ⟨b, off, rfl, -, hbw, hc⟩ := Rd.below h hb (by omega)
      have hc0 := hc k 0 hlt (by omega)
      have hc1 := hc k 1 hlt (by omega)
      simp only [Nat.add_zero] at hc0 hc1
      clear hc
      cases hd : (F k 0 == day)
      · go_wp2
        go_roundw
        case rel => exact ⟨k + 1, by omega, by go_num, firstB_succ_none HF.out hd, hb.alloc hb.size _⟩
        case measure => simp [intOf]; omega
      · go_wp2
        go_ret
        exact ⟨ret_int (onV_of HF.out (by simpa using hd) hlt).symm, hb.alloc hb.size _⟩
    · go_wp2
      go_ret
      obtain rfl : k = n := by omega
      exact ⟨ret_int (onV_none HF.out).symm, hb⟩


set_option maxHeartbeats 1000000 in
theorem loss_any (x y area rate : Int) (w : World) (hb : brineB x y = true) (ha : 1 ≤ area) (ha2 : area ≤ 100000) (hr : 0 ≤ rate) (hr2 : rate ≤ 20000) :
    Calls Try.prog 61 #[.agg #[.int .i64 x, .int .i64 y], .int .i64 area, .int .i64 rate] w fun e w' => e = .returned (.int .i64 (lossV x y area rate)) ∧ Below w.heap.size w w' := by
  obtain ⟨⟨x1, x2⟩, y1, y2⟩ := brineB_true hb
  obtain ⟨⟨b1, b2⟩, ⟨b3, b4⟩, b5, b6⟩ := loss_bd hb ha ha2 hr hr2
  clear hb
  by_cases h0 : x + y = 0
  · have HV := hide (show lossV x y area rate = 0 by unfold lossV; rw [if_pos h0])
    have h0' : (x + y == 0) = true := by simpa using h0
    clear h0
    go_enter Try.func61, Try.ntmps61
    go_wp2_with (first | (go_at_call 75; refine (mass_any _ _ _ x1 (by omega) y1 (by omega)).mono ?_; rintro _ w1 ⟨rfl, hb_w1⟩; have hc_w1 := bcell hb_w1))
    go_ret
    exact ⟨ret_int HV.out.symm, gr ((Below.refl _ _).alloc (Nat.le_refl _) _) hb_w1⟩
  · have HV := hide (show lossV x y area rate = min (rate * area / 1000 * x / (x + y)) x by unfold lossV; rw [if_neg h0])
    have h0' : (x + y == 0) = false := by simpa using h0
    have hp : 1 ≤ x + y := by omega
    clear h0
    go_enter Try.func61, Try.ntmps61
    go_wp2_with fail
    go_at_call 75
    refine (mass_any _ _ _ x1 (by omega) y1 (by omega)).mono ?_
    rintro _ w1 ⟨rfl, hb1⟩
    have g0 := (hb1.cell (p := ⟨w.heap.size, 0, none⟩) (by simp)).trans (show _ = some (Value.int .i64 x) by simp)
    have g1 := (hb1.cell (p := ⟨w.heap.size, 1, none⟩) (by simp)).trans (show _ = some (Value.int .i64 y) by simp)
    have hs1 := hb1.size
    have hs2 : w.heap.size < w1.heap.size := by simp at hs1; omega
    clear hs1
    have e0 := fun x : After w1 => x.cell g0 hs2
    have e1 := fun x : After w1 => x.cell g1 hs2
    go_wp2
    refine region_after (by kernel_rfl) (by kernel_rfl) ?_
    repeat (go_big_quiet_step ((first | (go_at_call 75; exact Calls.after (mass_any _ _ _ x1 (by omega) y1 (by omega))))))
    refine wpQuiet_nil ?_
    rintro _ ⟨z, rfl⟩
    go_wp2
    all_goals
      go_ret
      exact ⟨ret_int (by rw [HV.out]; omega), gr ((Below.refl _ _).alloc (Nat.le_refl _) _) (gr hb1 z.h)⟩

set_option maxHeartbeats 1000000 in
theorem l6Loss_any (x y area rate : Int) (w : World) (hb : brineB x y = true) (ha : 1 ≤ area) (ha2 : area ≤ 100000) (hr : 0 ≤ rate) (hr2 : rate ≤ 20000) :
    Calls Try.prog 65 #[.agg #[.int .i64 x, .int .i64 y], .int .i64 area, .int .i64 rate] w fun e w' => e = .returned (.int .i64 (lossV x y area rate)) ∧ Below w.heap.size w w' := by
  obtain ⟨⟨x1, x2⟩, y1, y2⟩ := brineB_true hb
  obtain ⟨⟨b1, b2⟩, ⟨b3, b4⟩, b5, b6⟩ := loss_bd hb ha ha2 hr hr2
  clear hb
  by_cases h0 : x = 0
  · have HV := hide (show lossV x y area rate = 0 by unfold lossV; subst h0; split <;> simp)
    have h0' : (x == 0) = true := by simpa using h0
    clear h0
    go_enter Try.func65, Try.ntmps65
    go_wp2
    go_ret
    exact ⟨ret_int HV.out.symm, (Below.refl _ _).alloc (Nat.le_refl _) _⟩
  · have HV := hide (show lossV x y area rate = min x (rate * area / 1000 * x / (x + y)) by unfold lossV; rw [if_neg (by omega), Int.min_comm])
    have h0' : (x == 0) = false := by simpa using h0
    have hp : 1 ≤ x + y := by omega
    clear h0
    go_enter Try.func65, Try.ntmps65
    go_wp2
    generalize hW : w.alloc (.cells #[.int .i64 x, .int .i64 y] 32) = w1
    have hb1 : Below w.heap.size w w1 := by rw [← hW]; exact (Below.refl _ _).alloc (Nat.le_refl _) _
    have g0 : w1.cell? ⟨w.heap.size, 0, none⟩ = some (.int .i64 x) := by rw [← hW]; simp
    have g1 : w1.cell? ⟨w.heap.size, 1, none⟩ = some (.int .i64 y) := by rw [← hW]; simp
    have hs2 : w.heap.size < w1.heap.size := by rw [← hW]; simp
    clear hW
    have e0 := fun x : After w1 => x.cell g0 hs2
    have e1 := fun x : After w1 => x.cell g1 hs2
    refine region_after (by kernel_rfl) (by kernel_rfl) ?_
    repeat (go_big_quiet_step ((first | (go_at_call 90; exact Calls.after (l2Mass_any _ _ _ x1 (by omega) y1 (by omega))) | (go_at_call 91; exact Calls.after_same (l1Least_any _ _ _)))))
    refine wpQuiet_nil ?_
    rintro _ ⟨z, rfl⟩
    go_wp2
    go_ret
    exact ⟨ret_int HV.out.symm, gr hb1 z.h⟩
end Go.Proofs.Ytajmebclmippeaa
