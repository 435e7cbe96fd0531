/-
  Contracts on suns: the rate of a day, sums of a span, what evaporates on a day, of the program and of the reference. Conditions: lengths up to 2^20.
-/
import Derived.Test.YtajmebclmippeaaSunB
namespace Go.Proofs.Ytajmebclmippeaa
open Go.RowKit

theorem spec_SunOn_any (A : Option Addr) (n c : Nat) (F : Nat → Nat → Int) (day : Int) (w : World) (hn : n ≤ 1048576) (h : Rd w A n 2 (ints F)) :
    Calls Try.prog 32 #[.slice A n c, .int .i64 day] w fun e w' => e = .returned (.tuple #[.int .i64 (sunOnR F n day).1, .bool (sunOnR F n day).2]) ∧ Below w.heap.size w w' := by
  cases h1 : sunsB F n
  · have HR := hide (show sunOnR F n day = (0, false) by simp [sunOnR, h1])
    go_enter Try.func32, Try.ntmps32
    go_wp2_with (first | (go_at_call 50; refine (l6Good_any _ _ _ _ _ hn h).mono ?_; rintro _ w1 ⟨rfl, hb_w1⟩; have hc_w1 := bcell hb_w1))
    go_ret2
    exact ⟨ret_p HR.out, hb_w1⟩
  · cases h2 : inB day 0 4000
    · have HR := hide (show sunOnR F n day = (0, false) by simp [sunOnR, h2])
      go_enter Try.func32, Try.ntmps32
      go_wp2_with (first | (go_at_call 50; refine (l6Good_any _ _ _ _ _ hn h).mono ?_; rintro _ w1 ⟨rfl, hb_w1⟩; have hc_w1 := bcell hb_w1) | (go_at_call 64; refine (l2Day_any _ _).mono ?_; rintro _ _ ⟨rfl, rfl⟩))
      go_ret2
      exact ⟨ret_p HR.out, hb_w1⟩
    · have HR := hide (show sunOnR F n day = (onV F day n, true) by simp [sunOnR, h1, h2])
      go_enter Try.func32, Try.ntmps32
      go_wp2_with (first | (go_at_call 50; refine (l6Good_any _ _ _ _ _ hn h).mono ?_; rintro _ w1 ⟨rfl, hb_w1⟩; have hc_w1 := bcell hb_w1) | (go_at_call 64; refine (l2Day_any _ _).mono ?_; rintro _ _ ⟨rfl, rfl⟩) | (go_at_call 66; refine (l6On_any _ _ _ _ _ _ hn (Rd.below h hb_w1)).mono ?_; rintro _ w2 ⟨rfl, hb_w2⟩; have hc_w2 := bcell hb_w2))
      go_ret2
      exact ⟨ret_p HR.out, gr hb_w1 hb_w2⟩
theorem SunOn_any (A : Option Addr) (n c : Nat) (F : Nat → Nat → Int) (day : Int) (w : World) (hn : n ≤ 1048576) (h : Rd w A n 2 (ints F)) :
    Calls Try.prog 33 #[.slice A n c, .int .i64 day] w fun e w' => e = .returned (.tuple #[.int .i64 (sunOnR F n day).1, .bool (sunOnR F n day).2]) ∧ Below w.heap.size w w' := by
  cases h1 : sunsB F n
  · have HR := hide (show sunOnR F n day = (0, false) by simp [sunOnR, h1])
    go_enter Try.func33, Try.ntmps33
    go_wp2_with (first | (go_at_call 17; refine (AreSuns_any _ _ _ _ _ hn h).mono ?_; rintro _ w1 ⟨rfl, hb_w1⟩; have hc_w1 := bcell hb_w1))
    go_ret2
    exact ⟨ret_p HR.out, hb_w1⟩
  · cases h2 : inB day 0 4000
    · have HR := hide (show sunOnR F n day = (0, false) by simp [sunOnR, h2])
      go_enter Try.func33, Try.ntmps33
      go_wp2_with (first | (go_at_call 17; refine (AreSuns_any _ _ _ _ _ hn h).mono ?_; rintro _ w1 ⟨rfl, hb_w1⟩; have hc_w1 := bcell hb_w1) | (go_at_call 51; refine (isDay_any _ _).mono ?_; rintro _ _ ⟨rfl, rfl⟩))
      go_ret2
      exact ⟨ret_p HR.out, hb_w1⟩
    · have HR := hide (show sunOnR F n day = (onV F day n, true) by simp [sunOnR, h1, h2])
      go_enter Try.func33, Try.ntmps33
      go_wp2_with (first | (go_at_call 17; refine (AreSuns_any _ _ _ _ _ hn h).mono ?_; rintro _ w1 ⟨rfl, hb_w1⟩; have hc_w1 := bcell hb_w1) | (go_at_call 51; refine (isDay_any _ _).mono ?_; rintro _ _ ⟨rfl, rfl⟩) | (go_at_call 62; refine (sunOn_any _ _ _ _ _ _ hn (Rd.below h hb_w1)).mono ?_; rintro _ w2 ⟨rfl, hb_w2⟩; have hc_w2 := bcell hb_w2))
      go_ret2
      exact ⟨ret_p HR.out, gr hb_w1 hb_w2⟩

theorem l6Sum_any (A : Option Addr) (n c : Nat) (F : Nat → Nat → Int) (a b : Int) (w : World) (hn : n ≤ 1048576) (h : Rd w A n 2 (ints F)) (HV : Hid (sunsB F n = true)) :
    Calls Try.prog 78 #[.slice A n c, .int .i64 a, .int .i64 b] w fun e w' => e = .returned (.int .i64 (sumI (rates F a b) n)) ∧ Below w.heap.size w w' := by
  go_enter Try.func78, Try.ntmps78
  go_wp2
  go_loopw [7, 8] (fun s i wr => ∃ k : Nat, k ≤ n ∧ i = .int .i64 k ∧ s = .int .i64 (sumI (rates F a b) k) ∧ Below w.heap.size w wr) (fun _ i _ => n - (intOf i).toNat)
  case atStart => exact ⟨0, by omega, rfl, rfl, Below.refl _ _⟩
  case round =>
    obtain ⟨k, hk, rfl, rfl, hb⟩ := hrel
    by_cases hlt : k < n
    · obtain ⟨q, off, rfl, -, hbw, hc⟩ := Rd.below h hb (by omega)
      have hc0 := hc k 0 hlt (by omega)
      have hc1 := hc k 1 hlt (by omega)
      simp only [Nat.add_zero] at hc0 hc1
      clear hc
      have hr := ((sunsB_at HV.out).2 k hlt).2.1
      obtain ⟨b3, b4⟩ := rates_bd (a := a) (b := b) HV.out k hk
      cases hd : inB (F k 0) a b
      · have HK := hide (show sumI (rates F a b) (k + 1) = sumI (rates F a b) k by simp [sumI, rates, hd])
        go_wp2_with (first | (go_at_call 80; refine (l1In_any _ _ _ _).mono ?_; rintro _ _ ⟨rfl, rfl⟩))
        go_roundw
        case rel => exact ⟨k + 1, by omega, by go_num, by rw [HK.out], (by (repeat' (first | exact Below.refl _ _ | assumption | refine Below.drew ?_ | refine Below.alloc ?_ (by first | omega | exact Below.size (by assumption) | (simp; done) | (simp; omega)) _ | refine Below.setCell ?_ (by first | omega | exact Below.size (by assumption) | (simp; done) | (simp; omega)) _)))⟩
        case measure => simp [intOf]; omega
      · have HK := hide (show sumI (rates F a b) (k + 1) = sumI (rates F a b) k + F k 1 by simp [sumI, rates, hd])
        go_wp2_with (first | (go_at_call 80; refine (l1In_any _ _ _ _).mono ?_; rintro _ _ ⟨rfl, rfl⟩))
        go_roundw
        case rel => exact ⟨k + 1, by omega, by go_num, by rw [HK.out], (by (repeat' (first | exact Below.refl _ _ | assumption | refine Below.drew ?_ | refine Below.alloc ?_ (by first | omega | exact Below.size (by assumption) | (simp; done) | (simp; omega)) _ | refine Below.setCell ?_ (by first | omega | exact Below.size (by assumption) | (simp; done) | (simp; omega)) _)))⟩
        case measure => simp [intOf]; omega
    · obtain rfl : k = n := by omega
      go_wp2
      go_ret
      exact ⟨rfl, hb⟩
theorem sunSum_any (A : Option Addr) (n c : Nat) (F : Nat → Nat → Int) (a b : Int) (w : World) (hn : n ≤ 1048576) (h : Rd w A n 2 (ints F)) (HV : Hid (sunsB F n = true)) :
    Calls Try.prog 79 #[.slice A n c, .int .i64 a, .int .i64 b] w fun e w' => e = .returned (.int .i64 (sumI (rates F a b) n)) ∧ Below w.heap.size w w' := by
  go_enter Try.func79, Try.ntmps79
  go_wp2
  go_loopw [7, 12] (fun s i wr => ∃ k : Nat, k ≤ n ∧ i = .int .i64 k ∧ s = .int .i64 (sumI (rates F a b) k) ∧ Below w.heap.size w wr) (fun _ i _ => n - (intOf i).toNat)
  case atStart => exact ⟨0, by omega, rfl, rfl, Below.refl _ _⟩
  case round =>
    obtain ⟨k, hk, rfl, rfl, hb⟩ := hrel
    by_cases hlt : k < n
    · obtain ⟨q, off, rfl, -, hbw, hc⟩ := Rd.below h hb (by omega)
      have hc0 := hc k 0 hlt (by omega)
      have hc1 := hc k 1 hlt (by omega)
      simp only [Nat.add_zero] at hc0 hc1
      clear hc
      have hr := ((sunsB_at HV.out).2 k hlt).2.1
      obtain ⟨b3, b4⟩ := rates_bd (a := a) (b := b) HV.out k hk
      cases hd : inB (F k 0) a b
      · have HK := hide (show sumI (rates F a b) (k + 1) = sumI (rates F a b) k by simp [sumI, rates, hd])
        go_wp2_with (first | (go_at_call 82; refine (within_any _ _ _ _).mono ?_; rintro _ _ ⟨rfl, rfl⟩))
        go_roundw
        case rel => exact ⟨k + 1, by omega, by go_num, by rw [HK.out], (by (repeat' (first | exact Below.refl _ _ | assumption | refine Below.drew ?_ | refine Below.alloc ?_ (by first | omega | exact Below.size (by assumption) | (simp; done) | (simp; omega)) _ | refine Below.setCell ?_ (by first | omega | exact Below.size (by assumption) | (simp; done) | (simp; omega)) _)))⟩
        case measure => simp [intOf]; omega
      · have HK := hide (show sumI (rates F a b) (k + 1) = sumI (rates F a b) k + F k 1 by simp [sumI, rates, hd])
        go_wp2_with (first | (go_at_call 82; refine (within_any _ _ _ _).mono ?_; rintro _ _ ⟨rfl, rfl⟩))
        go_roundw
        case rel => exact ⟨k + 1, by omega, by go_num, by rw [HK.out], (by (repeat' (first | exact Below.refl _ _ | assumption | refine Below.drew ?_ | refine Below.alloc ?_ (by first | omega | exact Below.size (by assumption) | (simp; done) | (simp; omega)) _ | refine Below.setCell ?_ (by first | omega | exact Below.size (by assumption) | (simp; done) | (simp; omega)) _)))⟩
        case measure => simp [intOf]; omega
    · obtain rfl : k = n := by omega
      go_wp2
      go_ret
      exact ⟨rfl, hb⟩

theorem spec_SunSum_any (A : Option Addr) (n c : Nat) (F : Nat → Nat → Int) (a b : Int) (w : World) (hn : n ≤ 1048576) (h : Rd w A n 2 (ints F)) :
    Calls Try.prog 34 #[.slice A n c, .int .i64 a, .int .i64 b] w fun e w' => e = .returned (.tuple #[.int .i64 (sunSumR F n a b).1, .bool (sunSumR F n a b).2]) ∧ Below w.heap.size w w' := by
  cases h1 : sunsB F n
  · have HR := hide (show sunSumR F n a b = (0, false) by simp [sunSumR, h1])
    go_enter Try.func34, Try.ntmps34
    go_wp2_with (first | (go_at_call 50; refine (l6Good_any _ _ _ _ _ hn h).mono ?_; rintro _ w1 ⟨rfl, hb_w1⟩; have hc_w1 := bcell hb_w1))
    go_ret2
    exact ⟨ret_p HR.out, hb_w1⟩
  · cases h2 : inB a 0 4000
    · have HR := hide (show sunSumR F n a b = (0, false) by simp [sunSumR, h2])
      go_enter Try.func34, Try.ntmps34
      go_wp2_with (first | (go_at_call 50; refine (l6Good_any _ _ _ _ _ hn h).mono ?_; rintro _ w1 ⟨rfl, hb_w1⟩; have hc_w1 := bcell hb_w1) | (go_at_call 64; refine (l2Day_any _ _).mono ?_; rintro _ _ ⟨rfl, rfl⟩))
      go_ret2
      exact ⟨ret_p HR.out, hb_w1⟩
    · cases h3 : inB b 0 4000
      · have HR := hide (show sunSumR F n a b = (0, false) by simp [sunSumR, h3])
        go_enter Try.func34, Try.ntmps34
        go_wp2_with (first | (go_at_call 50; refine (l6Good_any _ _ _ _ _ hn h).mono ?_; rintro _ w1 ⟨rfl, hb_w1⟩; have hc_w1 := bcell hb_w1) | (go_at_call 64; refine (l2Day_any _ _).mono ?_; rintro _ _ ⟨rfl, rfl⟩))
        go_ret2
        exact ⟨ret_p HR.out, hb_w1⟩
      · have HR := hide (show sunSumR F n a b = (sumI (rates F a b) n, true) by simp [sunSumR, h1, h2, h3])
        have HV := hide h1
        go_enter Try.func34, Try.ntmps34
        go_wp2_with (first | (go_at_call 50; refine (l6Good_any _ _ _ _ _ hn h).mono ?_; rintro _ w1 ⟨rfl, hb_w1⟩; have hc_w1 := bcell hb_w1) | (go_at_call 64; refine (l2Day_any _ _).mono ?_; rintro _ _ ⟨rfl, rfl⟩) | (go_at_call 78; refine (l6Sum_any _ _ _ _ _ _ _ hn (Rd.below h hb_w1) HV).mono ?_; rintro _ w2 ⟨rfl, hb_w2⟩; have hc_w2 := bcell hb_w2))
        go_ret2
        exact ⟨ret_p HR.out, gr hb_w1 hb_w2⟩
theorem SunSum_any (A : Option Addr) (n c : Nat) (F : Nat → Nat → Int) (a b : Int) (w : World) (hn : n ≤ 1048576) (h : Rd w A n 2 (ints F)) :
    Calls Try.prog 35 #[.slice A n c, .int .i64 a, .int .i64 b] w fun e w' => e = .returned (.tuple #[.int .i64 (sunSumR F n a b).1, .bool (sunSumR F n a b).2]) ∧ Below w.heap.size w w' := by
  cases h1 : sunsB F n
  · have HR := hide (show sunSumR F n a b = (0, false) by simp [sunSumR, h1])
    go_enter Try.func35, Try.ntmps35
    go_wp2_with (first | (go_at_call 17; refine (AreSuns_any _ _ _ _ _ hn h).mono ?_; rintro _ w1 ⟨rfl, hb_w1⟩; have hc_w1 := bcell hb_w1))
    go_ret2
    exact ⟨ret_p HR.out, hb_w1⟩
  · cases h2 : inB a 0 4000
    · have HR := hide (show sunSumR F n a b = (0, false) by simp [sunSumR, h2])
      go_enter Try.func35, Try.ntmps35
      go_wp2_with (first | (go_at_call 17; refine (AreSuns_any _ _ _ _ _ hn h).mono ?_; rintro _ w1 ⟨rfl, hb_w1⟩; have hc_w1 := bcell hb_w1) | (go_at_call 51; refine (isDay_any _ _).mono ?_; rintro _ _ ⟨rfl, rfl⟩))
      go_ret2
      exact ⟨ret_p HR.out, hb_w1⟩
    · cases h3 : inB b 0 4000
      · have HR := hide (show sunSumR F n a b = (0, false) by simp [sunSumR, h3])
        go_enter Try.func35, Try.ntmps35
        go_wp2_with (first | (go_at_call 17; refine (AreSuns_any _ _ _ _ _ hn h).mono ?_; rintro _ w1 ⟨rfl, hb_w1⟩; have hc_w1 := bcell hb_w1) | (go_at_call 51; refine (isDay_any _ _).mono ?_; rintro _ _ ⟨rfl, rfl⟩))
        go_ret2
        exact ⟨ret_p HR.out, hb_w1⟩
      · have HR := hide (show sunSumR F n a b = (sumI (rates F a b) n, true) by simp [sunSumR, h1, h2, h3])
        have HV := hide h1
        go_enter Try.func35, Try.ntmps35
        go_wp2_with (first | (go_at_call 17; refine (AreSuns_any _ _ _ _ _ hn h).mono ?_; rintro _ w1 ⟨rfl, hb_w1⟩; have hc_w1 := bcell hb_w1) | (go_at_call 51; refine (isDay_any _ _).mono ?_; rintro _ _ ⟨rfl, rfl⟩) | (go_at_call 79; refine (sunSum_any _ _ _ _ _ _ _ hn (Rd.below h hb_w1) HV).mono ?_; rintro _ w2 ⟨rfl, hb_w2⟩; have hc_w2 := bcell hb_w2))
        go_ret2
        exact ⟨ret_p HR.out, gr hb_w1 hb_w2⟩
end Go.Proofs.Ytajmebclmippeaa
