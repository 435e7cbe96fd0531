/-
  Contracts on showers: what falls on a day and between days, the wettest day, of the program and of the reference. Conditions: lengths up to 2^20.
-/
import Derived.Test.YtcjjpkleipjibaaRainB
namespace Go.Proofs.Ytcjjpkleipjibaa
open Go.RowKit

theorem l9Area_any (A : Option Addr) (n c : Nat) (F : Nat → Nat → Int) (area : Int) (w : World) (hn : n ≤ 1048576) (h : Rd w A n 2 (ints F)) :
    Calls Try.prog 58 #[.slice A n c, .int .i64 area] w fun e w' => e = .returned (.bool (showsB F n && inB area 1 100000)) ∧ Below w.heap.size w w' := by
  cases h1 : showsB F n <;>
  · go_enter Try.func58, Try.ntmps58
    go_wp2_with (first | (go_at_call 53; refine (l9Good_any _ _ _ _ _ hn h).mono ?_; rintro _ w1 ⟨rfl, hb_w1⟩; have hc_w1 := bcell hb_w1) | (go_at_call 60; refine (l1In_any _ _ _ _).mono ?_; rintro _ _ ⟨rfl, rfl⟩))
    go_ret
    exact ⟨by simp, (by first | exact Below.refl _ _ | exact hb_w1)⟩

theorem l9On_any (A : Option Addr) (n c : Nat) (F : Nat → Nat → Int) (day : Int) (w : World) (hn : n ≤ 1048576) (h : Rd w A n 2 (ints F)) :
    Calls Try.prog 62 #[.slice A n c, .int .i64 day] w fun e w' => e = .returned (.int .i64 (onV F day n)) ∧ Below w.heap.size w w' := by
  go_enter Try.func62, Try.ntmps62
  go_wp2
  go_loopw [5] (fun i wr => ∃ k : Nat, k ≤ n ∧ i = .int .i64 k ∧ firstB (fun i => F i 0 == day) k = none ∧ Below w.heap.size w wr) (fun i _ => n - (intOf i).toNat)
  case atStart => exact ⟨0, by omega, rfl, rfl, Below.refl _ _⟩
  case round =>
    obtain ⟨k, hk, rfl, hf, hb⟩ := hrel
    have HF := hide hf
    clear hf
    by_cases hlt : k < n
    · obtain ⟨b, off, rfl, -, hbw, hc⟩ := Rd.below h hb (by omega)
      have hc0 := hc k 0 hlt (by omega)
      have hc1 := hc k 1 hlt (by omega)
      simp only [Nat.add_zero] at hc0 hc1
      clear hc
      cases hd : (F k 0 == day)
      · go_wp2
        go_roundw
        case rel => exact ⟨k + 1, by omega, by go_num, firstB_succ_none HF.out hd, hb⟩
        case measure => simp [intOf]; omega
      · go_wp2
        go_ret
        exact ⟨ret_int (onV_of HF.out (by simpa using hd) hlt).symm, hb⟩
    · go_wp2
      go_ret
      obtain rfl : k = n := by omega
      exact ⟨ret_int (onV_none HF.out).symm, hb⟩

theorem rainOn_any (A : Option Addr) (n c : Nat) (F : Nat → Nat → Int) (area day : Int) (w : World) (hn : n ≤ 1048576) (h : Rd w A n 2 (ints F)) (hF : ∀ i, i < n → 1 ≤ F i 1 ∧ F i 1 ≤ 200000) (ha : 1 ≤ area) (ha2 : area ≤ 100000) :
    Calls Try.prog 63 #[.slice A n c, .int .i64 area, .int .i64 day] w fun e w' => e = .returned (.int .i64 (onV F day n * area / 1000)) ∧ Below w.heap.size w w' := by
  go_enter Try.func63, Try.ntmps63
  go_wp2
  go_loopw [11] (fun i wr => ∃ k : Nat, k ≤ n ∧ i = .int .i64 k ∧ firstB (fun i => F i 0 == day) k = none ∧ Below w.heap.size w wr) (fun i _ => n - (intOf i).toNat)
  case atStart => exact ⟨0, by omega, rfl, rfl, Below.refl _ _⟩
  case round =>
    obtain ⟨k, hk, rfl, hf, hb⟩ := hrel
    have HF := hide hf
    clear hf
    by_cases hlt : k < n
    · obtain ⟨b, off, rfl, -, hbw, hc⟩ := Rd.below h hb (by omega)
      have hc0 := hc k 0 hlt (by omega)
      have hc1 := hc k 1 hlt (by omega)
      simp only [Nat.add_zero] at hc0 hc1
      clear hc
      have hFk := hF k hlt
      have hm1 : 0 ≤ F k 1 * area := Int.mul_nonneg (by omega) (by omega)
      have hm2 : F k 1 * area ≤ 200000 * 100000 := Int.mul_le_mul hFk.2 ha2 (by omega) (by omega)
      cases hd : (F k 0 == day)
      · go_wp2
        go_roundw
        case rel => exact ⟨k + 1, by omega, by go_num, firstB_succ_none HF.out hd, hb.alloc hb.size _⟩
        case measure => simp [intOf]; omega
      · go_wp2
        go_ret
        exact ⟨ret_int (by rw [onV_of HF.out (by simpa using hd) hlt]), hb.alloc hb.size _⟩
    · go_wp2
      go_ret
      obtain rfl : k = n := by omega
      exact ⟨ret_int (by rw [onV_none HF.out]; simp), hb⟩

theorem spec_RainOnArea_any (A : Option Addr) (n c : Nat) (F : Nat → Nat → Int) (area day : Int) (w : World) (hn : n ≤ 1048576) (h : Rd w A n 2 (ints F)) :
    Calls Try.prog 23 #[.slice A n c, .int .i64 area, .int .i64 day] w fun e w' => e = .returned (.tuple #[.int .i64 (rainOnAreaR F n area day).1, .bool (rainOnAreaR F n area day).2]) ∧ Below w.heap.size w w' := by
  by_cases hv : (showsB F n && inB area 1 100000 && inB day 0 4000) = true
  · have hR : rainOnAreaR F n area day = (onV F day n * area / 1000, true) := by unfold rainOnAreaR; rw [if_pos hv]
    simp only [Bool.and_eq_true] at hv
    obtain ⟨⟨h1, h2⟩, h3⟩ := hv
    have ho := onV_bound (F := F) (day := day) (b := 200000) (by omega) (fun i hi => by have := ((showsB_at h1).2 i hi).2.1; omega)
    have ha := inB_true h2
    have hm1 : 0 ≤ onV F day n * area := Int.mul_nonneg ho.1 (by omega)
    have hm2 : onV F day n * area ≤ 200000 * 100000 := Int.mul_le_mul ho.2 ha.2 (by omega) (by omega)
    have HR := hide hR
    clear hR
    have h12 : (showsB F n && inB area 1 100000) = true := by rw [h1, h2]; rfl
    go_enter Try.func23, Try.ntmps23
    go_wp2_with (first | (go_at_call 58; refine (l9Area_any _ _ _ _ _ _ hn h).mono ?_; rintro _ w1 ⟨rfl, hb_w1⟩; have hc_w1 := bcell hb_w1) | (go_at_call 59; refine (l2Day_any _ _).mono ?_; rintro _ _ ⟨rfl, rfl⟩) | (go_at_call 62; refine (l9On_any _ _ _ _ _ _ hn (Rd.below h hb_w1)).mono ?_; rintro _ w2 ⟨rfl, hb_w2⟩))
    go_ret2
    exact ⟨ret_p HR.out, gr hb_w1 hb_w2⟩
  · have hR : rainOnAreaR F n area day = (0, false) := by unfold rainOnAreaR; rw [if_neg hv]
    have HR := hide hR
    clear hR
    cases h12 : (showsB F n && inB area 1 100000)
    · go_enter Try.func23, Try.ntmps23
      go_wp2_with (first | (go_at_call 58; refine (l9Area_any _ _ _ _ _ _ hn h).mono ?_; rintro _ w1 ⟨rfl, hb_w1⟩; have hc_w1 := bcell hb_w1) | (go_at_call 59; refine (l2Day_any _ _).mono ?_; rintro _ _ ⟨rfl, rfl⟩))
      go_ret2
      exact ⟨ret_p HR.out, hb_w1⟩
    · have h3 : inB day 0 4000 = false := by simpa [h12] using hv
      clear hv
      go_enter Try.func23, Try.ntmps23
      go_wp2_with (first | (go_at_call 58; refine (l9Area_any _ _ _ _ _ _ hn h).mono ?_; rintro _ w1 ⟨rfl, hb_w1⟩; have hc_w1 := bcell hb_w1) | (go_at_call 59; refine (l2Day_any _ _).mono ?_; rintro _ _ ⟨rfl, rfl⟩))
      go_ret2
      exact ⟨ret_p HR.out, hb_w1⟩

theorem RainOnArea_any (A : Option Addr) (n c : Nat) (F : Nat → Nat → Int) (area day : Int) (w : World) (hn : n ≤ 1048576) (h : Rd w A n 2 (ints F)) :
    Calls Try.prog 24 #[.slice A n c, .int .i64 area, .int .i64 day] w fun e w' => e = .returned (.tuple #[.int .i64 (rainOnAreaR F n area day).1, .bool (rainOnAreaR F n area day).2]) ∧ Below w.heap.size w w' := by
  cases h1 : showsB F n
  · have HR := hide (show rainOnAreaR F n area day = (0, false) by simp [rainOnAreaR, h1])
    go_enter Try.func24, Try.ntmps24
    go_wp2_with (first | (go_at_call 17; refine (AreShowers_any _ _ _ _ _ hn h).mono ?_; rintro _ w1 ⟨rfl, hb_w1⟩; have hc_w1 := bcell hb_w1))
    go_ret2
    exact ⟨ret_p HR.out, hb_w1⟩
  · cases h2 : inB area 1 100000
    · have HR := hide (show rainOnAreaR F n area day = (0, false) by simp [rainOnAreaR, h2])
      go_enter Try.func24, Try.ntmps24
      go_wp2_with (first | (go_at_call 17; refine (AreShowers_any _ _ _ _ _ hn h).mono ?_; rintro _ w1 ⟨rfl, hb_w1⟩; have hc_w1 := bcell hb_w1) | (go_at_call 61; refine (isArea_any _ _).mono ?_; rintro _ _ ⟨rfl, rfl⟩))
      go_ret2
      exact ⟨ret_p HR.out, hb_w1⟩
    · cases h3 : inB day 0 4000
      · have HR := hide (show rainOnAreaR F n area day = (0, false) by simp [rainOnAreaR, h3])
        go_enter Try.func24, Try.ntmps24
        go_wp2_with (first | (go_at_call 17; refine (AreShowers_any _ _ _ _ _ hn h).mono ?_; rintro _ w1 ⟨rfl, hb_w1⟩; have hc_w1 := bcell hb_w1) | (go_at_call 61; refine (isArea_any _ _).mono ?_; rintro _ _ ⟨rfl, rfl⟩) | (go_at_call 55; refine (isDay_any _ _).mono ?_; rintro _ _ ⟨rfl, rfl⟩))
        go_ret2
        exact ⟨ret_p HR.out, hb_w1⟩
      · have HR := hide (show rainOnAreaR F n area day = (onV F day n * area / 1000, true) by simp [rainOnAreaR, h1, h2, h3])
        have hF := fun i hi => ((showsB_at h1).2 i hi).2.1
        have HF := hide hF
        clear hF
        have ha := inB_true h2
        go_enter Try.func24, Try.ntmps24
        go_wp2_with (first | (go_at_call 17; refine (AreShowers_any _ _ _ _ _ hn h).mono ?_; rintro _ w1 ⟨rfl, hb_w1⟩; have hc_w1 := bcell hb_w1) | (go_at_call 61; refine (isArea_any _ _).mono ?_; rintro _ _ ⟨rfl, rfl⟩) | (go_at_call 55; refine (isDay_any _ _).mono ?_; rintro _ _ ⟨rfl, rfl⟩) | (go_at_call 63; refine (rainOn_any _ _ _ _ _ _ _ hn (Rd.below h hb_w1) HF.out ha.1 ha.2).mono ?_; rintro _ w2 ⟨rfl, hb_w2⟩))
        go_ret2
        exact ⟨ret_p HR.out, gr hb_w1 hb_w2⟩

/-- The bounds by which a sum over valid showers does not wrap. -/
theorem kilos_bd {F : Nat → Nat → Int} {n : Nat} {area a b : Int} (h1 : showsB F n = true) (ha : 1 ≤ area) (ha2 : area ≤ 100000) : ∀ k, k < n →
    (0 ≤ F k 1 * area ∧ F k 1 * area ≤ 20000000000) ∧ (0 ≤ sumI (kilos F area a b) k ∧ sumI (kilos F area a b) k ≤ 400000000) := by
  have hs := showsB_at h1
  have hp : ∀ k, k < n → 0 ≤ F k 1 * area ∧ F k 1 * area ≤ 20000000000 := fun k hk => by
    have := (hs.2 k hk).2.1
    exact ⟨Int.mul_nonneg (by omega) (by omega), Int.mul_le_mul (b := area) (c := 200000) (d := 100000) this.2 ha2 (by omega) (by omega)⟩
  intro k hk
  refine ⟨hp k hk, ?_⟩
  have := sumI_bound (f := kilos F area a b) (b := 20000000) (n := n) (fun i hi => by
    have := hp i hi
    unfold kilos
    split <;> omega) k (by omega)
  have h20 := hs.1
  omega

theorem spec_RainBetween_any (A : Option Addr) (n c : Nat) (F : Nat → Nat → Int) (area a b : Int) (w : World) (hn : n ≤ 1048576) (h : Rd w A n 2 (ints F)) :
    Calls Try.prog 21 #[.slice A n c, .int .i64 area, .int .i64 a, .int .i64 b] w fun e w' => e = .returned (.tuple #[.int .i64 (rainBetweenR F n area a b).1, .bool (rainBetweenR F n area a b).2]) ∧ Below w.heap.size w w' := by
  cases h12 : (showsB F n && inB area 1 100000)
  · have HR := hide (show rainBetweenR F n area a b = (0, false) by simp only [rainBetweenR, h12]; rfl)
    go_enter Try.func21, Try.ntmps21
    go_wp2_with (first | (go_at_call 58; refine (l9Area_any _ _ _ _ _ _ hn h).mono ?_; rintro _ w1 ⟨rfl, hb_w1⟩; have hc_w1 := bcell hb_w1))
    go_ret2
    exact ⟨ret_p HR.out, hb_w1⟩
  · cases h3 : inB a 0 4000
    · have HR := hide (show rainBetweenR F n area a b = (0, false) by simp [rainBetweenR, h3])
      go_enter Try.func21, Try.ntmps21
      go_wp2_with (first | (go_at_call 58; refine (l9Area_any _ _ _ _ _ _ hn h).mono ?_; rintro _ w1 ⟨rfl, hb_w1⟩; have hc_w1 := bcell hb_w1) | (go_at_call 59; refine (l2Day_any _ _).mono ?_; rintro _ _ ⟨rfl, rfl⟩))
      go_ret2
      exact ⟨ret_p HR.out, hb_w1⟩
    · cases h4 : inB b 0 4000
      · have HR := hide (show rainBetweenR F n area a b = (0, false) by simp [rainBetweenR, h4])
        go_enter Try.func21, Try.ntmps21
        go_wp2_with (first | (go_at_call 58; refine (l9Area_any _ _ _ _ _ _ hn h).mono ?_; rintro _ w1 ⟨rfl, hb_w1⟩; have hc_w1 := bcell hb_w1) | (go_at_call 59; refine (l2Day_any _ _).mono ?_; rintro _ _ ⟨rfl, rfl⟩))
        go_ret2
        exact ⟨ret_p HR.out, hb_w1⟩
      · have HR := hide (show rainBetweenR F n area a b = (sumI (kilos F area a b) n, true) by simp only [rainBetweenR, h12, h3, h4]; rfl)
        have h1 : showsB F n = true := by simp only [Bool.and_eq_true] at h12; exact h12.1
        have h2 : inB area 1 100000 = true := by simp only [Bool.and_eq_true] at h12; exact h12.2
        have ha := inB_true h2
        have HB := hide (kilos_bd (a := a) (b := b) h1 ha.1 ha.2)
        go_enter Try.func21, Try.ntmps21
        go_wp2_with (first | (go_at_call 58; refine (l9Area_any _ _ _ _ _ _ hn h).mono ?_; rintro _ w1 ⟨rfl, hb_w1⟩; have hc_w1 := bcell hb_w1) | (go_at_call 59; refine (l2Day_any _ _).mono ?_; rintro _ _ ⟨rfl, rfl⟩))
        clear hc_w1
        go_loopw [10, 11] (fun s i wr => ∃ k : Nat, k ≤ n ∧ i = .int .i64 k ∧ s = .int .i64 (sumI (kilos F area a b) k) ∧ Below w.heap.size w wr) (fun _ i _ => n - (intOf i).toNat)
        case atStart => exact ⟨0, by omega, rfl, rfl, hb_w1⟩
        case round =>
          obtain ⟨k, hk, rfl, rfl, hb⟩ := hrel
          by_cases hlt : k < n
          · obtain ⟨q, off, rfl, -, hbw, hc⟩ := Rd.below h hb (by omega)
            have hc0 := hc k 0 hlt (by omega)
            have hc1 := hc k 1 hlt (by omega)
            simp only [Nat.add_zero] at hc0 hc1
            clear hc
            obtain ⟨⟨b1, b2⟩, b3, b4⟩ := HB.out k hlt
            cases hd : inB (F k 0) a b
            · have HK := hide (show sumI (kilos F area a b) (k + 1) = sumI (kilos F area a b) k by simp [sumI, kilos, hd])
              go_wp2_with (first | (go_at_call 60; refine (l1In_any _ _ _ _).mono ?_; rintro _ _ ⟨rfl, rfl⟩))
              go_roundw
              case rel => exact ⟨k + 1, by omega, by go_num, by rw [HK.out], hb⟩
              case measure => simp [intOf]; omega
            · have HK := hide (show sumI (kilos F area a b) (k + 1) = sumI (kilos F area a b) k + F k 1 * area / 1000 by simp [sumI, kilos, hd])
              go_wp2_with (first | (go_at_call 60; refine (l1In_any _ _ _ _).mono ?_; rintro _ _ ⟨rfl, rfl⟩))
              go_roundw
              case rel => exact ⟨k + 1, by omega, by go_num, by rw [HK.out], hb⟩
              case measure => simp [intOf]; omega
          · obtain rfl : k = n := by omega
            go_wp2
            go_ret2
            exact ⟨ret_p HR.out, hb⟩

theorem RainBetween_any (A : Option Addr) (n c : Nat) (F : Nat → Nat → Int) (area a b : Int) (w : World) (hn : n ≤ 1048576) (h : Rd w A n 2 (ints F)) :
    Calls Try.prog 22 #[.slice A n c, .int .i64 area, .int .i64 a, .int .i64 b] w fun e w' => e = .returned (.tuple #[.int .i64 (rainBetweenR F n area a b).1, .bool (rainBetweenR F n area a b).2]) ∧ Below w.heap.size w w' := by
  cases h1 : showsB F n
  · have HR := hide (show rainBetweenR F n area a b = (0, false) by simp [rainBetweenR, h1])
    go_enter Try.func22, Try.ntmps22
    go_wp2_with (first | (go_at_call 17; refine (AreShowers_any _ _ _ _ _ hn h).mono ?_; rintro _ w1 ⟨rfl, hb_w1⟩; have hc_w1 := bcell hb_w1))
    go_ret2
    exact ⟨ret_p HR.out, hb_w1⟩
  · cases h2 : inB area 1 100000
    · have HR := hide (show rainBetweenR F n area a b = (0, false) by simp [rainBetweenR, h2])
      go_enter Try.func22, Try.ntmps22
      go_wp2_with (first | (go_at_call 17; refine (AreShowers_any _ _ _ _ _ hn h).mono ?_; rintro _ w1 ⟨rfl, hb_w1⟩; have hc_w1 := bcell hb_w1) | (go_at_call 61; refine (isArea_any _ _).mono ?_; rintro _ _ ⟨rfl, rfl⟩))
      go_ret2
      exact ⟨ret_p HR.out, hb_w1⟩
    · cases h3 : inB a 0 4000
      · have HR := hide (show rainBetweenR F n area a b = (0, false) by simp [rainBetweenR, h3])
        go_enter Try.func22, Try.ntmps22
        go_wp2_with (first | (go_at_call 17; refine (AreShowers_any _ _ _ _ _ hn h).mono ?_; rintro _ w1 ⟨rfl, hb_w1⟩; have hc_w1 := bcell hb_w1) | (go_at_call 61; refine (isArea_any _ _).mono ?_; rintro _ _ ⟨rfl, rfl⟩) | (go_at_call 55; refine (isDay_any _ _).mono ?_; rintro _ _ ⟨rfl, rfl⟩))
        go_ret2
        exact ⟨ret_p HR.out, hb_w1⟩
      · cases h4 : inB b 0 4000
        · have HR := hide (show rainBetweenR F n area a b = (0, false) by simp [rainBetweenR, h4])
          go_enter Try.func22, Try.ntmps22
          go_wp2_with (first | (go_at_call 17; refine (AreShowers_any _ _ _ _ _ hn h).mono ?_; rintro _ w1 ⟨rfl, hb_w1⟩; have hc_w1 := bcell hb_w1) | (go_at_call 61; refine (isArea_any _ _).mono ?_; rintro _ _ ⟨rfl, rfl⟩) | (go_at_call 55; refine (isDay_any _ _).mono ?_; rintro _ _ ⟨rfl, rfl⟩))
          go_ret2
          exact ⟨ret_p HR.out, hb_w1⟩
        · have HR := hide (show rainBetweenR F n area a b = (sumI (kilos F area a b) n, true) by simp [rainBetweenR, h1, h2, h3, h4])
          have ha := inB_true h2
          have HB := hide (kilos_bd (a := a) (b := b) h1 ha.1 ha.2)
          go_enter Try.func22, Try.ntmps22
          go_wp2_with (first | (go_at_call 17; refine (AreShowers_any _ _ _ _ _ hn h).mono ?_; rintro _ w1 ⟨rfl, hb_w1⟩; have hc_w1 := bcell hb_w1) | (go_at_call 61; refine (isArea_any _ _).mono ?_; rintro _ _ ⟨rfl, rfl⟩) | (go_at_call 55; refine (isDay_any _ _).mono ?_; rintro _ _ ⟨rfl, rfl⟩))
          clear hc_w1
          go_loopw [10, 33] (fun s i wr => ∃ k : Nat, k ≤ n ∧ i = .int .i64 k ∧ s = .int .i64 (sumI (kilos F area a b) k) ∧ Below w.heap.size w wr) (fun _ i _ => n - (intOf i).toNat)
          case atStart => exact ⟨0, by omega, rfl, rfl, hb_w1⟩
          case round =>
            obtain ⟨k, hk, rfl, rfl, hb⟩ := hrel
            by_cases hlt : k < n
            · obtain ⟨q, off, rfl, -, hbw, hc⟩ := Rd.below h hb (by omega)
              have hc0 := hc k 0 hlt (by omega)
              have hc1 := hc k 1 hlt (by omega)
              simp only [Nat.add_zero] at hc0 hc1
              clear hc
              obtain ⟨⟨b1, b2⟩, b3, b4⟩ := HB.out k hlt
              cases hd : inB (F k 0) a b
              · have HK := hide (show sumI (kilos F area a b) (k + 1) = sumI (kilos F area a b) k by simp [sumI, kilos, hd])
                go_wp2_with (first | (go_at_call 56; refine (within_any _ _ _ _).mono ?_; rintro _ _ ⟨rfl, rfl⟩))
                go_roundw
                case rel => exact ⟨k + 1, by omega, by go_num, by rw [HK.out], hb.alloc hb.size _⟩
                case measure => simp [intOf]; omega
              · have HK := hide (show sumI (kilos F area a b) (k + 1) = sumI (kilos F area a b) k + F k 1 * area / 1000 by simp [sumI, kilos, hd])
                go_wp2_with (first | (go_at_call 56; refine (within_any _ _ _ _).mono ?_; rintro _ _ ⟨rfl, rfl⟩))
                go_roundw
                case rel => exact ⟨k + 1, by omega, by go_num, by rw [HK.out], hb.alloc hb.size _⟩
                case measure => simp [intOf]; omega
            · obtain rfl : k = n := by omega
              go_wp2
              go_ret2
              exact ⟨ret_p HR.out, hb⟩
end Go.Proofs.Ytcjjpkleipjibaa
