/-
  Contracts on workers: the day on which a load is raked, of the program and of the reference. Conditions: lengths up to 2^20.
-/
import Derived.Test.YtmblkjnpibcmoaaWkE
namespace Go.Proofs.Ytmblkjnpibcmoaa
open Go.RowKit

/-- What is raked on the j-th day from day D on. -/
def dayS (F : Nat → Nat → Int) (C : Nat → Bool) (n : Nat) (g : Int) (D j : Nat) : Int := rakedV F C n g (((D + j) % 7 : Nat) : Int) 0
def daysN : Nat := 4001
theorem daysN_lo : 4001 ≤ daysN := by unfold daysN; omega
theorem daysN_hi : daysN ≤ 4001 := by unfold daysN; omega
def daysV (D : Nat) : Option Nat → Int × Bool
  | some k => (((D + k : Nat) : Int), true)
  | none => (0, false)
def loadB (F : Nat → Nat → Int) (C : Nat → Bool) (n : Nat) (g : Int) (D : Nat) (load : Int) (k : Nat) : Bool := decide (load ≤ sumI (dayS F C n g D) (k + 1))
def daysOk (F : Nat → Nat → Int) (n : Nat) (g d load : Int) : Bool := worksB F n && inB g 1 5 && inB d 0 4000 && inB load 1 10000
def daysR (F : Nat → Nat → Int) (C : Nat → Bool) (n : Nat) (g d load : Int) : Int × Bool :=
  if daysOk F n g d load then daysV d.toNat (firstB (loadB F C n g d.toNat load) (daysN - d.toNat)) else (0, false)
theorem dayS_bd {F : Nat → Nat → Int} {n : Nat} (C : Nat → Bool) (h : worksB F n = true) (g : Int) (D : Nat) : ∀ k, k ≤ daysN → 0 ≤ sumI (dayS F C n g D) k ∧ sumI (dayS F C n g D) k ≤ 10000000 := fun k hk => by
  have := sumI_bound (f := dayS F C n g D) (b := 600) (n := daysN) (fun i _ => rakedV_bd C h g _ 0) k hk
  have := daysN_hi
  omega
set_option maxHeartbeats 2000000 in
theorem DaysToRake_any (A : Option Addr) (n c : Nat) (F : Nat → Nat → Int) (C : Nat → Bool) (g d load : Int) (w : World) (hn : n ≤ 1048576) (h : Rd w A n 5 (wkC F C)) :
    Calls Try.prog 25 #[.slice A n c, .int .i64 g, .int .i64 d, .int .i64 load] w fun e w' => e = .returned (.tuple #[.int .i64 (daysR F C n g d load).1, .bool (daysR F C n g d load).2]) ∧ Below w.heap.size w w' := by
  cases h1 : worksB F n
  · have HR := hide (show daysR F C n g d load = (0, false) by simp [daysR, daysOk, h1])
    go_enter Try.func25, Try.ntmps25
    go_wp2_with (first | (go_at_call 42; refine (AreWorkers_any _ _ _ _ _ _ hn h).mono ?_; rintro _ w1 ⟨rfl, hb_w1⟩; have hc_w1 := bcell hb_w1))
    go_ret2
    exact ⟨by rw [HR.out]; rfl, hb_w1⟩
  cases h2 : inB g 1 5
  · have HR := hide (show daysR F C n g d load = (0, false) by simp [daysR, daysOk, h1, h2])
    go_enter Try.func25, Try.ntmps25
    go_wp2_with (first | (go_at_call 42; refine (AreWorkers_any _ _ _ _ _ _ hn h).mono ?_; rintro _ w1 ⟨rfl, hb_w1⟩; have hc_w1 := bcell hb_w1) | (go_at_call 55; refine (isGang_any _ _).mono ?_; rintro _ _ ⟨rfl, rfl⟩))
    go_ret2
    exact ⟨by rw [HR.out]; rfl, hb_w1⟩
  cases h3 : inB d 0 4000
  · have HR := hide (show daysR F C n g d load = (0, false) by simp [daysR, daysOk, h1, h2, h3])
    go_enter Try.func25, Try.ntmps25
    go_wp2_with (first | (go_at_call 42; refine (AreWorkers_any _ _ _ _ _ _ hn h).mono ?_; rintro _ w1 ⟨rfl, hb_w1⟩; have hc_w1 := bcell hb_w1) | (go_at_call 55; refine (isGang_any _ _).mono ?_; rintro _ _ ⟨rfl, rfl⟩) | (go_at_call 59; refine (isDay_any _ _).mono ?_; rintro _ _ ⟨rfl, rfl⟩))
    go_ret2
    exact ⟨by rw [HR.out]; rfl, hb_w1⟩
  cases h4 : inB load 1 10000
  · have HR := hide (show daysR F C n g d load = (0, false) by simp [daysR, daysOk, h1, h2, h3, h4])
    go_enter Try.func25, Try.ntmps25
    go_wp2_with (first | (go_at_call 42; refine (AreWorkers_any _ _ _ _ _ _ hn h).mono ?_; rintro _ w1 ⟨rfl, hb_w1⟩; have hc_w1 := bcell hb_w1) | (go_at_call 55; refine (isGang_any _ _).mono ?_; rintro _ _ ⟨rfl, rfl⟩) | (go_at_call 59; refine (isDay_any _ _).mono ?_; rintro _ _ ⟨rfl, rfl⟩) | (go_at_call 68; refine (within_any _ _ _ _).mono ?_; rintro _ _ ⟨rfl, rfl⟩))
    go_ret2
    exact ⟨by rw [HR.out]; rfl, hb_w1⟩
  have HV := hide h1
  obtain ⟨d0, d1⟩ := inB_true h3
  obtain ⟨l0, l1⟩ := inB_true h4
  obtain ⟨D, rfl⟩ : ∃ D : Nat, d = D := ⟨d.toNat, by omega⟩
  have HR := hide (show daysR F C n g D load = daysV D (firstB (loadB F C n g D load) (daysN - D)) by simp [daysR, daysOk, h1, h2, h3, h4])
  have hN1 := daysN_lo
  have hN2 := daysN_hi
  go_enter Try.func25, Try.ntmps25
  go_wp2_with fail
  go_at_call 42
  refine (AreWorkers_any _ _ _ _ _ _ hn h).mono ?_
  rintro _ w1 ⟨rfl, hb1⟩
  rw [h1]
  go_wp2_with fail
  go_at_call 55
  refine (isGang_any _ _).mono ?_
  rintro _ _ ⟨rfl, rfl⟩
  rw [h2]
  go_wp2_with fail
  go_at_call 59
  refine (isDay_any _ _).mono ?_
  rintro _ _ ⟨rfl, rfl⟩
  rw [h3]
  go_wp2_with fail
  go_at_call 68
  refine (within_any _ _ _ _).mono ?_
  rintro _ _ ⟨rfl, rfl⟩
  rw [h4]
  clear h1 h2 h3 h4
  go_wp2_with fail
  go_at_call 49
  refine (rakedWeek_any _ _ _ _ _ g _ HV (Rd.below h hb1)).mono ?_
  rintro _ w2 ⟨A2, c2, rfl, hO, hb2⟩
  have hbA := gr hb1 hb2
  have hZ := hO.sl.rd (Nat.le_refl _)
  clear hO hb1 hb2
  go_wp2
  go_loopw [2, 3] (fun dd l wr => ∃ k : Nat, D + k ≤ daysN ∧ dd = .int .i64 ((D + k : Nat) : Int) ∧ l = .int .i64 (load - sumI (dayS F C n g D) k) ∧ firstB (loadB F C n g D load) k = none ∧ Below w2.heap.size w2 wr) (fun dd _ _ => daysN - (intOf dd).toNat)
  case atStart => exact ⟨0, by omega, rfl, by simp [sumI], rfl, Below.refl _ _⟩
  case round =>
    obtain ⟨k, hk, rfl, rfl, hf, hb⟩ := hrel
    have HF := hide hf
    clear hf
    by_cases hlt : D + k ≤ 4000
    · obtain ⟨e, he⟩ : ∃ e, e = D + k := ⟨_, rfl⟩
      have HE := hide he
      have he2 : e ≤ 4000 := by omega
      have hd : decide ((e : Int) ≤ 4000) = true := decide_eq_true (by omega)
      obtain ⟨i, hi⟩ : ∃ i, i = e % 7 := ⟨_, rfl⟩
      have hi7 : i < 7 := by omega
      have hr : (e : Int) % 7 = (i : Int) := by omega
      have HX := hide (show dayS F C n g D k = rakedV F C n g (i : Int) 0 by unfold dayS; rw [← he, ← hi])
      rw [← he]
      clear he hi
      obtain ⟨s1, s2⟩ := dayS_bd C HV.out g D k (by omega)
      obtain ⟨x1, x2⟩ := rakedV_bd C HV.out g (i : Int) 0
      have HS := hide (show sumI (dayS F C n g D) (k + 1) = sumI (dayS F C n g D) k + dayS F C n g D k from rfl)
      rw [HX.out] at HS
      obtain ⟨b, off, rfl, -, hbw, hc⟩ := Rd.below hZ hb (by omega)
      have hc0 := hc i 0 hi7 (by omega)
      simp only [Nat.add_zero, Nat.mul_one, ints] at hc0
      clear hc
      have HW := hide (show weekT F C n g i 0 = rakedV F C n g (i : Int) 0 from rfl)
      rw [HW.out] at hc0
      clear HW
      generalize rakedV F C n g (i : Int) 0 = x at *
      generalize sumI (dayS F C n g D) k = S at *
      clear hk d0 d1
      by_cases hle : load ≤ S + x
      · have t1 : decide (load - S - x ≤ 0) = true := decide_eq_true (by omega)
        have HQ := hide (show firstB (loadB F C n g D load) (daysN - D) = some k from firstB_at HF.out (by simp only [loadB, decide_eq_true_eq]; rw [HS.out]; exact hle) (by have := HE.out; omega))
        clear hle
        go_wp2
        go_ret2
        exact ⟨by rw [HR.out, HQ.out, HE.out]; rfl, gr hbA hb⟩
      · have t1 : decide (load - S - x ≤ 0) = false := decide_eq_false (by omega)
        have HQ := hide (show firstB (loadB F C n g D load) (k + 1) = none from firstB_succ_none HF.out (by simp only [loadB, decide_eq_false_iff_not]; rw [HS.out]; exact hle))
        have hz : load - (S + x) = load - S - x := by omega
        have HZ := hide hz
        clear hle hz
        go_wp2
        go_roundw
        case rel => exact ⟨k + 1, by have := HE.out; omega, by rw [HE.out]; go_num, by rw [HS.out, HZ.out], HQ.out, hb⟩
        case measure => simp [intOf]; omega
    · have HQ := hide (show firstB (loadB F C n g D load) (daysN - D) = none by rw [show daysN - D = k by omega]; exact HF.out)
      have hd : decide (((D + k : Nat) : Int) ≤ 4000) = false := decide_eq_false (by omega)
      clear hlt
      generalize D + k = e at *
      go_wp2
      go_ret2
      exact ⟨by rw [HR.out, HQ.out]; rfl, gr hbA hb⟩
set_option maxHeartbeats 2000000 in
theorem spec_DaysToRake_any (A : Option Addr) (n c : Nat) (F : Nat → Nat → Int) (C : Nat → Bool) (g d load : Int) (w : World) (hn : n ≤ 1048576) (h : Rd w A n 5 (wkC F C)) :
    Calls Try.prog 26 #[.slice A n c, .int .i64 g, .int .i64 d, .int .i64 load] w fun e w' => e = .returned (.tuple #[.int .i64 (daysR F C n g d load).1, .bool (daysR F C n g d load).2]) ∧ Below w.heap.size w w' := by
  cases h1 : worksB F n
  · have HR := hide (show daysR F C n g d load = (0, false) by simp [daysR, daysOk, h1])
    go_enter Try.func26, Try.ntmps26
    go_wp2_with (first | (go_at_call 56; refine (l5Good_any _ _ _ _ _ _ hn h).mono ?_; rintro _ w1 ⟨rfl, hb_w1⟩; have hc_w1 := bcell hb_w1))
    go_ret2
    exact ⟨by rw [HR.out]; rfl, hb_w1⟩
  cases h2 : inB g 1 5
  · have HR := hide (show daysR F C n g d load = (0, false) by simp [daysR, daysOk, h1, h2])
    go_enter Try.func26, Try.ntmps26
    go_wp2_with (first | (go_at_call 56; refine (l5Good_any _ _ _ _ _ _ hn h).mono ?_; rintro _ w1 ⟨rfl, hb_w1⟩; have hc_w1 := bcell hb_w1) | (go_at_call 57; refine (l5Gang_any _ _).mono ?_; rintro _ _ ⟨rfl, rfl⟩))
    go_ret2
    exact ⟨by rw [HR.out]; rfl, hb_w1⟩
  cases h3 : inB d 0 4000
  · have HR := hide (show daysR F C n g d load = (0, false) by simp [daysR, daysOk, h1, h2, h3])
    go_enter Try.func26, Try.ntmps26
    go_wp2_with (first | (go_at_call 56; refine (l5Good_any _ _ _ _ _ _ hn h).mono ?_; rintro _ w1 ⟨rfl, hb_w1⟩; have hc_w1 := bcell hb_w1) | (go_at_call 57; refine (l5Gang_any _ _).mono ?_; rintro _ _ ⟨rfl, rfl⟩) | (go_at_call 69; refine (l2Day_any _ _).mono ?_; rintro _ _ ⟨rfl, rfl⟩))
    go_ret2
    exact ⟨by rw [HR.out]; rfl, hb_w1⟩
  cases h4 : inB load 1 10000
  · have HR := hide (show daysR F C n g d load = (0, false) by simp [daysR, daysOk, h1, h2, h3, h4])
    go_enter Try.func26, Try.ntmps26
    go_wp2_with (first | (go_at_call 56; refine (l5Good_any _ _ _ _ _ _ hn h).mono ?_; rintro _ w1 ⟨rfl, hb_w1⟩; have hc_w1 := bcell hb_w1) | (go_at_call 57; refine (l5Gang_any _ _).mono ?_; rintro _ _ ⟨rfl, rfl⟩) | (go_at_call 69; refine (l2Day_any _ _).mono ?_; rintro _ _ ⟨rfl, rfl⟩) | (go_at_call 70; refine (l1In_any _ _ _ _).mono ?_; rintro _ _ ⟨rfl, rfl⟩))
    go_ret2
    exact ⟨by rw [HR.out]; rfl, hb_w1⟩
  have HV := hide h1
  obtain ⟨d0, d1⟩ := inB_true h3
  obtain ⟨l0, l1⟩ := inB_true h4
  obtain ⟨D, rfl⟩ : ∃ D : Nat, d = D := ⟨d.toNat, by omega⟩
  have HR := hide (show daysR F C n g D load = daysV D (firstB (loadB F C n g D load) (daysN - D)) by simp [daysR, daysOk, h1, h2, h3, h4])
  have hN1 := daysN_lo
  have hN2 := daysN_hi
  go_enter Try.func26, Try.ntmps26
  go_wp2_with fail
  go_at_call 56
  refine (l5Good_any _ _ _ _ _ _ hn h).mono ?_
  rintro _ w1 ⟨rfl, hb1⟩
  rw [h1]
  go_wp2_with fail
  go_at_call 57
  refine (l5Gang_any _ _).mono ?_
  rintro _ _ ⟨rfl, rfl⟩
  rw [h2]
  go_wp2_with fail
  go_at_call 69
  refine (l2Day_any _ _).mono ?_
  rintro _ _ ⟨rfl, rfl⟩
  rw [h3]
  go_wp2_with fail
  go_at_call 70
  refine (l1In_any _ _ _ _).mono ?_
  rintro _ _ ⟨rfl, rfl⟩
  rw [h4]
  clear h1 h2 h3 h4
  go_wp2
  go_loopw [2, 10, 11, 12] (fun dd l _ _ wr => ∃ k : Nat, D + k ≤ daysN ∧ dd = .int .i64 ((D + k : Nat) : Int) ∧ l = .int .i64 (sumI (dayS F C n g D) k) ∧ firstB (loadB F C n g D load) k = none ∧ Below w.heap.size w wr) (fun dd _ _ _ _ => daysN - (intOf dd).toNat)
  case atStart => exact ⟨0, by omega, rfl, rfl, rfl, hb1⟩
  case round =>
    clear hb1
    obtain ⟨k, hk, rfl, rfl, hf, hb⟩ := hrel
    have HF := hide hf
    clear hf
    by_cases hlt : D + k ≤ 4000
    · obtain ⟨e, he⟩ : ∃ e, e = D + k := ⟨_, rfl⟩
      have HE := hide he
      have he2 : e ≤ 4000 := by omega
      have hd : decide ((e : Int) ≤ 4000) = true := decide_eq_true (by omega)
      obtain ⟨i, hi⟩ : ∃ i, i = e % 7 := ⟨_, rfl⟩
      have hi7 : i < 7 := by omega
      have hr : (e : Int) % 7 = (i : Int) := by omega
      have HX := hide (show dayS F C n g D k = rakedV F C n g (i : Int) 0 by unfold dayS; rw [← he, ← hi])
      rw [← he]
      clear he hi
      obtain ⟨s1, s2⟩ := dayS_bd C HV.out g D k (by omega)
      obtain ⟨x1, x2⟩ := rakedV_bd C HV.out g (i : Int) 0
      have HS := hide (show sumI (dayS F C n g D) (k + 1) = sumI (dayS F C n g D) k + dayS F C n g D k from rfl)
      rw [HX.out] at HS
      clear hk d0 d1
      go_wp2_with fail
      go_at_call 58
      refine (l5Raked_any _ _ _ _ _ g (i : Int) 0 _ HV (Rd.below h hb)).mono ?_
      rintro _ w2 ⟨rfl, hb2⟩
      replace hb := gr hb hb2
      clear hb2
      generalize rakedV F C n g (i : Int) 0 = x at *
      generalize sumI (dayS F C n g D) k = S at *
      by_cases hle : load ≤ S + x
      · have t1 : decide (load ≤ S + x) = true := decide_eq_true hle
        have HQ := hide (show firstB (loadB F C n g D load) (daysN - D) = some k from firstB_at HF.out (by simp only [loadB, decide_eq_true_eq]; rw [HS.out]; exact hle) (by have := HE.out; omega))
        clear hle
        go_wp2
        go_ret2
        exact ⟨by rw [HR.out, HQ.out, HE.out]; rfl, hb⟩
      · have t1 : decide (load ≤ S + x) = false := decide_eq_false hle
        have HQ := hide (show firstB (loadB F C n g D load) (k + 1) = none from firstB_succ_none HF.out (by simp only [loadB, decide_eq_false_iff_not]; rw [HS.out]; exact hle))
        clear hle
        go_wp2
        go_roundw
        case rel => exact ⟨k + 1, by have := HE.out; omega, by rw [HE.out]; go_num, by rw [HS.out], HQ.out, hb⟩
        case measure => simp [intOf]; omega
    · have HQ := hide (show firstB (loadB F C n g D load) (daysN - D) = none by rw [show daysN - D = k by omega]; exact HF.out)
      have hd : decide (((D + k : Nat) : Int) ≤ 4000) = false := decide_eq_false (by omega)
      clear hlt
      generalize D + k = e at *
      go_wp2
      go_ret2
      exact ⟨by rw [HR.out, HQ.out]; rfl, hb⟩
end Go.Proofs.Ytmblkjnpibcmoaa
