/-
  Contracts on suns: the best first day, of the program and of the reference. Conditions: lengths up to 2^20.
-/
import Derived.Test.YtajmebclmippeaaSunG
namespace Go.Proofs.Ytajmebclmippeaa
open Go.RowKit

/-- The greatest sum so far; -1 before the first day. -/
def mostV (f : Nat → Int) : Nat → Int
  | 0 => -1
  | k + 1 => f (bestI f (k + 1))
theorem mostV_step {f : Nat → Int} {k : Nat} (h0 : 0 ≤ f 0) : (mostV f k < f k → bestI f (k + 1) = k ∧ mostV f (k + 1) = f k) ∧ (¬ mostV f k < f k → bestI f (k + 1) = bestI f k ∧ mostV f (k + 1) = mostV f k) := by
  cases k with
  | zero => simp [mostV, bestI]; omega
  | succ m =>
    have e : bestI f (m + 1 + 1) = if f (bestI f (m + 1)) < f (m + 1) then m + 1 else bestI f (m + 1) := rfl
    simp only [mostV]
    rw [e]
    refine ⟨fun h => ?_, fun h => ?_⟩
    · rw [if_pos h]; exact ⟨rfl, rfl⟩
    · rw [if_neg h]; exact ⟨rfl, rfl⟩

set_option maxRecDepth 20000 in
set_option maxHeartbeats 2000000 in
theorem BestStart_any (A : Option Addr) (n c : Nat) (F : Nat → Nat → Int) (days : Int) (w : World) (hn : n ≤ 1048576) (h : Rd w A n 2 (ints F)) :
    Calls Try.prog 37 #[.slice A n c, .int .i64 days] w fun e w' => e = .returned (.tuple #[.int .i64 (bestStartR F n days).1, .bool (bestStartR F n days).2]) ∧ Below w.heap.size w w' := by
  cases h1 : sunsB F n
  · have HR := hide (show bestStartR F n days = (0, false) by simp [bestStartR, h1])
    go_enter Try.func37, Try.ntmps37
    go_wp2_with (first | (go_at_call 17; refine (AreSuns_any _ _ _ _ _ hn h).mono ?_; rintro _ w1 ⟨rfl, hb_w1⟩; have hc_w1 := bcell hb_w1))
    go_ret2
    exact ⟨ret_p HR.out, hb_w1⟩
  cases h2 : inB days 1 100
  · have HR := hide (show bestStartR F n days = (0, false) by simp [bestStartR, h2])
    go_enter Try.func37, Try.ntmps37
    go_wp2_with (first | (go_at_call 17; refine (AreSuns_any _ _ _ _ _ hn h).mono ?_; rintro _ w1 ⟨rfl, hb_w1⟩; have hc_w1 := bcell hb_w1) | (go_at_call 82; refine (within_any _ _ _ _).mono ?_; rintro _ _ ⟨rfl, rfl⟩))
    go_ret2
    exact ⟨ret_p HR.out, hb_w1⟩
  have hdays := inB_true h2
  have HV := hide h1
  go_enter Try.func37, Try.ntmps37
  go_wp2_with (first | (go_at_call 17; refine (AreSuns_any _ _ _ _ _ hn h).mono ?_; rintro _ w1 ⟨rfl, hb_w1⟩; have hc_w1 := bcell hb_w1) | (go_at_call 82; refine (within_any _ _ _ _).mono ?_; rintro _ _ ⟨rfl, rfl⟩))
  clear hc_w1
  have HR := hide (show bestStartR F n days = (((bestI (sunFrom F n days) (startsN days) : Nat) : Int), true) by simp [bestStartR, h1, h2])
  have HN := hide (show startsN days = (4002 - days).toNat from rfl)
  generalize startsN days = N at HR HN
  have hN : (N : Int) = 4002 - days := by rw [HN.out]; omega
  have hN1 : (N : Int) ≤ 4002 - days := by omega
  have hN2 : 4002 - days ≤ (N : Int) := by omega
  clear hN HN
  have H0 := hide (show 0 ≤ sunFrom F n days 0 from (rates_bd HV.out n (Nat.le_refl _)).1)
  go_loopw [6, 7, 8] (fun bst mst dy wr => ∃ k : Nat, k ≤ N ∧ dy = .int .i64 k ∧ bst = .int .i64 (bestI (sunFrom F n days) k : Nat) ∧ mst = .int .i64 (mostV (sunFrom F n days) k) ∧ Below w.heap.size w wr) (fun _ _ dy _ => N - (intOf dy).toNat)
  case atStart => exact ⟨0, by omega, rfl, rfl, rfl, hb_w1⟩
  case round =>
    obtain ⟨k, hk, rfl, rfl, rfl, hb⟩ := hrel
    by_cases hlt : k < N
    · have HS := hide (mostV_step (k := k) H0.out)
      have HF := hide (show sumI (rates F k (k + days - 1)) n = sunFrom F n days k from rfl)
      go_wp2_with fail
      go_at_call 79
      refine (sunSum_any _ _ _ _ _ _ _ hn (Rd.below h hb) HV).mono ?_
      rintro _ w2 ⟨rfl, hb2⟩
      rw [HF.out]
      generalize sunFrom F n days k = S at HS HF
      generalize mostV (sunFrom F n days) k = M at HS ⊢
      generalize bestI (sunFrom F n days) k = B at HS ⊢
      by_cases hq : M < S
      · go_wp2
        go_roundw
        case rel => exact ⟨k + 1, by omega, by go_num, by rw [(HS.out.1 hq).1], by rw [(HS.out.1 hq).2], gr hb hb2⟩
        case measure => simp [intOf]; omega
      · go_wp2
        go_roundw
        case rel => exact ⟨k + 1, by omega, by go_num, by rw [(HS.out.2 hq).1], by rw [(HS.out.2 hq).2], gr hb hb2⟩
        case measure => simp [intOf]; omega
    · have HE := hide (show k = N by omega)
      go_wp2
      go_ret2
      exact ⟨ret_p (by rw [HR.out, ← HE.out]), hb⟩

set_option maxRecDepth 20000 in
set_option maxHeartbeats 2000000 in
theorem spec_BestStart_any (A : Option Addr) (n c : Nat) (F : Nat → Nat → Int) (days : Int) (w : World) (hn : n ≤ 1048576) (h : Rd w A n 2 (ints F)) :
    Calls Try.prog 36 #[.slice A n c, .int .i64 days] w fun e w' => e = .returned (.tuple #[.int .i64 (bestStartR F n days).1, .bool (bestStartR F n days).2]) ∧ Below w.heap.size w w' := by
  cases h1 : sunsB F n
  · have HR := hide (show bestStartR F n days = (0, false) by simp [bestStartR, h1])
    go_enter Try.func36, Try.ntmps36
    go_wp2_with (first | (go_at_call 50; refine (l6Good_any _ _ _ _ _ hn h).mono ?_; rintro _ w1 ⟨rfl, hb_w1⟩; have hc_w1 := bcell hb_w1))
    go_ret2
    exact ⟨ret_p HR.out, hb_w1⟩
  cases h2 : inB days 1 100
  · have HR := hide (show bestStartR F n days = (0, false) by simp [bestStartR, h2])
    go_enter Try.func36, Try.ntmps36
    go_wp2_with (first | (go_at_call 50; refine (l6Good_any _ _ _ _ _ hn h).mono ?_; rintro _ w1 ⟨rfl, hb_w1⟩; have hc_w1 := bcell hb_w1) | (go_at_call 80; refine (l1In_any _ _ _ _).mono ?_; rintro _ _ ⟨rfl, rfl⟩))
    go_ret2
    exact ⟨ret_p HR.out, hb_w1⟩
  have hdays := inB_true h2
  have HV := hide h1
  go_enter Try.func36, Try.ntmps36
  go_wp2_with (first | (go_at_call 50; refine (l6Good_any _ _ _ _ _ hn h).mono ?_; rintro _ w1 ⟨rfl, hb_w1⟩; have hc_w1 := bcell hb_w1) | (go_at_call 80; refine (l1In_any _ _ _ _).mono ?_; rintro _ _ ⟨rfl, rfl⟩))
  clear hc_w1
  have HR := hide (show bestStartR F n days = (((bestS F n days n : Nat) : Int), true) by rw [bestS_eq h1 hdays.1 hdays.2]; simp [bestStartR, h1, h2])
  go_loopw [6, 7] (fun bst i wr => ∃ k : Nat, k ≤ n ∧ i = .int .i64 k ∧ bst = .int .i64 (bestS F n days k : Nat) ∧ Below w.heap.size w wr) (fun _ i _ => n - (intOf i).toNat)
  case atStart => exact ⟨0, by omega, rfl, rfl, hb_w1⟩
  case round =>
    obtain ⟨k, hk, rfl, rfl, hb⟩ := hrel
    by_cases hlt : k < n
    · obtain ⟨q, off, hA, -, hbw, hc⟩ := Rd.below h hb (by omega)
      subst hA
      have hc0 := hc k 0 hlt (by omega)
      simp only [Nat.add_zero] at hc0
      clear hc
      have hd := ((sunsB_at HV.out).2 k hlt).1
      have hbk : bestS F n days k ≤ 4001 := by
        rcases (bestS_inv (days := days) HV.out k hk).1 with e | ⟨i, hi, e⟩
        · omega
        · have := ((sunsB_at HV.out).2 i (by omega)).1
          rw [e]; unfold candS; omega
      have HS := hide (show bestS F n days (k + 1) = if sunFrom F n days (bestS F n days k) < sunFrom F n days (candS F days k) then candS F days k else bestS F n days k from rfl)
      have HM := hide (show max 0 (F k 0 - days + 1) = ((candS F days k : Nat) : Int) by unfold candS; omega)
      have hcl : candS F days k ≤ 4001 := by unfold candS; omega
      have HF1 := hide (show sumI (rates F (candS F days k) (candS F days k + days - 1)) n = sunFrom F n days (candS F days k) from rfl)
      have HF2 := hide (show sumI (rates F (bestS F n days k) (bestS F n days k + days - 1)) n = sunFrom F n days (bestS F n days k) from rfl)
      generalize candS F days k = C at HS HM hcl HF1
      generalize bestS F n days k = B at HS hbk HF2 ⊢
      go_wp2_with fail
      go_at_call 81
      refine (l1Most_any _ _ _).mono ?_
      rintro _ _ ⟨rfl, rfl⟩
      rw [HM.out]
      go_wp2_with fail
      go_at_call 78
      refine (l6Sum_any _ _ _ _ _ _ _ hn (Rd.below h hb) HV).mono ?_
      rintro _ w2 ⟨rfl, hb2⟩
      rw [HF1.out]
      go_wp2_with fail
      go_at_call 78
      refine (l6Sum_any _ _ _ _ _ _ _ hn (Rd.below h (gr hb hb2)) HV).mono ?_
      rintro _ w3 ⟨rfl, hb3⟩
      rw [HF2.out]
      by_cases hq : sunFrom F n days B < sunFrom F n days C
      · go_wp2
        go_roundw
        case rel => exact ⟨k + 1, by omega, by go_num, by rw [HS.out, if_pos hq], gr hb (gr hb2 hb3)⟩
        case measure => simp [intOf]; omega
      · go_wp2
        go_roundw
        case rel => exact ⟨k + 1, by omega, by go_num, by rw [HS.out, if_neg (by omega)], gr hb (gr hb2 hb3)⟩
        case measure => simp [intOf]; omega
    · have HE := hide (show k = n by omega)
      go_wp2
      go_ret2
      exact ⟨ret_p (by rw [HR.out, HE.out]), hb⟩
end Go.Proofs.Ytajmebclmippeaa
