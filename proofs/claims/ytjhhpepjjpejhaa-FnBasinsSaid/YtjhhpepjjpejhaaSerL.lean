/-
  Plain laws on series for the law FnBasins: none is stronger than the strongest; the sun takes water alone. Conditions: none; no program is named here.
-/
import Derived.Test.YtjhhpepjjpejhaaSerM
namespace Go.Proofs.Ytjhhpepjjpejhaa

theorem cross_le {si wi sb wb sk wk : Int} (hwi : 0 ≤ wi) (hwk : 0 ≤ wk) (hsb : 0 ≤ sb) (hwb0 : 0 ≤ wb) (h1 : si * wb ≤ sb * wi) (h2 : sb * wk < sk * wb) : si * wk ≤ sk * wi := by
  have hp := Int.mul_nonneg hsb hwk
  have hwb : 0 < wb := by
    rcases Int.lt_or_eq_of_le hwb0 with h | h
    · exact h
    · subst h; rw [Int.mul_zero] at h2; omega
  have e1 := Int.mul_le_mul_of_nonneg_right h1 hwk
  have e2 := Int.mul_le_mul_of_nonneg_right (Int.le_of_lt h2) hwi
  rw [Int.mul_right_comm si wb wk] at e1
  rw [Int.mul_right_comm sk wb wi, Int.mul_right_comm sb wk wi] at e2
  exact Int.le_of_mul_le_mul_right (Int.le_trans e1 e2) hwb
theorem strong_max {F : Nat → Nat → Int} {n : Nat} (h : seriesB F n = true) : ∀ k, k ≤ n →
    (strongI F k < 0 → ∀ i, i < k → F i 1 + F i 2 = 0) ∧ (0 ≤ strongI F k → ∀ i, i < k → F i 2 * F (strongI F k).toNat 1 ≤ F (strongI F k).toNat 2 * F i 1) := by
  intro k
  induction k with
  | zero => exact fun _ => ⟨fun _ i hi => absurd hi (by omega), fun _ i hi => absurd hi (by omega)⟩
  | succ k ih =>
    intro hk
    obtain ⟨h1, h2⟩ := ih (by omega)
    have hbd := strongI_bd F k
    have hE : strongI F (k + 1) = if 0 < F k 1 + F k 2 ∧ (strongI F k < 0 ∨ F (strongI F k).toNat 2 * F k 1 < F k 2 * F (strongI F k).toNat 1) then (k : Int) else strongI F k := rfl
    rw [hE]
    generalize strongI F k = S at *
    have hb := fun i (hi : i < n) => (basin_at h hi).2
    split
    · rename_i hc
      refine ⟨fun hh => absurd hh (by omega), fun _ i hi => ?_⟩
      rw [Int.toNat_natCast]
      have bk := hb k (by omega)
      by_cases hik : i = k
      · subst hik; exact Int.le_refl _
      · have bi := hb i (by omega)
        by_cases hS : S < 0
        · have hm := h1 hS i (by omega)
          have e1 : F i 1 = 0 := by omega
          have e2 : F i 2 = 0 := by omega
          rw [e1, e2]; simp
        · have bS := hb S.toNat (by omega)
          exact cross_le (by omega) (by omega) (by omega) (by omega) (h2 (by omega) i (by omega)) (hc.2.resolve_left hS)
    · rename_i hc
      have bk := hb k (by omega)
      refine ⟨fun hS i hi => ?_, fun hS i hi => ?_⟩
      · by_cases hik : i = k
        · subst hik
          by_cases hm : 0 < F i 1 + F i 2
          · exact absurd ⟨hm, Or.inl hS⟩ hc
          · omega
        · exact h1 hS i (by omega)
      · by_cases hik : i = k
        · subst hik
          by_cases hm : 0 < F i 1 + F i 2
          · have : ¬ F S.toNat 2 * F i 1 < F i 2 * F S.toNat 1 := fun hh => hc ⟨hm, Or.inr hh⟩
            omega
          · have e1 : F i 1 = 0 := by omega
            have e2 : F i 2 = 0 := by omega
            rw [e1, e2]; simp
        · exact h2 hS i (by omega)
/-- What IsStronger returns of two valid brines. -/
def strongerR (x y p q : Int) : Bool × Bool := if x + y = 0 ∨ p + q = 0 then (false, false) else (decide (q * (x + y) < y * (p + q)), true)
theorem strong_law (F : Nat → Nat → Int) (n : Nat) : ∃ (best : Int) (T : Bool), strongestR F n = (best, T) ∧ (T = true → n ≤ 8 ∧ ∃ b : Nat, best = b ∧ b < n ∧ ∀ i, i < n → brineB (F i 1) (F i 2) = true ∧ brineB (F b 1) (F b 2) = true ∧ ∃ s o, strongerR (F i 1) (F i 2) (F b 1) (F b 2) = (s, o) ∧ (o = true → s = false)) := by
  unfold strongestR
  cases hs : seriesB F n
  · exact ⟨0, false, by simp, fun h => by cases h⟩
  · have hn := (seriesB_at hs).1
    by_cases h0 : strongI F n < 0
    · exact ⟨0, false, by simp [h0], fun h => by cases h⟩
    · refine ⟨strongI F n, true, by simp [h0], fun _ => ⟨by omega, ?_⟩⟩
      have hbd := strongI_bd F n
      have hm := (strong_max hs n (Nat.le_refl _)).2 (by omega)
      refine ⟨(strongI F n).toNat, by omega, by omega, fun i hi => ?_⟩
      have hmi := hm i hi
      have hbn : (strongI F n).toNat < n := by omega
      generalize (strongI F n).toNat = b at *
      refine ⟨((seriesB_at hs).2 i hi).2, ((seriesB_at hs).2 b hbn).2, (strongerR (F i 1) (F i 2) (F b 1) (F b 2)).1, (strongerR (F i 1) (F i 2) (F b 1) (F b 2)).2, rfl, fun ho => ?_⟩
      unfold strongerR at ho ⊢
      split
      · rfl
      · simp only [decide_eq_false_iff_not]
        have := strong_same (F i 1) (F i 2) (F b 2) (F b 1)
        omega
/-- What the law says of a day's sun. -/
theorem sun_law (F : Nat → Nat → Int) (n : Nat) (rate : Int) : ∃ (N : Nat) (g : Int) (ok : Bool) (S : Nat → Int) (G : Nat → Nat → Int), sunSerN F n rate = N ∧ sunSerG F n rate = g ∧ sunSerB F n rate = ok ∧ sunT F rate = G ∧ N ≤ n ∧
    (ok = true → N = n ∧ n ≤ 8 ∧ S 0 = 0 ∧ S n = g ∧ ∀ k, k < n → (0 ≤ S k ∧ S k ≤ 8000000) ∧ (0 ≤ F k 1 ∧ F k 1 ≤ 1000000) ∧ (0 ≤ G k 1 ∧ G k 1 ≤ 1000000) ∧ G k 2 = F k 2 ∧ S (k + 1) = S k + F k 1 - G k 1) := by
  refine ⟨_, _, _, sumI (lossB F rate), _, rfl, rfl, rfl, rfl, ?_, fun ok => ?_⟩
  · unfold sunSerN; split <;> omega
  · have hs := ok
    simp only [sunSerB, Bool.and_eq_true] at hs
    have hr := inB_true hs.2
    have hn := (seriesB_at hs.1).1
    refine ⟨by simp [sunSerN, ok], by omega, rfl, by simp [sunSerG, ok], fun k hk => ?_⟩
    have g := gone_bd hs.1 hr.1 hr.2 k (by omega)
    have l := lossB_bd hs.1 hr.1 hr.2 hk
    have b := (basin_at hs.1 hk).2
    have e1 : sunT F rate k 1 = F k 1 - lossB F rate k := by simp [sunT]
    have e2 : sunT F rate k 2 = F k 2 := by simp [sunT]
    have e3 : sumI (lossB F rate) (k + 1) = sumI (lossB F rate) k + lossB F rate k := rfl
    rw [e1, e2, e3]
    exact ⟨g, by omega, by omega, rfl, by omega⟩
end Go.Proofs.Ytjhhpepjjpejhaa
