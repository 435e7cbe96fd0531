/-
  Plain laws on suns: more area, less water; the best first day. Conditions: valid suns and brines; no program is named here.
-/
import Derived.Test.YtajmebclmippeaaSunM
namespace Go.Proofs.Ytajmebclmippeaa

theorem lossV_area {x y a b r : Int} (hb : brineB x y = true) (hr : 0 ≤ r) (hab : a ≤ b) : lossV x y a r ≤ lossV x y b r := by
  have h := brineB_true hb
  unfold lossV
  split
  · omega
  · have h1 : r * a ≤ r * b := Int.mul_le_mul_of_nonneg_left hab hr
    have h2 : r * a / 1000 ≤ r * b / 1000 := Int.ediv_le_ediv (by omega) h1
    have h3 : r * a / 1000 * x ≤ r * b / 1000 * x := Int.mul_le_mul_of_nonneg_right h2 h.1.1
    have h4 : r * a / 1000 * x / (x + y) ≤ r * b / 1000 * x / (x + y) := Int.ediv_le_ediv (by omega) h3
    omega
theorem left_step {x y a r : Int} (hx : 0 ≤ x) (hy : 0 ≤ y) (hr : 0 ≤ r) (ha : 1 ≤ a) : lossV (x + 1) y a r ≤ lossV x y a r + 1 := by
  have hK : 0 ≤ r * a / 1000 := Int.ediv_nonneg (Int.mul_nonneg hr (by omega)) (by omega)
  generalize hk : r * a / 1000 = K at hK
  unfold lossV
  rw [hk]
  by_cases h0 : x + y = 0
  · rw [if_pos h0, if_neg (by omega)]
    have : x = 0 := by omega
    omega
  · rw [if_neg h0, if_neg (by omega)]
    have hp : 0 < x + y := by omega
    by_cases hq : x ≤ K * x / (x + y)
    · omega
    · have hx1 : 1 ≤ x := by
        have : 0 ≤ K * x / (x + y) := Int.ediv_nonneg (Int.mul_nonneg hK hx) (by omega)
        omega
      generalize hqq : K * x / (x + y) = q at hq
      have h1 : K * x < (q + 1) * (x + y) := by rw [← hqq]; exact Int.lt_ediv_add_one_mul_self _ hp
      have h2 : (q + 1) * (x + y) ≤ x * (x + y) := Int.mul_le_mul_of_nonneg_right (by omega) (by omega)
      have h3 : K < x + y := by
        rcases Int.lt_or_le K (x + y) with h | h
        · exact h
        · have : (x + y) * x ≤ K * x := Int.mul_le_mul_of_nonneg_right h hx
          rw [Int.mul_comm (x + y) x] at this
          omega
      have h4 : K * (x + 1) / (x + 1 + y) < q + 2 := by
        refine Int.ediv_lt_of_lt_mul (by omega) ?_
        have e1 : K * (x + 1) = K * x + K := by rw [Int.mul_add]; omega
        have e2 : (q + 2) * (x + 1 + y) = (q + 1) * (x + y) + (x + y) + (q + 2) := by
          rw [show x + 1 + y = (x + y) + 1 by omega, Int.mul_add, show q + 2 = (q + 1) + 1 by omega, Int.add_mul]
          omega
        have : 0 ≤ q := by rw [← hqq]; exact Int.ediv_nonneg (Int.mul_nonneg hK hx) (by omega)
        omega
      omega
theorem left_mono {y a r : Int} (hy : 0 ≤ y) (hr : 0 ≤ r) (ha : 1 ≤ a) (d : Nat) : ∀ x : Int, 0 ≤ x → x - lossV x y a r ≤ (x + d) - lossV (x + d) y a r := by
  induction d with
  | zero => intro x _; simp
  | succ d ih =>
    intro x hx
    have h1 := ih x hx
    have h2 := left_step (x := x + d) (by omega) hy hr ha
    have e : x + ((d + 1 : Nat) : Int) = x + d + 1 := by omega
    rw [e]; omega
theorem afterW_area {F : Nat → Nat → Int} {n : Nat} {x y p q a b : Int} (hs : sunsB F n = true) (hb : brineB x y = true) (ha : 1 ≤ a) (hab : a ≤ b) (hb2 : b ≤ 100000) :
    ∀ k, k ≤ n → afterW F b x y p q k ≤ afterW F a x y p q k := by
  intro k
  induction k with
  | zero => intro _; exact Int.le_refl _
  | succ k ih =>
    intro hk
    have h1 := ih (by omega)
    have hB := afterW_brine (a := p) (b := q) hs hb (by omega : 1 ≤ b) hb2 k (by omega)
    have bB := brineB_true hB
    have hr := ((sunsB_at hs).2 k (by omega)).2.1
    simp only [afterW]
    split
    · have h2 := left_mono (y := y) (a := a) (r := F k 1) bB.2.1 hr.1 ha (afterW F a x y p q k - afterW F b x y p q k).toNat (afterW F b x y p q k) bB.1.1
      have e : afterW F b x y p q k + ((afterW F a x y p q k - afterW F b x y p q k).toNat : Int) = afterW F a x y p q k := by omega
      rw [e] at h2
      have h3 := lossV_area (x := afterW F b x y p q k) (y := y) (a := a) (b := b) (r := F k 1) hB hr.1 hab
      omega
    · exact h1

/-- One more than the greatest area, less the least one. -/
def maxAreas : Nat := 100000
def smallV : Option Nat → Int × Bool
  | some i => ((i : Int) + 1, true)
  | none => (0, false)
/-- What SmallestArea returns. -/
def smallR (F : Nat → Nat → Int) (n : Nat) (x y p q goal : Int) : Int × Bool :=
  if askedB F n x y 1 && spanB p q && decide (0 ≤ goal) then smallV (firstB (fun i => decide (afterW F ((i : Int) + 1) x y p q n ≤ goal)) maxAreas) else (0, false)

theorem sumI_le {f g : Nat → Int} {n : Nat} (h : ∀ i, i < n → f i ≤ g i) : sumI f n ≤ sumI g n := by
  induction n with
  | zero => exact Int.le_refl _
  | succ k ih =>
    have h1 := ih fun i hi => h i (by omega)
    have h2 := h k (by omega)
    simp only [sumI]; omega
/-- The sum of the rates of so many days from one on. -/
def sunFrom (F : Nat → Nat → Int) (n : Nat) (days : Int) (d : Nat) : Int := sumI (rates F d (d + days - 1)) n
def startsN (days : Int) : Nat := (4002 - days).toNat
def bestStartR (F : Nat → Nat → Int) (n : Nat) (days : Int) : Int × Bool :=
  if sunsB F n && inB days 1 100 then ((bestI (sunFrom F n days) (startsN days) : Nat), true) else (0, false)
/-- The reference's candidate of a sun, and its best one of the first k suns. -/
def candS (F : Nat → Nat → Int) (days : Int) (i : Nat) : Nat := (max 0 (F i 0 - days + 1)).toNat
def bestS (F : Nat → Nat → Int) (n : Nat) (days : Int) : Nat → Nat
  | 0 => 0
  | k + 1 => if sunFrom F n days (bestS F n days k) < sunFrom F n days (candS F days k) then candS F days k else bestS F n days k

theorem bestI_max (f : Nat → Int) (n : Nat) : ∀ i, i < n → f i ≤ f (bestI f n) := by
  induction n with
  | zero => intro i h; omega
  | succ k ih =>
    intro i hi
    simp only [bestI]
    by_cases hik : i = k
    · subst hik; split <;> omega
    · have := ih i (by omega)
      split <;> omega
theorem bestI_first (f : Nat → Int) (n : Nat) : ∀ i, i < bestI f n → f i < f (bestI f n) := by
  induction n with
  | zero => intro i h; simp [bestI] at h
  | succ k ih =>
    intro i hi
    simp only [bestI] at hi ⊢
    split at hi
    · rename_i hc
      rw [if_pos hc]
      have := bestI_max f k i hi
      omega
    · rename_i hc
      rw [if_neg hc]
      exact ih i hi

theorem bestS_inv {F : Nat → Nat → Int} {n : Nat} {days : Int} (hs : sunsB F n = true) :
    ∀ k, k ≤ n → (bestS F n days k = 0 ∨ ∃ i, i < k ∧ bestS F n days k = candS F days i) ∧ sunFrom F n days 0 ≤ sunFrom F n days (bestS F n days k) ∧ (∀ i, i < k → sunFrom F n days (candS F days i) ≤ sunFrom F n days (bestS F n days k)) ∧
      (∀ i, i < k → sunFrom F n days (candS F days i) = sunFrom F n days (bestS F n days k) → bestS F n days k ≤ candS F days i) ∧ (sunFrom F n days 0 = sunFrom F n days (bestS F n days k) → bestS F n days k = 0) := by
  intro k
  induction k with
  | zero => exact fun _ => ⟨.inl rfl, Int.le_refl _, fun i h => by omega, fun i h => by omega, fun _ => rfl⟩
  | succ k ih =>
    intro hk
    obtain ⟨h1, h2, h3, h4, h5⟩ := ih (by omega)
    have hc : ∀ i, i < k → candS F days i ≤ candS F days k := fun i hi => by
      have := days_lt (fun j hj h0 => ((sunsB_at hs).2 j hj).2.2 h0) k i hi (by omega)
      unfold candS; omega
    simp only [bestS]
    split
    · rename_i hlt
      refine ⟨.inr ⟨k, by omega, rfl⟩, by omega, fun i hi => ?_, fun i hi e => ?_, fun e => by omega⟩
      · by_cases e : i = k
        · subst e; exact Int.le_refl _
        · have := h3 i (by omega); omega
      · by_cases e' : i = k
        · subst e'; exact Nat.le_refl _
        · have := h3 i (by omega); omega
    · rename_i hge
      refine ⟨?_, h2, fun i hi => ?_, fun i hi e => ?_, h5⟩
      · rcases h1 with h | ⟨i, hi, h⟩
        · exact .inl h
        · exact .inr ⟨i, by omega, h⟩
      · by_cases e : i = k
        · subst e; omega
        · exact h3 i (by omega)
      · by_cases e' : i = k
        · subst e'
          rcases h1 with h | ⟨j, hj, h⟩
          · rw [h]; exact Nat.zero_le _
          · rw [h]; exact hc j hj
        · exact h4 i (by omega) e

theorem bestS_eq {F : Nat → Nat → Int} {n : Nat} {days : Int} (hs : sunsB F n = true) (hd : 1 ≤ days) (hd2 : days ≤ 100) : bestS F n days n = bestI (sunFrom F n days) (startsN days) := by
  obtain ⟨h1, h2, h3, h4, h5⟩ := bestS_inv (days := days) hs n (Nat.le_refl _)
  have hsat := sunsB_at hs
  have hN : startsN days = (4002 - days).toNat := rfl
  have hlt : bestS F n days n < startsN days := by
    rcases h1 with h | ⟨i, hi, h⟩
    · rw [h, hN]; omega
    · have := (hsat.2 i hi).1
      rw [h, hN]; unfold candS; omega
  have hmax := bestI_max (sunFrom F n days) (startsN days)
  have hfst := bestI_first (sunFrom F n days) (startsN days)
  generalize hM : bestI (sunFrom F n days) (startsN days) = M at hmax hfst
  -- the best day is 0 or some sun's candidate
  have hin : M = 0 ∨ ∃ i, i < n ∧ M = candS F days i := by
    rcases Nat.eq_zero_or_pos M with h | h
    · exact .inl h
    · right
      have hlt1 := hfst (M - 1) (by omega)
      rcases Classical.em (∃ i, i < n ∧ F i 0 = M + days - 1) with ⟨i, hi, e⟩ | hno
      · exact ⟨i, hi, by unfold candS; omega⟩
      · exfalso
        have : sunFrom F n days M ≤ sunFrom F n days (M - 1) := by
          unfold sunFrom
          refine sumI_le fun i hi => ?_
          have hne : F i 0 ≠ M + days - 1 := fun e => hno ⟨i, hi, e⟩
          have hnn := (hsat.2 i hi).2.1.1
          unfold rates
          by_cases c : inB (F i 0) M (M + days - 1) = true
          · have c1 := inB_true c
            rw [if_pos c, inB_of (by omega) (by omega)]; simp
          · rw [if_neg c]; split <;> omega
        omega
  have hSM : sunFrom F n days (bestS F n days n) = sunFrom F n days M := by
    have a := hmax _ hlt
    rcases hin with h | ⟨i, hi, h⟩
    · rw [h] at a ⊢; omega
    · have := h3 i hi
      rw [← h] at this; omega
  have hle : bestS F n days n ≤ M := by
    rcases hin with h | ⟨i, hi, h⟩
    · rw [h5 (by rw [hSM, h])]; exact Nat.zero_le _
    · have := h4 i hi (by rw [← h, hSM])
      omega
  rcases Nat.lt_or_ge (bestS F n days n) M with h | h
  · have := hfst _ h; omega
  · omega
end Go.Proofs.Ytajmebclmippeaa
