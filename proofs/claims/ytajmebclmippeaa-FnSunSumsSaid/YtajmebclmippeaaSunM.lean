/-
  Plain laws on suns: the days after which a brine is strong, the smallest area, the best first day, a sun that is put. Conditions: valid suns and brines; no program is named here.
-/
import Derived.Test.YtajmebclmippeaaMath
namespace Go.Proofs.Ytajmebclmippeaa

/-- The water after the first m suns, all of them. -/
def allW (F : Nat → Nat → Int) (area x y : Int) : Nat → Int
  | 0 => x
  | m + 1 => allW F area x y m - lossV (allW F area x y m) y area (F m 1)
/-- How many of the first n suns come at the latest on day t. -/
def cntS (F : Nat → Nat → Int) (t : Int) : Nat → Nat
  | 0 => 0
  | k + 1 => if F k 0 ≤ t then k + 1 else cntS F t k
theorem cntS_le (F : Nat → Nat → Int) (t : Int) (n : Nat) : cntS F t n ≤ n := by
  induction n with
  | zero => simp [cntS]
  | succ k ih => simp only [cntS]; split <;> omega
theorem days_lt {F : Nat → Nat → Int} {n : Nat} (hs : ∀ k, k < n → 0 < k → F (k - 1) 0 < F k 0) : ∀ j i, i < j → j < n → F i 0 < F j 0 := by
  intro j
  induction j with
  | zero => intro i h; omega
  | succ m ih =>
    intro i hi hj
    have h1 := hs (m + 1) hj (by omega)
    simp only [Nat.add_sub_cancel] at h1
    by_cases him : i = m
    · subst him; exact h1
    · have := ih i (by omega) (by omega); omega
theorem cntS_spec {F : Nat → Nat → Int} {n : Nat} (hs : ∀ k, k < n → 0 < k → F (k - 1) 0 < F k 0) (t : Int) : (∀ i, i < cntS F t n → F i 0 ≤ t) ∧ ∀ i, cntS F t n ≤ i → i < n → t < F i 0 := by
  induction n with
  | zero => exact ⟨fun i h => by simp [cntS] at h, fun i _ h => by omega⟩
  | succ k ih =>
    have ih := ih fun j hj h0 => hs j (by omega) h0
    by_cases h : F k 0 ≤ t
    · have e : cntS F t (k + 1) = k + 1 := by simp [cntS, h]
      rw [e]
      refine ⟨fun i hi => ?_, fun i h1 h2 => by omega⟩
      by_cases hik : i = k
      · subst hik; exact h
      · have := days_lt hs k i (by omega) (by omega); omega
    · have e : cntS F t (k + 1) = cntS F t k := by simp [cntS, h]
      rw [e]
      refine ⟨ih.1, fun i h1 h2 => ?_⟩
      by_cases hik : i = k
      · subst hik; omega
      · exact ih.2 i h1 (by omega)
theorem cntS_eq {F : Nat → Nat → Int} {n : Nat} (hs : ∀ k, k < n → 0 < k → F (k - 1) 0 < F k 0) {t : Int} {m : Nat} (hm : m ≤ n) (h1 : ∀ i, i < m → F i 0 ≤ t) (h2 : ∀ i, m ≤ i → i < n → t < F i 0) : cntS F t n = m := by
  have := cntS_spec hs t
  have hl := cntS_le F t n
  rcases Nat.lt_trichotomy (cntS F t n) m with h | h | h
  · have a := this.2 (cntS F t n) (Nat.le_refl _) (by omega); have b := h1 _ h; omega
  · exact h
  · have a := this.1 m h; have b := h2 m (Nat.le_refl _) (by omega); omega

theorem afterW_all {F : Nat → Nat → Int} {n : Nat} {area x y a b : Int} {m m' : Nat} (hm : m ≤ m') (h1 : ∀ i, i < m → F i 0 < a) (h2 : ∀ i, m ≤ i → i < m' → a ≤ F i 0 ∧ F i 0 ≤ b) (h3 : ∀ i, m' ≤ i → i < n → b < F i 0) :
    ∀ k, k ≤ n → afterW F area (allW F area x y m) y a b k = allW F area x y (if k ≤ m then m else if k ≤ m' then k else m') := by
  intro k
  induction k with
  | zero => intro _; simp [afterW]
  | succ k ih =>
    intro hk
    simp only [afterW]
    rw [ih (by omega)]
    by_cases c1 : k < m
    · have e : inB (F k 0) a b = false := by have := h1 k c1; simp [inB]; intro; omega
      rw [e]
      simp only [Bool.false_eq_true, if_false]
      rw [if_pos (by omega), if_pos (by omega)]
    · by_cases c2 : k < m'
      · have hh := h2 k (by omega) c2
        rw [inB_of hh.1 hh.2]
        have e1 : (if k ≤ m then m else if k ≤ m' then k else m') = k := by split <;> (try split) <;> omega
        have e2 : (if k + 1 ≤ m then m else if k + 1 ≤ m' then k + 1 else m') = k + 1 := by split <;> (try split) <;> omega
        rw [e1, e2]
        simp [allW]
      · have e : inB (F k 0) a b = false := by have := h3 k (by omega) (by omega); simp [inB]; omega
        rw [e]
        have e1 : (if k ≤ m then m else if k ≤ m' then k else m') = m' := by split <;> (try split) <;> omega
        have e2 : (if k + 1 ≤ m then m else if k + 1 ≤ m' then k + 1 else m') = m' := by split <;> (try split) <;> omega
        rw [e1, e2]; simp

def strongB (x y num den : Int) : Bool := decide (0 < x + y) && decide (num * (x + y) ≤ y * den)
def rateB (num den : Int) : Bool := decide (1 ≤ num) && decide (num ≤ den) && decide (den ≤ 1000)
theorem rateB_true {num den : Int} (h : rateB num den = true) : 1 ≤ num ∧ num ≤ den ∧ den ≤ 1000 := by
  simp only [rateB, Bool.and_eq_true, decide_eq_true_eq] at h; omega
theorem strong_bd {x y num den : Int} (hb : brineB x y = true) (hr : rateB num den = true) : (0 ≤ y * den ∧ y * den ≤ 1000000000) ∧ (0 ≤ num * (x + y) ∧ num * (x + y) ≤ 2000000000) := by
  have b := brineB_true hb
  have r := rateB_true hr
  have h1 : 0 ≤ y * den := Int.mul_nonneg b.2.1 (by omega)
  have h2 : y * den ≤ 1000000 * 1000 := Int.mul_le_mul b.2.2 r.2.2 (by omega) (by omega)
  have h3 : 0 ≤ num * (x + y) := Int.mul_nonneg (by omega) (by omega)
  have h4 : num * (x + y) ≤ 1000 * 2000000 := Int.mul_le_mul (by omega) (by omega) (by omega) (by omega)
  omega

/-- The water on the morning of day d, day by day. -/
def dayW (F : Nat → Nat → Int) (n : Nat) (area x y : Int) : Nat → Int
  | 0 => x
  | d + 1 => afterW F area (dayW F n area x y d) y d d n
theorem dayW_brine {F : Nat → Nat → Int} {n : Nat} {area x y : Int} (hs : sunsB F n = true) (hb : brineB x y = true) (ha : 1 ≤ area) (ha2 : area ≤ 100000) : ∀ d, brineB (dayW F n area x y d) y = true := by
  intro d
  induction d with
  | zero => exact hb
  | succ d ih => exact afterW_brine hs ih ha ha2 n (Nat.le_refl _)
/-- One more than the last day. -/
def maxDays : Nat := 4001
def strongOnV : Option Nat → Int × Bool
  | some d => ((d : Int), true)
  | none => (0, false)
def strongOnR (F : Nat → Nat → Int) (n : Nat) (x y area num den : Int) : Int × Bool :=
  if askedB F n x y area && rateB num den then strongOnV (firstB (fun d => strongB (dayW F n area x y (d + 1)) y num den) maxDays) else (0, false)
def strongOnU (F : Nat → Nat → Int) : Option Nat → Int × Bool
  | some i => (F i 0, true)
  | none => (0, false)
def strongOnS (F : Nat → Nat → Int) (n : Nat) (x y area num den : Int) : Int × Bool :=
  if askedB F n x y area && rateB num den then
    if strongB (afterW F area x y 0 0 n) y num den then (0, true) else strongOnU F (firstB (fun i => strongB (afterW F area x y 0 (F i 0) n) y num den) n)
  else (0, false)

theorem strongOn_same (F : Nat → Nat → Int) (n : Nat) (x y area num den : Int) : strongOnS F n x y area num den = strongOnR F n x y area num den := by
  unfold strongOnS strongOnR
  by_cases hv : (askedB F n x y area && rateB num den) = true
  · rw [if_pos hv, if_pos hv]
    simp only [Bool.and_eq_true] at hv
    have hs := sunsB_at (askedB_true hv.1).1
    have hsort := fun k hk h0 => (hs.2 k hk).2.2 h0
    have hday : ∀ d : Nat, dayW F n area x y (d + 1) = allW F area x y (cntS F d n) := by
      intro d
      induction d with
      | zero =>
        have c := cntS_spec (n := n) hsort 0
        have := afterW_all (F := F) (n := n) (area := area) (x := x) (y := y) (a := 0) (b := 0) (m := 0) (m' := cntS F 0 n) (Nat.zero_le _) (fun i h => by omega) (fun i _ h => ⟨(hs.2 i (by have := cntS_le F 0 n; omega)).1.1, c.1 i h⟩) c.2 n (Nat.le_refl _)
        simp only [dayW]
        have e : (((0 : Nat) : Int)) = 0 := rfl
        rw [e]
        have e2 : allW F area x y 0 = x := rfl
        rw [e2] at this
        rw [this]
        have hl := cntS_le F 0 n
        congr 1
        split <;> (try split) <;> omega
      | succ d ih =>
        have c0 := cntS_spec (n := n) hsort (d : Int)
        have c := cntS_spec (n := n) hsort ((d + 1 : Nat) : Int)
        have hl := cntS_le F ((d + 1 : Nat) : Int) n
        have hle : cntS F d n ≤ cntS F ((d + 1 : Nat) : Int) n := by
          rcases Nat.lt_or_ge (cntS F ((d + 1 : Nat) : Int) n) (cntS F d n) with h | h
          · have a := c0.1 _ h
            have hl0 := cntS_le F d n
            have b := c.2 _ (Nat.le_refl _) (by omega); omega
          · exact h
        have := afterW_all (F := F) (n := n) (area := area) (x := x) (y := y) (a := ((d + 1 : Nat) : Int)) (b := ((d + 1 : Nat) : Int)) (m := cntS F d n) (m' := cntS F ((d + 1 : Nat) : Int) n) hle
          (fun i h => by have := c0.1 i h; omega) (fun i h1 h2 => by have := c.1 i h2; have := c0.2 i h1 (by omega); omega) c.2 n (Nat.le_refl _)
        rw [dayW, ih, this]
        congr 1
        split <;> (try split) <;> omega
    have hspan : ∀ t : Int, afterW F area x y 0 t n = allW F area x y (cntS F t n) := by
      intro t
      have c := cntS_spec (n := n) hsort t
      have hl := cntS_le F t n
      have := afterW_all (F := F) (n := n) (area := area) (x := x) (y := y) (a := 0) (b := t) (m := 0) (m' := cntS F t n) (Nat.zero_le _) (fun i h => by omega) (fun i _ h => ⟨(hs.2 i (by omega)).1.1, c.1 i h⟩) c.2 n (Nat.le_refl _)
      have e2 : allW F area x y 0 = x := rfl
      rw [e2] at this
      rw [this]
      congr 1
      split <;> (try split) <;> omega
    have hc : ∀ i, i < n → cntS F (F i 0) n = i + 1 := fun i hi => cntS_eq hsort (by omega) (fun j hj => by
      by_cases e : j = i
      · subst e; omega
      · have := days_lt hsort i j (by omega) hi; omega) (fun j h1 h2 => days_lt hsort j i (by omega) h2)
    by_cases h0 : strongB (afterW F area x y 0 0 n) y num den = true
    · rw [if_pos h0, firstB_eq (i := 0) (by unfold maxDays; omega) (by rw [hday]; rw [hspan] at h0; exact h0) (fun j hj => by omega)]
      rfl
    · rw [if_neg h0]
      have h0' : strongB (allW F area x y (cntS F 0 n)) y num den = false := by rw [hspan] at h0; simpa using h0
      cases hf : firstB (fun i => strongB (afterW F area x y 0 (F i 0) n) y num den) n with
      | some i =>
        obtain ⟨hi, hp, hj⟩ := firstB_some hf
        have hd := (hs.2 i hi).1
        have key : ∀ d : Nat, (d : Int) < F i 0 → strongB (allW F area x y (cntS F d n)) y num den = false := by
          intro d hdi
          have c := cntS_spec (n := n) hsort (d : Int)
          have hle : cntS F d n ≤ i := by
            rcases Nat.lt_or_ge i (cntS F d n) with h | h
            · have := c.1 i h; omega
            · exact h
          rcases Nat.eq_zero_or_pos (cntS F d n) with hz | hz
          · have e : cntS F 0 n = 0 := cntS_eq hsort (Nat.zero_le _) (fun j h => by omega) (fun j h1 h2 => by have := c.2 j (by omega) h2; omega)
            rw [e] at h0'; rw [hz]; exact h0'
          · have := hj (cntS F d n - 1) (by omega)
            rw [hspan, hc _ (by omega), Nat.sub_add_cancel hz] at this
            exact this
        rw [firstB_eq (i := (F i 0).toNat) (by unfold maxDays; omega) (by
          rw [hday, show (((F i 0).toNat : Nat) : Int) = F i 0 by omega, hc i hi]
          rw [hspan, hc i hi] at hp
          exact hp) (fun j hj' => by rw [hday]; exact key j (by omega))]
        simp only [strongOnU, strongOnV, Prod.mk.injEq, and_true]
        omega
      | none =>
        have hj := firstB_none hf
        rw [firstB_eq_none (fun d _ => by
          rw [hday]
          have c := cntS_spec (n := n) hsort (d : Int)
          have hl := cntS_le F d n
          rcases Nat.eq_zero_or_pos (cntS F d n) with hz | hz
          · have e : cntS F 0 n = 0 := cntS_eq hsort (Nat.zero_le _) (fun j h => by omega) (fun j h1 h2 => by have := c.2 j (by omega) h2; omega)
            rw [e] at h0'; rw [hz]; exact h0'
          · have := hj (cntS F d n - 1) (by omega)
            rw [hspan, hc _ (by omega), Nat.sub_add_cancel hz] at this
            exact this)]
        rfl
  · rw [if_neg hv, if_neg hv]
end Go.Proofs.Ytajmebclmippeaa
