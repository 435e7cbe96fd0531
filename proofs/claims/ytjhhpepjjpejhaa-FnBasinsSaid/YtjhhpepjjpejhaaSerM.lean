/-
  Plain functions on basins that the contracts of this seat name. Conditions: none; no program is named here.
-/
import Derived.Test.YtjhhpepjjpejhaaMath
namespace Go.Proofs.Ytjhhpepjjpejhaa
open Go.RowKit

/-- A basin: area, water, salt. -/
def basinB (F : Nat → Nat → Int) (k : Nat) : Bool := inB (F k 0) 1 100000 && brineB (F k 1) (F k 2)
def seriesB (F : Nat → Nat → Int) (n : Nat) : Bool := inB n 1 8 && allB (basinB F) n
theorem seriesB_at {F : Nat → Nat → Int} {n : Nat} (h : seriesB F n = true) : (1 ≤ n ∧ n ≤ 8) ∧ ∀ k, k < n → (1 ≤ F k 0 ∧ F k 0 ≤ 100000) ∧ brineB (F k 1) (F k 2) = true := by
  simp only [seriesB, Bool.and_eq_true] at h
  have h1 := inB_true h.1
  refine ⟨by omega, fun k hk => ?_⟩
  have h2 := allB_at h.2 k hk
  simp only [basinB, Bool.and_eq_true] at h2
  exact ⟨inB_true h2.1, h2.2⟩
theorem basin_at {F : Nat → Nat → Int} {n k : Nat} (h : seriesB F n = true) (hk : k < n) : (1 ≤ F k 0 ∧ F k 0 ≤ 100000) ∧ (0 ≤ F k 1 ∧ F k 1 ≤ 1000000) ∧ 0 ≤ F k 2 ∧ F k 2 ≤ 1000000 := by
  have := (seriesB_at h).2 k hk
  have := brineB_true this.2
  omega
/-- The first of the strongest so far, or -1: as the reference goes. -/
def strongI (F : Nat → Nat → Int) : Nat → Int
  | 0 => -1
  | k + 1 => if 0 < F k 1 + F k 2 ∧ (strongI F k < 0 ∨ F (strongI F k).toNat 2 * F k 1 < F k 2 * F (strongI F k).toNat 1) then k else strongI F k
theorem strongI_bd (F : Nat → Nat → Int) (k : Nat) : -1 ≤ strongI F k ∧ strongI F k < k := by
  induction k with
  | zero => simp [strongI]
  | succ m ih => simp only [strongI]; split <;> omega
theorem strong_same (a b c d : Int) : (c * (a + b) < b * (d + c)) ↔ c * a < b * d := by
  rw [Int.mul_add, Int.mul_add, Int.mul_comm c b]; omega
def strongestR (F : Nat → Nat → Int) (n : Nat) : Int × Bool :=
  if seriesB F n then (if strongI F n < 0 then (0, false) else (strongI F n, true)) else (0, false)
/-- The last basin with a mass so far: water, salt. -/
def lastP (F : Nat → Nat → Int) : Nat → Int × Int
  | 0 => (0, 0)
  | k + 1 => if F k 1 + F k 2 = 0 then lastP F k else (F k 1, F k 2)
theorem lastP_bd {F : Nat → Nat → Int} {n : Nat} (h : seriesB F n = true) : ∀ k, k ≤ n → (0 ≤ (lastP F k).1 ∧ (lastP F k).1 ≤ 1000000) ∧ 0 ≤ (lastP F k).2 ∧ (lastP F k).2 ≤ 1000000 := by
  intro k
  induction k with
  | zero => simp [lastP]
  | succ m ih =>
    intro hk
    simp only [lastP]
    split
    · exact ih (by omega)
    · have := basin_at h (show m < n by omega); simp only; omega
def riseB (F : Nat → Nat → Int) (k : Nat) : Bool := decide (F k 1 + F k 2 = 0) || decide ((lastP F k).1 + (lastP F k).2 ≤ 0) || decide ((lastP F k).2 * F k 1 ≤ F k 2 * (lastP F k).1)
def risingR (F : Nat → Nat → Int) (n : Nat) : Bool × Bool := if seriesB F n then (allB (riseB F) n, true) else (false, false)
/-- What evaporates of a basin, and the basins behind. -/
def lossB (F : Nat → Nat → Int) (rate : Int) (i : Nat) : Int := lossV (F i 1) (F i 2) (F i 0) rate
def sunT (F : Nat → Nat → Int) (rate : Int) : Nat → Nat → Int := fun i j => if j = 1 then F i 1 - lossB F rate i else F i j
theorem lossB_bd {F : Nat → Nat → Int} {n k : Nat} {rate : Int} (h : seriesB F n = true) (hr : 0 ≤ rate) (hr2 : rate ≤ 20000) (hk : k < n) : 0 ≤ lossB F rate k ∧ lossB F rate k ≤ F k 1 := by
  have h1 := (seriesB_at h).2 k hk
  exact lossV_bd h1.2 h1.1.1 h1.1.2 hr hr2
theorem gone_bd {F : Nat → Nat → Int} {n : Nat} {rate : Int} (h : seriesB F n = true) (hr : 0 ≤ rate) (hr2 : rate ≤ 20000) : ∀ k, k ≤ n → 0 ≤ sumI (lossB F rate) k ∧ sumI (lossB F rate) k ≤ 8000000 := fun k hk => by
  have hs := seriesB_at h
  have := sumI_bound (f := lossB F rate) (b := 1000000) (n := n) (fun i hi => by
    have h1 := lossB_bd h hr hr2 hi
    have := basin_at h hi
    omega) k hk
  omega
def sunSerB (F : Nat → Nat → Int) (n : Nat) (rate : Int) : Bool := seriesB F n && inB rate 0 20000
def sunSerN (F : Nat → Nat → Int) (n : Nat) (rate : Int) : Nat := if sunSerB F n rate then n else 0
def sunSerG (F : Nat → Nat → Int) (n : Nat) (rate : Int) : Int := if sunSerB F n rate then sumI (lossB F rate) n else 0
end Go.Proofs.Ytjhhpepjjpejhaa
