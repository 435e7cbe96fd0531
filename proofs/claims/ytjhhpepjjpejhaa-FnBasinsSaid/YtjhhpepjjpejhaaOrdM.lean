/-
  The order of basins by depth: the plain order, one basin put into its place after the other. Conditions: none.
-/
import Derived.Test.YtjhhpepjjpejhaaSerC
namespace Go.Proofs.Ytjhhpepjjpejhaa
open Go.RowKit

/-- The basin i stands ahead of the basin b. -/
def aheadB (F : Nat → Nat → Int) (i b : Nat) : Bool := decide ((F b 1 + F b 2) * F i 0 < (F i 1 + F i 2) * F b 0)
/-- The place of the basin i among the first k of the order f. -/
def placeN (F : Nat → Nat → Int) (f : Nat → Nat) (i : Nat) : Nat → Nat
  | 0 => 0
  | k + 1 => if aheadB F i (f k) then placeN F f i k else k + 1
def insAt (f : Nat → Nat) (k x : Nat) : Nat → Nat := fun j => if j < k then f j else if j = k then x else f (j - 1)
/-- The order of the first m basins. -/
def ordN (F : Nat → Nat → Int) : Nat → Nat → Nat
  | 0 => fun j => j
  | m + 1 => insAt (ordN F m) (placeN F (ordN F m) m m) m
theorem placeN_le (F : Nat → Nat → Int) (f : Nat → Nat) (i : Nat) : ∀ k, placeN F f i k ≤ k := by
  intro k
  induction k with
  | zero => exact Nat.le_refl _
  | succ k ih => simp only [placeN]; split <;> omega
theorem ordN_lt (F : Nat → Nat → Int) : ∀ m j, j < m → ordN F m j < m := by
  intro m
  induction m with
  | zero => intro j h; omega
  | succ m ih =>
    intro j hj
    have hp := placeN_le F (ordN F m) m m
    simp only [ordN, insAt]
    split
    · have := ih j (by omega); omega
    · split
      · omega
      · have := ih (j - 1) (by omega); omega
/-- One step of the basin x ahead of the one before it. -/
theorem insAt_step (f : Nat → Nat) (k x : Nat) (j : Nat) : insAt f k x j = if j = k then x else if j = k + 1 then f k else insAt f (k + 1) x j := by
  unfold insAt
  by_cases h1 : j < k
  · simp [h1, show j ≠ k by omega, show j ≠ k + 1 by omega, show j < k + 1 by omega]
  · by_cases h2 : j = k
    · simp [h2]
    · by_cases h3 : j = k + 1
      · subst h3; simp [show ¬ k + 1 < k by omega]
      · simp [h1, h2, h3, show ¬ j < k + 1 by omega]
def cmpV (x y : Int) : Int := if x < y then -1 else if y < x then 1 else 0
theorem cmpV_neg (x y : Int) : decide (cmpV x y < 0) = decide (x < y) := by
  unfold cmpV
  by_cases h : x < y
  · simp [h]
  · by_cases h2 : y < x <;> simp [h, h2]
/-- The order, and whether there is one. -/
def ordLen (F : Nat → Nat → Int) (n : Nat) : Nat := if seriesB F n then n else 0
def ordI (F : Nat → Nat → Int) (n : Nat) : Nat → Nat → Int := fun i _ => (ordN F n i : Int)
end Go.Proofs.Ytjhhpepjjpejhaa
