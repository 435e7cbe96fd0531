/-
  Plain functions on numbers and tables that the contracts of this seat name. Conditions: none; no program is named here.
-/
import Derived.Test.YtcjjpkleipjibaaBase
namespace Go.Proofs.Ytcjjpkleipjibaa

def inB (n a b : Int) : Bool := decide (a ≤ n) && decide (n ≤ b)
theorem inB_true {n a b : Int} (h : inB n a b = true) : a ≤ n ∧ n ≤ b := by simpa [inB] using h
theorem inB_of {n a b : Int} (h1 : a ≤ n) (h2 : n ≤ b) : inB n a b = true := by simp [inB, h1, h2]

/-- p holds below k. -/
def allB (p : Nat → Bool) : Nat → Bool
  | 0 => true
  | k + 1 => allB p k && p k
theorem allB_false {p : Nat → Bool} {k n : Nat} (h : k < n) (he : p k = false) : allB p n = false := by
  induction n with
  | zero => omega
  | succ m ih =>
    simp only [allB]
    by_cases h' : k < m
    · rw [ih h']; rfl
    · obtain rfl : k = m := by omega
      rw [he]; simp
theorem allB_succ {p : Nat → Bool} {k : Nat} (h : allB p k = true) (he : p k = true) : allB p (k + 1) = true := by simp [allB, h, he]
theorem allB_at {p : Nat → Bool} {n : Nat} (h : allB p n = true) : ∀ k, k < n → p k = true := by
  intro k hk
  cases hp : p k with
  | true => rfl
  | false => rw [allB_false hk hp] at h; cases h
theorem allB_of {p : Nat → Bool} {n : Nat} (h : ∀ k, k < n → p k = true) : allB p n = true := by
  induction n with
  | zero => rfl
  | succ m ih => exact allB_succ (ih fun k hk => h k (by omega)) (h m (by omega))

def showB (F : Nat → Nat → Int) (k : Nat) : Bool := inB (F k 0) 0 4000 && inB (F k 1) 1 200000 && (decide (k = 0) || decide (F (k - 1) 0 < F k 0))
def showsB (F : Nat → Nat → Int) (n : Nat) : Bool := allB (showB F) n && decide ((n : Int) ≤ 20)
theorem showsB_false {F : Nat → Nat → Int} {k n : Nat} (h : k < n) (he : showB F k = false) : showsB F n = false := by simp [showsB, allB_false h he]

end Go.Proofs.Ytcjjpkleipjibaa
