/-
  Plain functions on workers that the contracts of this seat name. Conditions: none; no program is named here.
-/
import Derived.Test.YtmblkjnpibcmoaaMath
import Derived.Test.YtmblkjnpibcmoaaBase
namespace Go.Proofs.Ytmblkjnpibcmoaa
open Go.RowKit

/-- The cells of workers: id, gang, rakes, cart, free. -/
def wkC (F : Nat → Nat → Int) (C : Nat → Bool) : Nat → Nat → Value := fun i j =>
  match j with
  | 0 => .int .i64 (F i 0)
  | 1 => .int .i64 (F i 1)
  | 2 => .int .i64 (F i 2)
  | 3 => .bool (C i)
  | _ => .int .i64 (F i 4)
def workerB (id g r f : Int) : Bool := inB id 1 99 && inB g 0 5 && inB r 1 50 && inB f 0 6
def workAtB (F : Nat → Nat → Int) (k : Nat) : Bool := workerB (F k 0) (F k 1) (F k 2) (F k 4) && (decide (k = 0) || decide (F (k - 1) 0 < F k 0))
def worksB (F : Nat → Nat → Int) (n : Nat) : Bool := allB (workAtB F) n && decide ((n : Int) ≤ 12)
theorem workerB_at {id g r f : Int} (h : workerB id g r f = true) : (1 ≤ id ∧ id ≤ 99) ∧ (0 ≤ g ∧ g ≤ 5) ∧ (1 ≤ r ∧ r ≤ 50) ∧ 0 ≤ f ∧ f ≤ 6 := by
  simp only [workerB, Bool.and_eq_true] at h
  exact ⟨inB_true h.1.1.1, inB_true h.1.1.2, inB_true h.1.2, inB_true h.2⟩
theorem worksB_at {F : Nat → Nat → Int} {n : Nat} (h : worksB F n = true) : n ≤ 12 ∧ ∀ k, k < n → workerB (F k 0) (F k 1) (F k 2) (F k 4) = true ∧ (0 < k → F (k - 1) 0 < F k 0) := by
  simp only [worksB, Bool.and_eq_true, decide_eq_true_eq] at h
  refine ⟨by omega, fun k hk => ?_⟩
  have h1 := allB_at h.1 k hk
  simp only [workAtB, Bool.and_eq_true, Bool.or_eq_true, decide_eq_true_eq] at h1
  exact ⟨h1.1, fun h0 => by omega⟩
theorem work_at {F : Nat → Nat → Int} {n k : Nat} (h : worksB F n = true) (hk : k < n) : (1 ≤ F k 0 ∧ F k 0 ≤ 99) ∧ (0 ≤ F k 1 ∧ F k 1 ≤ 5) ∧ (1 ≤ F k 2 ∧ F k 2 ≤ 50) ∧ 0 ≤ F k 4 ∧ F k 4 ≤ 6 := workerB_at ((worksB_at h).2 k hk).1
/-- Worker i rakes in the gang g on the weekday d, not the one named o. -/
def inG (F : Nat → Nat → Int) (g d o : Int) (i : Nat) : Bool := (F i 1 == g) && !(F i 4 == d) && !(F i 0 == o)
def rkN (F : Nat → Nat → Int) (g d o : Int) : Nat → Int
  | 0 => 0
  | k + 1 => if inG F g d o k then rkN F g d o k + 1 else rkN F g d o k
def rkS (F : Nat → Nat → Int) (g d o : Int) : Nat → Int
  | 0 => 0
  | k + 1 => if inG F g d o k then rkS F g d o k + F k 2 else rkS F g d o k
def rkC (F : Nat → Nat → Int) (C : Nat → Bool) (g d o : Int) : Nat → Bool
  | 0 => false
  | k + 1 => if inG F g d o k then rkC F C g d o k || C k else rkC F C g d o k
theorem rk_bd {F : Nat → Nat → Int} {n : Nat} (h : worksB F n = true) (g d o : Int) : ∀ k, k ≤ n → (0 ≤ rkN F g d o k ∧ rkN F g d o k ≤ k) ∧ 0 ≤ rkS F g d o k ∧ rkS F g d o k ≤ k * 50 := by
  intro k
  induction k with
  | zero => intro _; simp [rkN, rkS]
  | succ k ih =>
    intro hk
    have := ih (by omega)
    have := work_at h (show k < n by omega)
    simp only [rkN, rkS]
    split <;> omega
def worksG (F : Nat → Nat → Int) (C : Nat → Bool) (n : Nat) (g d o : Int) : Bool := !decide (rkN F g d o n < 2) && rkC F C g d o n
def rakedV (F : Nat → Nat → Int) (C : Nat → Bool) (n : Nat) (g d o : Int) : Int := if worksG F C n g d o then rkS F g d o n else 0
theorem rakedV_bd {F : Nat → Nat → Int} {n : Nat} (C : Nat → Bool) (h : worksB F n = true) (g d o : Int) : 0 ≤ rakedV F C n g d o ∧ rakedV F C n g d o ≤ 600 := by
  have := rk_bd h g d o n (Nat.le_refl _)
  have := (worksB_at h).1
  unfold rakedV
  split <;> omega
def dayG (F : Nat → Nat → Int) (C : Nat → Bool) (n : Nat) (g : Int) (d : Nat) : Int := rakedV F C n g d 0
def weekV (F : Nat → Nat → Int) (C : Nat → Bool) (n : Nat) (g : Int) : Int := sumI (dayG F C n g) 7
theorem week_bd {F : Nat → Nat → Int} {n : Nat} (C : Nat → Bool) (h : worksB F n = true) (g : Int) : ∀ k, k ≤ 7 → 0 ≤ sumI (dayG F C n g) k ∧ sumI (dayG F C n g) k ≤ 4200 := fun k hk => by
  have := sumI_bound (f := dayG F C n g) (b := 600) (n := 7) (fun i _ => rakedV_bd C h g i 0) k hk
  omega
/-- How many of the first k workers are in the gang j. -/
def sizeV (F : Nat → Nat → Int) (j : Nat) : Nat → Int
  | 0 => 0
  | k + 1 => if F k 1 = j then sizeV F j k + 1 else sizeV F j k
theorem sizeV_bd (F : Nat → Nat → Int) (j : Nat) : ∀ k, 0 ≤ sizeV F j k ∧ sizeV F j k ≤ k := by
  intro k
  induction k with
  | zero => simp [sizeV]
  | succ k ih => simp only [sizeV]; split <;> omega
/-- The gangs 1 to g - 1 that have workers, each by what it rakes in a week. -/
def gangsL (F : Nat → Nat → Int) (C : Nat → Bool) (n : Nat) : Nat → List Int
  | 0 => []
  | g + 1 => if 0 < g ∧ 0 < sizeV F g n then gangsL F C n g ++ [weekV F C n g] else gangsL F C n g
theorem gangsL_bd {F : Nat → Nat → Int} {n : Nat} (C : Nat → Bool) (h : worksB F n = true) : ∀ g, (gangsL F C n g).length ≤ g ∧ ∀ x ∈ gangsL F C n g, 0 ≤ x ∧ x ≤ 4200 := by
  intro g
  induction g with
  | zero => simp [gangsL]
  | succ g ih =>
    simp only [gangsL]
    split
    · refine ⟨by simp; omega, fun x hx => ?_⟩
      rcases List.mem_append.1 hx with hx | hx
      · exact ih.2 x hx
      · simp at hx; subst hx; exact week_bd C h g 7 (Nat.le_refl _)
    · exact ⟨by omega, ih.2⟩
def lowF (m x : Int) : Int := if m < 0 ∨ x < m then x else m
def highF (m x : Int) : Int := if x < m then m else x
def lowL (l : List Int) : Int := l.foldl lowF (-1)
def highL (l : List Int) : Int := l.foldl highF (-1)
theorem lowL_snoc (l : List Int) (x : Int) : lowL (l ++ [x]) = lowF (lowL l) x := by simp [lowL]
theorem highL_snoc (l : List Int) (x : Int) : highL (l ++ [x]) = highF (highL l) x := by simp [highL]
/-- The same from the first of the list on. -/
def lowN (L : Nat → Int) : Nat → Int
  | 0 => L 0
  | k + 1 => min (lowN L k) (L (k + 1))
def highN (L : Nat → Int) : Nat → Int
  | 0 => L 0
  | k + 1 => max (highN L k) (L (k + 1))
theorem fold_take (l : List Int) (h : ∀ x ∈ l, 0 ≤ x) : ∀ k, k < l.length → lowL (l.take (k + 1)) = lowN (fun i => l.getD i 0) k ∧ highL (l.take (k + 1)) = highN (fun i => l.getD i 0) k ∧ 0 ≤ lowN (fun i => l.getD i 0) k ∧ 0 ≤ highN (fun i => l.getD i 0) k := by
  intro k
  induction k with
  | zero =>
    intro hk
    obtain ⟨a, t, rfl⟩ : ∃ a t, l = a :: t := by cases l with | nil => simp at hk | cons a t => exact ⟨a, t, rfl⟩
    have := h a (by simp)
    have e1 : ¬ a < -1 := by omega
    simp [lowL, highL, lowF, highF, lowN, highN, e1, this]
  | succ k ih =>
    intro hk
    obtain ⟨i1, i2, i3, i4⟩ := ih (by omega)
    have hx : l.take (k + 1 + 1) = l.take (k + 1) ++ [l.getD (k + 1) 0] := by
      rw [List.take_succ_eq_append_getElem hk]
      simp [List.getD, List.getElem?_eq_getElem hk]
    have h0 : 0 ≤ l.getD (k + 1) 0 := by
      rw [List.getD, List.getElem?_eq_getElem hk]
      exact h _ (List.getElem_mem hk)
    rw [hx, lowL_snoc, highL_snoc, i1, i2]
    simp only [lowN, highN]
    generalize l.getD (k + 1) 0 = x at *
    refine ⟨?_, ?_, by omega, by omega⟩
    · unfold lowF; split <;> omega
    · unfold highF; split <;> omega
theorem fold_all (l : List Int) (h : ∀ x ∈ l, 0 ≤ x) (hl : 0 < l.length) : lowL l = lowN (fun i => l.getD i 0) (l.length - 1) ∧ highL l = highN (fun i => l.getD i 0) (l.length - 1) := by
  have := fold_take l h (l.length - 1) (by omega)
  rw [show l.length - 1 + 1 = l.length by omega, List.take_length] at this
  exact ⟨this.1, this.2.1⟩
def evenR (F : Nat → Nat → Int) (C : Nat → Bool) (n : Nat) : Int × Bool :=
  if worksB F n then (highL (gangsL F C n 6) - lowL (gangsL F C n 6), true) else (0, false)
end Go.Proofs.Ytmblkjnpibcmoaa
