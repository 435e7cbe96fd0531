/-
  Plain laws on suns: a sun that is put. Conditions: none; no program is named here.
-/
import Derived.Test.YtajmebclmippeaaMath
namespace Go.Proofs.Ytajmebclmippeaa

/-- Where a sun of day t comes to stand. -/
def putAt (F : Nat → Nat → Int) (n : Nat) (t : Int) : Nat := (firstB (fun i => !decide (F i 0 < t)) n).getD n
/-- How many suns of that day there are: none or one. -/
def putE (F : Nat → Nat → Int) (n : Nat) (t : Int) : Nat := if putAt F n t < n ∧ F (putAt F n t) 0 = t then 1 else 0
/-- The suns without that day. -/
def cutS (F : Nat → Nat → Int) (n : Nat) (t : Int) : Nat → Nat → Int := fun r j => if r < putAt F n t then F r j else F (r + putE F n t) j
/-- The suns with the new one. -/
def putS (F : Nat → Nat → Int) (n : Nat) (t x : Int) : Nat → Nat → Int := fun r j =>
  if r < putAt F n t then F r j else if r = putAt F n t then (if j = 0 then t else x) else F (r - 1 + putE F n t) j
def putL (F : Nat → Nat → Int) (n : Nat) (t : Int) : Nat := n + 1 - putE F n t
def putSunOk (F : Nat → Nat → Int) (n : Nat) (t x : Int) : Bool := sunsB F n && sunsB (putS F n t x) (putL F n t)
def putSunN (F : Nat → Nat → Int) (n : Nat) (t x : Int) : Nat := if putSunOk F n t x then putL F n t else 0

theorem suns_lt {F : Nat → Nat → Int} {n : Nat} (h : sunsB F n = true) : ∀ j i, i < j → j < n → F i 0 < F j 0 := by
  have hs := (sunsB_at h).2
  intro j
  induction j with
  | zero => intro i h; omega
  | succ m ih =>
    intro i hi hj
    have h1 := (hs (m + 1) hj).2.2 (by omega)
    simp only [Nat.add_sub_cancel] at h1
    by_cases him : i = m
    · subst him; exact h1
    · have := ih i (by omega) (by omega); omega
theorem putAt_le (F : Nat → Nat → Int) (n : Nat) (t : Int) : putAt F n t ≤ n := by
  unfold putAt
  cases h : firstB (fun i => !decide (F i 0 < t)) n with
  | none => simp
  | some i => have := (firstB_some h).1; simp; omega
theorem putE_le (F : Nat → Nat → Int) (n : Nat) (t : Int) : putE F n t ≤ 1 ∧ putE F n t ≤ n - putAt F n t := by
  unfold putE; split <;> omega
theorem putAt_lt {F : Nat → Nat → Int} {n : Nat} {t : Int} {i : Nat} (h : i < putAt F n t) : F i 0 < t := by
  unfold putAt at h
  cases hf : firstB (fun i => !decide (F i 0 < t)) n with
  | none =>
    rw [hf] at h
    have := firstB_none hf i (by simpa using h)
    simpa using this
  | some k =>
    rw [hf] at h
    have := (firstB_some hf).2.2 i (by simpa using h)
    simpa using this
theorem putAt_ge {F : Nat → Nat → Int} {n : Nat} {t : Int} (h : putAt F n t < n) : t ≤ F (putAt F n t) 0 := by
  unfold putAt at h ⊢
  cases hf : firstB (fun i => !decide (F i 0 < t)) n with
  | none => rw [hf] at h; simp at h
  | some k =>
    have := (firstB_some hf).2.1
    simpa using this
/-- The place is found by these two. -/
theorem putAt_eq {F : Nat → Nat → Int} {n : Nat} {t : Int} {i : Nat} (hi : i ≤ n) (h1 : ∀ j, j < i → F j 0 < t) (h2 : i < n → t ≤ F i 0) : putAt F n t = i := by
  have h3 := putAt_le F n t
  rcases Nat.lt_trichotomy (putAt F n t) i with h | h | h
  · have a := h1 _ h; have b := putAt_ge (F := F) (n := n) (t := t) (by omega); omega
  · exact h
  · have a := putAt_lt h; have b := h2 (by omega); omega
/-- A sun of that day, if there is one. -/
theorem put_some {F : Nat → Nat → Int} {n : Nat} {t : Int} {i : Nat} (h : sunsB F n = true) (hi : i < n) (e : F i 0 = t) : putAt F n t = i ∧ putE F n t = 1 ∧ ∀ j, j < n → j ≠ i → F j 0 ≠ t := by
  have h1 : putAt F n t = i := putAt_eq (by omega) (fun j hj => by have := suns_lt h i j hj hi; omega) (fun _ => by omega)
  refine ⟨h1, by unfold putE; rw [h1, if_pos ⟨hi, e⟩], fun j hj hne => ?_⟩
  rcases Nat.lt_or_gt_of_ne hne with a | a
  · have := suns_lt h i j a hi; omega
  · have := suns_lt h j i a hj; omega
theorem put_none {F : Nat → Nat → Int} {n : Nat} {t : Int} (h : ∀ j, j < n → F j 0 ≠ t) : putE F n t = 0 := by
  unfold putE
  rw [if_neg]
  rintro ⟨a, b⟩
  exact h _ a b
/-- Without that day the place is the same one, and none is of that day. -/
theorem cut_at {F : Nat → Nat → Int} {n : Nat} {t : Int} (h : sunsB F n = true) : (∀ j, j < putAt F n t → cutS F n t j 0 < t) ∧ (putAt F n t < n - putE F n t → t ≤ cutS F n t (putAt F n t) 0) := by
  refine ⟨fun j hj => ?_, fun hlt => ?_⟩
  · simp only [cutS]; rw [if_pos hj]; exact putAt_lt hj
  · simp only [cutS]
    rw [if_neg (Nat.lt_irrefl _)]
    have h1 := putE_le F n t
    have h2 := putAt_ge (F := F) (n := n) (t := t) (by omega)
    rcases Nat.eq_zero_or_pos (putE F n t) with e | e
    · rw [e]; exact h2
    · have := suns_lt h (putAt F n t + putE F n t) (putAt F n t) (by omega) (by omega); omega
/-- What is put stands there. -/
theorem put_row (F : Nat → Nat → Int) (n : Nat) (t x : Int) : putS F n t x (putAt F n t) 0 = t ∧ putS F n t x (putAt F n t) 1 = x ∧ putAt F n t < putL F n t := by
  have h1 := putE_le F n t
  have h2 := putAt_le F n t
  refine ⟨by simp [putS], by simp [putS], by unfold putL; omega⟩
/-- Insertion into the cut suns. -/
theorem put_ins (F : Nat → Nat → Int) (n : Nat) (t x : Int) (r j : Nat) : putS F n t x r j = if r < putAt F n t then cutS F n t r j else if r = putAt F n t then (if j = 0 then t else x) else cutS F n t (r - 1) j := by
  simp only [putS, cutS]
  split
  · rfl
  · split
    · rfl
    · rw [if_neg (by omega)]
end Go.Proofs.Ytajmebclmippeaa
