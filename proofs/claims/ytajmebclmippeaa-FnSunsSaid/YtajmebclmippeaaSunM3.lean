/-
  Plain laws on suns for the law FnSuns: a day's loss, more area, the smallest area. Conditions: none; no program is named here.
-/
import Derived.Test.YtajmebclmippeaaSunM2
namespace Go.Proofs.Ytajmebclmippeaa

theorem afterW_day {F : Nat → Nat → Int} {n : Nat} {area x y d : Int} (hs : sunsB F n = true) :
    ∀ k, k ≤ n → afterW F area x y d d k = match firstB (fun i => F i 0 == d) k with | some i => x - lossV x y area (F i 1) | none => x := by
  intro k
  induction k with
  | zero => intro _; simp [afterW, firstB]
  | succ k ih =>
    intro hk
    have ih := ih (by omega)
    have hsort := fun j hj h0 => ((sunsB_at hs).2 j hj).2.2 h0
    simp only [afterW]
    cases hf : firstB (fun i => F i 0 == d) k with
    | some i =>
      obtain ⟨hi, hp, hj⟩ := firstB_some hf
      have hp : F i 0 = d := by simpa using hp
      have hlt := days_lt hsort k i hi (by omega)
      have e : inB (F k 0) d d = false := by simp [inB]; omega
      have hf2 : firstB (fun i => F i 0 == d) (k + 1) = some i := firstB_eq (by omega) (by simpa using hp) hj
      rw [e, hf2]
      rw [hf] at ih
      simpa using ih
    | none =>
      rw [hf] at ih
      by_cases hd : F k 0 = d
      · rw [firstB_at hf (by simpa using hd) (by omega : k < k + 1), inB_of (by omega) (by omega)]
        simp only [if_true]
        rw [ih]
      · have e : inB (F k 0) d d = false := by simp [inB]; omega
        rw [e, firstB_succ_none hf (by simpa using hd)]
        simpa using ih
theorem lossV_zero {x y area : Int} (hx : 0 ≤ x) : lossV x y area 0 = 0 := by
  unfold lossV
  split
  · rfl
  · simp; omega
theorem loss_true {F : Nat → Nat → Int} {n : Nat} {x y a d : Int} (h : (lossOnR F n x y a d).2 = true) : askedB F n x y a = true ∧ inB d 0 4000 = true ∧ (lossOnR F n x y a d).1 = lossV x y a (onV F d n) := by
  unfold lossOnR at h ⊢
  by_cases hc : (askedB F n x y a && inB d 0 4000) = true
  · rw [if_pos hc]
    simp only [Bool.and_eq_true] at hc
    exact ⟨hc.1, hc.2, rfl⟩
  · rw [if_neg hc] at h; cases h
theorem span_one {d : Int} (h : inB d 0 4000 = true) : spanB d d = true := by simp [spanB, h]
theorem loss_after {F : Nat → Nat → Int} {n : Nat} {x y a d : Int} (h : (lossOnR F n x y a d).2 = true) : afterSunR F n x y a d d = (x - (lossOnR F n x y a d).1, y, true) := by
  obtain ⟨h1, h2, h3⟩ := loss_true h
  have hb := brineB_true (askedB_true h1).2.1
  unfold afterSunR
  rw [if_pos (by simp [h1, span_one h2]), h3, afterW_day (askedB_true h1).1 n (Nat.le_refl _)]
  unfold onV
  cases firstB (fun i => F i 0 == d) n with
  | some i => rfl
  | none => simp [lossV_zero hb.1.1]
theorem loss_bds {F : Nat → Nat → Int} {n : Nat} {x y a d : Int} (h : (lossOnR F n x y a d).2 = true) : 0 ≤ x ∧ x ≤ 1000000 ∧ 0 ≤ (lossOnR F n x y a d).1 ∧ (lossOnR F n x y a d).1 ≤ x := by
  obtain ⟨h1, h2, h3⟩ := loss_true h
  obtain ⟨hs, hb, hp, a1, a2⟩ := askedB_true h1
  have b := brineB_true hb
  have r := onV_sun (day := d) hs
  have l := lossV_bd hb a1 a2 r.1 r.2
  rw [h3]
  omega
theorem loss_more {F : Nat → Nat → Int} {n : Nat} {x y a d : Int} (h : (lossOnR F n x y a d).2 = true) (ha : a < 100000) : ∃ l, lossOnR F n x y (a + 1) d = (l, true) ∧ (lossOnR F n x y a d).1 ≤ l := by
  obtain ⟨h1, h2, h3⟩ := loss_true h
  obtain ⟨hs, hb, hp, a1, a2⟩ := askedB_true h1
  refine ⟨lossV x y (a + 1) (onV F d n), ?_, ?_⟩
  · unfold lossOnR
    rw [if_pos (by simp [askedB, hs, hb, hp, h2, inB_of (show 1 ≤ a + 1 by omega) (show a + 1 ≤ 100000 by omega)])]
  · rw [h3]
    exact lossV_area hb (onV_sun hs).1 (by omega)
theorem small_true {F : Nat → Nat → Int} {n : Nat} {x y p q g : Int} (h : (smallR F n x y p q g).2 = true) :
    ∃ i : Nat, i < maxAreas ∧ (smallR F n x y p q g).1 = i + 1 ∧ sunsB F n = true ∧ brineB x y = true ∧ 0 < x + y ∧ spanB p q = true ∧ afterW F ((i : Int) + 1) x y p q n ≤ g ∧ ∀ j : Nat, j < i → g < afterW F ((j : Int) + 1) x y p q n := by
  unfold smallR at h ⊢
  by_cases hc : (askedB F n x y 1 && spanB p q && decide (0 ≤ g)) = true
  · rw [if_pos hc] at h ⊢
    simp only [Bool.and_eq_true] at hc
    obtain ⟨hs, hb, hp, -, -⟩ := askedB_true hc.1.1
    cases hf : firstB (fun i : Nat => decide (afterW F ((i : Int) + 1) x y p q n ≤ g)) maxAreas with
    | none => rw [hf] at h; cases h
    | some i =>
      obtain ⟨hi, hpi, hj⟩ := firstB_some hf
      exact ⟨i, hi, rfl, hs, hb, hp, hc.1.2, by simpa using hpi, fun j hj' => by have := hj j hj'; simpa using this⟩
  · rw [if_neg hc] at h; cases h
theorem after_of {F : Nat → Nat → Int} {n : Nat} {x y p q a : Int} (hs : sunsB F n = true) (hb : brineB x y = true) (hp : 0 < x + y) (hq : spanB p q = true) (h1 : 1 ≤ a) (h2 : a ≤ 100000) : afterSunR F n x y a p q = (afterW F a x y p q n, y, true) := by
  unfold afterSunR
  rw [if_pos (by simp [askedB, hs, hb, hp, hq, inB_of h1 h2])]
theorem small_ok {F : Nat → Nat → Int} {n : Nat} {x y p q g : Int} (h : (smallR F n x y p q g).2 = true) : ∃ s, afterSunR F n x y (smallR F n x y p q g).1 p q = (s, y, true) ∧ s ≤ g := by
  obtain ⟨i, hi, e, hs, hb, hp, hq, hg, -⟩ := small_true h
  rw [e]
  unfold maxAreas at hi
  exact ⟨_, after_of hs hb hp hq (by omega) (by omega), hg⟩
theorem small_less {F : Nat → Nat → Int} {n : Nat} {x y p q g : Int} (h : (smallR F n x y p q g).2 = true) (h1 : 1 < (smallR F n x y p q g).1) : ∃ s, afterSunR F n x y ((smallR F n x y p q g).1 - 1) p q = (s, y, true) ∧ g < s := by
  obtain ⟨i, hi, e, hs, hb, hp, hq, -, hj⟩ := small_true h
  rw [e] at h1 ⊢
  unfold maxAreas at hi
  have e2 : (i : Int) + 1 - 1 = ((i - 1 : Nat) : Int) + 1 := by omega
  rw [e2]
  exact ⟨_, after_of hs hb hp hq (by omega) (by omega), hj (i - 1) (by omega)⟩
theorem small_bd {F : Nat → Nat → Int} {n : Nat} {x y p q g : Int} (h : (smallR F n x y p q g).2 = true) : 1 ≤ (smallR F n x y p q g).1 ∧ (smallR F n x y p q g).1 ≤ 100000 := by
  obtain ⟨i, hi, e, -⟩ := small_true h
  unfold maxAreas at hi
  omega
end Go.Proofs.Ytajmebclmippeaa
