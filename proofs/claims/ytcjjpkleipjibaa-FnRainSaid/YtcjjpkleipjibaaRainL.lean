/-
  Plain laws on rain for the law FnRain: a greater cover, the cover that is needed. Conditions: none; no program is named here.
-/
import Derived.Test.YtcjjpkleipjibaaRainM
namespace Go.Proofs.Ytcjjpkleipjibaa

theorem rain_true {F : Nat → Nat → Int} {n : Nat} {x y area cover day : Int} (h : (afterRainR F n x y area cover day).2.2 = true) :
    ∃ k, rainOnAreaR F n area day = (k, true) ∧ 0 ≤ k ∧ k ≤ 20000000 ∧ brineB x y = true ∧ (0 ≤ cover ∧ cover ≤ 100) ∧ brineB (x + comes k cover) y = true ∧ afterRainR F n x y area cover day = (x + comes k cover, y, true) := by
  have hk := rainOnAreaR_bd F n area day
  unfold afterRainR at h ⊢
  generalize rainOnAreaR F n area day = R at *
  obtain ⟨kg, ok⟩ := R
  split at h
  · rename_i hc
    have hc' := hc
    simp only [Bool.and_eq_true] at hc
    rw [if_pos hc']
    refine ⟨kg, ?_, hk.1, hk.2, ?_, ?_, ?_, rfl⟩
    · simp_all
    · simp_all
    · exact inB_true (by simp_all)
    · simp_all
  · cases h
theorem rain_facts {k c : Int} (hk : 0 ≤ k) (hk2 : k ≤ 20000000) (hc : 0 ≤ c) (hc2 : c ≤ 100) : 0 ≤ comes k c ∧ comes k c ≤ k ∧ (c = 0 → comes k c = k) ∧ (c = 100 → comes k c = 0) := by
  have h := comes_bd hk hk2 hc hc2
  refine ⟨h.2.1, h.2.2, fun e => ?_, fun e => ?_⟩
  · subst e; unfold comes; simp
  · subst e; unfold comes; omega
theorem rain_of {F : Nat → Nat → Int} {n : Nat} {x y area c day k : Int} (hr : rainOnAreaR F n area day = (k, true)) (hb : brineB x y = true) (h0 : 0 ≤ c) (h1 : c ≤ 100) (hw : brineB (x + comes k c) y = true) : afterRainR F n x y area c day = (x + comes k c, y, true) := by
  unfold afterRainR
  rw [hr]
  simp only [hb, hw, inB_of h0 h1, Bool.and_self, if_true]
theorem rain_more {F : Nat → Nat → Int} {n : Nat} {x y area cover day : Int} (h : (afterRainR F n x y area cover day).2.2 = true) (hc : cover < 100) :
    ∃ v, afterRainR F n x y area (cover + 1) day = (v, y, true) ∧ v ≤ (afterRainR F n x y area cover day).1 := by
  obtain ⟨k, hr, k0, k1, hb, hcc, hw, he⟩ := rain_true h
  have b := brineB_true hb
  have b2 := brineB_true hw
  have f1 := rain_facts k0 k1 hcc.1 hcc.2
  have f2 := rain_facts (c := cover + 1) k0 k1 (by omega) (by omega)
  have hm := comes_mono (c := cover) (d := cover + 1) k0 (by omega)
  refine ⟨x + comes k (cover + 1), rain_of hr hb (by omega) (by omega) ?_, by rw [he]; show _ ≤ x + comes k cover; omega⟩
  unfold brineB
  rw [inB_of (by omega) (by omega), inB_of b.2.1 b.2.2]; rfl
theorem cover_true {F : Nat → Nat → Int} {n : Nat} {x y area day limit : Int} (h : (coverR F n x y area day limit).2 = true) :
    ∃ c : Nat, c ≤ 100 ∧ (coverR F n x y area day limit).1 = c ∧ ((afterRainR F n x y area c day).2.2 && decide ((afterRainR F n x y area c day).1 ≤ limit)) = true ∧ ∀ j : Nat, j < c → ((afterRainR F n x y area j day).2.2 && decide ((afterRainR F n x y area j day).1 ≤ limit)) = false := by
  unfold coverR at h ⊢
  by_cases hc : ((rainOnAreaR F n area day).2 && brineB x y && decide (0 ≤ limit)) = true
  · rw [if_pos hc] at h ⊢
    simp only [Bool.and_eq_true] at hc
    cases hf : firstB (fun c : Nat => decide (x + comes (rainOnAreaR F n area day).1 c ≤ min limit 1000000)) maxCovers with
    | none => rw [hf] at h; cases h
    | some c =>
      obtain ⟨hi, hp, hj⟩ := firstB_some hf
      unfold maxCovers at hi
      refine ⟨c, by omega, rfl, ?_, fun j hjc => ?_⟩
      · rw [cover_step (by omega), hc.1.1, hc.1.2]; simpa using hp
      · rw [cover_step (by omega), hc.1.1, hc.1.2]; simpa using hj j hjc
  · rw [if_neg hc] at h; cases h
theorem cover_ok {F : Nat → Nat → Int} {n : Nat} {x y area day limit : Int} (h : (coverR F n x y area day limit).2 = true) :
    ∃ v s, afterRainR F n x y area (coverR F n x y area day limit).1 day = (v, s, true) ∧ v ≤ limit := by
  obtain ⟨c, -, e, hp, -⟩ := cover_true h
  rw [e]
  generalize afterRainR F n x y area c day = R at hp
  obtain ⟨v, s, T⟩ := R
  simp only [Bool.and_eq_true, decide_eq_true_eq] at hp
  exact ⟨v, s, by rw [hp.1], hp.2⟩
theorem cover_less {F : Nat → Nat → Int} {n : Nat} {x y area day limit : Int} (h : (coverR F n x y area day limit).2 = true) (h1 : 0 < (coverR F n x y area day limit).1) :
    ∃ v s T, afterRainR F n x y area ((coverR F n x y area day limit).1 - 1) day = (v, s, T) ∧ (T = true → limit < v) := by
  obtain ⟨c, -, e, -, hj⟩ := cover_true h
  rw [e] at h1 ⊢
  have hp := hj (c - 1) (by omega)
  rw [show ((c - 1 : Nat) : Int) = (c : Int) - 1 by omega] at hp
  generalize afterRainR F n x y area ((c : Int) - 1) day = R at hp
  obtain ⟨v, s, T⟩ := R
  refine ⟨v, s, T, rfl, fun hT => ?_⟩
  subst hT
  simpa using hp
theorem cover_bd {F : Nat → Nat → Int} {n : Nat} {x y area day limit : Int} (h : (coverR F n x y area day limit).2 = true) : 0 ≤ (coverR F n x y area day limit).1 ∧ (coverR F n x y area day limit).1 ≤ 100 := by
  obtain ⟨c, hc, e, -⟩ := cover_true h
  omega
end Go.Proofs.Ytcjjpkleipjibaa
