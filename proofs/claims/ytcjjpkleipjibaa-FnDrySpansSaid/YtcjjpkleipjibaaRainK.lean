/-
  Plain laws on rain for the law FnDrySpans: no rain in a dry span, none longer than the longest, no wetter day. Conditions: none; no program is named here.
-/
import Derived.Test.YtcjjpkleipjibaaSpanC
namespace Go.Proofs.Ytcjjpkleipjibaa

theorem shows_lt {F : Nat → Nat → Int} {n : Nat} (h : showsB F n = true) : ∀ j i, i < j → j < n → F i 0 < F j 0 := by
  have hat := (showsB_at h).2
  intro j
  induction j with
  | zero => intro i h; omega
  | succ m ihm =>
    intro i hi hj
    have h1 := (hat (m + 1) hj).2.2 (by omega)
    simp only [Nat.add_sub_cancel] at h1
    by_cases him : i = m
    · subst him; exact h1
    · have := ihm i (by omega) (by omega); omega
theorem rain_self {F : Nat → Nat → Int} {n k : Nat} (h : showsB F n = true) (hk : k < n) : rainOnAreaR F n 1000 (F k 0) = (F k 1, true) := by
  have hat := (showsB_at h).2 k hk
  have hf : firstB (fun i => F i 0 == F k 0) k = none := firstB_eq_none fun j hj => by
    have := shows_lt h k j hj hk
    simp only [beq_eq_false_iff_ne, ne_eq]
    omega
  have e := onV_of hf rfl hk
  unfold rainOnAreaR
  rw [h, inB_of (n := 1000) (by omega) (by omega), inB_of hat.1.1 hat.1.2, e]
  simp
theorem best_max (f : Nat → Int) (n : Nat) : ∀ i, i < n → f i ≤ f (bestI f n) := by
  induction n with
  | zero => intro i h; omega
  | succ m ih =>
    intro i hi
    simp only [bestI]
    by_cases him : i = m
    · subst him; split <;> omega
    · have := ih i (by omega)
      split <;> omega
theorem wet_ok {F : Nat → Nat → Int} {n : Nat} (h : (wettestR F n).2 = true) :
    ∃ b, (wettestR F n).1 = F b 0 ∧ rainOnAreaR F n 1000 (F b 0) = (F b 1, true) ∧ ∀ i, i < n → rainOnAreaR F n 1000 (F i 0) = (F i 1, true) ∧ F i 1 ≤ F b 1 := by
  unfold wettestR at h ⊢
  split at h
  · rename_i hc
    have hc' := hc
    simp only [Bool.and_eq_true, Bool.not_eq_true', beq_eq_false_iff_ne, ne_eq] at hc
    rw [if_pos hc']
    have hb := bestI_lt (fun i => F i 1) n (by omega)
    exact ⟨_, rfl, rain_self hc.1 hb, fun i hi => ⟨rain_self hc.1 hi, best_max (fun i => F i 1) n i hi⟩⟩
  · cases h

/-- Within the days, and no rain in it. -/
def DryP (F : Nat → Nat → Int) (n : Nat) (a b : Int) (p : Int × Int) : Prop := a ≤ p.1 ∧ p.1 ≤ p.2 ∧ p.2 ≤ b ∧ ∀ i, i < n → ¬(p.1 ≤ F i 0 ∧ F i 0 ≤ p.2)
theorem span_dry {F : Nat → Nat → Int} {n : Nat} {a b : Int} (hs : showsB F n = true) : ∀ k, k ≤ n → a ≤ (spanS F a b k).2 ∧ (∀ i, i < k → F i 0 < (spanS F a b k).2 ∨ b < F i 0) ∧ ∀ p ∈ (spanS F a b k).1, DryP F n a b p := by
  have hlt := shows_lt hs
  intro k
  induction k with
  | zero => exact fun _ => ⟨Int.le_refl _, fun i h => absurd h (by omega), fun p hp => by simp [spanS] at hp⟩
  | succ k ih =>
    intro hk
    obtain ⟨h1, h2, h3⟩ := ih (by omega)
    have hE : spanS F a b (k + 1) = if inB (F k 0) (spanS F a b k).2 b then (if (spanS F a b k).2 < F k 0 then (spanS F a b k).1 ++ [((spanS F a b k).2, F k 0 - 1)] else (spanS F a b k).1, F k 0 + 1) else spanS F a b k := rfl
    rw [hE]
    generalize spanS F a b k = S at *
    obtain ⟨l, fr⟩ := S
    simp only at h1 h2 h3 ⊢
    cases hin : inB (F k 0) fr b
    · simp only [Bool.false_eq_true, if_false]
      refine ⟨h1, fun i hi => ?_, h3⟩
      by_cases hik : i = k
      · subst hik
        simp only [inB, Bool.and_eq_false_iff, decide_eq_false_iff_not] at hin
        omega
      · exact h2 i (by omega)
    · have hb := inB_true hin
      simp only [if_true]
      refine ⟨by omega, fun i hi => ?_, ?_⟩
      · by_cases hik : i = k
        · subst hik; omega
        · have := hlt k i (by omega) (by omega); omega
      · intro p hp
        split at hp
        · rename_i hf
          rcases List.mem_append.1 hp with hp | hp
          · exact h3 p hp
          · obtain rfl : p = (fr, F k 0 - 1) := by simpa using hp
            refine ⟨h1, by simp only; omega, by simp only; omega, fun i hi => ?_⟩
            simp only
            by_cases hik : i < k
            · have := h2 i hik; omega
            · by_cases e : i = k
              · subst e; omega
              · have := hlt i k (by omega) hi; omega
        · exact h3 p hp
theorem dry_all {F : Nat → Nat → Int} {n : Nat} {a b : Int} (h1 : showsB F n = true) (h2 : spanB a b = true) : ∀ p ∈ dryL F n a b, DryP F n a b p := by
  have e : dryL F n a b = spanEnd b (spanS F a b n) := by simp [dryL, h1, h2]
  obtain ⟨g1, g2, g3⟩ := span_dry (a := a) (b := b) h1 n (Nat.le_refl _)
  intro p hp
  rw [e] at hp
  unfold spanEnd at hp
  split at hp
  · rcases List.mem_append.1 hp with hp | hp
    · exact g3 p hp
    · obtain rfl : p = ((spanS F a b n).2, b) := by simpa using hp
      refine ⟨g1, by simp only; omega, by simp only; omega, fun i hi => ?_⟩
      have := g2 i hi
      simp only
      omega
  · exact g3 p hp
theorem sumI_zero {f : Nat → Int} {n : Nat} (h : ∀ i, i < n → f i = 0) : sumI f n = 0 := by
  induction n with
  | zero => rfl
  | succ m ih => simp only [sumI]; rw [ih fun i hi => h i (by omega), h m (by omega)]; rfl
theorem dry_none {F : Nat → Nat → Int} {n : Nat} {p q : Int} (h : showsB F n = true) (hp : 0 ≤ p ∧ p ≤ 4000) (hq : 0 ≤ q ∧ q ≤ 4000) (hd : ∀ i, i < n → ¬(p ≤ F i 0 ∧ F i 0 ≤ q)) : rainBetweenR F n 1000 p q = (0, true) := by
  unfold rainBetweenR
  rw [h, inB_of (n := 1000) (by omega) (by omega), inB_of hp.1 hp.2, inB_of hq.1 hq.2]
  have : sumI (kilos F 1000 p q) n = 0 := sumI_zero fun i hi => by
    unfold kilos
    rw [if_neg]
    intro hc
    exact hd i hi (inB_true hc)
  simp [this]
/-- What the law says of one span. -/
theorem dry_facts {F : Nat → Nat → Int} {n : Nat} {a b x y : Int} (h1 : showsB F n = true) (h2 : spanB a b = true) (hl : longR F n a b = (x, y, true)) : ∀ i, i < (dryL F n a b).length →
    a ≤ tabP (dryL F n a b) i 0 ∧ tabP (dryL F n a b) i 0 ≤ tabP (dryL F n a b) i 1 ∧ tabP (dryL F n a b) i 1 ≤ b ∧ tabP (dryL F n a b) i 1 - tabP (dryL F n a b) i 0 ≤ y - x ∧ rainBetweenR F n 1000 (tabP (dryL F n a b) i 0) (tabP (dryL F n a b) i 1) = (0, true) := by
  intro i hi
  have hb := spanB_true h2
  have hD := dry_all h1 h2 ((dryL F n a b).getD i (0, 0)) (by rw [List.getD_eq_getElem?_getD, List.getElem?_eq_getElem hi]; exact List.getElem_mem _)
  have hD' : DryP F n a b (tabP (dryL F n a b) i 0, tabP (dryL F n a b) i 1) := hD
  obtain ⟨d1, d2, d3, d4⟩ := hD'
  simp only at d1 d2 d3 d4
  refine ⟨d1, d2, d3, ?_, dry_none h1 (by omega) (by omega) d4⟩
  have hm := best_max (dryG F n a b) (dryL F n a b).length i hi
  unfold longR at hl
  rw [if_neg (by omega)] at hl
  injection hl with e1 e2
  injection e2 with e2 e3
  simp only [dryG] at hm e1 e2
  omega
theorem long_told (F : Nat → Nat → Int) (n : Nat) (a b : Int) : (longR F n a b).2.2 = ((showsB F n && spanB a b) && decide (0 < (dryL F n a b).length)) := by
  unfold longR
  cases h : showsB F n && spanB a b
  · have e : dryL F n a b = [] := by unfold dryL; rw [h]; rfl
    simp [e]
  · by_cases h0 : (dryL F n a b).length = 0
    · simp [h0]
    · rw [if_neg h0]
      simp
      omega
end Go.Proofs.Ytcjjpkleipjibaa
