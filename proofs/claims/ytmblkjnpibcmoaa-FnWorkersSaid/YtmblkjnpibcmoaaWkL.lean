/-
  Plain laws on workers for the law FnGangs. Conditions: none; no program is named here.
-/
import Derived.Test.YtmblkjnpibcmoaaWkF
import Derived.Test.YtmblkjnpibcmoaaWkH
import Derived.Test.YtmblkjnpibcmoaaWkI
namespace Go.Proofs.Ytmblkjnpibcmoaa

/-- Whether a number is in a list. -/
def hasV (L : Nat → Nat → Int) (n : Nat) (x : Int) : Bool := (firstB (fun i => L i 0 == x) n).isSome
theorem has_yes {L : Nat → Nat → Int} {n : Nat} {x : Int} (h : ∃ i, i < n ∧ L i 0 = x) : hasV L n x = true := by
  unfold hasV
  cases hf : firstB (fun i => L i 0 == x) n with
  | some i => rfl
  | none =>
    obtain ⟨i, hi, e⟩ := h
    have := firstB_none hf i hi
    simp [e] at this
theorem has_no {L : Nat → Nat → Int} {n : Nat} {x : Int} (h : ∀ i, i < n → L i 0 ≠ x) : hasV L n x = false := by
  unfold hasV
  rw [firstB_eq_none fun j hj => by simpa using h j hj]
  rfl
theorem idle_mem (F : Nat → Nat → Int) (C : Nat → Bool) (n : Nat) (g : Int) (x : Int) : ∀ d, x ∈ idleL F C n g d ↔ ∃ k : Nat, k < d ∧ x = k ∧ worksG F C n g k 0 = false := by
  intro d
  induction d with
  | zero => simp [idleL]
  | succ d ih =>
    simp only [idleL]
    cases hw : worksG F C n g d 0
    · simp only [Bool.false_eq_true, if_false, List.mem_append, List.mem_singleton, ih]
      constructor
      · rintro (⟨k, h1, h2, h3⟩ | h)
        · exact ⟨k, by omega, h2, h3⟩
        · exact ⟨d, by omega, h, hw⟩
      · rintro ⟨k, h1, h2, h3⟩
        by_cases hkd : k = d
        · subst hkd; exact .inr h2
        · exact .inl ⟨k, by omega, h2, h3⟩
    · simp only [if_true, ih]
      constructor
      · rintro ⟨k, h1, h2, h3⟩; exact ⟨k, by omega, h2, h3⟩
      · rintro ⟨k, h1, h2, h3⟩
        by_cases hkd : k = d
        · subst hkd; rw [hw] at h3; cases h3
        · exact ⟨k, by omega, h2, h3⟩
theorem idle_has (F : Nat → Nat → Int) (C : Nat → Bool) (n : Nat) (g : Int) {k : Nat} (hk : k < 7) : hasV (idleT F C n g 7) (idleL F C n g 7).length (k : Int) = !(worksG F C n g k 0) := by
  have hm := idle_mem F C n g (k : Int) 7
  cases hw : worksG F C n g k 0
  · have hmem := hm.2 ⟨k, hk, rfl, hw⟩
    obtain ⟨i, hi, e⟩ := List.mem_iff_getElem.1 hmem
    exact has_yes ⟨i, hi, by simp [idleT, List.getD, List.getElem?_eq_getElem hi, e]⟩
  · refine has_no fun i hi e => ?_
    have e2 : (idleL F C n g 7)[i] = (k : Int) := by simpa [idleT, List.getD, List.getElem?_eq_getElem hi] using e
    have hmem : (k : Int) ∈ idleL F C n g 7 := e2 ▸ List.getElem_mem hi
    obtain ⟨j, -, h2, h3⟩ := hm.1 hmem
    obtain rfl : k = j := by omega
    rw [hw] at h3; cases h3
/-- What the law says of a week. -/
theorem week_law (F : Nat → Nat → Int) (C : Nat → Bool) (n : Nat) (g : Int) : ∃ (N M : Nat) (ok : Bool) (T I : Nat → Nat → Int), weekLen F n g = N ∧ idleN F C n g = M ∧ weekOk F n g = ok ∧ weekT F C n g = T ∧ idleT F C n g 7 = I ∧ N ≤ 7 ∧ M ≤ 7 ∧
    (ok = true → N = 7 ∧ ∀ d : Nat, d < 7 → rakedOnR F C n g (d : Int) = (T d 0, true) ∧ hasV I M (d : Int) = (T d 0 == 0)) := by
  refine ⟨_, _, _, _, _, rfl, rfl, rfl, rfl, rfl, by unfold weekLen; split <;> omega, idleN_le F C n g, fun ok => ⟨by simp [weekLen, ok], fun d hd => ?_⟩⟩
  have ok' := ok
  simp only [weekOk, Bool.and_eq_true] at ok'
  have e : ((d : Nat) : Int) % 7 = (d : Int) := by omega
  have hM : idleN F C n g = (idleL F C n g 7).length := by simp [idleN, ok]
  refine ⟨?_, ?_⟩
  · unfold rakedOnR
    rw [ok'.1, ok'.2, inB_of (n := (d : Int)) (by omega) (by omega), e]
    rfl
  · rw [hM, idle_has F C n g hd, ← works_zero C ok'.1 g (d : Int) 0]
    rfl
theorem bestI_max7 (f : Nat → Int) (n : Nat) : ∀ i, i < n → f i ≤ f (bestI f n) := by
  induction n with
  | zero => intro i h; omega
  | succ m ih =>
    intro i hi
    simp only [bestI]
    by_cases him : i = m
    · subst him; split <;> omega
    · have := ih i (by omega)
      split <;> omega
/-- .. of a changed free day. -/
theorem change_law (F : Nat → Nat → Int) (C : Nat → Bool) (n : Nat) (id : Int) : ∃ (a b : Int) (T : Bool) (S : Nat → Int), changeR F C n id = (a, b, T) ∧ S 0 = 0 ∧ (T = false → b = 0) ∧
    (T = true → n ≤ 12 ∧ S 5 ≤ b ∧ ∀ q : Nat, q < 5 → weekLen F n ((q + 1 : Nat) : Int) = 7 ∧ weekOk F n ((q + 1 : Nat) : Int) = true ∧ (0 ≤ S q ∧ S q ≤ 21000) ∧ (0 ≤ weekV F C n ((q + 1 : Nat) : Int) ∧ weekV F C n ((q + 1 : Nat) : Int) ≤ 4200) ∧ S (q + 1) = S q + weekV F C n ((q + 1 : Nat) : Int)) := by
  unfold changeR
  cases h : worksB F n
  · exact ⟨0, 0, false, fun _ => 0, by simp, rfl, fun _ => rfl, fun h => by cases h⟩
  cases hf : firstB (idW F id) n with
  | none => exact ⟨0, 0, false, fun _ => 0, by simp [changeV], rfl, fun _ => rfl, fun h => by cases h⟩
  | some i =>
    have hin : i < n := (firstB_some hf).1
    have hb := work_at h hin
    refine ⟨((bestI (freeV F C n i) 7 : Nat) : Int), freeV F C n i (bestI (freeV F C n i) 7), true, fun q => sumI (fun j => weekV F C n ((j + 1 : Nat) : Int)) q, by simp [changeV], rfl, fun h => (by cases h), fun _ => ⟨(worksB_at h).1, ?_, fun q hq => ?_⟩⟩
    · obtain ⟨x, hx⟩ : ∃ x : Nat, F i 4 = x := ⟨(F i 4).toNat, by omega⟩
      have hs : setFree F i (x : Int) = F := by
        funext a j
        unfold setFree
        by_cases hc : a = i ∧ j = 4
        · rw [if_pos hc]; obtain ⟨rfl, rfl⟩ := hc; exact hx.symm
        · rw [if_neg hc]
      have hm := bestI_max7 (freeV F C n i) 7 x (by omega)
      have e : freeV F C n i x = sumI (fun j => weekV F C n ((j + 1 : Nat) : Int)) 5 := by
        unfold freeV freeS
        rw [hs]
      rw [e] at hm
      exact hm
    · have hg : inB ((q + 1 : Nat) : Int) 1 5 = true := inB_of (by omega) (by omega)
      have hsum := sumI_bound (f := fun j => weekV F C n ((j + 1 : Nat) : Int)) (b := 4200) (n := 5) (fun j _ => week_bd C h _ 7 (Nat.le_refl _)) q (by omega)
      refine ⟨by simp only [weekLen, weekOk, h, hg]; rfl, by simp only [weekOk, h, hg]; rfl, ⟨hsum.1, by have := hsum.2; simp only; omega⟩, week_bd C h _ 7 (Nat.le_refl _), rfl⟩
/-- .. of the day on which a load is raked. -/
theorem days_law (F : Nat → Nat → Int) (C : Nat → Bool) (n : Nat) (g d load : Int) : ∃ (v : Int) (T : Bool), daysR F C n g d load = (v, T) ∧ (T = true → ∃ r, rakedOnR F C n g v = (r, true) ∧ 1 ≤ r ∧ d ≤ v) := by
  unfold daysR
  cases h : daysOk F n g d load
  · exact ⟨0, false, by simp, fun h => by cases h⟩
  have h' := h
  simp only [daysOk, Bool.and_eq_true] at h'
  obtain ⟨⟨⟨h1, h2⟩, h3⟩, h4⟩ := h'
  have h3' := inB_true h3
  have h4' := inB_true h4
  obtain ⟨D, rfl⟩ : ∃ D : Nat, d = D := ⟨d.toNat, by omega⟩
  rw [Int.toNat_natCast]
  cases hf : firstB (loadB F C n g D load) (daysN - D) with
  | none => exact ⟨0, false, by simp [daysV], fun h => by cases h⟩
  | some k =>
    obtain ⟨k1, k2, k3⟩ := firstB_some hf
    have hN := daysN_hi
    refine ⟨((D + k : Nat) : Int), true, by simp [daysV], fun _ => ⟨rakedV F C n g (((D + k : Nat) : Int) % 7) 0, ?_, ?_, by omega⟩⟩
    · unfold rakedOnR
      rw [h1, h2, inB_of (n := ((D + k : Nat) : Int)) (by omega) (by omega)]
      rfl
    · have e : rakedV F C n g (((D + k : Nat) : Int) % 7) 0 = dayS F C n g D k := by
        unfold dayS
        rw [show (((D + k : Nat) : Int) % 7) = (((D + k) % 7 : Nat) : Int) by omega]
      rw [e]
      have k2' : load ≤ sumI (dayS F C n g D) k + dayS F C n g D k := by
        have h5 : decide (load ≤ sumI (dayS F C n g D) (k + 1)) = true := k2
        exact of_decide_eq_true h5
      rcases Nat.eq_zero_or_pos k with h0 | h0
      · subst h0
        have e0 : sumI (dayS F C n g D) 0 = 0 := rfl
        omega
      · have h6 : decide (load ≤ sumI (dayS F C n g D) (k - 1 + 1)) = false := k3 (k - 1) (by omega)
        have h7 := of_decide_eq_false h6
        rw [show k - 1 + 1 = k by omega] at h7
        omega
end Go.Proofs.Ytmblkjnpibcmoaa
