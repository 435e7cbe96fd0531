/-
  Plain laws for the covering of heaps: the stable order by tons, and the choice again and again. Conditions: none; no program is named here.
-/
import Derived.Test.YtbmlglkdlialgaaDoorMath
namespace Go.Proofs.YtbmlglkdlialgaaDoor

/-- The better one to be covered: more tons, or as many and further ahead. -/
def befT (T : Nat → Int) (a b : Nat) : Prop := T b < T a ∨ (T a = T b ∧ a < b)
/-- The choice among the first k: the first one with the most tons. -/
def pickT (p : Nat → Bool) (T : Nat → Int) : Nat → Option Nat
  | 0 => none
  | k + 1 => match pickT p T k with
    | none => if p k then some k else none
    | some b => if p k && decide (T b < T k) then some k else some b
theorem pickT_spec (p : Nat → Bool) (T : Nat → Int) : ∀ k, (pickT p T k = none → ∀ i, i < k → p i = false) ∧ ∀ b, pickT p T k = some b → b < k ∧ p b = true ∧ ∀ i, i < k → p i = true → i ≠ b → befT T b i := by
  intro k
  induction k with
  | zero => exact ⟨fun _ i h => by omega, fun b h => by simp [pickT] at h⟩
  | succ k ih =>
    simp only [pickT]
    cases hp : pickT p T k with
    | none =>
      have h1 := ih.1 hp
      cases hk : p k
      · simp only [Bool.false_eq_true, if_false]
        refine ⟨fun _ i hi => ?_, fun b h => by cases h⟩
        by_cases e : i = k
        · subst e; exact hk
        · exact h1 i (by omega)
      · simp only [if_true]
        refine ⟨(fun h => by cases h), fun b h => ?_⟩
        injection h with h
        subst h
        refine ⟨by omega, hk, fun i hi hpi hne => ?_⟩
        have := h1 i (by omega)
        rw [hpi] at this; cases this
    | some b0 =>
      obtain ⟨h1, h2, h3⟩ := ih.2 b0 hp
      by_cases hc : (p k && decide (T b0 < T k)) = true
      · simp only [hc, if_true]
        refine ⟨(fun h => by cases h), fun b h => ?_⟩
        injection h with h
        subst h
        simp only [Bool.and_eq_true, decide_eq_true_eq] at hc
        refine ⟨by omega, hc.1, fun i hi hpi hne => .inl ?_⟩
        by_cases e : i = b0
        · subst e; exact hc.2
        · rcases h3 i (by omega) hpi e with a | a <;> omega
      · simp only [hc]
        refine ⟨(fun h => by simp at h), fun b h => ?_⟩
        have h : b0 = b := by simpa using h
        subst h
        simp only [Bool.and_eq_true, decide_eq_true_eq, not_and] at hc
        refine ⟨by omega, h2, fun i hi hpi hne => ?_⟩
        by_cases e : i = k
        · subst e
          have := hc hpi
          unfold befT
          omega
        · exact h3 i (by omega) hpi hne
/-- The choice is the one that is better than all the others. -/
theorem pickT_eq {p : Nat → Bool} {T : Nat → Int} {n b : Nat} (hb : b < n) (hp : p b = true) (h : ∀ i, i < n → p i = true → i ≠ b → befT T b i) : pickT p T n = some b := by
  have hs := pickT_spec p T n
  cases hq : pickT p T n with
  | none => have := hs.1 hq b hb; rw [hp] at this; cases this
  | some c =>
    obtain ⟨h1, h2, h3⟩ := hs.2 c hq
    by_cases e : b = c
    · rw [e]
    · have a1 := h3 b hb hp e
      have a2 := h c h1 h2 (fun h => e h.symm)
      unfold befT at a1 a2
      omega
theorem pickT_no {p : Nat → Bool} {T : Nat → Int} {n : Nat} (h : ∀ i, i < n → p i = false) : pickT p T n = none := by
  cases hq : pickT p T n with
  | none => rfl
  | some c =>
    obtain ⟨h1, h2, -⟩ := (pickT_spec p T n).2 c hq
    have := h c h1
    rw [h2] at this; cases this

def insN (f : Nat → Nat) (k x : Nat) : Nat → Nat := fun j => if j < k then f j else if j = k then x else f (j - 1)
/-- The place of x among the first k of the order f. -/
def plcT (T : Nat → Int) (f : Nat → Nat) (x : Nat) : Nat → Nat
  | 0 => 0
  | k + 1 => if T (f k) < T x then plcT T f x k else k + 1
/-- The order of the first m of the row O. -/
def srtT (T : Nat → Int) (O : Nat → Nat) : Nat → Nat → Nat
  | 0 => O
  | m + 1 => insN (srtT T O m) (plcT T (srtT T O m) (O m) m) (O m)
theorem plcT_spec (T : Nat → Int) (f : Nat → Nat) (x : Nat) : ∀ k, plcT T f x k ≤ k ∧ (∀ j, plcT T f x k ≤ j → j < k → T (f j) < T x) ∧ (0 < plcT T f x k → T x ≤ T (f (plcT T f x k - 1))) := by
  intro k
  induction k with
  | zero => exact ⟨Nat.le_refl _, fun j _ h => by omega, fun h => by simp [plcT] at h⟩
  | succ k ih =>
    simp only [plcT]
    split
    · next hlt =>
      refine ⟨by omega, fun j h1 h2 => ?_, ih.2.2⟩
      by_cases e : j = k
      · subst e; exact hlt
      · exact ih.2.1 j h1 (by omega)
    · next hge => exact ⟨Nat.le_refl _, fun j h1 h2 => by omega, fun _ => by simp only [Nat.add_sub_cancel]; omega⟩
theorem srtT_ok (T : Nat → Int) (O : Nat → Nat) (M : Nat) (hO : ∀ i j, i < j → j < M → O i < O j) : ∀ m, m ≤ M →
    (∀ i j, i < j → j < m → befT T (srtT T O m i) (srtT T O m j)) ∧ (∀ j, j < m → ∃ i, i < m ∧ srtT T O m j = O i) ∧ (∀ i, i < m → ∃ j, j < m ∧ srtT T O m j = O i) := by
  intro m
  induction m with
  | zero => exact fun _ => ⟨fun i j _ h => by omega, fun j h => by omega, fun j h => by omega⟩
  | succ m ih =>
    intro hm
    obtain ⟨h1, h2, h3⟩ := ih (by omega)
    simp only [srtT]
    generalize srtT T O m = f at *
    obtain ⟨p1, p2, p3⟩ := plcT_spec T f (O m) m
    generalize plcT T f (O m) m = k at *
    have hfx : ∀ j, j < m → f j < O m := fun j hj => by
      obtain ⟨i, hi, e⟩ := h2 j hj
      rw [e]; exact hO i m hi (by omega)
    have hlow : ∀ j, j < k → befT T (f j) (O m) := fun j hj => by
      have a := p3 (by omega)
      have b := hfx j (by omega)
      unfold befT
      by_cases e : j = k - 1
      · subst e; omega
      · rcases h1 j (k - 1) (by omega) (by omega) with c | c <;> omega
    have hhigh : ∀ j, k ≤ j → j < m → befT T (O m) (f j) := fun j h4 h5 => .inl (p2 j h4 h5)
    refine ⟨fun i j hij hj => ?_, fun j hj => ?_, fun i hi => ?_⟩
    · unfold insN
      by_cases c1 : j < k
      · rw [if_pos (show i < k by omega), if_pos c1]; exact h1 i j hij (by omega)
      · by_cases c2 : j = k
        · rw [if_pos (show i < k by omega), if_neg c1, if_pos c2]; exact hlow i (by omega)
        · rw [if_neg c1, if_neg c2]
          by_cases c3 : i < k
          · rw [if_pos c3]; exact h1 i (j - 1) (by omega) (by omega)
          · by_cases c4 : i = k
            · rw [if_neg c3, if_pos c4]; exact hhigh (j - 1) (by omega) (by omega)
            · rw [if_neg c3, if_neg c4]; exact h1 (i - 1) (j - 1) (by omega) (by omega)
    · unfold insN
      split
      · obtain ⟨i, hi, e⟩ := h2 j (by omega); exact ⟨i, by omega, e⟩
      · split
        · exact ⟨m, by omega, rfl⟩
        · obtain ⟨i, hi, e⟩ := h2 (j - 1) (by omega); exact ⟨i, by omega, e⟩
    · by_cases e : i = m
      · subst e
        exact ⟨k, by omega, by simp [insN]⟩
      · obtain ⟨j, hj, e2⟩ := h3 i (by omega)
        by_cases c : j < k
        · exact ⟨j, by omega, by simp [insN, c, e2]⟩
        · refine ⟨j + 1, by omega, ?_⟩
          unfold insN
          rw [if_neg (by omega), if_neg (by omega)]
          exact e2
/-- The open ones among the first k. -/
def opL (p : Nat → Bool) : Nat → List Nat
  | 0 => []
  | k + 1 => if p k then opL p k ++ [k] else opL p k
def opO (p : Nat → Bool) (n : Nat) (j : Nat) : Nat := (opL p n).getD j 0
theorem opL_mem (p : Nat → Bool) : ∀ n i, i ∈ opL p n ↔ i < n ∧ p i = true := by
  intro n
  induction n with
  | zero => intro i; simp [opL]
  | succ n ih =>
    intro i
    simp only [opL]
    cases hp : p n
    · simp only [Bool.false_eq_true, if_false]
      rw [ih i]
      refine ⟨fun h => ⟨by omega, h.2⟩, fun h => ⟨?_, h.2⟩⟩
      by_cases e : i = n
      · subst e; rw [hp] at h; cases h.2
      · omega
    · simp only [if_true, List.mem_append, List.mem_singleton]
      rw [ih i]
      constructor
      · rintro (h | h)
        · exact ⟨by omega, h.2⟩
        · subst h; exact ⟨by omega, hp⟩
      · intro h
        by_cases e : i = n
        · exact .inr e
        · exact .inl ⟨by omega, h.2⟩
theorem opL_len (p : Nat → Bool) : ∀ n, (opL p n).length ≤ n := by
  intro n
  induction n with
  | zero => simp [opL]
  | succ n ih =>
    simp only [opL]
    split
    · simp only [List.length_append, List.length_singleton]; omega
    · omega
theorem opO_asc (p : Nat → Bool) : ∀ n i j, i < j → j < (opL p n).length → opO p n i < opO p n j := by
  intro n
  induction n with
  | zero => intro i j _ h; simp [opL] at h
  | succ n ih =>
    intro i j hij hj
    unfold opO
    simp only [opL] at hj ⊢
    cases hp : p n
    · rw [hp] at hj
      simp only [Bool.false_eq_true, if_false] at hj ⊢
      exact ih i j hij hj
    · rw [hp] at hj
      simp only [if_true, List.length_append, List.length_singleton] at hj ⊢
      have hi : i < (opL p n).length := by omega
      have e1 : (opL p n ++ [n]).getD i 0 = (opL p n)[i] := by simp [List.getD, List.getElem?_append_left hi, List.getElem?_eq_getElem hi]
      rw [e1]
      by_cases hjl : j < (opL p n).length
      · have e2 : (opL p n ++ [n]).getD j 0 = (opL p n)[j] := by simp [List.getD, List.getElem?_append_left hjl, List.getElem?_eq_getElem hjl]
        rw [e2]
        have := ih i j hij hjl
        simpa [opO, List.getD, List.getElem?_eq_getElem hi, List.getElem?_eq_getElem hjl] using this
      · have hje : j = (opL p n).length := by omega
        have e2 : (opL p n ++ [n]).getD j 0 = n := by rw [hje, List.getD_eq_getElem?_getD, List.getElem?_concat_length]; rfl
        rw [e2]
        exact ((opL_mem p n _).1 (List.getElem_mem hi)).1
theorem opO_mem (p : Nat → Bool) (n : Nat) : (∀ j, j < (opL p n).length → opO p n j < n ∧ p (opO p n j) = true) ∧ ∀ i, i < n → p i = true → ∃ j, j < (opL p n).length ∧ opO p n j = i := by
  refine ⟨fun j hj => ?_, fun i hi hp => ?_⟩
  · have e : opO p n j = (opL p n)[j] := by simp [opO, List.getD, List.getElem?_eq_getElem hj]
    rw [e]
    exact (opL_mem p n _).1 (List.getElem_mem hj)
  · obtain ⟨j, hj, e⟩ := List.getElem_of_mem ((opL_mem p n i).2 ⟨hi, hp⟩)
    exact ⟨j, hj, by simp [opO, List.getD, List.getElem?_eq_getElem hj, e]⟩
/-- What the reference covers in q rounds. -/
def refC (T : Nat → Int) (p : Nat → Bool) (n : Nat) : Nat → Nat → Bool
  | 0 => fun _ => false
  | q + 1 => match pickT (fun i => p i && !refC T p n q i) T n with
    | none => refC T p n q
    | some b => fun i => decide (i = b) || refC T p n q i
/-- What the program covers in q rounds. -/
def prgC (S : Nat → Nat) : Nat → Nat → Bool
  | 0 => fun _ => false
  | q + 1 => fun i => decide (i = S q) || prgC S q i
theorem prgC_at (S : Nat → Nat) : ∀ q i, prgC S q i = true ↔ ∃ j, j < q ∧ i = S j := by
  intro q
  induction q with
  | zero => intro i; simp [prgC]
  | succ q ih =>
    intro i
    simp only [prgC, Bool.or_eq_true, decide_eq_true_eq]
    rw [ih i]
    constructor
    · rintro (h | ⟨j, hj, h⟩)
      · exact ⟨q, by omega, h⟩
      · exact ⟨j, by omega, h⟩
    · rintro ⟨j, hj, h⟩
      by_cases e : j = q
      · subst e; exact .inl h
      · exact .inr ⟨j, by omega, h⟩
/-- Both cover the same. -/
theorem cover_same (T : Nat → Int) (p : Nat → Bool) (n : Nat) : ∀ q, refC T p n q = prgC (srtT T (opO p n) (opL p n).length) (min q (opL p n).length) := by
  obtain ⟨s1, s2, s3⟩ := srtT_ok T (opO p n) (opL p n).length (opO_asc p n) (opL p n).length (Nat.le_refl _)
  obtain ⟨o1, o2⟩ := opO_mem p n
  generalize srtT T (opO p n) (opL p n).length = S at *
  generalize (opL p n).length = m at *
  have sin : ∀ j, j < m → S j < n ∧ p (S j) = true := fun j hj => by
    obtain ⟨i, hi, e⟩ := s2 j hj
    rw [e]; exact o1 i hi
  have sout : ∀ i, i < n → p i = true → ∃ j, j < m ∧ S j = i := fun i hi hp => by
    obtain ⟨k, hk, e⟩ := o2 i hi hp
    obtain ⟨j, hj, e2⟩ := s3 k hk
    exact ⟨j, hj, e2.trans e⟩
  intro q
  induction q with
  | zero => simp [refC, prgC]
  | succ q ih =>
    simp only [refC]
    rw [ih]
    by_cases hq : q < m
    · have e1 : min q m = q := by omega
      have e2 : min (q + 1) m = q + 1 := by omega
      rw [e1, e2]
      have hno : prgC S q (S q) = false := by
        cases h : prgC S q (S q)
        · rfl
        · obtain ⟨j, hj, e⟩ := (prgC_at S q _).1 h
          have := s1 j q hj hq
          rw [← e] at this
          unfold befT at this
          omega
      rw [pickT_eq (b := S q) (sin q hq).1 (by simp [(sin q hq).2, hno]) (fun i hi hpi hne => ?_)]
      · rfl
      · simp only [Bool.and_eq_true, Bool.not_eq_true'] at hpi
        obtain ⟨j, hj, e⟩ := sout i hi hpi.1
        subst e
        have hjq : ¬ j < q := fun h => by
          have := (prgC_at S q (S j)).2 ⟨j, h, rfl⟩
          rw [hpi.2] at this; cases this
        have : j ≠ q := fun h => hne (by rw [h])
        exact s1 q j (by omega) hj
    · have e1 : min q m = m := by omega
      have e2 : min (q + 1) m = m := by omega
      rw [e1, e2]
      rw [pickT_no fun i hi => ?_]
      cases hp : p i
      · simp
      · obtain ⟨j, hj, e⟩ := sout i hi hp
        have := (prgC_at S m i).2 ⟨j, hj, e.symm⟩
        simp [this]
end Go.Proofs.YtbmlglkdlialgaaDoor
