/-
  Plain laws on liquors for the laws FnDrying and FnCrystals. Conditions: none; no program is named here.
-/
import Derived.Test.YtnmpfojcmedpeaaDoorCrG
namespace Go.Proofs.YtnmpfojcmedpeaaDoor

/-- Too much of a kind, behind so many kilograms. -/
theorem full_iff {g s x v : Int} (hg : 1 ≤ g) (hs : 0 ≤ s) (hv : 0 ≤ v) (hx : v ≤ x) : decide (keepsV g (x - v) < s) = decide (fullV g s x ≤ v) := by
  have key : keepsV g (x - v) < s ↔ fullV g s x ≤ v := by
    have hm : 0 ≤ g * (x - v) := Int.mul_nonneg (by omega) (by omega)
    unfold keepsV fullV
    by_cases h0 : s = 0
    · subst h0
      rw [if_pos rfl]
      generalize g * (x - v) = T at hm
      omega
    · rw [if_neg h0]
      have h1 : x - v ≤ (1000 * s - 1) / g ↔ (x - v) * g ≤ 1000 * s - 1 := Int.le_ediv_iff_mul_le (by omega)
      rw [Int.mul_comm (x - v) g] at h1
      generalize g * (x - v) = T at hm h1 ⊢
      generalize (1000 * s - 1) / g = q at h1 ⊢
      omega
  rw [Bool.eq_iff_iff]
  simpa using key
theorem liq_less {S : Nat → ByteArray} {F : Nat → Nat → Int} {n : Nat} {x v : Int} {m : Nat} {L : Nat → Nat → Int} (h : liqB S F n x m L = true) (hv : 0 ≤ v) (hx : v ≤ x) : liqB S F n (x - v) m L = true := by
  have hx2 := (liqB_at h).2.1
  simp only [liqB, Bool.and_eq_true] at h ⊢
  exact ⟨⟨⟨h.1.1.1, inB_of (by omega) (by omega)⟩, h.1.2⟩, h.2⟩
theorem isFull_at {S : Nat → ByteArray} {F : Nat → Nat → Int} {n : Nat} {x v : Int} {m : Nat} {L : Nat → Nat → Int} {k : Nat} (h : liqB S F n x m L = true) (hv : 0 ≤ v) (hx : v ≤ x) (hk : k < n) :
    isFullR S F n (x - v) m L (k : Int) = (decide (fullV (F k 2) (L k 0) x ≤ v), true) := by
  obtain ⟨h1, h2, h3, h4⟩ := liqB_at h
  have hF := (kindsB_at h1).2 k hk
  have hL := h4 k hk
  have ha : askB S F n (x - v) m L (k : Int) = true := by
    simp only [askB, Bool.and_eq_true]
    exact ⟨liq_less h hv hx, inB_of (by omega) (by omega)⟩
  unfold isFullR
  rw [if_pos ha, Int.toNat_natCast, full_iff (by omega) (by omega) hv hx]
theorem firstF_min {S : Nat → ByteArray} {F : Nat → Nat → Int} {n : Nat} {x : Int} {m : Nat} {L : Nat → Nat → Int} (h : liqB S F n x m L = true) : ∀ k, k ≤ n →
    (firstF F L x k = none → ∀ i, i < k → L i 0 = 0) ∧ ∀ p, firstF F L x k = some p → p.1 < k ∧ L p.1 0 ≠ 0 ∧ p.2 = fullV (F p.1 2) (L p.1 0) x ∧ ∀ i, i < k → p.2 ≤ fullV (F i 2) (L i 0) x := by
  obtain ⟨h1, h2, h3, h4⟩ := liqB_at h
  have hbd := fun i (hi : i < n) => fullV_bd (x := x) ((kindsB_at h1).2 i hi).2.1 (h4 i hi).1 (h4 i hi).2 h2.1
  intro k
  induction k with
  | zero => exact fun _ => ⟨fun _ i hi => absurd hi (by omega), fun p hp => by simp [firstF] at hp⟩
  | succ k ih =>
    intro hk
    obtain ⟨i1, i2⟩ := ih (by omega)
    have hE : firstF F L x (k + 1) = match firstF F L x k with
      | none => if L k 0 = 0 then none else some (k, fullV (F k 2) (L k 0) x)
      | some p => if L k 0 ≠ 0 ∧ fullV (F k 2) (L k 0) x < p.2 then some (k, fullV (F k 2) (L k 0) x) else some p := rfl
    rw [hE]
    cases hf : firstF F L x k with
    | none =>
      have i1 := i1 hf
      simp only
      by_cases h0 : L k 0 = 0
      · rw [if_pos h0]
        refine ⟨fun _ i hi => ?_, fun p hp => by cases hp⟩
        by_cases hik : i = k
        · subst hik; exact h0
        · exact i1 i (by omega)
      · rw [if_neg h0]
        refine ⟨fun hh => (by cases hh), fun p hp => ?_⟩
        injection hp with hp
        subst hp
        refine ⟨by simp only; omega, h0, rfl, fun i hi => ?_⟩
        simp only
        by_cases hik : i = k
        · subst hik; omega
        · have e := i1 i (by omega)
          have := (hbd i (by omega)).2.2.2 e
          have := (hbd k (by omega)).2.1
          omega
    | some q =>
      obtain ⟨q1, q2, q3, q4⟩ := i2 q hf
      simp only
      have hq := hbd q.1 (by omega)
      have hq2 := hq.2.2.1 q2
      by_cases hc : L k 0 ≠ 0 ∧ fullV (F k 2) (L k 0) x < q.2
      · rw [if_pos hc]
        refine ⟨fun hh => (by cases hh), fun p hp => ?_⟩
        injection hp with hp
        subst hp
        refine ⟨by simp only; omega, hc.1, rfl, fun i hi => ?_⟩
        simp only
        by_cases hik : i = k
        · subst hik; omega
        · have := q4 i (by omega); omega
      · rw [if_neg hc]
        refine ⟨fun hh => (by cases hh), fun p hp => ?_⟩
        injection hp with hp
        subst hp
        refine ⟨by omega, q2, q3, fun i hi => ?_⟩
        by_cases hik : i = k
        · subst hik
          by_cases h0 : L i 0 = 0
          · have := (hbd i (by omega)).2.2.2 h0; omega
          · have : ¬ fullV (F i 2) (L i 0) x < q.2 := fun hh => hc ⟨h0, hh⟩
            omega
        · exact q4 i (by omega)
/-- What the law says of the first kind to fall. -/
theorem first_law (S : Nat → ByteArray) (F : Nat → Nat → Int) (n : Nat) (x : Int) (m : Nat) (L : Nat → Nat → Int) : ∃ (a v : Int) (T : Bool), firstFR S F n x m L = (a, v, T) ∧
    (T = true → n ≤ 6 ∧ 0 ≤ v ∧ v ≤ x ∧ x ≤ 1000000 ∧ isFullR S F n (x - v) m L a = (true, true) ∧ (0 < v → ∀ i, i < n → isFullR S F n (x - v + 1) m L (i : Int) = (false, true))) := by
  unfold firstFR
  cases hl : liqB S F n x m L
  · exact ⟨0, 0, false, by simp, fun h => by cases h⟩
  · obtain ⟨h1, h2, h3, h4⟩ := liqB_at hl
    have hn := (kindsB_at h1).1
    cases hf : firstF F L x n with
    | none => exact ⟨0, 0, false, by simp, fun h => by cases h⟩
    | some p =>
      obtain ⟨p1, p2, p3, p4⟩ := (firstF_min hl n (Nat.le_refl _)).2 p hf
      have hb := fullV_bd (x := x) ((kindsB_at h1).2 p.1 p1).2.1 (h4 p.1 p1).1 (h4 p.1 p1).2 h2.1
      have hb2 := hb.2.2.1 p2
      refine ⟨p.1, p.2, true, by simp, fun _ => ⟨by omega, by omega, by omega, by omega, ?_, fun hv i hi => ?_⟩⟩
      · rw [isFull_at hl (by omega) (by omega) p1, decide_eq_true (by omega)]
      · rw [show x - p.2 + 1 = x - (p.2 - 1) by omega, isFull_at hl (by omega) (by omega) hi, decide_eq_false (by have := p4 i hi; omega)]
/-- .. of how much may go. -/
theorem keep_law (S : Nat → ByteArray) (F : Nat → Nat → Int) (n : Nat) (x : Int) (m : Nat) (L : Nat → Nat → Int) (i : Int) : ∃ (v : Int) (T : Bool), dryKeepR S F n x m L i = (v, T) ∧
    (T = true → 0 ≤ v ∧ v ≤ x ∧ x ≤ 1000000 ∧ isFullR S F n (x - v) m L i = (false, true) ∧ (v < x → isFullR S F n (x - v - 1) m L i = (true, true))) := by
  unfold dryKeepR
  cases ha : askB S F n x m L i
  · exact ⟨0, false, by simp, fun h => by cases h⟩
  · have ha' := ha
    simp only [askB, Bool.and_eq_true] at ha'
    obtain ⟨hl, hi⟩ := ha'
    have hi := inB_true hi
    obtain ⟨h1, h2, h3, h4⟩ := liqB_at hl
    obtain ⟨k, rfl⟩ : ∃ k : Nat, i = k := ⟨i.toNat, by omega⟩
    have hk : k < n := by omega
    have hb := fullV_bd (x := x) ((kindsB_at h1).2 k hk).2.1 (h4 k hk).1 (h4 k hk).2 h2.1
    rw [Int.toNat_natCast]
    have hf := fun v h0 h1 => isFull_at (v := v) hl h0 h1 hk
    generalize fullV (F k 2) (L k 0) x = f at *
    by_cases h0 : f = 0
    · exact ⟨0, false, by simp [h0], fun h => by cases h⟩
    · refine ⟨f - 1, true, by simp [h0], fun _ => ⟨by omega, by omega, by omega, ?_, fun hv => ?_⟩⟩
      · rw [hf _ (by omega) (by omega), decide_eq_false (by omega)]
      · rw [show x - (f - 1) - 1 = x - f by omega, hf _ (by omega) (by omega), decide_eq_true (by omega)]
theorem pureHi_all (F L : Nat → Nat → Int) (x i : Int) : ∀ k, pureHi F L x i k ≤ x ∧ ∀ j : Nat, j < k → (j : Int) ≠ i → pureHi F L x i k ≤ fullV (F j 2) (L j 0) x - 1 := by
  intro k
  induction k with
  | zero => exact ⟨Int.le_refl _, fun j hj => absurd hj (by omega)⟩
  | succ k ih =>
    obtain ⟨i1, i2⟩ := ih
    simp only [pureHi]
    by_cases h : (k : Int) = i
    · rw [if_pos h]
      refine ⟨i1, fun j hj hji => ?_⟩
      exact i2 j (by omega) hji
    · rw [if_neg h]
      refine ⟨by omega, fun j hj hji => ?_⟩
      by_cases hjk : j = k
      · subst hjk; omega
      · have := i2 j (by omega) hji; omega
/-- .. of how much must go so that there is too much of one kind alone. -/
theorem pure_law (S : Nat → ByteArray) (F : Nat → Nat → Int) (n : Nat) (x : Int) (m : Nat) (L : Nat → Nat → Int) (i : Int) : ∃ (a b : Int) (T : Bool), pureR S F n x m L i = (a, b, T) ∧
    (T = true → n ≤ 6 ∧ 0 ≤ a ∧ a ≤ x ∧ 0 ≤ b ∧ b ≤ x ∧ x ≤ 1000000 ∧ ∀ k : Nat, k < n → isFullR S F n (x - a) m L (k : Int) = (((k : Int) == i), true) ∧ isFullR S F n (x - b) m L (k : Int) = (((k : Int) == i), true)) := by
  unfold pureR
  cases ha : askB S F n x m L i
  · exact ⟨0, 0, false, by simp, fun h => by cases h⟩
  · have ha' := ha
    simp only [askB, Bool.and_eq_true] at ha'
    obtain ⟨hl, hi⟩ := ha'
    have hi := inB_true hi
    obtain ⟨h1, h2, h3, h4⟩ := liqB_at hl
    have hn := (kindsB_at h1).1
    obtain ⟨q, rfl⟩ : ∃ k : Nat, i = k := ⟨i.toNat, by omega⟩
    have hq : q < n := by omega
    have hb := fullV_bd (x := x) ((kindsB_at h1).2 q hq).2.1 (h4 q hq).1 (h4 q hq).2 h2.1
    obtain ⟨p1, p2⟩ := pureHi_all F L x q n
    rw [Int.toNat_natCast]
    generalize pureHi F L x q n = hi' at *
    by_cases hc : hi' < fullV (F q 2) (L q 0) x
    · exact ⟨0, 0, false, by simp [hc], fun h => by cases h⟩
    · refine ⟨fullV (F q 2) (L q 0) x, hi', true, by simp [hc], fun _ => ⟨by omega, by omega, by omega, by omega, by omega, by omega, fun k hk => ?_⟩⟩
      rw [isFull_at hl (by omega) (by omega) hk, isFull_at hl (by omega) (by omega) hk]
      by_cases hkq : k = q
      · subst hkq
        rw [decide_eq_true (Int.le_refl _), decide_eq_true (by omega)]
        simp
      · have hne : (k : Int) ≠ q := by omega
        have := p2 k hk hne
        rw [decide_eq_false (by omega), decide_eq_false (by omega), show ((k : Int) == (q : Int)) = false by simpa using hne]
        exact ⟨rfl, rfl⟩
/-- .. of what falls out. -/
theorem fall_law (S : Nat → ByteArray) (F : Nat → Nat → Int) (n : Nat) (x : Int) (m : Nat) (L : Nat → Nat → Int) : ∃ (N : Nat) (X : Int) (ok : Bool) (Fs Fg : Nat → Nat → Int),
    dryN S F n x m L 0 = N ∧ dryX S F n x m L 0 = X ∧ dryB S F n x m L 0 = ok ∧ fallS F L (x - 0) = Fs ∧ fallG F L (x - 0) = Fg ∧ N ≤ 6 ∧
    (ok = true → N = n ∧ m = n ∧ n ≤ 6 ∧ ∃ (T : Nat → Int) (a b : Int), T 0 = X ∧ T n = x ∧ 0 ≤ X ∧ x ≤ 1000000 ∧ massR S F n x m L = (a, true) ∧ massR S F n X N Fs = (b, true) ∧ b ≤ a ∧
      ∀ k, k < n → (0 ≤ T k ∧ T k ≤ 1000000) ∧ (0 ≤ F k 1 ∧ F k 1 ≤ 9) ∧ (0 ≤ Fg k 0 ∧ Fg k 0 ≤ 1000000) ∧ (0 ≤ Fs k 0 ∧ Fs k 0 ≤ 1000000) ∧ Fs k 0 + Fg k 0 = L k 0 ∧ (0 ≤ Fg k 0 * F k 1 ∧ Fg k 0 * F k 1 ≤ 9000000) ∧ T (k + 1) = T k + Fg k 0 * F k 1 / 10) := by
  refine ⟨_, _, _, _, _, rfl, rfl, rfl, rfl, rfl, dryN_le, fun ok => ?_⟩
  have ok' := ok
  simp only [dryB, Bool.and_eq_true] at ok'
  have hl := ok'.1
  obtain ⟨h1, h2, rfl, h4⟩ := liqB_at hl
  have hn := (kindsB_at h1).1
  have hF := (kindsB_at h1).2
  have hX := fallX_bd (F := F) (L := L) h2.1 h2.2 hF h4
  rw [show x - 0 = x by omega]
  have eN : dryN S F m x m L 0 = m := by simp [dryN, ok]
  have eX : dryX S F m x m L 0 = fallX F L x m := by simp [dryX, ok, show x - 0 = x by omega]
  have hst : ∀ k, k < m → (0 ≤ fallG F L x k 0 ∧ fallG F L x k 0 ≤ L k 0) ∧ (0 ≤ F k 1 * fallG F L x k 0 ∧ F k 1 * fallG F L x k 0 ≤ 9000000) ∧ 0 ≤ F k 1 * fallG F L x k 0 / 10 ∧ fallX F L x (k + 1) = fallX F L x k - F k 1 * fallG F L x k 0 / 10 := fun k hk => by
    have hx := hX k (by omega)
    have f := fallN_bd (hF k hk).2.1 (hF k hk).2.2 (hF k hk).1.1 (hF k hk).1.2 (h4 k hk).1 (h4 k hk).2 hx.1 hx.2
    exact ⟨f.2.2.1, f.2.2.2.1, f.2.2.2.2.1, rfl⟩
  have hmono : ∀ k, k ≤ m → fallX F L x m ≤ fallX F L x k ∧ fallX F L x k ≤ x := by
    have up : ∀ k, k ≤ m → fallX F L x k ≤ x := by
      intro k
      induction k with
      | zero => intro _; exact Int.le_refl _
      | succ k ih => intro hk; have := hst k (by omega); have := ih (by omega); omega
    have dn : ∀ d k, k + d = m → fallX F L x m ≤ fallX F L x k := by
      intro d
      induction d with
      | zero => intro k hk; rw [show k = m by omega]; exact Int.le_refl _
      | succ d ih => intro k hk; have := ih (k + 1) (by omega); have := hst k (by omega); omega
    exact fun k hk => ⟨dn (m - k) k (by omega), up k hk⟩
  have hl2 : liqB S F m (fallX F L x m) m (fallS F L x) = true := by
    have hxm := hX m (Nat.le_refl _)
    simp only [liqB, Bool.and_eq_true, decide_eq_true_eq]
    refine ⟨⟨⟨h1, inB_of hxm.1 hxm.2⟩, trivial⟩, allB_of fun k hk => ?_⟩
    have := hst k hk
    have := h4 k hk
    exact inB_of (by simp only [fallS]; omega) (by simp only [fallS]; omega)
  have hsum : ∀ k, k ≤ m → sumI (fun j => fallS F L x j 0) k ≤ sumI (fun j => L j 0) k := by
    intro k
    induction k with
    | zero => intro _; exact Int.le_refl _
    | succ k ih =>
      intro hk
      have := ih (by omega)
      have := hst k (by omega)
      simp only [sumI]
      simp only [fallS] at *
      omega
  refine ⟨eN, rfl, hn.2, fun k => fallX F L x m + (x - fallX F L x k), x + sumI (fun j => L j 0) m, fallX F L x m + sumI (fun j => fallS F L x j 0) m, ?_, ?_, ?_, h2.2, ?_, ?_, ?_, fun k hk => ?_⟩
  · rw [eX]; simp only [fallX]; omega
  · simp only; omega
  · rw [eX]; exact (hX m (Nat.le_refl _)).1
  · simp [massR, hl]
  · rw [eX, eN]; simp [massR, hl2]
  · have := hsum m (Nat.le_refl _); have := (hmono 0 (by omega)).1; simp only [fallX] at this; omega
  · obtain ⟨s1, s2, s3, s4⟩ := hst k hk
    have := hmono k (by omega)
    have := hX k (by omega)
    have := hX m (Nat.le_refl _)
    have l := h4 k hk
    have e : fallS F L x k 0 = L k 0 - fallG F L x k 0 := rfl
    simp only
    rw [e, Int.mul_comm (fallG F L x k 0), s4]
    exact ⟨by omega, (hF k hk).1, by omega, by omega, by omega, s2, by omega⟩
end Go.Proofs.YtnmpfojcmedpeaaDoor
