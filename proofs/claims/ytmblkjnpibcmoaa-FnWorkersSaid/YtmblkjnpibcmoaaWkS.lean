/-
  Plain laws on workers for the law FnWorkers. Conditions: none; no program is named here.
-/
import Derived.Test.YtmblkjnpibcmoaaWkE
import Derived.Test.YtmblkjnpibcmoaaWkF
import Derived.Test.YtmblkjnpibcmoaaWkP
import Derived.Test.YtmblkjnpibcmoaaWkQ
namespace Go.Proofs.Ytmblkjnpibcmoaa

theorem ids_lt {F : Nat → Nat → Int} {n : Nat} (h : worksB F n = true) : ∀ j i, i < j → j < n → F i 0 < F j 0 := by
  have hat := (worksB_at h).2
  intro j
  induction j with
  | zero => intro i h; omega
  | succ m ihm =>
    intro i hi hj
    have h1 := (hat (m + 1) hj).2 (by omega)
    simp only [Nat.add_sub_cancel] at h1
    by_cases him : i = m
    · subst him; exact h1
    · have := ihm i (by omega) (by omega); omega
theorem ids_ne {F : Nat → Nat → Int} {n i j : Nat} (h : worksB F n = true) (hi : i < n) (hj : j < n) (hij : i ≠ j) : F i 0 ≠ F j 0 := by
  rcases Nat.lt_or_gt_of_ne hij with h1 | h1
  · have := ids_lt h j i h1 hj; omega
  · have := ids_lt h i j h1 hi; omega
theorem id_first {F : Nat → Nat → Int} {n i : Nat} (h : worksB F n = true) (hi : i < n) : firstB (idW F (F i 0)) n = some i :=
  firstB_at (firstB_eq_none fun j hj => by
    have := ids_lt h i j hj hi
    simp only [idW, beq_eq_false_iff_ne, ne_eq]
    omega) (by simp [idW]) hi
theorem setGang_at (F : Nat → Nat → Int) (i : Nat) (x : Int) (a j : Nat) (hj : j ≠ 1) : setGang F i x a j = F a j := by simp [setGang, hj]
theorem setGang_works {F : Nat → Nat → Int} {n i : Nat} {x : Int} (h : worksB F n = true) (h0 : 0 ≤ x) (h1 : x ≤ 5) : worksB (setGang F i x) n = true := by
  have h12 := (worksB_at h).1
  simp only [worksB, Bool.and_eq_true, decide_eq_true_eq]
  refine ⟨allB_of fun k hk => ?_, by omega⟩
  have hk2 := work_at h hk
  have hk3 := ((worksB_at h).2 k hk).2
  simp only [workAtB, Bool.and_eq_true, Bool.or_eq_true, decide_eq_true_eq, workerB]
  rw [setGang_at F i x k 0 (by decide), setGang_at F i x k 2 (by decide), setGang_at F i x k 4 (by decide), setGang_at F i x (k - 1) 0 (by decide)]
  refine ⟨⟨⟨⟨inB_of hk2.1.1 hk2.1.2, ?_⟩, inB_of hk2.2.2.1.1 hk2.2.2.1.2⟩, inB_of hk2.2.2.2.1 hk2.2.2.2.2⟩, ?_⟩
  · unfold setGang
    split
    · exact inB_of h0 h1
    · exact inB_of hk2.2.1.1 hk2.2.1.2
  · rcases Nat.eq_zero_or_pos k with h | h
    · exact .inl h
    · exact .inr (hk3 h)
/-- Out of the gang is as not counted. -/
theorem out_same {F : Nat → Nat → Int} {n i : Nat} (C : Nat → Bool) (h : worksB F n = true) (hi : i < n) {g : Int} (hg : 1 ≤ g) (e : Int) : ∀ k, k ≤ n →
    rkN (setGang F i 0) g e 0 k = rkN F g e (F i 0) k ∧ rkS (setGang F i 0) g e 0 k = rkS F g e (F i 0) k ∧ rkC (setGang F i 0) C g e 0 k = rkC F C g e (F i 0) k := by
  have hin : ∀ j, j < n → inG (setGang F i 0) g e 0 j = inG F g e (F i 0) j := fun j hj => by
    have hw := work_at h hj
    unfold inG
    rw [setGang_at F i 0 j 4 (by decide), setGang_at F i 0 j 0 (by decide)]
    by_cases hji : j = i
    · subst hji
      have e1 : (setGang F j 0 j 1 == g) = false := by simp [setGang]; omega
      rw [e1]; simp
    · have e1 : setGang F i 0 j 1 = F j 1 := by simp [setGang, hji]
      have e2 : (F j 0 == 0) = false := by simp; omega
      have e3 : (F j 0 == F i 0) = false := by simpa using ids_ne h hj hi hji
      rw [e1, e2, e3]
  intro k
  induction k with
  | zero => exact fun _ => ⟨rfl, rfl, rfl⟩
  | succ k ih =>
    intro hk
    obtain ⟨h1, h2, h3⟩ := ih (by omega)
    simp only [rkN, rkS, rkC]
    rw [hin k (by omega), h1, h2, h3, setGang_at F i 0 k 2 (by decide)]
    exact ⟨rfl, rfl, rfl⟩
theorem spare_mem (F : Nat → Nat → Int) (C : Nat → Bool) (n : Nat) (g e x : Int) : ∀ k, x ∈ spareL F C n g e k → ∃ i, i < k ∧ x = F i 0 ∧ spB F C n g e i = true := by
  intro k
  induction k with
  | zero => intro h; simp [spareL] at h
  | succ k ih =>
    intro h
    simp only [spareL] at h
    cases hs : spB F C n g e k
    · rw [hs] at h
      obtain ⟨i, h1, h2, h3⟩ := ih (by simpa using h)
      exact ⟨i, by omega, h2, h3⟩
    · rw [hs] at h
      simp only [if_true, List.mem_append, List.mem_singleton] at h
      rcases h with h | h
      · obtain ⟨i, h1, h2, h3⟩ := ih h
        exact ⟨i, by omega, h2, h3⟩
      · exact ⟨k, by omega, h, hs⟩
/-- What the law says of the spare ones. -/
theorem spare_law (F : Nat → Nat → Int) (C : Nat → Bool) (n : Nat) (g d : Int) : ∃ (N : Nat) (ok : Bool) (T : Nat → Nat → Int), spareN F C n g d = N ∧ spareOk F n g d = ok ∧ spareT F C n g (d % 7) n = T ∧ N ≤ n ∧
    ∀ i, i < N → ∃ (G : Nat → Nat → Int) (r : Int), putN F n (T i 0) 0 = n ∧ putOk F n (T i 0) 0 = true ∧ putT F n (T i 0) 0 = G ∧ rakedOnR G C n g d = (r, true) ∧ 1 ≤ r := by
  have hl := spare_len F C n g (d % 7) n
  refine ⟨_, _, _, rfl, rfl, rfl, by unfold spareN; split <;> omega, fun i hi => ?_⟩
  have hok : spareOk F n g d = true := by
    cases h : spareOk F n g d
    · simp [spareN, h] at hi
    · rfl
  have hN : spareN F C n g d = (spareL F C n g (d % 7) n).length := by simp [spareN, hok]
  rw [hN] at hi
  simp only [spareOk, Bool.and_eq_true] at hok
  obtain ⟨⟨h1, h2⟩, h3⟩ := hok
  have hg := inB_true h2
  have hx : spareT F C n g (d % 7) n i 0 = (spareL F C n g (d % 7) n)[i] := by simp [spareT, List.getD, List.getElem?_eq_getElem hi]
  obtain ⟨j, hj, e, hs⟩ := spare_mem F C n g (d % 7) _ n (List.getElem_mem hi)
  rw [hx, e]
  simp only [spB, Bool.and_eq_true, Bool.not_eq_true', beq_iff_eq] at hs
  have hf := id_first h1 hj
  have hp : putO F n (F j 0) = some j := by simp [putO, h1, hf]
  have hk : putOk F n (F j 0) 0 = true := by
    simp only [putOk, hp, Bool.and_eq_true, Bool.not_eq_true', beq_eq_false_iff_ne, ne_eq]
    exact ⟨inB_of (by omega) (by omega), by omega⟩
  obtain ⟨q1, q2, q3⟩ := out_same C h1 hj (g := g) hg.1 (d % 7) n (Nat.le_refl _)
  have hw : worksG (setGang F j 0) C n g (d % 7) 0 = true := by
    have h5 := hs.2
    unfold worksG at h5 ⊢
    rw [q1, q3]
    exact h5
  have hw2 := setGang_works (i := j) (x := 0) h1 (by omega) (by omega)
  have hr := works_pos C hw2 g (d % 7) 0
  rw [hw] at hr
  refine ⟨setGang F j 0, rakedV (setGang F j 0) C n g (d % 7) 0, by simp [putN, hk], hk, by simp [putT, hp], ?_, by have := of_decide_eq_true hr; omega⟩
  unfold rakedOnR
  rw [hw2, h2, h3]
  rfl
/-- .. of the sizes. -/
theorem sizes_sum {F : Nat → Nat → Int} {n : Nat} (h : worksB F n = true) : ∀ k, k ≤ n → sizeV F 0 k + sizeV F 1 k + sizeV F 2 k + sizeV F 3 k + sizeV F 4 k + sizeV F 5 k = k := by
  intro k
  induction k with
  | zero => intro _; simp [sizeV]
  | succ k ih =>
    intro hk
    have i1 := ih (by omega)
    have hw := (work_at h (show k < n by omega)).2.1
    simp only [sizeV]
    obtain ⟨x, hx⟩ : ∃ x, x = F k 1 := ⟨_, rfl⟩
    rw [← hx] at hw ⊢
    rcases (by omega : x = 0 ∨ x = 1 ∨ x = 2 ∨ x = 3 ∨ x = 4 ∨ x = 5) with e | e | e | e | e | e <;> subst e <;> simp <;> omega
theorem sizes_law (F : Nat → Nat → Int) (n : Nat) : worksB F n = true → sumI (fun j => sizeT F n j 0) 6 = n ∧ ∀ k, k ≤ 6 → 0 ≤ sumI (fun j => sizeT F n j 0) k ∧ sumI (fun j => sizeT F n j 0) k ≤ 1000000000000 := fun h => by
  have h1 := sizes_sum h n (Nat.le_refl _)
  have hn := (worksB_at h).1
  refine ⟨?_, fun k hk => ?_⟩
  · simp only [sumI, sizeT]
    omega
  · have := sumI_bound (f := fun j => sizeT F n j 0) (b := 12) (n := 6) (fun i _ => by have := sizeV_bd F i n; simp only [sizeT]; omega) k hk
    omega
theorem low_high (l : List Int) (h : ∀ x ∈ l, 0 ≤ x) : lowL l ≤ highL l := by
  suffices H : ∀ (l : List Int) (a b : Int), (a = -1 ∧ b = -1 ∨ 0 ≤ a ∧ a ≤ b) → (∀ x ∈ l, 0 ≤ x) → l.foldl lowF a ≤ l.foldl highF b from H l (-1) (-1) (by omega) h
  intro l
  induction l with
  | nil => intro a b hab _; simp only [List.foldl_nil]; omega
  | cons x t ih =>
    intro a b hab hx
    have h1 := hx x (by simp)
    refine ih (lowF a x) (highF b x) ?_ (fun y hy => hx y (by simp [hy]))
    unfold lowF highF
    split <;> split <;> omega
theorem even_law (F : Nat → Nat → Int) (C : Nat → Bool) (n : Nat) : ∃ (v : Int) (T : Bool), evenR F C n = (v, T) ∧ T = worksB F n ∧ 0 ≤ v := by
  unfold evenR
  cases h : worksB F n
  · exact ⟨0, false, by simp, rfl, Int.le_refl _⟩
  · refine ⟨highL (gangsL F C n 6) - lowL (gangsL F C n 6), true, by simp, rfl, ?_⟩
    have := low_high (gangsL F C n 6) (fun x hx => ((gangsL_bd C h 6).2 x hx).1)
    omega
/-- .. of a worker who goes back. -/
theorem back_law (F : Nat → Nat → Int) (n : Nat) (id g : Int) : ∃ (N : Nat) (ok : Bool) (G : Nat → Nat → Int), putN F n id g = N ∧ putOk F n id g = ok ∧ putT F n id g = G ∧ N ≤ n ∧
    (ok = true → N = n ∧ n ≤ 12 ∧ ∀ i, i < n → F i 0 = id → putN G n id (F i 1) = n ∧ putOk G n id (F i 1) = true ∧ putT G n id (F i 1) = F) := by
  refine ⟨_, _, _, rfl, rfl, rfl, by unfold putN; split <;> omega, fun ok => ?_⟩
  have ok' := ok
  unfold putOk at ok'
  cases hp : putO F n id with
  | none => rw [hp] at ok'; cases ok'
  | some j =>
    rw [hp] at ok'
    simp only [Bool.and_eq_true, Bool.not_eq_true', beq_eq_false_iff_ne, ne_eq] at ok'
    obtain ⟨h1, hf⟩ : worksB F n = true ∧ firstB (idW F id) n = some j := by
      unfold putO at hp
      cases hw : worksB F n
      · rw [hw] at hp; cases hp
      · rw [hw] at hp; exact ⟨rfl, hp⟩
    have hg := inB_true ok'.1
    have hT : putT F n id g = setGang F j g := by simp [putT, hp]
    rw [hT]
    refine ⟨by simp [putN, ok], (worksB_at h1).1, fun i hi hid => ?_⟩
    have hij : i = j := by
      have hfi := id_first h1 hi
      rw [hid, hf] at hfi
      injection hfi with e
      exact e.symm
    subst hij
    have hw2 := setGang_works (i := i) (x := g) h1 hg.1 hg.2
    have hf2 : firstB (idW (setGang F i g) id) n = some i := by
      have := id_first hw2 hi
      rw [setGang_at F i g i 0 (by decide), hid] at this
      exact this
    have hp2 : putO (setGang F i g) n id = some i := by simp [putO, hw2, hf2]
    have hw := work_at h1 hi
    have hk : putOk (setGang F i g) n id (F i 1) = true := by
      simp only [putOk, hp2, Bool.and_eq_true, Bool.not_eq_true', beq_eq_false_iff_ne, ne_eq]
      refine ⟨inB_of hw.2.1.1 hw.2.1.2, ?_⟩
      simp only [setGang, and_self, if_true]
      exact fun e => ok'.2 e.symm
    refine ⟨by simp [putN, hk], hk, ?_⟩
    simp only [putT, hp2]
    funext a b
    by_cases hc : a = i ∧ b = 1
    · obtain ⟨rfl, rfl⟩ := hc; simp [setGang]
    · simp only [setGang]; rw [if_neg hc, if_neg hc]
end Go.Proofs.Ytmblkjnpibcmoaa
