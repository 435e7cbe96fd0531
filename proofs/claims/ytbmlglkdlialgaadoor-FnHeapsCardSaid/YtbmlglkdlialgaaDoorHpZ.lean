/-
  Plain laws on heaps for the laws FnStacks and FnHeaps. Conditions: none; no program is named here.
-/
import Derived.Test.YtbmlglkdlialgaaDoorHpY
namespace Go.Proofs.YtbmlglkdlialgaaDoor
open Go.RowKit

theorem sumI_eqZ {f g : Nat → Int} : ∀ n, (∀ i, i < n → f i = g i) → sumI f n = sumI g n := by
  intro n
  induction n with
  | zero => intro _; rfl
  | succ k ih => intro h; simp only [sumI]; rw [ih fun i hi => h i (by omega), h k (by omega)]
theorem sumI_posZ {f : Nat → Int} : ∀ n, (∀ i, i < n → 0 ≤ f i) → 0 ≤ sumI f n := by
  intro n
  induction n with
  | zero => intro _; exact Int.le_refl _
  | succ k ih => intro h; simp only [sumI]; have := ih fun i hi => h i (by omega); have := h k (by omega); omega
def LayOk (L : Nat → Nat → Int) (n : Nat) : Prop := ∀ k, k < n → (1 ≤ L k 0 ∧ L k 0 ≤ 500) ∧ (0 < k → L k 0 ≤ L (k - 1) 0)
/-- Tons that are taken are gone, and what stays is well. -/
theorem takeF_ok (L : Nat → Nat → Int) : ∀ n t, LayOk L n → 0 ≤ t → t ≤ tonsH n L →
    tonsH (takeF L n t).1 (takeF L n t).2 = tonsH n L - t ∧ LayOk (takeF L n t).2 (takeF L n t).1 := by
  intro n
  induction n with
  | zero => intro t hL h0 h1; simp only [tonsH, sumI] at h1; refine ⟨by simp [takeF, tonsH, sumI]; omega, fun k hk => by simp [takeF] at hk⟩
  | succ k ih =>
    intro t hL h0 h1
    have hs : tonsH (k + 1) L = tonsH k L + L k 0 := rfl
    simp only [takeF]
    split
    · exact ⟨by simp only; omega, hL⟩
    · split
      · refine ⟨?_, ?_⟩
        · have e : tonsH (k + 1) (fun i j => if i = k then L k 0 - t else L i j) = tonsH k L + (L k 0 - t) := by
            unfold tonsH
            simp only [sumI]
            rw [sumI_eqZ (g := fun j => L j 0) k fun i hi => if_neg (by omega)]
            simp
          simp only
          rw [e]; omega
        · intro i hi
          simp only at hi ⊢
          have hi' := hL i hi
          by_cases e : i = k
          · subst e
            rw [if_pos rfl]
            refine ⟨by omega, fun h => ?_⟩
            rw [if_neg (by omega)]
            have := hi'.2 h
            omega
          · rw [if_neg e]
            refine ⟨hi'.1, fun h => ?_⟩
            rw [if_neg (by omega)]
            exact hi'.2 h
      · have h2 := ih (t - L k 0) (fun i hi => hL i (by omega)) (by omega) (by omega)
        exact ⟨by rw [h2.1]; omega, h2.2⟩
theorem heap_lay {h : HeapD} (hh : heapB h.id h.gr h.n h.L = true) : LayOk h.L h.n := (heapB_at hh).2.2.2
theorem heap_of {h : HeapD} (h1 : 1 ≤ h.id ∧ h.id ≤ 99) (h2 : 1 ≤ h.gr ∧ h.gr ≤ 4) (h3 : h.n ≤ 12) (h4 : LayOk h.L h.n) : heapB h.id h.gr h.n h.L = true := by
  simp only [heapB, Bool.and_eq_true, decide_eq_true_eq]
  refine ⟨⟨⟨inB_of h1.1 h1.2, inB_of h2.1 h2.2⟩, by omega⟩, allB_of fun k hk => ?_⟩
  have := h4 k hk
  simp only [layB, Bool.and_eq_true, Bool.or_eq_true, decide_eq_true_eq]
  refine ⟨inB_of this.1.1 this.1.2, ?_⟩
  rcases Nat.eq_zero_or_pos k with e | e
  · exact .inl e
  · exact .inr (this.2 e)
theorem take_heap {h : HeapD} {t : Int} (hh : heapB h.id h.gr h.n h.L = true) (h0 : 0 ≤ t) (h1 : t ≤ tonsH h.n h.L) :
    tonsH (takeD h t).n (takeD h t).L = tonsH h.n h.L - t ∧ heapB (takeD h t).id (takeD h t).gr (takeD h t).n (takeD h t).L = true := by
  obtain ⟨a, b⟩ := takeF_ok h.L h.n t (heap_lay hh) h0 h1
  have hs := heapB_at hh
  have := takeF_le h.L h.n t
  exact ⟨a, heap_of hs.1 hs.2.1 (by simp only [takeD]; omega) b⟩
theorem top_le {h : HeapD} (hh : heapB h.id h.gr h.n h.L = true) (hn : h.n ≠ 0) : 0 ≤ topH h.n h.L ∧ topH h.n h.L ≤ tonsH h.n h.L := by
  have hs := (heapB_at hh).2.2.2
  obtain ⟨m, hm⟩ : ∃ m, h.n = m + 1 := ⟨h.n - 1, by omega⟩
  rw [hm] at hs ⊢
  have h1 := (hs m (by omega)).1
  have h2 := sumI_posZ (f := fun j => h.L j 0) m fun i hi => by have := (hs i (by omega)).1; show 0 ≤ h.L i 0; omega
  simp only [topH, tonsH, sumI, Nat.add_sub_cancel, if_neg (show ¬ m + 1 = 0 by omega)]
  omega
/-- A rainy day takes what it takes, and the heaps stay well. -/
theorem rain_heap {H : Nat → HeapD} {n i : Nat} {r : Int} (h : heapsB H n = true) (hr : 0 ≤ r) (hi : i < n) :
    tonsH (rainD H r i).n (rainD H r i).L = tonsH (H i).n (H i).L - rainX H r i ∧ heapB (rainD H r i).id (rainD H r i).gr (rainD H r i).n (rainD H r i).L = true ∧ (rainD H r i).id = (H i).id ∧ (rainD H r i).gr = (H i).gr := by
  have hh := ((heapsB_at h).2 i hi).1
  unfold rainD
  cases hw : wetB (H i)
  · refine ⟨?_, hh, rfl, rfl⟩
    simp [rainX, hw]
  · have hn : (H i).n ≠ 0 := by
      simp only [wetB, Bool.and_eq_true, Bool.not_eq_true', beq_eq_false_iff_ne, ne_eq] at hw
      exact hw.2
    have ht := top_le hh hn
    have hx : rainX H r i = min (r / 10) (topH (H i).n (H i).L) := by simp [rainX, hw]
    have := take_heap (t := rainX H r i) hh (by rw [hx]; omega) (by rw [hx]; omega)
    exact ⟨this.1, this.2, rfl, rfl⟩
theorem heaps_of {H : Nat → HeapD} {n : Nat} (h1 : n ≤ 10) (h2 : ∀ k, k < n → heapB (H k).id (H k).gr (H k).n (H k).L = true ∧ (0 < k → (H (k - 1)).id < (H k).id)) : heapsB H n = true := by
  simp only [heapsB, Bool.and_eq_true, decide_eq_true_eq]
  refine ⟨allB_of fun k hk => ?_, by omega⟩
  have := h2 k hk
  simp only [heapAtB, Bool.and_eq_true, Bool.or_eq_true, decide_eq_true_eq]
  refine ⟨this.1, ?_⟩
  rcases Nat.eq_zero_or_pos k with e | e
  · exact .inl e
  · exact .inr (this.2 e)
theorem rain_heaps {H : Nat → HeapD} {n : Nat} {r : Int} (h : heapsB H n = true) (hr : 0 ≤ r) : heapsB (rainD H r) n = true :=
  heaps_of (heapsB_at h).1 fun k hk => ⟨(rain_heap h hr hk).2.1, fun h0 => by rw [(rain_heap h hr hk).2.2.1, (rain_heap h hr (show k - 1 < n by omega)).2.2.1]; exact ((heapsB_at h).2 k hk).2 h0⟩
/-- What is lost is what the grades lack. -/
theorem rain_grades {H : Nat → HeapD} {n : Nat} {r : Int} (h : heapsB H n = true) (hr : 0 ≤ r) : ∀ k, k ≤ n →
    ((sumI (fun i => if (H i).gr = 1 then tonsH (H i).n (H i).L else 0) k - sumI (fun i => if (rainD H r i).gr = 1 then tonsH (rainD H r i).n (rainD H r i).L else 0) k) +
     (sumI (fun i => if (H i).gr = 2 then tonsH (H i).n (H i).L else 0) k - sumI (fun i => if (rainD H r i).gr = 2 then tonsH (rainD H r i).n (rainD H r i).L else 0) k) +
     (sumI (fun i => if (H i).gr = 3 then tonsH (H i).n (H i).L else 0) k - sumI (fun i => if (rainD H r i).gr = 3 then tonsH (rainD H r i).n (rainD H r i).L else 0) k) +
     (sumI (fun i => if (H i).gr = 4 then tonsH (H i).n (H i).L else 0) k - sumI (fun i => if (rainD H r i).gr = 4 then tonsH (rainD H r i).n (rainD H r i).L else 0) k)) = sumI (rainX H r) k := by
  intro k
  induction k with
  | zero => intro _; simp [sumI]
  | succ k ih =>
    intro hk
    have h1 := ih (by omega)
    obtain ⟨a1, -, -, a4⟩ := rain_heap h hr (show k < n by omega)
    have hg := (heapB_at ((heapsB_at h).2 k (by omega)).1).2.1
    simp only [sumI]
    rw [a4, a1]
    obtain ⟨g, eg⟩ : ∃ g, g = (H k).gr := ⟨_, rfl⟩
    rw [← eg] at hg ⊢
    rcases (by omega : g = 1 ∨ g = 2 ∨ g = 3 ∨ g = 4) with e | e | e | e <;> subst e <;> simp <;> omega
/-- A layer that is put: the heap stays well, has the tons more, and without them it is as before. -/
theorem put_heap {h : HeapD} {g t : Int} (hh : heapB h.id h.gr h.n h.L = true) (ht : takesB h g t = true) :
    heapB (putD h t).id (putD h t).gr (putD h t).n (putD h t).L = true ∧ tonsH (putD h t).n (putD h t).L = tonsH h.n h.L + t ∧ takeD (putD h t) t = ⟨h.id, h.gr, h.n, addL h.n h.L t, h.cov⟩ ∧ h.gr = g ∧ 1 ≤ t ∧ t ≤ 500 := by
  have hs := heapB_at hh
  simp only [takesB, bearsB, Bool.and_eq_true, Bool.or_eq_true, decide_eq_true_eq, beq_iff_eq] at ht
  obtain ⟨⟨⟨h1, -⟩, h2⟩, h3, h4⟩ := ht
  have h2 := inB_true h2
  refine ⟨heap_of hs.1 hs.2.1 (by simp only [putD]; omega) fun k hk => ?_, ?_, ?_, h1, h2.1, h2.2⟩
  · simp only [putD, addL] at hk ⊢
    by_cases e : k = h.n
    · subst e
      rw [if_pos rfl]
      refine ⟨h2, fun h0 => ?_⟩
      rw [if_neg (by omega)]
      rcases h4 with c | c
      · omega
      · exact c
    · rw [if_neg e]
      have := hs.2.2.2 k (by omega)
      refine ⟨this.1, fun h0 => ?_⟩
      rw [if_neg (by omega)]
      exact this.2 h0
  · simp only [putD, tonsH, sumI, addL, if_true]
    rw [sumI_eqZ (g := fun j => h.L j 0) h.n fun i hi => if_neg (by omega)]
  · have e : takeF (addL h.n h.L t) (h.n + 1) t = (h.n, addL h.n h.L t) := by
      have e1 : addL h.n h.L t h.n 0 = t := by simp [addL]
      simp only [takeF]
      rw [if_neg (by omega), e1, if_neg (by omega), Int.sub_self, takeF_zero]
    simp only [takeD, putD, e]
theorem heaps_set {H : Nat → HeapD} {n a : Nat} {d : HeapD} (h : heapsB H n = true) (hid : d.id = (H a).id) (hd : heapB d.id d.gr d.n d.L = true) : heapsB (setH H a d) n = true := by
  have hs := heapsB_at h
  have hi : ∀ k, (setH H a d k).id = (H k).id := fun k => by
    by_cases e : k = a
    · subst e; rw [setH_at]; exact hid
    · rw [setH_ne e]
  refine heaps_of hs.1 fun k hk => ⟨?_, fun h0 => by rw [hi, hi]; exact (hs.2 k hk).2 h0⟩
  by_cases e : k = a
  · subst e; rw [setH_at]; exact hd
  · rw [setH_ne e]; exact (hs.2 k hk).1
theorem tons_set {H : Nat → HeapD} {a : Nat} {d : HeapD} {g : Int} (h1 : (H a).gr = g) (h2 : d.gr = g) : ∀ k, sumI (fun i => if (setH H a d i).gr = g then tonsH (setH H a d i).n (setH H a d i).L else 0) k =
    sumI (fun i => if (H i).gr = g then tonsH (H i).n (H i).L else 0) k + (if a < k then tonsH d.n d.L - tonsH (H a).n (H a).L else 0) := by
  intro k
  induction k with
  | zero => simp [sumI]
  | succ k ih =>
    simp only [sumI]
    rw [ih]
    by_cases e : k = a
    · subst e
      rw [setH_at, if_pos h2, if_pos h1, if_neg (Nat.lt_irrefl _), if_pos (Nat.lt_succ_self _)]
      omega
    · rw [setH_ne e]
      by_cases c : a < k
      · rw [if_pos c, if_pos (show a < k + 1 by omega)]; omega
      · rw [if_neg c, if_neg (show ¬ a < k + 1 by omega)]; omega
theorem hp_ids {H : Nat → HeapD} {n : Nat} (h : heapsB H n = true) : ∀ j i, i < j → j < n → (H i).id < (H j).id := by
  have hs := (heapsB_at h).2
  intro j
  induction j with
  | zero => intro i h; omega
  | succ m ih =>
    intro i hi hj
    have h1 := (hs (m + 1) hj).2 (by omega)
    simp only [Nat.add_sub_cancel] at h1
    by_cases him : i = m
    · subst him; exact h1
    · have := ih i (by omega) (by omega); omega
theorem hp_first {H : Nat → HeapD} {n a : Nat} (h : heapsB H n = true) (ha : a < n) : firstB (idB H (H a).id) n = some a :=
  firstB_at (firstB_eq_none fun j hj => by
    have := hp_ids h a j hj ha
    simp only [idB, beq_eq_false_iff_ne, ne_eq]
    omega) (by simp [idB]) ha
theorem forI_takes (H : Nat → HeapD) (g t : Int) : ∀ k, 0 ≤ forI H g t k → takesB (H (forI H g t k).toNat) g t = true := by
  intro k
  induction k with
  | zero => intro h; simp [forI] at h
  | succ k ih =>
    simp only [forI]
    split
    · next hc => intro _; simpa using hc.1
    · exact ih
/-- On the told heap a layer can be put. -/
theorem for_law {H : Nat → HeapD} {n : Nat} {g t v : Int} (h : heapForR H n g t = (v, true)) : ∃ a, a < n ∧ heapsB H n = true ∧ v = (H a).id ∧ takesB (H a) g t = true ∧ firstB (idB H v) n = some a ∧ putR H n v g t = ⟨n, setH H a (putD (H a) t), true⟩ := by
  unfold heapForR at h
  cases hc : (heapsB H n && inB g 1 4 && inB t 1 500)
  · rw [hc] at h; simp at h
  · rw [hc] at h
    simp only [if_true] at h
    by_cases h0 : forI H g t n < 0
    · rw [if_pos h0] at h; simp at h
    · rw [if_neg h0] at h
      have hv : (H (forI H g t n).toNat).id = v := by injection h
      have hb := forI_bd H g t n
      have ht := forI_takes H g t n (by omega)
      simp only [Bool.and_eq_true] at hc
      have ha : (forI H g t n).toNat < n := by omega
      have hf := hp_first hc.1.1 ha
      rw [hv] at hf
      refine ⟨_, ha, hc.1.1, hv.symm, ht, hf, ?_⟩
      simp [putR, hc.1.1, hf, ht]
/-- Heaps of which tons are taken stay well. -/
theorem take_law {H : Nat → HeapD} {n : Nat} {id t : Int} (h : (takeR H n id t).ok = true) : heapsB (takeR H n id t).H (takeR H n id t).n = true := by
  unfold takeR at h ⊢
  cases hs : heapsB H n
  · rw [hs] at h; simp [noH] at h
  · rw [hs] at h
    simp only [if_true] at h ⊢
    cases hf : firstB (idB H id) n with
    | none => rw [hf] at h; simp [noH] at h
    | some a =>
      rw [hf] at h
      simp only at h ⊢
      cases hc : (inB t 1 6000 && decide (t ≤ tonsH (H a).n (H a).L))
      · rw [hc] at h; simp [noH] at h
      · simp only [if_true]
        simp only [Bool.and_eq_true, decide_eq_true_eq] at hc
        have ht := inB_true hc.1
        exact heaps_set hs rfl (take_heap ((heapsB_at hs).2 a (firstB_some hf).1).1 (by omega) hc.2).2
end Go.Proofs.YtbmlglkdlialgaaDoor
