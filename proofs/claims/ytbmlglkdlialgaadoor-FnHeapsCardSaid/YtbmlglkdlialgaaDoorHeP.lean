/-
  Plain laws for the law FnHeaps: a layer that is put can be taken again, on the told heap a layer can be put. Conditions: none; no program is named here.
-/
import Derived.Test.YtbmlglkdlialgaaDoorHpZ
import Derived.Test.YtbmlglkdlialgaaDoorHpC
namespace Go.Proofs.YtbmlglkdlialgaaDoor
open Go.RowKit

/-- The same heaps, cell for cell. -/
def sameH (H H' : Nat → HeapD) (n : Nat) : Prop := ∀ i, i < n → (H i).id = (H' i).id ∧ (H i).gr = (H' i).gr ∧ (H i).n = (H' i).n ∧ (H i).cov = (H' i).cov ∧ ∀ k, k < (H i).n → (H i).L k 0 = (H' i).L k 0
theorem Hp.same {w : World} {lo hi n : Nat} {A : Option Addr} {H H' : Nat → HeapD} (h : Hp w lo hi A n H) (e : sameH H H' n) : Hp w lo hi A n H' := by
  obtain ⟨B, c, h1, h2⟩ := h
  refine ⟨B, c, h1.congr fun i j hi _ => ?_, fun i hi => ?_⟩
  · obtain ⟨e1, e2, e3, e4, -⟩ := e i hi
    unfold hpC
    rw [e1, e2, e3, e4]
  · obtain ⟨-, -, e3, -, e5⟩ := e i hi
    obtain ⟨s1, s2⟩ := h2 i hi
    rw [← e3]
    refine ⟨s1.congr fun k j hk hj => ?_, s2⟩
    obtain rfl : j = 0 := by omega
    show Value.int .i64 ((H i).L k 0) = Value.int .i64 ((H' i).L k 0)
    rw [e5 k hk]
theorem put_law7 (H : Nat → HeapD) (n : Nat) (id g t : Int) (hl : ∀ i, i < n → (H i).n ≤ 20) : ∃ (N : Nat) (G : Nat → HeapD) (ok : Bool) (K : Nat → HeapD) (x : Int),
    (putR H n id g t).n = N ∧ (putR H n id g t).H = G ∧ (putR H n id g t).ok = ok ∧ (N ≤ n ∧ ∀ i, i < N → (G i).n ≤ 21) ∧
    (ok = true → tonsOfR H n g = (x, true) ∧ tonsOfR G N g = (x + t, true) ∧ (takeR G N id t).n = n ∧ (takeR G N id t).H = K ∧ (takeR G N id t).ok = true ∧ sameH K H n ∧ heapsB G N = true ∧ (0 ≤ x ∧ x ≤ 60000) ∧ 1 ≤ t ∧ t ≤ 500) := by
  have no : putR H n id g t = noH → ∃ (N : Nat) (G : Nat → HeapD) (ok : Bool) (K : Nat → HeapD) (x : Int),
      (putR H n id g t).n = N ∧ (putR H n id g t).H = G ∧ (putR H n id g t).ok = ok ∧ (N ≤ n ∧ ∀ i, i < N → (G i).n ≤ 21) ∧
      (ok = true → tonsOfR H n g = (x, true) ∧ tonsOfR G N g = (x + t, true) ∧ (takeR G N id t).n = n ∧ (takeR G N id t).H = K ∧ (takeR G N id t).ok = true ∧ sameH K H n ∧ heapsB G N = true ∧ (0 ≤ x ∧ x ≤ 60000) ∧ 1 ≤ t ∧ t ≤ 500) := fun e =>
    ⟨0, noH.H, false, H, 0, by rw [e]; rfl, by rw [e], by rw [e]; rfl, ⟨Nat.zero_le _, fun i hi => absurd hi (Nat.not_lt_zero _)⟩, fun h => by cases h⟩
  cases hs : heapsB H n
  · exact no (by simp [putR, hs])
  cases hf : firstB (idB H id) n with
  | none => exact no (by simp [putR, hs, hf])
  | some a =>
    cases ht : takesB (H a) g t
    · exact no (by simp [putR, hs, hf, ht])
    have ha := (firstB_some hf).1
    have hida : (H a).id = id := by
      have := (firstB_some hf).2.1
      simpa [idB] using this
    have hha := ((heapsB_at hs).2 a ha).1
    obtain ⟨p1, p2, p3, p4, p5, p6⟩ := put_heap hha ht
    have hG : heapsB (setH H a (putD (H a) t)) n = true := heaps_set hs rfl p1
    have hx := gradeT_bd (g := g) hs n (Nat.le_refl _)
    have hgb : inB g 1 4 = true := by
      have := (heapB_at hha).2.1
      rw [p4] at this
      exact inB_of this.1 this.2
    have hfG : firstB (idB (setH H a (putD (H a) t)) id) n = some a := by
      have h1 := hp_first hG ha
      rw [setH_at, show (putD (H a) t).id = id from hida] at h1
      exact h1
    have h0 := (tonsH_bd hha (H a).n (Nat.le_refl _)).1
    have hle : decide (t ≤ tonsH (setH H a (putD (H a) t) a).n (setH H a (putD (H a) t) a).L) = true := by
      rw [setH_at, p2]
      exact decide_eq_true (by unfold tonsH; omega)
    have htb : inB t 1 6000 = true := inB_of p5 (by omega)
    have eT : takeR (setH H a (putD (H a) t)) n id t = ⟨n, setH (setH H a (putD (H a) t)) a (takeD (setH H a (putD (H a) t) a) t), true⟩ := by
      unfold takeR
      rw [hG, if_pos rfl, hfG]
      simp only
      rw [hle, htb]
      rfl
    refine ⟨n, setH H a (putD (H a) t), true, setH (setH H a (putD (H a) t)) a (takeD (setH H a (putD (H a) t) a) t), sumI (gradeT H g) n, by simp [putR, hs, hf, ht], by simp [putR, hs, hf, ht], by simp [putR, hs, hf, ht], ⟨Nat.le_refl _, fun i hi => ?_⟩, fun _ => ⟨?_, ?_, by rw [eT], by rw [eT], by rw [eT], fun i hi => ?_, hG, hx, p5, p6⟩⟩
    · by_cases e : i = a
      · subst e; rw [setH_at]; have := hl i hi; show (H i).n + 1 ≤ 21; omega
      · rw [setH_ne e]; have := hl i hi; omega
    · unfold tonsOfR
      rw [hs, hgb]
      rfl
    · unfold tonsOfR
      rw [hG, hgb]
      have := tons_set (H := H) (a := a) (d := putD (H a) t) (g := g) p4 p4 n
      rw [if_pos ha, p2] at this
      simp only [Bool.and_self, if_true]
      rw [this]
      refine Prod.ext ?_ rfl
      show sumI (gradeT H g) n + (tonsH (H a).n (H a).L + t - tonsH (H a).n (H a).L) = _
      omega
    · by_cases e : i = a
      · subst e
        rw [setH_at, setH_at, p3]
        refine ⟨rfl, rfl, rfl, rfl, fun k hk => ?_⟩
        have hk' : k < (H i).n := hk
        show addL (H i).n (H i).L t k 0 = _
        simp only [addL]
        rw [if_neg (by omega)]
      · rw [setH_ne e, setH_ne e]
        exact ⟨rfl, rfl, rfl, rfl, fun k _ => rfl⟩
theorem for_law7 (H : Nat → HeapD) (n : Nat) (g t : Int) : ∃ (v : Int) (f : Bool) (N : Nat) (G : Nat → HeapD) (ok : Bool), heapForR H n g t = (v, f) ∧ (putR H n v g t).n = N ∧ (putR H n v g t).H = G ∧ (putR H n v g t).ok = ok ∧ (f = true → ok = true) := by
  obtain ⟨⟨v, f⟩, hE⟩ : ∃ p, heapForR H n g t = p := ⟨_, rfl⟩
  refine ⟨v, f, _, _, _, hE, rfl, rfl, rfl, fun hf => ?_⟩
  subst hf
  obtain ⟨a, -, -, -, -, -, e⟩ := for_law hE
  rw [e]
theorem take_law7 (H : Nat → HeapD) (n : Nat) (id t : Int) (hl : ∀ i, i < n → (H i).n ≤ 20) : ∃ (N : Nat) (G : Nat → HeapD) (ok : Bool), (takeR H n id t).n = N ∧ (takeR H n id t).H = G ∧ (takeR H n id t).ok = ok ∧
    (N ≤ n ∧ ∀ i, i < N → (G i).n ≤ 20) ∧ (ok = true → heapsB G N = true) := by
  refine ⟨_, _, _, rfl, rfl, rfl, ?_, take_law⟩
  have no : noH.n ≤ n ∧ ∀ i, i < noH.n → (noH.H i).n ≤ 20 := ⟨Nat.zero_le _, fun i hi => absurd hi (Nat.not_lt_zero _)⟩
  unfold takeR
  split
  · split
    · split
      · next a _ _ =>
        refine ⟨Nat.le_refl _, fun i hi => ?_⟩
        have hi' : i < n := hi
        show (setH H a (takeD (H a) t) i).n ≤ 20
        by_cases e : i = a
        · subst e
          rw [setH_at]
          have := takeF_le (H i).L (H i).n t
          have := hl i hi'
          show (takeF (H i).L (H i).n t).1 ≤ 20
          omega
        · rw [setH_ne e]; exact hl i hi'
      · exact no
    · exact no
  · exact no
end Go.Proofs.YtbmlglkdlialgaaDoor
