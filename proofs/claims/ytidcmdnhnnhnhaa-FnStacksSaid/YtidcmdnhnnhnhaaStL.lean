/-
  Plain laws on stacked layers for the law FnStacks. Conditions: none; no program is named here.
-/
import Derived.Test.YtidcmdnhnnhnhaaHpZ
import Derived.Test.YtidcmdnhnnhnhaaStM
namespace Go.Proofs.Ytidcmdnhnnhnhaa
open Go.RowKit

theorem all_set {H : Nat → HeapD} {a : Nat} {d : HeapD} : ∀ k, sumI (fun i => tonsH (setH H a d i).n (setH H a d i).L) k =
    sumI (fun i => tonsH (H i).n (H i).L) k + (if a < k then tonsH d.n d.L - tonsH (H a).n (H a).L else 0) := by
  intro k
  induction k with
  | zero => simp [sumI]
  | succ k ih =>
    simp only [sumI]
    rw [ih]
    by_cases e : k = a
    · subst e
      rw [setH_at, if_neg (Nat.lt_irrefl _), if_pos (Nat.lt_succ_self _)]
      omega
    · rw [setH_ne e]
      by_cases c : a < k
      · rw [if_pos c, if_pos (show a < k + 1 by omega)]; omega
      · rw [if_neg c, if_neg (show ¬ a < k + 1 by omega)]; omega
theorem put_one {n : Nat} {L : Nat → Nat → Int} {t : Int} (h : heapB 1 1 n L = true) (hb : bearsB n L t = true) (h1 : 1 ≤ t) (h2 : t ≤ 500) : heapB 1 1 (n + 1) (addL n L t) = true ∧ tonsH (n + 1) (addL n L t) = tonsH n L + t := by
  have := put_heap (h := ⟨1, 1, n, L, false⟩) (g := 1) (t := t) h (by simp [takesB, hb, inB_of h1 h2])
  exact ⟨this.1, this.2.1⟩
/-- Each stack is a heap, and all tons are there. -/
theorem stack_law {F : Nat → Nat → Int} {n : Nat} (h : layersB F n = true) : ∀ k, k ≤ n →
    (∀ i, i < (stk F k).m → heapB 1 1 ((stk F k).H i).n ((stk F k).H i).L = true) ∧ sumI (fun i => tonsH ((stk F k).H i).n ((stk F k).H i).L) (stk F k).m = sumI (fun j => F j 0) k := by
  simp only [layersB, Bool.and_eq_true, decide_eq_true_eq] at h
  intro k
  induction k with
  | zero => exact fun _ => ⟨fun i hi => absurd hi (Nat.not_lt_zero _), rfl⟩
  | succ k ih =>
    intro hk
    obtain ⟨i1, i2⟩ := ih (by omega)
    have ht : inB (F k 0) 1 500 = true := allB_at h.2 k (by omega)
    have ht := inB_true ht
    have hb := stkI_bd (stk F k).H (F k 0) (stk F k).m
    have hbe := stkI_bears (stk F k).H (F k 0) (stk F k).m
    simp only [stk, sumI]
    unfold stkStep
    by_cases hc : stkI (stk F k).H (F k 0) (stk F k).m < 0
    · rw [if_pos hc]
      have hn := put_one (n := 0) (L := fun _ _ => 0) (t := F k 0) (by decide) (by simp [bearsB]) ht.1 ht.2
      simp only
      refine ⟨fun i hi => ?_, ?_⟩
      · by_cases e : i = (stk F k).m
        · subst e; rw [setH_at]; exact hn.1
        · rw [setH_ne e]; exact i1 i (by omega)
      · simp only [sumI]
        rw [all_set, if_neg (Nat.lt_irrefl _), i2, setH_at]
        have e : tonsH (newD (F k 0)).n (newD (F k 0)).L = F k 0 := by
          have := hn.2
          simp only [tonsH, sumI] at this
          simp only [newD, nilD, putD, tonsH, sumI]
          omega
        rw [e]; omega
    · rw [if_neg hc]
      simp only
      have ha : (stkI (stk F k).H (F k 0) (stk F k).m).toNat < (stk F k).m := by omega
      have hbe := hbe (by omega)
      generalize (stkI (stk F k).H (F k 0) (stk F k).m).toNat = a at *
      have hn := put_one (i1 a ha) hbe ht.1 ht.2
      refine ⟨fun i hi => ?_, ?_⟩
      · by_cases e : i = a
        · subst e; rw [setH_at]; exact hn.1
        · rw [setH_ne e]; exact i1 i hi
      · rw [all_set, if_pos ha, i2]
        have e : tonsH (putD ((stk F k).H a) (F k 0)).n (putD ((stk F k).H a) (F k 0)).L = tonsH ((stk F k).H a).n ((stk F k).H a).L + F k 0 := hn.2
        rw [e]; omega
end Go.Proofs.Ytidcmdnhnnhnhaa
