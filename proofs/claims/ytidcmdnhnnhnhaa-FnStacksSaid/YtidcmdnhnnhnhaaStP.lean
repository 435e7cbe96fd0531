/-
  Plain laws for the law FnStacks: rain, cover, stacks, with named results. Conditions: none; no program is named here.
-/
import Derived.Test.YtidcmdnhnnhnhaaStL
namespace Go.Proofs.Ytidcmdnhnnhnhaa
open Go.RowKit

def smallH (H : Nat → HeapD) (n : Nat) : Prop := ∀ i, i < n → (H i).n ≤ 20
theorem gr_bd {H : Nat → HeapD} {n : Nat} (h : heapsB H n = true) (g : Int) : 0 ≤ sumI (fun i => if (H i).gr = g then tonsH (H i).n (H i).L else 0) n ∧ sumI (fun i => if (H i).gr = g then tonsH (H i).n (H i).L else 0) n ≤ 60000 := by
  have hs := heapsB_at h
  have := sumI_bound (f := fun i => if (H i).gr = g then tonsH (H i).n (H i).L else 0) (b := 6000) (n := n) (fun i hi => by
    have h1 := tonsH_bd (hs.2 i hi).1 (H i).n (Nat.le_refl _)
    show 0 ≤ (if (H i).gr = g then tonsH (H i).n (H i).L else 0) ∧ (if (H i).gr = g then tonsH (H i).n (H i).L else 0) ≤ 6000
    unfold tonsH
    split <;> omega) n (Nat.le_refl _)
  omega
/-- Rain: what is lost is what the grades lack. -/
theorem rain_law (H : Nat → HeapD) (n : Nat) (r : Int) (_hsm : smallH H n) : ∃ (N : Nat) (G : Nat → HeapD) (X : Int) (ok : Bool) (S a b : Nat → Int), (rainOnR H n r).n = N ∧ (rainOnR H n r).H = G ∧ (rainOnR H n r).x = X ∧ (rainOnR H n r).ok = ok ∧
    (N ≤ n ∧ smallH G N) ∧ S 1 = 0 ∧ (ok = false → X = 0) ∧ (ok = true → S 5 = X ∧ ∀ g : Nat, 1 ≤ g → g ≤ 4 → tonsOfR H n g = (a g, true) ∧ tonsOfR G N g = (b g, true) ∧ S (g + 1) = S g + a g - b g ∧
      (-1000000 ≤ S g ∧ S g ≤ 1000000) ∧ (0 ≤ a g ∧ a g ≤ 60000) ∧ (0 ≤ b g ∧ b g ≤ 60000)) := by
  unfold rainOnR
  cases h : (heapsB H n && inB r 0 300)
  · exact ⟨0, _, 0, false, fun _ => 0, fun _ => 0, fun _ => 0, rfl, rfl, rfl, rfl, ⟨Nat.zero_le _, fun i hi => absurd hi (Nat.not_lt_zero _)⟩, rfl, fun _ => rfl, fun h => by cases h⟩
  · simp only [Bool.and_eq_true] at h
    obtain ⟨h1, h2⟩ := h
    have hr := (inB_true h2).1
    have h3 := rain_heaps h1 hr
    have hgr := rain_grades h1 hr n (Nat.le_refl _)
    have ha := gr_bd h1
    have hb := gr_bd h3
    refine ⟨n, rainD H r, sumI (rainX H r) n, true, fun g => sumI (fun j => sumI (fun i => if (H i).gr = ((j + 1 : Nat) : Int) then tonsH (H i).n (H i).L else 0) n - sumI (fun i => if (rainD H r i).gr = ((j + 1 : Nat) : Int) then tonsH (rainD H r i).n (rainD H r i).L else 0) n) (g - 1),
      fun g => sumI (fun i => if (H i).gr = (g : Int) then tonsH (H i).n (H i).L else 0) n, fun g => sumI (fun i => if (rainD H r i).gr = (g : Int) then tonsH (rainD H r i).n (rainD H r i).L else 0) n, rfl, rfl, rfl, rfl, ⟨Nat.le_refl _, fun i hi => ?_⟩, rfl, (fun h => by cases h), fun _ => ⟨?_, fun g g1 g4 => ?_⟩⟩
    · have := (heapB_at ((heapsB_at h3).2 i hi).1).2.2.1
      omega
    · simp only [show 5 - 1 = 4 from rfl, sumI]
      have e : ∀ q : Nat, ((q + 1 : Nat) : Int) = (q : Int) + 1 := fun q => by omega
      simp only [show ((0 + 1 : Nat) : Int) = 1 from rfl, show ((1 + 1 : Nat) : Int) = 2 from rfl, show ((2 + 1 : Nat) : Int) = 3 from rfl, show ((3 + 1 : Nat) : Int) = 4 from rfl]
      simp only [tonsH] at hgr ⊢
      omega
    · have hg1 : (1 : Int) ≤ (g : Int) := by omega
      have hg4 : (g : Int) ≤ 4 := by omega
      refine ⟨?_, ?_, ?_, ?_, ha g, hb g⟩
      · unfold tonsOfR; rw [h1, inB_of hg1 hg4]; rfl
      · unfold tonsOfR; rw [h3, inB_of hg1 hg4]; rfl
      · obtain ⟨q, rfl⟩ : ∃ q, g = q + 1 := ⟨g - 1, by omega⟩
        simp only [Nat.add_sub_cancel, sumI]
        omega
      · have := sumI_bound (f := fun j => sumI (fun i => if (H i).gr = ((j + 1 : Nat) : Int) then tonsH (H i).n (H i).L else 0) n - sumI (fun i => if (rainD H r i).gr = ((j + 1 : Nat) : Int) then tonsH (rainD H r i).n (rainD H r i).L else 0) n + 60000) (b := 120000) (n := 4) (fun j _ => by
          have h5 := ha ((j + 1 : Nat) : Int)
          have h6 := hb ((j + 1 : Nat) : Int)
          show 0 ≤ _ - _ + 60000 ∧ _ - _ + 60000 ≤ (120000 : Int)
          omega) (g - 1) (by omega)
        have e : ∀ (f : Nat → Int) k, sumI (fun j => f j + 60000) k = sumI f k + 60000 * k := fun f k => by
          induction k with
          | zero => simp [sumI]
          | succ k ih => simp only [sumI]; rw [ih]; omega
        rw [e] at this
        simp only
        omega
/-- Cover: covered heaps lose nothing. -/
theorem cover_law (H : Nat → HeapD) (n : Nat) (s : Int) (hsm : smallH H n) : ∃ (N : Nat) (G : Nat → HeapD) (ok : Bool) (N2 : Nat) (G2 : Nat → HeapD) (k2 : Bool), (coverR H n s).n = N ∧ (coverR H n s).H = G ∧ (coverR H n s).ok = ok ∧ (coverR H n 20).n = N2 ∧ (coverR H n 20).H = G2 ∧ (coverR H n 20).ok = k2 ∧
    (N ≤ n ∧ smallH G N) ∧ (N2 ≤ n ∧ smallH G2 N2) ∧ (ok = true → k2 = true ∧ (rainOnR G2 N2 300).n = N2 ∧ (∀ i, i < N2 → (rainOnR G2 N2 300).H i = G2 i) ∧ (rainOnR G2 N2 300).x = 0 ∧ (rainOnR G2 N2 300).ok = true) := by
  have hsmc : ∀ q, (coverR H n q).n ≤ n ∧ smallH (coverR H n q).H (coverR H n q).n := fun q => by
    unfold coverR
    split
    · exact ⟨Nat.le_refl _, fun i hi => hsm i hi⟩
    · exact ⟨Nat.zero_le _, fun i hi => absurd hi (Nat.not_lt_zero _)⟩
  refine ⟨_, _, _, _, _, _, rfl, rfl, rfl, rfl, rfl, rfl, hsmc s, hsmc 20, fun ok => ?_⟩
  have h1 : heapsB H n = true := by
    unfold coverR at ok
    cases h : heapsB H n
    · simp [h, noH] at ok
    · rfl
  have e : coverR H n 20 = ⟨n, covD (prgC (ordS H n) (covN H n 20)) H, true⟩ := by
    unfold coverR
    rw [h1, inB_of (by omega : (0 : Int) ≤ 20) (by omega)]
    rfl
  rw [e]
  simp only
  have hd := rain_dry (r := 300) (cover_all h1)
  have e2 : rainOnR (covD (prgC (ordS H n) (covN H n 20)) H) n 300 = ⟨⟨n, rainD (covD (prgC (ordS H n) (covN H n 20)) H) 300, true⟩, sumI (rainX (covD (prgC (ordS H n) (covN H n 20)) H) 300) n⟩ := by
    unfold rainOnR
    rw [heaps_cov, h1, inB_of (by omega : (0 : Int) ≤ 300) (by omega)]
    rfl
  rw [e2]
  exact ⟨(by trivial), rfl, hd.1, hd.2, rfl⟩
/-- Stacks: each is a heap, and all tons are there. -/
theorem stack_law2 (F : Nat → Nat → Int) (n : Nat) (hn : n ≤ 40) : ∃ (M : Nat) (G : Nat → HeapD) (ok : Bool), (stackR F n).m = M ∧ (stackR F n).H = G ∧ (stackR F n).ok = ok ∧ (M ≤ 40 ∧ smallH G M) ∧
    (∀ i, i < M → heapB 1 1 (G i).n (G i).L = true ∧ ∀ k, k ≤ (G i).n → 0 ≤ sumI (fun j => (G i).L j 0) k ∧ sumI (fun j => (G i).L j 0) k ≤ 6000) ∧
    (∀ k, k ≤ M → 0 ≤ sumI (fun i => tonsH (G i).n (G i).L) k ∧ sumI (fun i => tonsH (G i).n (G i).L) k ≤ 240000) ∧
    (ok = true → (∀ k, k ≤ n → 0 ≤ sumI (fun j => F j 0) k ∧ sumI (fun j => F j 0) k ≤ 20000) ∧ sumI (fun i => tonsH (G i).n (G i).L) M = sumI (fun j => F j 0) n) := by
  unfold stackR
  cases h : layersB F n
  · refine ⟨0, _, false, rfl, rfl, rfl, ⟨Nat.zero_le _, fun i hi => absurd hi (Nat.not_lt_zero _)⟩, fun i hi => absurd hi (Nat.not_lt_zero _), fun k hk => ?_, fun h => by cases h⟩
    obtain rfl : k = 0 := by omega
    simp [sumI]
  · have hl := stack_law h n (Nat.le_refl _)
    have ho := stk_ok F n
    have hall : ∀ i, i < (stk F n).m → heapB 1 1 ((stk F n).H i).n ((stk F n).H i).L = true ∧ ∀ k, k ≤ ((stk F n).H i).n → 0 ≤ sumI (fun j => ((stk F n).H i).L j 0) k ∧ sumI (fun j => ((stk F n).H i).L j 0) k ≤ 6000 := fun i hi => ⟨hl.1 i hi, tonsH_bd (hl.1 i hi)⟩
    have hle := ho.le
    refine ⟨(stk F n).m, (stk F n).H, true, rfl, rfl, rfl, ⟨by omega, fun i hi => by have := (ho.n i hi).2; omega⟩, hall, fun k hk => ?_, fun _ => ⟨fun k hk => ?_, hl.2⟩⟩
    · have := sumI_bound (f := fun i => tonsH ((stk F n).H i).n ((stk F n).H i).L) (b := 6000) (n := (stk F n).m) (fun i hi => by
        have := (hall i hi).2 _ (Nat.le_refl _)
        exact this) k hk
      omega
    · simp only [layersB, Bool.and_eq_true, decide_eq_true_eq] at h
      have := sumI_bound (f := fun j => F j 0) (b := 500) (n := n) (fun i hi => by
        have ht : inB (F i 0) 1 500 = true := allB_at h.2 i hi
        have := inB_true ht
        show 0 ≤ F i 0 ∧ F i 0 ≤ 500
        omega) k hk
      omega
end Go.Proofs.Ytidcmdnhnnhnhaa
