/-
  Plain functions on stacked layers. Conditions: none; no program is named here.
-/
import Derived.Test.YtidcmdnhnnhnhaaHpM
namespace Go.Proofs.Ytidcmdnhnnhnhaa
open Go.RowKit

/-- The stack on which a layer is put best, or -1. -/
def stkI (H : Nat → HeapD) (t : Int) : Nat → Int
  | 0 => -1
  | k + 1 => if bearsB (H k).n (H k).L t = true ∧ (stkI H t k < 0 ∨ topH (H k).n (H k).L < topH (H (stkI H t k).toNat).n (H (stkI H t k).toNat).L) then k else stkI H t k
theorem stkI_bd (H : Nat → HeapD) (t : Int) (k : Nat) : -1 ≤ stkI H t k ∧ stkI H t k < k := by
  induction k with
  | zero => simp [stkI]
  | succ m ih => simp only [stkI]; split <;> omega
theorem stkI_bears (H : Nat → HeapD) (t : Int) (k : Nat) (h : 0 ≤ stkI H t k) : bearsB (H (stkI H t k).toNat).n (H (stkI H t k).toNat).L t = true := by
  induction k with
  | zero => simp [stkI] at h
  | succ m ih =>
    simp only [stkI] at h ⊢
    split
    · rename_i hc; rw [show ((m : Int)).toNat = m from Int.toNat_natCast m]; exact hc.1
    · rename_i hc; rw [if_neg hc] at h; exact ih h
def nilD : HeapD := ⟨0, 0, 0, fun _ _ => 0, false⟩
def newD (t : Int) : HeapD := putD nilD t
theorem setH_setH (H : Nat → HeapD) (a : Nat) (d e : HeapD) : setH (setH H a d) a e = setH H a e := by
  funext i; unfold setH; split <;> rfl
/-- So many stacks. -/
structure Stk where
  m : Nat
  H : Nat → HeapD
def stkStep (S : Stk) (t : Int) : Stk :=
  if stkI S.H t S.m < 0 then ⟨S.m + 1, setH S.H S.m (newD t)⟩ else ⟨S.m, setH S.H (stkI S.H t S.m).toNat (putD (S.H (stkI S.H t S.m).toNat) t)⟩
def stk (F : Nat → Nat → Int) : Nat → Stk
  | 0 => ⟨0, fun _ => ⟨0, 0, 0, fun _ _ => 0, false⟩⟩
  | k + 1 => stkStep (stk F k) (F k 0)
def layB1 (F : Nat → Nat → Int) (i : Nat) : Bool := inB (F i 0) 1 500
def layersB (F : Nat → Nat → Int) (n : Nat) : Bool := decide ((n : Int) ≤ 20) && allB (layB1 F) n
structure StkOk (S : Stk) (k : Nat) : Prop where
  le : S.m ≤ k
  n : ∀ i, i < S.m → 1 ≤ (S.H i).n ∧ (S.H i).n ≤ 12
theorem stk_ok (F : Nat → Nat → Int) (k : Nat) : StkOk (stk F k) k := by
  induction k with
  | zero => exact ⟨Nat.le_refl _, fun i h => absurd h (Nat.not_lt_zero _)⟩
  | succ k ih =>
    obtain ⟨h1, h2⟩ := ih
    have hb := stkI_bd (stk F k).H (F k 0) (stk F k).m
    have hbe := stkI_bears (stk F k).H (F k 0) (stk F k).m
    simp only [stk]
    unfold stkStep
    split
    · refine ⟨Nat.succ_le_succ h1, fun i hi => ?_⟩
      show 1 ≤ (setH _ _ _ i).n ∧ (setH _ _ _ i).n ≤ 12
      unfold setH
      split
      · exact ⟨Nat.le_refl _, by show 1 ≤ 12; omega⟩
      · have hi : i < (stk F k).m + 1 := hi
        exact h2 i (by omega)
    · rename_i hc
      refine ⟨Nat.le_succ_of_le h1, fun i hi => ?_⟩
      have hbb := hbe (by omega)
      simp only [bearsB, Bool.and_eq_true, decide_eq_true_eq] at hbb
      show 1 ≤ (setH _ _ _ i).n ∧ (setH _ _ _ i).n ≤ 12
      unfold setH
      split
      · show 1 ≤ _ + 1 ∧ _ + 1 ≤ 12; omega
      · exact h2 i hi
structure StkRes extends Stk where
  ok : Bool
def noS : StkRes := ⟨⟨0, fun _ => ⟨0, 0, 0, fun _ _ => 0, false⟩⟩, false⟩
def stackR (F : Nat → Nat → Int) (n : Nat) : StkRes := if layersB F n then ⟨stk F n, true⟩ else noS
end Go.Proofs.Ytidcmdnhnnhnhaa
