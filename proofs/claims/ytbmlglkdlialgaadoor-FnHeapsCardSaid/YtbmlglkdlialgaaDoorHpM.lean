/-
  Plain functions on heaps that are turned: a layer more, tons taken, a rainy day; marks. Conditions: none; no program is named here.
-/
import Derived.Test.YtbmlglkdlialgaaDoorHpE
namespace Go.Proofs.YtbmlglkdlialgaaDoor
open Go.RowKit

def setH (H : Nat → HeapD) (a : Nat) (d : HeapD) : Nat → HeapD := fun i => if i = a then d else H i
theorem setH_at (H : Nat → HeapD) (a : Nat) (d : HeapD) : setH H a d a = d := by simp [setH]
theorem setH_ne {H : Nat → HeapD} {a i : Nat} {d : HeapD} (h : i ≠ a) : setH H a d i = H i := by simp [setH, h]
/-- The heap of a number. -/
def idB (H : Nat → HeapD) (id : Int) (i : Nat) : Bool := (H i).id == id
def putD (h : HeapD) (t : Int) : HeapD := ⟨h.id, h.gr, h.n + 1, addL h.n h.L t, h.cov⟩
/-- What a turned list is, and whether there is one. -/
structure HpRes where
  n : Nat
  H : Nat → HeapD
  ok : Bool
def noH : HpRes := ⟨0, fun _ => ⟨0, 0, 0, fun _ _ => 0, false⟩, false⟩
def putR (H : Nat → HeapD) (n : Nat) (id g t : Int) : HpRes :=
  if heapsB H n then
    match firstB (idB H id) n with
    | some a => if takesB (H a) g t then ⟨n, setH H a (putD (H a) t), true⟩ else noH
    | none => noH
  else noH
/-- Layers of which tons have been taken: how many are left, and these. -/
def takeF (L : Nat → Nat → Int) : Nat → Int → Nat × (Nat → Nat → Int)
  | 0, _ => (0, L)
  | k + 1, t => if t ≤ 0 then (k + 1, L) else if t < L k 0 then (k + 1, fun i j => if i = k then L k 0 - t else L i j) else takeF L k (t - L k 0)
theorem takeF_zero (L : Nat → Nat → Int) (k : Nat) : takeF L k 0 = (k, L) := by cases k <;> simp [takeF]
theorem takeF_le (L : Nat → Nat → Int) : ∀ k t, (takeF L k t).1 ≤ k := by
  intro k
  induction k with
  | zero => intro t; simp [takeF]
  | succ k ih =>
    intro t
    simp only [takeF]
    split
    · simp
    · split
      · simp
      · have := ih (t - L k 0); omega
def takeD (h : HeapD) (t : Int) : HeapD := ⟨h.id, h.gr, (takeF h.L h.n t).1, (takeF h.L h.n t).2, h.cov⟩
def takeR (H : Nat → HeapD) (n : Nat) (id t : Int) : HpRes :=
  if heapsB H n then
    match firstB (idB H id) n with
    | some a => if inB t 1 6000 && decide (t ≤ tonsH (H a).n (H a).L) then ⟨n, setH H a (takeD (H a) t), true⟩ else noH
    | none => noH
  else noH
/-- A rainy day. -/
def wetB (h : HeapD) : Bool := !h.cov && !(h.n == 0)
def rainX (H : Nat → HeapD) (r : Int) (i : Nat) : Int := if wetB (H i) then min (r / 10) (topH (H i).n (H i).L) else 0
def rainD (H : Nat → HeapD) (r : Int) (i : Nat) : HeapD := if wetB (H i) then takeD (H i) (rainX H r i) else H i
def mixR (H : Nat → HeapD) (r : Int) (k : Nat) : Nat → HeapD := fun i => if i < k then rainD H r i else H i
structure RainRes extends HpRes where
  x : Int
def rainOnR (H : Nat → HeapD) (n : Nat) (r : Int) : RainRes :=
  if heapsB H n && inB r 0 300 then ⟨⟨n, rainD H r, true⟩, sumI (rainX H r) n⟩ else ⟨noH, 0⟩
theorem rainX_bd {H : Nat → HeapD} {n i : Nat} {r : Int} (h : heapsB H n = true) (hr : 0 ≤ r) (hr2 : r ≤ 300) (hi : i < n) : 0 ≤ rainX H r i ∧ rainX H r i ≤ 30 := by
  unfold rainX
  split
  · have hs := heapB_at ((heapsB_at h).2 i hi).1
    have : 0 ≤ topH (H i).n (H i).L := by
      unfold topH
      split
      · omega
      · have := (hs.2.2.2 ((H i).n - 1) (by omega)).1; omega
    omega
  · omega
theorem rainS_bd {H : Nat → HeapD} {n : Nat} {r : Int} (h : heapsB H n = true) (hr : 0 ≤ r) (hr2 : r ≤ 300) : ∀ k, k ≤ n → 0 ≤ sumI (rainX H r) k ∧ sumI (rainX H r) k ≤ 300 := fun k hk => by
  have := sumI_bound (f := rainX H r) (b := 30) (n := n) (fun i hi => rainX_bd h hr hr2 hi) k hk
  have := (heapsB_at h).1
  omega
/-- Marks of heaps. -/
def mkK (k0 : Int) (H : Nat → HeapD) : Nat → Int
  | 0 => k0
  | i + 1 => mkK k0 H i + 3 + (H i).n
def mkH (k0 : Int) (H : Nat → HeapD) : Nat → HeapD := fun i => ⟨mkK k0 H i, mkK k0 H i + 1, (H i).n, marks1 (mkK k0 H i + 1 + 1), (mkK k0 H i + 1 + 1 + (H i).n) % 3 == 0⟩
theorem mkK_bd {k0 : Int} {H : Nat → HeapD} {n : Nat} (h : ∀ i, i < n → (H i).n ≤ 1048576) : ∀ i, i ≤ n → k0 ≤ mkK k0 H i ∧ mkK k0 H i ≤ k0 + i * 1048579 := by
  intro i
  induction i with
  | zero => intro _; simp [mkK]
  | succ i ih =>
    intro hi
    have := ih (by omega)
    have := h i (by omega)
    simp only [mkK]
    omega
theorem mkK_congr (k0 : Int) {H H' : Nat → HeapD} (h : ∀ i, (H i).n = (H' i).n) : ∀ i, mkK k0 H i = mkK k0 H' i := by
  intro i
  induction i with
  | zero => rfl
  | succ i ih => simp only [mkK, ih, h i]
def mixM (k0 : Int) (H : Nat → HeapD) (k : Nat) : Nat → HeapD := fun i => if i < k then mkH k0 H i else H i
end Go.Proofs.YtbmlglkdlialgaaDoor
