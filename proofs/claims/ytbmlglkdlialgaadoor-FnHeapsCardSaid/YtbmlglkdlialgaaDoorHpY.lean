/-
  Plain functions on heaps that are covered. Conditions: none; no program is named here.
-/
import Derived.Test.YtbmlglkdlialgaaDoorHpM
import Derived.Test.YtbmlglkdlialgaaDoorCvP
namespace Go.Proofs.YtbmlglkdlialgaaDoor
open Go.RowKit

def hpT (H : Nat → HeapD) (i : Nat) : Int := tonsH (H i).n (H i).L
def wetP (H : Nat → HeapD) (i : Nat) : Bool := wetB (H i)
/-- The heaps, those of c covered. -/
def covD (c : Nat → Bool) (H : Nat → HeapD) : Nat → HeapD := fun i => ⟨(H i).id, (H i).gr, (H i).n, (H i).L, (H i).cov || c i⟩
/-- The order of those that can be covered, and how many are. -/
def ordS (H : Nat → HeapD) (n : Nat) : Nat → Nat := srtT (hpT H) (opO (wetP H) n) (opL (wetP H) n).length
def covN (H : Nat → HeapD) (n : Nat) (s : Int) : Nat := min s.toNat (opL (wetP H) n).length
def coverR (H : Nat → HeapD) (n : Nat) (s : Int) : HpRes :=
  if heapsB H n && inB s 0 20 then ⟨n, covD (prgC (ordS H n) (covN H n s)) H, true⟩ else noH
/-- The reference covers the same. -/
theorem cover_ref (H : Nat → HeapD) (n : Nat) (s : Int) : covD (refC (hpT H) (wetP H) n s.toNat) H = covD (prgC (ordS H n) (covN H n s)) H := by
  rw [cover_same]; rfl
theorem wet_cov (c : Nat → Bool) (H : Nat → HeapD) (i : Nat) : wetB (covD c H i) = (wetP H i && !c i) := by
  simp only [wetB, covD, wetP]
  cases (H i).cov <;> cases c i <;> simp
theorem heaps_cov (c : Nat → Bool) (H : Nat → HeapD) (n : Nat) : heapsB (covD c H) n = heapsB H n := rfl
/-- With twenty sheets nothing stays open, and rain takes nothing. -/
theorem cover_all {H : Nat → HeapD} {n : Nat} (h : heapsB H n = true) : ∀ i, i < n → wetB (covD (prgC (ordS H n) (covN H n 20)) H i) = false := by
  intro i hi
  rw [wet_cov]
  cases hw : wetP H i
  · rfl
  · have hm := opL_len (wetP H) n
    have hn := (heapsB_at h).1
    have e : covN H n 20 = (opL (wetP H) n).length := by unfold covN; omega
    rw [e]
    obtain ⟨j, hj, ej⟩ := (opO_mem (wetP H) n).2 i hi hw
    obtain ⟨s1, s2, s3⟩ := srtT_ok (hpT H) (opO (wetP H) n) (opL (wetP H) n).length (opO_asc (wetP H) n) (opL (wetP H) n).length (Nat.le_refl _)
    obtain ⟨k, hk, ek⟩ := s3 j hj
    have : prgC (ordS H n) (opL (wetP H) n).length i = true := (prgC_at _ _ _).2 ⟨k, hk, by rw [← ej, ← ek]; rfl⟩
    rw [this]; rfl
theorem rain_dry {H : Nat → HeapD} {n : Nat} {r : Int} (h : ∀ i, i < n → wetB (H i) = false) : (∀ i, i < n → rainD H r i = H i) ∧ sumI (rainX H r) n = 0 := by
  refine ⟨fun i hi => by unfold rainD; rw [h i hi]; rfl, ?_⟩
  induction n with
  | zero => rfl
  | succ k ih =>
    simp only [sumI]
    rw [ih fun i hi => h i (by omega)]
    unfold rainX
    rw [h k (by omega)]
    rfl
end Go.Proofs.YtbmlglkdlialgaaDoor
