/-
  Words for heaps: slices of structs with a slice inside, read or owned; plain functions on heaps. Conditions: none; no program is named here.
-/
import Derived.Test.YtbmlglkdlialgaaDoorMath
namespace Go.Proofs.YtbmlglkdlialgaaDoor
open Go.RowKit

/-- A heap: id, grade, number of layers, the layers, covered. -/
structure HeapD where
  id : Int
  gr : Int
  n : Nat
  L : Nat → Nat → Int
  cov : Bool
/-- The cells of heaps whose layers lie at B. -/
def hpC (H : Nat → HeapD) (B : Nat → Option Addr) (c : Nat → Nat) : Nat → Nat → Value := fun i j =>
  match j with
  | 0 => .int .i64 (H i).id
  | 1 => .int .i64 (H i).gr
  | 2 => .slice (B i) (H i).n (c i)
  | _ => .bool (H i).cov
/-- Heaps that came in. -/
def Hp (w : World) (lo hi : Nat) (A : Option Addr) (n : Nat) (H : Nat → HeapD) : Prop :=
  ∃ B c, Sl w lo hi A n 4 (hpC H B c) ∧ ∀ i, i < n → Sl w lo hi (B i) (H i).n 1 (ints (H i).L) ∧ (H i).n ≤ maxLen
theorem Hp.agr {w w' : World} {lo hi : Nat} {A : Option Addr} {n : Nat} {H : Nat → HeapD} (h : Hp w lo hi A n H) (ha : Agr lo hi w w') : Hp w' lo hi A n H := by
  obtain ⟨B, c, h1, h2⟩ := h
  exact ⟨B, c, h1.agr ha, fun i hi => ⟨(h2 i hi).1.agr ha, (h2 i hi).2⟩⟩
theorem Hp.mono {w : World} {lo hi lo' hi' : Nat} {A : Option Addr} {n : Nat} {H : Nat → HeapD} (h : Hp w lo hi A n H) (hl : lo' ≤ lo) (hh : hi ≤ hi') : Hp w lo' hi' A n H := by
  obtain ⟨B, c, h1, h2⟩ := h
  exact ⟨B, c, h1.mono hl hh, fun i hi => ⟨(h2 i hi).1.mono hl hh, (h2 i hi).2⟩⟩
abbrev HpR (w : World) (A : Option Addr) (n : Nat) (H : Nat → HeapD) : Prop := Hp w 0 w.heap.size A n H
theorem Hp.rd {w : World} {lo hi : Nat} {A : Option Addr} {n : Nat} {H : Nat → HeapD} (h : Hp w lo hi A n H) (hh : hi ≤ w.heap.size) : HpR w A n H := h.mono (Nat.zero_le _) hh
theorem HpR.below {w w' : World} {A : Option Addr} {n : Nat} {H : Nat → HeapD} (h : HpR w A n H) (hb : Below w.heap.size w w') : HpR w' A n H :=
  (h.agr (Below.agr hb (Nat.le_refl _))).mono (Nat.le_refl _) hb.size
/-- The cells of one heap, in a later world. -/
theorem hp_at {w w' : World} {A : Option Addr} {n : Nat} {H : Nat → HeapD} {B : Nat → Option Addr} {c : Nat → Nat} (h1 : Sl w 0 w.heap.size A n 4 (hpC H B c)) (hb : Below w.heap.size w w') (hn : 0 < n) :
    ∃ b off, A = some ⟨b, off, none⟩ ∧ b < w'.heap.size ∧ ∀ k, k < n → w'.cell? ⟨b, off + k * 4, none⟩ = some (.int .i64 (H k).id) ∧ w'.cell? ⟨b, off + k * 4 + 1, none⟩ = some (.int .i64 (H k).gr) ∧
      w'.cell? ⟨b, off + k * 4 + 2, none⟩ = some (.slice (B k) (H k).n (c k)) ∧ w'.cell? ⟨b, off + k * 4 + 3, none⟩ = some (.bool (H k).cov) := by
  obtain ⟨b, off, e, -, h2, hc⟩ := Rd.below h1 hb hn
  refine ⟨b, off, e, h2, fun k hk => ⟨?_, ?_, ?_, ?_⟩⟩
  · simpa [hpC] using hc k 0 hk (by omega)
  · simpa [hpC] using hc k 1 hk (by omega)
  · simpa [hpC] using hc k 2 hk (by omega)
  · simpa [hpC] using hc k 3 hk (by omega)

def layB (L : Nat → Nat → Int) (k : Nat) : Bool := inB (L k 0) 1 500 && (decide (k = 0) || decide (L k 0 ≤ L (k - 1) 0))
def heapB (id gr : Int) (n : Nat) (L : Nat → Nat → Int) : Bool := inB id 1 99 && inB gr 1 4 && decide ((n : Int) ≤ 12) && allB (layB L) n
theorem heapB_at {id gr : Int} {n : Nat} {L : Nat → Nat → Int} (h : heapB id gr n L = true) : (1 ≤ id ∧ id ≤ 99) ∧ (1 ≤ gr ∧ gr ≤ 4) ∧ n ≤ 12 ∧ ∀ k, k < n → (1 ≤ L k 0 ∧ L k 0 ≤ 500) ∧ (0 < k → L k 0 ≤ L (k - 1) 0) := by
  simp only [heapB, Bool.and_eq_true, decide_eq_true_eq] at h
  refine ⟨inB_true h.1.1.1, inB_true h.1.1.2, by omega, fun k hk => ?_⟩
  have h1 := allB_at h.2 k hk
  simp only [layB, Bool.and_eq_true, Bool.or_eq_true, decide_eq_true_eq] at h1
  exact ⟨inB_true h1.1, fun h0 => by omega⟩
abbrev heapD (h : HeapD) : Bool := heapB h.id h.gr h.n h.L
def heapAtB (H : Nat → HeapD) (k : Nat) : Bool := heapB (H k).id (H k).gr (H k).n (H k).L && (decide (k = 0) || decide ((H (k - 1)).id < (H k).id))
def heapsB (H : Nat → HeapD) (n : Nat) : Bool := allB (heapAtB H) n && decide ((n : Int) ≤ 10)
theorem heapsB_at {H : Nat → HeapD} {n : Nat} (h : heapsB H n = true) : n ≤ 10 ∧ ∀ k, k < n → heapB (H k).id (H k).gr (H k).n (H k).L = true ∧ (0 < k → (H (k - 1)).id < (H k).id) := by
  simp only [heapsB, Bool.and_eq_true, decide_eq_true_eq] at h
  refine ⟨by omega, fun k hk => ?_⟩
  have h1 := allB_at h.1 k hk
  simp only [heapAtB, Bool.and_eq_true, Bool.or_eq_true, decide_eq_true_eq] at h1
  exact ⟨h1.1, fun h0 => by omega⟩
/-- The tons of a heap. -/
def tonsH (n : Nat) (L : Nat → Nat → Int) : Int := sumI (fun j => L j 0) n
theorem tonsH_bd {id gr : Int} {n : Nat} {L : Nat → Nat → Int} (h : heapB id gr n L = true) : ∀ k, k ≤ n → 0 ≤ sumI (fun j => L j 0) k ∧ sumI (fun j => L j 0) k ≤ 6000 := fun k hk => by
  have hs := heapB_at h
  have := sumI_bound (f := fun j => L j 0) (b := 500) (n := n) (fun i hi => by have := (hs.2.2.2 i hi).1; show 0 ≤ L i 0 ∧ L i 0 ≤ 500; omega) k hk
  omega
def tonsOfR (H : Nat → HeapD) (n : Nat) (g : Int) : Int × Bool :=
  if heapsB H n && inB g 1 4 then (sumI (fun i => if (H i).gr = g then tonsH (H i).n (H i).L else 0) n, true) else (0, false)
/-- The first heap with the most layers, and of those with the most tons. -/
def higherB (a b : HeapD) : Bool := decide (b.n < a.n) || (a.n == b.n && decide (tonsH b.n b.L < tonsH a.n a.L))
def bestH (p : HeapD → HeapD → Bool) (H : Nat → HeapD) : Nat → Nat
  | 0 => 0
  | k + 1 => if p (H k) (H (bestH p H k)) then k else bestH p H k
theorem bestH_lt (p : HeapD → HeapD → Bool) (H : Nat → HeapD) (k : Nat) (h : 0 < k) : bestH p H k < k := by
  induction k with
  | zero => omega
  | succ m ih =>
    simp only [bestH]
    split
    · omega
    · by_cases h0 : m = 0
      · subst h0; simp [bestH]
      · have := ih (by omega); omega
def highestR (H : Nat → HeapD) (n : Nat) : Int × Bool := if heapsB H n && !(n == 0) then ((H (bestH higherB H n)).id, true) else (0, false)
/-- The highest layer, or 1000. -/
def topH (n : Nat) (L : Nat → Nat → Int) : Int := if n = 0 then 1000 else L (n - 1) 0
def bearsB (n : Nat) (L : Nat → Nat → Int) (t : Int) : Bool := decide ((n : Int) < 12) && (decide (n = 0) || decide (t ≤ L (n - 1) 0))
def takesB (h : HeapD) (g t : Int) : Bool := (h.gr == g) && !h.cov && inB t 1 500 && bearsB h.n h.L t
/-- The heap on which a layer is put best, or -1. -/
def forI (H : Nat → HeapD) (g t : Int) : Nat → Int
  | 0 => -1
  | k + 1 => if takesB (H k) g t = true ∧ (forI H g t k < 0 ∨ topH (H k).n (H k).L < topH (H (forI H g t k).toNat).n (H (forI H g t k).toNat).L) then k else forI H g t k
theorem forI_bd (H : Nat → HeapD) (g t : Int) (k : Nat) : -1 ≤ forI H g t k ∧ forI H g t k < k := by
  induction k with
  | zero => simp [forI]
  | succ m ih => simp only [forI]; split <;> omega
def heapForR (H : Nat → HeapD) (n : Nat) (g t : Int) : Int × Bool :=
  if heapsB H n && inB g 1 4 && inB t 1 500 then (if forI H g t n < 0 then (0, false) else ((H (forI H g t n).toNat).id, true)) else (0, false)
end Go.Proofs.YtbmlglkdlialgaaDoor
