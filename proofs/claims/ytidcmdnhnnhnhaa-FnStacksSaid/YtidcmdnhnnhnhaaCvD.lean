/-
  Heaps of the call's own of which some are covered: stores. Conditions: none; no program is named here.
-/
import Derived.Test.YtidcmdnhnnhnhaaHpY
import Derived.Test.YtidcmdnhnnhnhaaHpJ
namespace Go.Proofs.Ytidcmdnhnnhnhaa
open Go.RowKit

def covH (d : HeapD) : HeapD := ⟨d.id, d.gr, d.n, d.L, true⟩
theorem HpX.put {w : World} {lo g n a j : Nat} {H H' : Nat → HeapD} {V : Nat → Value} {u : Value} (h : HpX w lo (some ⟨g, 0, none⟩) n H V) (ha : a < n) (hj : j < 4) (e : ∀ i k, i < n → k < 4 → upd (hpV H V) a j u i k = hpV H' V i k)
    (hn : ∀ i, i < n → (H' i).n = (H i).n ∧ (H' i).L = (H i).L) (o : Nat) (ho : o = a * 4 + j) : HpX (w.setCell ⟨g, o, none⟩ u) lo (some ⟨g, 0, none⟩) n H' V := by
  obtain ⟨g', e', hg1, hg2⟩ := h.form.resolve_left (by omega)
  obtain rfl : g = g' := by injection e' with e'; injection e'
  have hL := h.lay.set (g := g) (o := o) (fun i hi => h.lay.np i hi) u
  refine ⟨?_, ⟨fun i hi => ?_, hL.ne, hL.np⟩, .inr ⟨g, rfl, hg1, by simp; omega⟩⟩
  · exact ((h.top.set ha hj (o := o) (by omega) u).congr fun i k hi hk => e i k hi hk).mono (Nat.le_refl _) (by simp)
  · obtain ⟨e1, e2⟩ := hn i hi
    rw [e1, e2]
    exact hL.own i hi
/-- A store of what stands there. -/
theorem HpX.same {w : World} {lo g n a j : Nat} {H : Nat → HeapD} {V : Nat → Value} (h : HpX w lo (some ⟨g, 0, none⟩) n H V) (ha : a < n) (hj : j < 4) (o : Nat) (ho : o = a * 4 + j) : HpX (w.setCell ⟨g, o, none⟩ (hpV H V a j)) lo (some ⟨g, 0, none⟩) n H V :=
  h.put ha hj (fun i k _ _ => by
    show (if i = a ∧ k = j then hpV H V a j else hpV H V i k) = hpV H V i k
    split
    · rename_i e; rw [e.1, e.2]
    · rfl) (fun _ _ => ⟨rfl, rfl⟩) o ho
/-- One heap is covered. -/
theorem HpX.cover {w : World} {lo g n a : Nat} {H : Nat → HeapD} {V : Nat → Value} (h : HpX w lo (some ⟨g, 0, none⟩) n H V) (ha : a < n) (o : Nat) (ho : o = a * 4 + 3) : HpX (w.setCell ⟨g, o, none⟩ (.bool true)) lo (some ⟨g, 0, none⟩) n (setH H a (covH (H a))) V := by
  refine h.put ha (j := 3) (by omega) (fun i k _ hk => ?_) (fun i _ => ?_) o ho
  · unfold upd
    by_cases e : i = a
    · subst e
      match k, hk with
      | 0, _ => simp [hpV, setH, covH]
      | 1, _ => simp [hpV, setH, covH]
      | 2, _ => simp [hpV]
      | 3, _ => simp [hpV, setH, covH]
    · match k, hk with
      | 0, _ => simp [hpV, setH, e]
      | 1, _ => simp [hpV, setH, e]
      | 2, _ => simp [hpV, e]
      | 3, _ => simp [hpV, setH, e]
  · unfold setH
    split
    · rename_i e; subst e; exact ⟨rfl, rfl⟩
    · exact ⟨rfl, rfl⟩
/-- A store into another block. -/
theorem HpX.other {w : World} {lo g n e o : Nat} {H : Nat → HeapD} {V : Nat → Value} (h : HpX w lo (some ⟨g, 0, none⟩) n H V) (hn : 0 < n) (heg : e ≠ g) (hev : ∀ i, i < n → (V i).ownBlock ≠ some e) (u : Value) : HpX (w.setCell ⟨e, o, none⟩ u) lo (some ⟨g, 0, none⟩) n H V := by
  obtain ⟨g', e', hg1, hg2⟩ := h.form.resolve_left (by omega)
  obtain rfl : g = g' := by injection e' with e'; injection e'
  refine ⟨?_, h.lay.set hev u, .inr ⟨g, rfl, hg1, by simp; omega⟩⟩
  have := h.top.tight.agr (w' := w.setCell ⟨e, o, none⟩ u) fun k k1 k2 => Below.heap_setCell _ _ _ _ (by show k ≠ e; omega)
  exact this.mono hg1 (by simp; omega)
theorem Tch.cell_nq {lo hi : Nat} {w w' : World} (t : Tch lo hi w w') {p : Addr} (hp : p.block < w.heap.size) (hn : ¬(lo ≤ p.block ∧ p.block < hi)) : w'.cell? p = w.cell? p := World.cell?_of_block (t.block _ hp hn)
theorem covD_none (H : Nat → HeapD) : covD (fun _ => false) H = H := by
  funext i
  simp [covD]
theorem covD_set (C : Nat → Bool) (H : Nat → HeapD) (b : Nat) : setH (covD C H) b (covH (covD C H b)) = covD (fun i => decide (i = b) || C i) H := by
  funext i
  unfold setH
  by_cases e : i = b
  · subst e; simp [covD, covH]
  · simp [covD, e]
end Go.Proofs.Ytidcmdnhnnhnhaa
