/-
  Contracts on heaps: the highest, of the program and of the reference. Conditions: lengths up to 2^20.
-/
import Derived.Test.YtbmlglkdlialgaaDoorHpC
namespace Go.Proofs.YtbmlglkdlialgaaDoor
open Go.RowKit

theorem bestH_one (p : HeapD → HeapD → Bool) (H : Nat → HeapD) : bestH p H 1 = 0 := by unfold bestH; split <;> rfl
theorem hp_at' {w w' : World} {b off : Nat} {n : Nat} {H : Nat → HeapD} {B : Nat → Option Addr} {c : Nat → Nat} (h1 : Sl w 0 w.heap.size (some ⟨b, off, none⟩) n 4 (hpC H B c)) (hb : Below w.heap.size w w') (hn : 0 < n) :
    b < w'.heap.size ∧ ∀ k, k < n → w'.cell? ⟨b, off + k * 4, none⟩ = some (.int .i64 (H k).id) ∧ w'.cell? ⟨b, off + k * 4 + 1, none⟩ = some (.int .i64 (H k).gr) ∧
      w'.cell? ⟨b, off + k * 4 + 2, none⟩ = some (.slice (B k) (H k).n (c k)) ∧ w'.cell? ⟨b, off + k * 4 + 3, none⟩ = some (.bool (H k).cov) := by
  obtain ⟨b', off', e, h2, hc⟩ := hp_at h1 hb hn
  obtain ⟨rfl, rfl⟩ : b = b' ∧ off = off' := by injection e with e; injection e with h1 h2; exact ⟨h1, h2⟩
  exact ⟨h2, hc⟩
theorem box4_at {w : World} {g : Nat} {H : Nat → HeapD} {B : Nat → Option Addr} {c : Nat → Nat} {p : Nat} (h : Ow w g (g + 1) (some ⟨g, 0, none⟩) 1 4 (fun _ j => hpC H B c p j)) :
    (w.cell? ⟨g, 0, none⟩ = some (.int .i64 (H p).id) ∧ w.cell? ⟨g, 1, none⟩ = some (.int .i64 (H p).gr) ∧ w.cell? ⟨g, 2, none⟩ = some (.slice (B p) (H p).n (c p)) ∧ w.cell? ⟨g, 3, none⟩ = some (.bool (H p).cov)) ∧
    w.frozen? ⟨g, 0, none⟩ = false ∧ w.frozen? ⟨g, 1, none⟩ = false ∧ w.frozen? ⟨g, 2, none⟩ = false ∧ w.frozen? ⟨g, 3, none⟩ = false := by
  obtain ⟨-, -, cc, f⟩ := h.at_ (i := 0) (by omega)
  have c0 := cc 0 (by omega)
  have c1 := cc 1 (by omega)
  have c2 := cc 2 (by omega)
  have c3 := cc 3 (by omega)
  have f0 := f 0 (by omega)
  have f1 := f 1 (by omega)
  have f2 := f 2 (by omega)
  have f3 := f 3 (by omega)
  simp only [Nat.zero_mul, Nat.zero_add] at c0 c1 c2 c3 f0 f1 f2 f3
  exact ⟨⟨c0, c1, c2, c3⟩, f0, f1, f2, f3⟩
theorem box4_set {w : World} {g : Nat} {H : Nat → HeapD} {B : Nat → Option Addr} {c : Nat → Nat} {p : Nat} (h : Ow w g (g + 1) (some ⟨g, 0, none⟩) 1 4 (fun _ j => hpC H B c p j)) (k : Nat) :
    Ow ((((w.setCell ⟨g, 0, none⟩ (.int .i64 (H k).id)).setCell ⟨g, 1, none⟩ (.int .i64 (H k).gr)).setCell ⟨g, 2, none⟩ (.slice (B k) (H k).n (c k))).setCell ⟨g, 3, none⟩ (.bool (H k).cov)) g (g + 1) (some ⟨g, 0, none⟩) 1 4 (fun _ j => hpC H B c k j) :=
  ((((h.set (i0 := 0) (j0 := 0) (o := 0) (by omega) (by omega) rfl _).set (i0 := 0) (j0 := 1) (o := 1) (by omega) (by omega) rfl _).set (i0 := 0) (j0 := 2) (o := 2) (by omega) (by omega) rfl _).set (i0 := 0) (j0 := 3) (o := 3) (by omega) (by omega) rfl _).congr fun i j hi hj => by
    obtain rfl : i = 0 := by omega
    match j, hj with
    | 0, _ => simp [upd, hpC]
    | 1, _ => simp [upd, hpC]
    | 2, _ => simp [upd, hpC]
    | 3, _ => simp [upd, hpC]
theorem box4_new (w : World) (t : TypeId) (H : Nat → HeapD) (B : Nat → Option Addr) (c : Nat → Nat) (p : Nat) :
    Ow (w.alloc (.cells #[.int .i64 (H p).id, .int .i64 (H p).gr, .slice (B p) (H p).n (c p), .bool (H p).cov] t)) w.heap.size (w.heap.size + 1) (some ⟨w.heap.size, 0, none⟩) 1 4 (fun _ j => hpC H B c p j) :=
  (Ow.box w #[.int .i64 (H p).id, .int .i64 (H p).gr, .slice (B p) (H p).n (c p), .bool (H p).cov] t).congr fun i j _ hj => by
    match j, hj with
    | 0, _ => rfl
    | 1, _ => rfl
    | 2, _ => rfl
    | 3, _ => rfl



end Go.Proofs.YtbmlglkdlialgaaDoor
