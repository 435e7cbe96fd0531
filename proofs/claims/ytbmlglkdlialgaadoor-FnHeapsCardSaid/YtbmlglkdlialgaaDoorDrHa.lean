/-
  Words for heaps that are drawn: a box of four cells with a row that grows. Conditions: none; no program is named here.
-/
import Derived.Test.YtbmlglkdlialgaaDoorCuB
import Derived.Test.YtbmlglkdlialgaaDoorOwn
import Derived.Test.YtbmlglkdlialgaaDoorHpB
namespace Go.Proofs.YtbmlglkdlialgaaDoor
open Go.RowKit

/-- A box of four cells of the call's own. -/
structure Box4 (w : World) (g : Nat) (p q r s : Value) : Prop where
  lt : g < w.heap.size
  c0 : w.cell? ⟨g, 0, none⟩ = some p
  c1 : w.cell? ⟨g, 1, none⟩ = some q
  c2 : w.cell? ⟨g, 2, none⟩ = some r
  c3 : w.cell? ⟨g, 3, none⟩ = some s
  f0 : w.frozen? ⟨g, 0, none⟩ = false
  f1 : w.frozen? ⟨g, 1, none⟩ = false
  f2 : w.frozen? ⟨g, 2, none⟩ = false
  f3 : w.frozen? ⟨g, 3, none⟩ = false
section
variable {w w' : World} {g cu : Nat} {p q r s : Value}
theorem Box4.new (w : World) (t : TypeId) (p q r s : Value) : Box4 (w.alloc (.cells #[p, q, r, s] t)) w.heap.size p q r s :=
  ⟨by simp, by rw [World.cell?_alloc_new]; rfl, by rw [World.cell?_alloc_new]; rfl, by rw [World.cell?_alloc_new]; rfl, by rw [World.cell?_alloc_new]; rfl, World.frozen?_alloc_new _ _ _ _, World.frozen?_alloc_new _ _ _ _, World.frozen?_alloc_new _ _ _ _, World.frozen?_alloc_new _ _ _ _⟩
theorem Box4.agr (h : Box4 w g p q r s) (hs : w.heap.size ≤ w'.heap.size) (hb : w'.heap[g]? = w.heap[g]?) : Box4 w' g p q r s := by
  have hc : ∀ j, w'.cell? ⟨g, j, none⟩ = w.cell? ⟨g, j, none⟩ := fun j => World.cell?_of_block hb
  have hf : ∀ j, w'.frozen? ⟨g, j, none⟩ = w.frozen? ⟨g, j, none⟩ := fun j => World.frozen?_of_block hb
  exact ⟨Nat.lt_of_lt_of_le h.lt hs, (hc _).trans h.c0, (hc _).trans h.c1, (hc _).trans h.c2, (hc _).trans h.c3, (hf _).trans h.f0, (hf _).trans h.f1, (hf _).trans h.f2, (hf _).trans h.f3⟩
theorem Box4.below (h : Box4 w g p q r s) (hb : Below w.heap.size w w') : Box4 w' g p q r s := h.agr hb.size (hb.block _ h.lt)
theorem Box4.alloc (h : Box4 w g p q r s) (o : Obj) : Box4 (w.alloc o) g p q r s := h.below ((Below.refl _ _).alloc (Nat.le_refl _) _)
theorem Box4.tch (h : Box4 w g p q r s) (ht : Tch cu (cu + 1) w w') (hn : g ≠ cu) : Box4 w' g p q r s := h.agr ht.size (ht.block _ h.lt (by omega))
theorem Box4.grown {row : Option Nat} (h : Box4 w g p q r s) (hg : w.grownBy w' row) (hn : row ≠ some g) : Box4 w' g p q r s := h.agr hg.size (hg.block _ h.lt (fun e => hn e.symm))
theorem Box4.other (h : Box4 w g p q r s) {e o : Nat} (hn : g ≠ e) (u : Value) : Box4 (w.setCell ⟨e, o, none⟩ u) g p q r s := h.agr (by simp) (Below.heap_setCell _ _ _ _ hn)
theorem Box4.set0 (h : Box4 w g p q r s) (u : Value) : Box4 (w.setCell ⟨g, 0, none⟩ u) g u q r s := by
  obtain ⟨l, a0, a1, a2, a3, b0, b1, b2, b3⟩ := h
  refine ⟨by simpa using l, ?_, ?_, ?_, ?_, ?_, ?_, ?_, ?_⟩ <;> go_simp
theorem Box4.set1 (h : Box4 w g p q r s) (u : Value) : Box4 (w.setCell ⟨g, 1, none⟩ u) g p u r s := by
  obtain ⟨l, a0, a1, a2, a3, b0, b1, b2, b3⟩ := h
  refine ⟨by simpa using l, ?_, ?_, ?_, ?_, ?_, ?_, ?_, ?_⟩ <;> go_simp
theorem Box4.set2 (h : Box4 w g p q r s) (u : Value) : Box4 (w.setCell ⟨g, 2, none⟩ u) g p q u s := by
  obtain ⟨l, a0, a1, a2, a3, b0, b1, b2, b3⟩ := h
  refine ⟨by simpa using l, ?_, ?_, ?_, ?_, ?_, ?_, ?_, ?_⟩ <;> go_simp
end
/-- A heap in a box, its layers a row of the call's own. -/
structure HeS (w : World) (B gh : Nat) (t : TypeId) (id gr : Int) (v : Value) (k : Nat) (cv : Bool) : Prop where
  hB : B ≤ gh
  box : Box4 w gh (.int .i64 id) (.int .i64 gr) v (.bool cv)
  row : RowsI w B t 1 v k
  ne : v.ownBlock ≠ some gh
section
variable {w w' : World} {B gh k cu : Nat} {t : TypeId} {id gr : Int} {v : Value} {cv : Bool}
theorem RowsI.kept {e : TypeId} {sz n : Nat} {v : Value} {row : Option Nat} (h : RowsI w B e sz v n) (hg : w.grownBy w' row) (hn : v.ownBlock = none ∨ v.ownBlock ≠ row) : RowsI w' B e sz v n := by
  obtain ⟨xs, h1, h2⟩ := h
  exact ⟨xs, h1.kept hg hn, h2⟩
theorem set_grown (w : World) (g o : Nat) (u : Value) : w.grownBy (w.setCell ⟨g, o, none⟩ u) (some g) := ⟨rfl, rfl, rfl, by simp, fun k _ hn => Below.heap_setCell _ _ _ _ (by intro h; exact hn (by rw [h]))⟩
theorem HeS.below (h : HeS w B gh t id gr v k cv) (hb : Below w.heap.size w w') : HeS w' B gh t id gr v k cv := ⟨h.hB, h.box.below hb, h.row.below hb, h.ne⟩
theorem HeS.alloc (h : HeS w B gh t id gr v k cv) (o : Obj) : HeS (w.alloc o) B gh t id gr v k cv := h.below ((Below.refl _ _).alloc (Nat.le_refl _) _)
theorem HeS.tch (h : HeS w B gh t id gr v k cv) (ht : Tch cu (cu + 1) w w') (hc : cu < B) : HeS w' B gh t id gr v k cv := ⟨h.hB, h.box.tch ht (by have := h.hB; omega), h.row.tch ht hc, h.ne⟩
/-- One layer more: appended and stored. -/
theorem HeS.app (h : HeS w B gh t id gr v k cv) {v' : Value} {xs : List Value} {z : Int} (hx : ∀ u ∈ xs, ∃ z, u = Value.int .i64 z) (ho : w'.ownsRow B t 1 v' (k + 1) (xs ++ [.int .i64 z]))
    (hg : w.grownBy w' v.ownBlock) (hat : v'.ownBlock = v.ownBlock ∨ v'.ownBlock = some w.heap.size) : HeS (w'.setCell ⟨gh, 2, none⟩ v') B gh t id gr v' (k + 1) cv := by
  have hne : v'.ownBlock ≠ some gh := by
    rcases hat with e | e
    · rw [e]; exact h.ne
    · rw [e]; intro e2; injection e2 with e2; have := h.box.lt; omega
  refine ⟨h.hB, (h.box.grown hg h.ne).set2 v', ⟨_, ho.kept (set_grown w' gh 2 v') (.inr hne), fun u hu => ?_⟩, hne⟩
  rcases List.mem_append.1 hu with h1 | h1
  · exact hx u h1
  · exact ⟨z, by simpa using h1⟩
theorem HeS.set0 (h : HeS w B gh t id gr v k cv) (z : Int) : HeS (w.setCell ⟨gh, 0, none⟩ (.int .i64 z)) B gh t z gr v k cv := ⟨h.hB, h.box.set0 _, h.row.kept (set_grown w gh 0 _) (.inr h.ne), h.ne⟩
theorem HeS.set1 (h : HeS w B gh t id gr v k cv) (z : Int) : HeS (w.setCell ⟨gh, 1, none⟩ (.int .i64 z)) B gh t id z v k cv := ⟨h.hB, h.box.set1 _, h.row.kept (set_grown w gh 1 _) (.inr h.ne), h.ne⟩
/-- A new, empty row. -/
theorem HeS.fresh (h : HeS w B gh t id gr v k cv) (hs : B ≤ w.heap.size) : HeS ((w.alloc (.cells #[] t)).setCell ⟨gh, 2, none⟩ (.slice (some ⟨w.heap.size, 0, none⟩) 0 0)) B gh t id gr (.slice (some ⟨w.heap.size, 0, none⟩) 0 0) 0 cv := by
  have hl := h.box.lt
  have hne : (Value.slice (some ⟨w.heap.size, 0, none⟩) 0 0).ownBlock ≠ some gh := by intro e; injection e with e; have e2 : w.heap.size = gh := e; omega
  exact ⟨h.hB, (h.box.alloc (.cells #[] t)).set2 _, (RowsI.new hs).kept (set_grown _ gh 2 _) (.inr hne), hne⟩
end
theorem Lits0.new' (w : World) (cs : Array Value) (t : TypeId) {n g : Nat} (hg : g = w.heap.size) (hn : n = cs.size) (h : cs.toList.all lit0 = true) : Lits0 (w.alloc (.cells cs t)) g n := by
  subst hg
  exact Lits0.new w cs t hn h
theorem Lits0.alloc {w : World} {g n : Nat} (h : Lits0 w g n) (o : Obj) : Lits0 (w.alloc o) g n := h.below ((Below.refl _ _).alloc (Nat.le_refl _) _)
theorem Lits0.drew {w : World} {g n : Nat} (h : Lits0 w g n) : Lits0 w.drew g n := h.below (Below.refl _ _).drew
theorem Lits0.mono {w : World} {g n n' : Nat} (h : Lits0 w g n) (hn : n' ≤ n) : Lits0 w g n' := ⟨h.lt, fun j hj => h.at_ j (by omega)⟩
/-- What a draw of a heap leaves. -/
def DrawHe (w : World) (cu m : Nat) (e : Ending) (w' : World) : Prop :=
  ∃ (id gr : Int) (A : Option Addr) (n c : Nat) (L : Nat → Nat → Int) (cv : Bool), e = .returned (.agg #[.int .i64 id, .int .i64 gr, .slice A n c, .bool cv]) ∧ n ≤ 20 ∧ Ow w' w.heap.size w'.heap.size A n 1 (ints L) ∧ DrS w w' cu m
end Go.Proofs.YtbmlglkdlialgaaDoor
