/-
  Words and small lemmas for the walks of this seat: worlds that grow, slices that read as tables of values, regions whose calls make memory. Conditions: none; no program is named here.
-/
import Derived.WalkKit
import Derived.WalkSpells
import Derived.WalkLawsBesides
import Derived.BigQuiet
import Derived.Outline
import Derived.Carry
import Derived.Deep.Slices
import Derived.Deep.AppendLies
import Derived.Deep.RegionHeld3
import Derived.Deep.DrawnRows
import Derived.Deep.DeepCutAuto
namespace Go.Proofs.YtbmlglkdlialgaaDoor
open Go.RowKit

theorem hide {p : Prop} (h : p) : Hid p := h
theorem ret_int {k : IntKind} {a b : Int} (h : a = b) : Ending.returned (.int k a) = .returned (.int k b) := by rw [h]
theorem ret_bool {a b : Bool} (h : a = b) : Ending.returned (.bool a) = .returned (.bool b) := by rw [h]

theorem bcell {W w1 : World} (hb : Below W.heap.size W w1) : (∀ b o, b < W.heap.size → w1.cell? ⟨b, o, none⟩ = W.cell? ⟨b, o, none⟩) ∧ (∀ b o, b < W.heap.size → w1.frozen? ⟨b, o, none⟩ = W.frozen? ⟨b, o, none⟩) :=
  ⟨fun b o h => hb.cell (p := ⟨b, o, none⟩) h, fun b o h => hb.frozen (p := ⟨b, o, none⟩) h⟩

theorem gr {a b c : World} (h : Below a.heap.size a b) (k : Below b.heap.size b c) : Below a.heap.size a c := h.trans (k.mono h.size)

/-- The worlds in which all that lay below W's size reads as it did. -/
structure After (W : World) where
  w : World
  h : Below W.heap.size W w
instance After.some (W : World) : Nonempty (After W) := ⟨⟨W, Below.refl _ _⟩⟩

theorem region_after {P : Program} {id : Nat} {Q : Exit → Act → World → Prop} {a : Act} {W : World} {l : List Oper} (hm : P.follows .mixedOrders = true) (hB : Region.lexB .any l.toArray = true)
    (h : wpQuiet P l.toArray (fun w' => ∃ x : After W, w' = x.w) (fun a' => ∀ w', (∃ x : After W, w' = x.w) → Q .normal a' w') l a) : (Code.region id l.toArray true).wp P Q a W :=
  wp_region_quiet (C := fun w' => ∃ x : After W, w' = x.w) hm hB ⟨⟨_, (Below.refl _ _).drew⟩, rfl⟩ (by simpa using h)

theorem Calls.after {P : Program} {f : FuncId} {args : Array Value} {W : World} {x : After W} {v : Value}
    (h : Calls P f args x.w fun e w' => e = .returned v ∧ Below x.w.heap.size x.w w') : Calls P f args x.w fun e w'' => e = .returned v ∧ ∃ y : After W, w'' = y.w :=
  h.mono fun _ w' ⟨he, hb⟩ => ⟨he, ⟨w', x.h.trans (hb.mono x.h.size)⟩, rfl⟩
theorem Calls.after_same {P : Program} {f : FuncId} {args : Array Value} {W : World} {x : After W} {v : Value}
    (h : Calls P f args x.w fun e w' => e = .returned v ∧ x.w = w') : Calls P f args x.w fun e w'' => e = .returned v ∧ ∃ y : After W, w'' = y.w :=
  h.mono fun _ _ ⟨he, hb⟩ => ⟨he, x, hb.symm⟩
theorem After.cell {W : World} (x : After W) {p : Addr} {v : Option Value} (h : W.cell? p = v) (hp : p.block < W.heap.size) : x.w.cell? p = v := (x.h.cell hp).trans h
theorem After.frozen {W : World} (x : After W) {p : Addr} {v : Bool} (h : W.frozen? p = v) (hp : p.block < W.heap.size) : x.w.frozen? p = v := (x.h.frozen hp).trans h

theorem acell (W : World) (x : After W) : (∀ b o, b < W.heap.size → x.w.cell? ⟨b, o, none⟩ = W.cell? ⟨b, o, none⟩) ∧ ∀ b o, b < W.heap.size → x.w.frozen? ⟨b, o, none⟩ = W.frozen? ⟨b, o, none⟩ := bcell x.h

/-- Only the blocks from lo to below hi, and new ones, have turned. -/
structure Tch (lo hi : Nat) (w w' : World) : Prop where
  os : w'.os = w.os
  tape : w'.tape = w.tape
  output : w'.output = w.output
  size : w.heap.size ≤ w'.heap.size
  block : ∀ k, k < w.heap.size → ¬(lo ≤ k ∧ k < hi) → w'.heap[k]? = w.heap[k]?
theorem Tch.refl (lo hi : Nat) (w : World) : Tch lo hi w w := ⟨rfl, rfl, rfl, Nat.le_refl _, fun _ _ _ => rfl⟩
theorem Tch.trans {lo hi : Nat} {a b c : World} (h : Tch lo hi a b) (k : Tch lo hi b c) : Tch lo hi a c :=
  ⟨k.os.trans h.os, k.tape.trans h.tape, k.output.trans h.output, Nat.le_trans h.size k.size, fun i hi' hn => (k.block i (Nat.lt_of_lt_of_le hi' h.size) hn).trans (h.block i hi' hn)⟩
theorem Tch.of_below {lo hi : Nat} {w w' : World} (h : Below w.heap.size w w') : Tch lo hi w w' := ⟨h.os, h.tape, h.output, h.size, fun k hk _ => h.block k hk⟩
theorem Tch.below {B lo hi : Nat} {w w' : World} (h : Tch lo hi w w') (hB : B ≤ lo) (hw : B ≤ w.heap.size) : Below B w w' :=
  ⟨h.os, h.tape, h.output, h.size, fun k hk => h.block k (by omega) (by omega)⟩
theorem Tch.alloc {lo hi : Nat} {a w : World} (h : Tch lo hi a w) (o : Obj) : Tch lo hi a (w.alloc o) :=
  h.trans (.of_below ((Below.refl _ _).alloc (Nat.le_refl _) o))
theorem Tch.drew {lo hi : Nat} {a w : World} (h : Tch lo hi a w) : Tch lo hi a w.drew := ⟨h.os, h.tape, h.output, h.size, h.block⟩
theorem Tch.setCell {lo hi : Nat} {a w : World} (h : Tch lo hi a w) {p : Addr} (hl : lo ≤ p.block) (hh : p.block < hi) (u : Value) : Tch lo hi a (w.setCell p u) :=
  h.trans ⟨rfl, rfl, rfl, by simp, fun k _ hn => Below.heap_setCell _ _ _ _ (by omega)⟩

/-- From lo to below hi the two worlds have the same blocks. -/
def Agr (lo hi : Nat) (w w' : World) : Prop := ∀ k, lo ≤ k → k < hi → w'.heap[k]? = w.heap[k]?
theorem Agr.refl (lo hi : Nat) (w : World) : Agr lo hi w w := fun _ _ _ => rfl
theorem Agr.trans {lo hi : Nat} {a b c : World} (h : Agr lo hi a b) (k : Agr lo hi b c) : Agr lo hi a c := fun i h1 h2 => (k i h1 h2).trans (h i h1 h2)
theorem Below.agr {B lo hi : Nat} {w w' : World} (h : Below B w w') (hh : hi ≤ B) : Agr lo hi w w' := fun k _ h2 => h.block k (by omega)
theorem Tch.agr {lo hi l h : Nat} {w w' : World} (t : Tch lo hi w w') (hs : h ≤ w.heap.size) (hd : h ≤ lo ∨ hi ≤ l) : Agr l h w w' :=
  fun k h1 h2 => t.block k (by omega) (by omega)
theorem Agr.cell {lo hi : Nat} {w w' : World} (h : Agr lo hi w w') {p : Addr} (h1 : lo ≤ p.block) (h2 : p.block < hi) : w'.cell? p = w.cell? p := World.cell?_of_block (h _ h1 h2)
theorem Agr.frozen {lo hi : Nat} {w w' : World} (h : Agr lo hi w w') {p : Addr} (h1 : lo ≤ p.block) (h2 : p.block < hi) : w'.frozen? p = w.frozen? p := World.frozen?_of_block (h _ h1 h2)

/-- A slice at A of n elements, sz cells each, reads as F; it lies in a block from lo to below hi. -/
def Sl (w : World) (lo hi : Nat) (A : Option Addr) (n sz : Nat) (F : Nat → Nat → Value) : Prop :=
  0 < n → ∃ b off, A = some ⟨b, off, none⟩ ∧ lo ≤ b ∧ b < hi ∧ ∀ i j, i < n → j < sz → w.cell? ⟨b, off + i * sz + j, none⟩ = some (F i j)
/-- .. and it may be written. -/
def Wr (w : World) (A : Option Addr) (n sz : Nat) : Prop :=
  ∀ b off, A = some ⟨b, off, none⟩ → ∀ i j, i < n → j < sz → w.frozen? ⟨b, off + i * sz + j, none⟩ = false

theorem Sl.agr {w w' : World} {lo hi : Nat} {A : Option Addr} {n sz : Nat} {F : Nat → Nat → Value} (h : Sl w lo hi A n sz F) (ha : Agr lo hi w w') : Sl w' lo hi A n sz F := fun hn => by
  obtain ⟨b, off, e, h1, h2, hc⟩ := h hn
  exact ⟨b, off, e, h1, h2, fun i j hi hj => (ha.cell (by exact h1) (by exact h2)).trans (hc i j hi hj)⟩
theorem Sl.mono {w : World} {lo hi lo' hi' : Nat} {A : Option Addr} {n sz : Nat} {F : Nat → Nat → Value} (h : Sl w lo hi A n sz F) (hl : lo' ≤ lo) (hh : hi ≤ hi') : Sl w lo' hi' A n sz F := fun hn => by
  obtain ⟨b, off, e, h1, h2, hc⟩ := h hn
  exact ⟨b, off, e, by omega, by omega, hc⟩
theorem Sl.congr {w : World} {lo hi : Nat} {A : Option Addr} {n sz : Nat} {F G : Nat → Nat → Value} (h : Sl w lo hi A n sz F) (hFG : ∀ i j, i < n → j < sz → F i j = G i j) : Sl w lo hi A n sz G := fun hn => by
  obtain ⟨b, off, e, h1, h2, hc⟩ := h hn
  exact ⟨b, off, e, h1, h2, fun i j hi hj => by rw [hc i j hi hj, hFG i j hi hj]⟩
theorem Sl.nil (w : World) (lo hi : Nat) (A : Option Addr) (sz : Nat) (F : Nat → Nat → Value) : Sl w lo hi A 0 sz F := fun h => absurd h (by omega)

/-- An argument: anywhere in the world. -/
abbrev Rd (w : World) (A : Option Addr) (n sz : Nat) (F : Nat → Nat → Value) : Prop := Sl w 0 w.heap.size A n sz F
theorem Sl.rd {w : World} {lo hi : Nat} {A : Option Addr} {n sz : Nat} {F : Nat → Nat → Value} (h : Sl w lo hi A n sz F) (hh : hi ≤ w.heap.size) : Rd w A n sz F := h.mono (Nat.zero_le _) hh
theorem Rd.below {w w' : World} {A : Option Addr} {n sz : Nat} {F : Nat → Nat → Value} (h : Rd w A n sz F) (hb : Below w.heap.size w w') : Rd w' A n sz F :=
  (h.agr (Below.agr hb (Nat.le_refl _))).mono (Nat.le_refl _) hb.size
theorem Rd.after {w : World} {A : Option Addr} {n sz : Nat} {F : Nat → Nat → Value} (h : Rd w A n sz F) (x : After w) : Rd x.w A n sz F := Rd.below h x.h
theorem Rd.alloc {w : World} {A : Option Addr} {n sz : Nat} {F : Nat → Nat → Value} (h : Rd w A n sz F) (o : Obj) : Rd (w.alloc o) A n sz F := Rd.below h ((Below.refl _ _).alloc (Nat.le_refl _) o)
theorem Rd.drew {w : World} {A : Option Addr} {n sz : Nat} {F : Nat → Nat → Value} (h : Rd w A n sz F) : Rd w.drew A n sz F := Rd.below h (Below.refl _ _).drew

/-- A table of int cells. -/
abbrev ints (F : Nat → Nat → Int) : Nat → Nat → Value := fun i j => .int .i64 (F i j)

/-- A slice of the call's own: reads as F, may be written, its block is from lo to below hi. -/
structure Ow (w : World) (lo hi : Nat) (A : Option Addr) (n sz : Nat) (F : Nat → Nat → Value) : Prop where
  sl : Sl w lo hi A n sz F
  wr : Wr w A n sz
theorem Ow.agr {w w' : World} {lo hi : Nat} {A : Option Addr} {n sz : Nat} {F : Nat → Nat → Value} (h : Ow w lo hi A n sz F) (ha : Agr lo hi w w') : Ow w' lo hi A n sz F := by
  refine ⟨h.sl.agr ha, fun b off e i j hi hj => ?_⟩
  obtain ⟨b', off', e', h1, h2, -⟩ := h.sl (by omega)
  obtain ⟨rfl, rfl⟩ : b = b' ∧ off = off' := by rw [e] at e'; injection e' with e'; injection e' with h1 h2; exact ⟨h1, h2⟩
  exact (ha.frozen (by exact h1) (by exact h2)).trans (h.wr b off e i j hi hj)
theorem Ow.mono {w : World} {lo hi lo' hi' : Nat} {A : Option Addr} {n sz : Nat} {F : Nat → Nat → Value} (h : Ow w lo hi A n sz F) (hl : lo' ≤ lo) (hh : hi ≤ hi') : Ow w lo' hi' A n sz F := ⟨h.sl.mono hl hh, h.wr⟩
theorem Ow.congr {w : World} {lo hi : Nat} {A : Option Addr} {n sz : Nat} {F G : Nat → Nat → Value} (h : Ow w lo hi A n sz F) (hFG : ∀ i j, i < n → j < sz → F i j = G i j) : Ow w lo hi A n sz G := ⟨h.sl.congr hFG, h.wr⟩
theorem Ow.nil (w : World) (lo hi : Nat) (A : Option Addr) (sz : Nat) (F : Nat → Nat → Value) : Ow w lo hi A 0 sz F := ⟨Sl.nil w lo hi A sz F, fun _ _ _ i _ hi => absurd hi (by omega)⟩

/-- One cell of a table turned. -/
def upd (F : Nat → Nat → Value) (i0 j0 : Nat) (v : Value) : Nat → Nat → Value := fun i j => if i = i0 ∧ j = j0 then v else F i j

theorem flat_inj {sz i j i' j' : Nat} (hj : j < sz) (hj' : j' < sz) (h : i * sz + j = i' * sz + j') : i = i' ∧ j = j' := by
  have hz : 0 < sz := by omega
  have e1 : (i * sz + j) / sz = i := by rw [Nat.mul_comm, Nat.mul_add_div hz, Nat.div_eq_of_lt hj]; rfl
  have e2 : (i' * sz + j') / sz = i' := by rw [Nat.mul_comm, Nat.mul_add_div hz, Nat.div_eq_of_lt hj']; rfl
  have e3 : i = i' := by rw [← e1, h, e2]
  subst e3
  exact ⟨rfl, by omega⟩

/-- A store into such a slice, at its cell (i0, j0). -/
theorem Ow.set {w : World} {lo hi b off : Nat} {n sz : Nat} {F : Nat → Nat → Value} (h : Ow w lo hi (some ⟨b, off, none⟩) n sz F) {i0 j0 o : Nat} (hi0 : i0 < n) (hj0 : j0 < sz) (ho : o = off + i0 * sz + j0) (v : Value) :
    Ow (w.setCell ⟨b, o, none⟩ v) lo hi (some ⟨b, off, none⟩) n sz (upd F i0 j0 v) := by
  subst ho
  refine ⟨fun hn => ?_, fun b' off' e i j hi hj => by rw [World.frozen?_setCell]; exact h.wr b' off' e i j hi hj⟩
  obtain ⟨b', off', e, h1, h2, hc⟩ := h.sl hn
  obtain ⟨rfl, rfl⟩ : b = b' ∧ off = off' := by injection e with e; injection e with h1 h2; exact ⟨h1, h2⟩
  refine ⟨b, off, rfl, h1, h2, fun i j hi hj => ?_⟩
  unfold upd
  by_cases hij : i = i0 ∧ j = j0
  · obtain ⟨rfl, rfl⟩ := hij
    rw [if_pos ⟨rfl, rfl⟩]
    exact World.cell?_setCell_same _ _ _ (hc i j hi hj)
  · rw [if_neg hij, World.cell?_setCell_other _ _ _ _ (fun e => hij ?_)]
    · exact hc i j hi hj
    · injection e with _ e2
      have := flat_inj hj0 hj (by omega : i0 * sz + j0 = i * sz + j)
      exact ⟨this.1.symm, this.2.symm⟩
theorem Ow.alloc {w : World} {lo hi : Nat} {A : Option Addr} {n sz : Nat} {F : Nat → Nat → Value} (h : Ow w lo hi A n sz F) (hh : hi ≤ w.heap.size) (o : Obj) : Ow (w.alloc o) lo hi A n sz F :=
  h.agr (Below.agr ((Below.refl _ _).alloc (Nat.le_refl _) o) hh)
theorem Ow.below {w w' : World} {lo hi : Nat} {A : Option Addr} {n sz : Nat} {F : Nat → Nat → Value} (h : Ow w lo hi A n sz F) (hb : Below w.heap.size w w') (hh : hi ≤ w.heap.size) : Ow w' lo hi A n sz F := h.agr (Below.agr hb hh)
/-- A new box. -/
theorem Ow.box (w : World) (cs : Array Value) (t : TypeId) : Ow (w.alloc (.cells cs t)) w.heap.size (w.heap.size + 1) (some ⟨w.heap.size, 0, none⟩) 1 cs.size (fun _ j => cs[j]!) := by
  refine ⟨fun _ => ⟨w.heap.size, 0, rfl, Nat.le_refl _, Nat.lt_succ_self _, fun i j hi hj => ?_⟩, fun b off e i j hi hj => ?_⟩
  · obtain rfl : i = 0 := by omega
    rw [World.cell?_alloc_new, Nat.zero_mul, Nat.zero_add]
    simp [hj]
  · injection e with e; injection e with h1 h2; subst h1; exact World.frozen?_alloc_new _ _ _ _
theorem madeCells_get (z : Array Value) (N k : Nat) (h : k < N) : (madeCells z N)[k]? = some (z[k % z.size]!) := by
  unfold madeCells
  simp [h]
theorem Ow.made (w : World) (z : Array Value) (n sz : Nat) (t : TypeId) (hz : z.size = sz) :
    Ow (w.alloc (.cells (madeCells z (n * sz)) t)) w.heap.size (w.heap.size + 1) (some ⟨w.heap.size, 0, none⟩) n sz (fun _ j => z[j]!) := by
  refine ⟨fun hn => ⟨w.heap.size, 0, rfl, Nat.le_refl _, Nat.lt_succ_self _, fun i j hi hj => ?_⟩, fun b off e i j hi hj => ?_⟩
  · rw [World.cell?_alloc_new, madeCells_get _ _ _ (by have := Nat.mul_le_mul_right sz (show i + 1 ≤ n by omega); rw [Nat.add_mul] at this; omega)]
    have : (0 + i * sz + j) % z.size = j := by rw [hz, Nat.zero_add, Nat.mul_comm, Nat.mul_add_mod, Nat.mod_eq_of_lt hj]
    rw [this]
  · injection e with e; injection e with h1 h2; subst h1; exact World.frozen?_alloc_new _ _ _ _
/-- The facts of one element's cells, for a walk. -/
theorem Ow.at_ {w : World} {lo hi b off : Nat} {n sz : Nat} {F : Nat → Nat → Value} (h : Ow w lo hi (some ⟨b, off, none⟩) n sz F) {i : Nat} (hin : i < n) :
    lo ≤ b ∧ b < hi ∧ (∀ j, j < sz → w.cell? ⟨b, off + i * sz + j, none⟩ = some (F i j)) ∧ ∀ j, j < sz → w.frozen? ⟨b, off + i * sz + j, none⟩ = false := by
  obtain ⟨b', off', e, h1, h2, hc⟩ := h.sl (by omega)
  obtain ⟨rfl, rfl⟩ : b = b' ∧ off = off' := by injection e with e; injection e with h1 h2; exact ⟨h1, h2⟩
  exact ⟨h1, h2, fun j hj => hc i j hin hj, fun j hj => h.wr b off rfl i j hin hj⟩
end Go.Proofs.YtbmlglkdlialgaaDoor
