/-
  Words for draws: the cursor's world as it goes on, rows of numbers that grow beside it. Conditions: none.
-/
import Derived.Test.YtbmlglkdlialgaaDoorCuA
import Derived.Maps.AppendAt
import Derived.Laws.OwnMore
namespace Go.Proofs.YtbmlglkdlialgaaDoor
open Go.RowKit

/-- From w0 to w, the cursor cu at most m on. -/
structure DrS (w0 w : World) (cu m : Nat) : Prop where
  lt : cu < w0.heap.size
  cur : Cur w cu m
  tch : Tch cu (cu + 1) w0 w
theorem DrS.start {w : World} {cu m : Nat} (h : Cur w cu m) : DrS w w cu m := ⟨h.lt, h, Tch.refl _ _ _⟩
theorem DrS.size {w0 w : World} {cu m : Nat} (h : DrS w0 w cu m) : w0.heap.size ≤ w.heap.size := h.tch.size
theorem DrS.more {w0 w : World} {cu m m' : Nat} (h : DrS w0 w cu m) (hm : m ≤ m') : DrS w0 w cu m' := ⟨h.lt, h.cur.more hm, h.tch⟩
theorem DrS.draw {w0 w w' : World} {cu m m' : Nat} (h : DrS w0 w cu m) (hc : Cur w' cu m') (ht : Tch cu (cu + 1) w w') : DrS w0 w' cu m' := ⟨h.lt, hc, h.tch.trans ht⟩
theorem DrS.trans {w0 w w' : World} {cu m m' : Nat} (h : DrS w0 w cu m) (k : DrS w w' cu m') : DrS w0 w' cu m' := ⟨h.lt, k.cur, h.tch.trans k.tch⟩
theorem Tch.then_below {lo hi : Nat} {w0 w w' : World} (t : Tch lo hi w0 w) (hb : Below w0.heap.size w w') : Tch lo hi w0 w' :=
  ⟨hb.os.trans t.os, hb.tape.trans t.tape, hb.output.trans t.output, Nat.le_trans t.size hb.size, fun k hk hn => (hb.block k hk).trans (t.block k hk hn)⟩
theorem DrS.grow {w0 w w' : World} {cu m : Nat} (h : DrS w0 w cu m) (hb : Below w0.heap.size w w') : DrS w0 w' cu m :=
  ⟨h.lt, h.cur.agr (Below.agr hb h.lt) hb.size, h.tch.then_below hb⟩
theorem DrS.alloc {w0 w : World} {cu m : Nat} (h : DrS w0 w cu m) (o : Obj) : DrS w0 (w.alloc o) cu m := h.grow ((Below.refl _ _).alloc h.size _)
theorem DrS.set {w0 w : World} {cu m : Nat} (h : DrS w0 w cu m) {p : Addr} (hp : w0.heap.size ≤ p.block) (v : Value) : DrS w0 (w.setCell p v) cu m := h.grow ((Below.refl _ _).setCell hp _)
/-- A cell beside the cursor. -/
theorem DrS.cell {w0 w : World} {cu m : Nat} (h : DrS w0 w cu m) {p : Addr} (hp : p.block < w0.heap.size) (hn : p.block ≠ cu) : w.cell? p = w0.cell? p := h.tch.cell_ne hp (by omega)
theorem DrS.frozen {w0 w : World} {cu m : Nat} (h : DrS w0 w cu m) {p : Addr} (hp : p.block < w0.heap.size) (hn : p.block ≠ cu) : w.frozen? p = w0.frozen? p := h.tch.frozen_ne hp (by omega)

/-- A row of numbers of the call's own, whatever they are. -/
def RowsI (w : World) (B : Nat) (e : TypeId) (sz : Nat) (v : Value) (n : Nat) : Prop := ∃ xs, w.ownsRow B e sz v n xs ∧ ∀ u ∈ xs, ∃ z, u = Value.int .i64 z
theorem RowsI.new {w : World} {B : Nat} {e : TypeId} {sz : Nat} (hB : B ≤ w.heap.size) : RowsI (w.alloc (.cells #[] e)) B e sz (.slice (some ⟨w.heap.size, 0, none⟩) 0 0) 0 :=
  ⟨_, World.ownsRow_lit (base := B) (e := e) (size := sz) w #[] 0 hB (Nat.zero_le _) (by simp), fun u hu => by simp at hu⟩
theorem RowsI.below {w w' : World} {B : Nat} {e : TypeId} {sz n : Nat} {v : Value} (h : RowsI w B e sz v n) (hb : Below w.heap.size w w') : RowsI w' B e sz v n := by
  obtain ⟨xs, h1, h2⟩ := h
  exact ⟨xs, own_below h1 hb, h2⟩
theorem RowsI.alloc {w : World} {B : Nat} {e : TypeId} {sz n : Nat} {v : Value} (h : RowsI w B e sz v n) (o : Obj) : RowsI (w.alloc o) B e sz v n := h.below ((Below.refl _ _).alloc (Nat.le_refl _) _)
theorem RowsI.tch {w w' : World} {B cu : Nat} {e : TypeId} {sz n : Nat} {v : Value} (h : RowsI w B e sz v n) (ht : Tch cu (cu + 1) w w') (hc : cu < B) : RowsI w' B e sz v n := by
  obtain ⟨xs, h1, h2⟩ := h
  refine ⟨xs, h1.kept (row := some cu) ⟨ht.os, ht.tape, ht.output, ht.size, fun k hk hn => ht.block k hk (by intro h; exact hn (by congr 1; omega))⟩ ?_, h2⟩
  cases hv : v.ownBlock with
  | none => exact .inl rfl
  | some q =>
    refine .inr fun e' => ?_
    injection e' with e'
    subst e'
    have := (h1.lt _ hv).1
    omega
theorem RowsI.out {w : World} {B : Nat} {e : TypeId} {sz n : Nat} {v : Value} (h : RowsI w B e sz v n) : ∃ A c F, v = .slice A n c ∧ Ow w B w.heap.size A n sz (ints F) := by
  obtain ⟨xs, h1, h2⟩ := h
  obtain ⟨A, c, e1, hO⟩ := own_sl h1
  refine ⟨A, c, fun i j => match xs.getD (i * sz + j) undef with | .int _ z => z | _ => 0, e1, hO.congr fun i j hi hj => ?_⟩
  have hlt : i * sz + j < xs.length := by
    rw [h1.1]
    have := Nat.mul_le_mul_right sz (show i + 1 ≤ n by omega)
    rw [Nat.add_mul] at this
    omega
  have hm : xs.getD (i * sz + j) undef ∈ xs := by simp [List.getD, List.getElem?_eq_getElem hlt]
  obtain ⟨z, hz⟩ := h2 _ hm
  simp only [hz, ints]
theorem RowsI.snoc {w' : World} {B : Nat} {e : TypeId} {sz n m : Nat} {v' : Value} {xs ys : List Value} (hx : ∀ u ∈ xs, ∃ z, u = Value.int .i64 z) (h : w'.ownsRow B e sz v' (n + m) (xs ++ ys)) (hy : ∀ u ∈ ys, ∃ z, u = Value.int .i64 z) : RowsI w' B e sz v' (n + m) :=
  ⟨_, h, fun u hu => by
    rcases List.mem_append.1 hu with h1 | h1
    · exact hx u h1
    · exact hy u h1⟩
/-- What a draw of a list leaves. -/
def DrawL (w : World) (cu m N sz : Nat) (e : Ending) (w' : World) : Prop :=
  ∃ A n c F, e = .returned (.slice A n c) ∧ n ≤ N ∧ Ow w' w.heap.size w'.heap.size A n sz (ints F) ∧ DrS w w' cu m
/-- .. of two numbers. -/
def Draw2 (w : World) (cu m : Nat) (lo hi : Int) (mk : Int → Int → Value) (e : Ending) (w' : World) : Prop :=
  ∃ a b : Int, e = .returned (mk a b) ∧ lo ≤ a ∧ a ≤ hi ∧ lo ≤ b ∧ b ≤ hi ∧ DrS w w' cu m
/-- A box of two cells of the call's own. -/
structure Box2 (w : World) (g : Nat) (p q : Value) : Prop where
  lt : g < w.heap.size
  c0 : w.cell? ⟨g, 0, none⟩ = some p
  c1 : w.cell? ⟨g, 1, none⟩ = some q
  f0 : w.frozen? ⟨g, 0, none⟩ = false
  f1 : w.frozen? ⟨g, 1, none⟩ = false
theorem Box2.new (w : World) (t : TypeId) (p q : Value) : Box2 (w.alloc (.cells #[p, q] t)) w.heap.size p q :=
  ⟨by simp, by rw [World.cell?_alloc_new]; rfl, by rw [World.cell?_alloc_new]; rfl, World.frozen?_alloc_new _ _ _ _, World.frozen?_alloc_new _ _ _ _⟩
theorem Box2.below {w w' : World} {g : Nat} {p q : Value} (h : Box2 w g p q) (hb : Below w.heap.size w w') : Box2 w' g p q :=
  ⟨Nat.lt_of_lt_of_le h.lt hb.size, (hb.cell (p := ⟨g, 0, none⟩) h.lt).trans h.c0, (hb.cell (p := ⟨g, 1, none⟩) h.lt).trans h.c1, (hb.frozen (p := ⟨g, 0, none⟩) h.lt).trans h.f0, (hb.frozen (p := ⟨g, 1, none⟩) h.lt).trans h.f1⟩
theorem Box2.alloc {w : World} {g : Nat} {p q : Value} (h : Box2 w g p q) (o : Obj) : Box2 (w.alloc o) g p q := h.below ((Below.refl _ _).alloc (Nat.le_refl _) _)
theorem Box2.tch {w w' : World} {g cu : Nat} {p q : Value} (h : Box2 w g p q) (ht : Tch cu (cu + 1) w w') (hn : g ≠ cu) : Box2 w' g p q :=
  ⟨Nat.lt_of_lt_of_le h.lt ht.size, (ht.cell_ne (p := ⟨g, 0, none⟩) h.lt (by show ¬(cu ≤ g ∧ g < cu + 1); omega)).trans h.c0, (ht.cell_ne (p := ⟨g, 1, none⟩) h.lt (by show ¬(cu ≤ g ∧ g < cu + 1); omega)).trans h.c1,
    (ht.frozen_ne (p := ⟨g, 0, none⟩) h.lt (by show ¬(cu ≤ g ∧ g < cu + 1); omega)).trans h.f0, (ht.frozen_ne (p := ⟨g, 1, none⟩) h.lt (by show ¬(cu ≤ g ∧ g < cu + 1); omega)).trans h.f1⟩
/-- A code of bytes. -/
structure CodeR (w : World) (A : Option Addr) (n : Nat) (B : Nat → Int) : Prop where
  len : n ≤ maxLen
  byte : ∀ i, 0 ≤ B i ∧ B i ≤ 255
  rd : Rd w A n 1 (fun i _ => .int .u8 (B i))
theorem CodeR.below {w w' : World} {A : Option Addr} {n : Nat} {B : Nat → Int} (h : CodeR w A n B) (hb : Below w.heap.size w w') : CodeR w' A n B := ⟨h.len, h.byte, Rd.below h.rd hb⟩
theorem Cur.new {w : World} {A : Option Addr} {n : Nat} {B : Nat → Int} (h : CodeR w A n B) (c : Nat) (t : TypeId) : Cur (w.alloc (.cells #[.slice A n c, .int .i64 0, .int .u64 0] t)) w.heap.size 0 :=
  ⟨by simp, A, n, c, 0, 0, B, h.len, Nat.le_refl _, Int.le_refl _, by decide, by rw [World.cell?_alloc_new]; rfl, by rw [World.cell?_alloc_new]; rfl, by rw [World.cell?_alloc_new]; rfl,
    World.frozen?_alloc_new _ _ _ _, World.frozen?_alloc_new _ _ _ _, h.byte, Sl.agr h.rd (Below.agr ((Below.refl _ _).alloc (Nat.le_refl _) _) (Nat.le_refl _))⟩
theorem Ow.tch {w w' : World} {lo hi cu n sz : Nat} {A : Option Addr} {F : Nat → Nat → Value} (h : Ow w lo hi A n sz F) (ht : Tch cu (cu + 1) w w') (hh : hi ≤ w.heap.size) (hl : cu < lo) : Ow w' lo hi A n sz F :=
  h.agr (Tch.agr ht hh (.inr hl))
theorem Tch.widen {l h lo hi : Nat} {w w' : World} (t : Tch l h w w') (h1 : lo ≤ l) (h2 : h ≤ hi) : Tch lo hi w w' := ⟨t.os, t.tape, t.output, t.size, fun k hk hn => t.block k hk fun h' => hn (by omega)⟩
/-- A day of a list: a cell of it. -/
theorem Ow.day {w : World} {lo hi n sz i j : Nat} {A : Option Addr} {F : Nat → Nat → Int} (h : Ow w lo hi A n sz (ints F)) (hi' : i < n) (hj : j < sz) : ∃ b off, A = some ⟨b, off, none⟩ ∧ lo ≤ b ∧ b < hi ∧ w.cell? ⟨b, off + i * sz + j, none⟩ = some (.int .i64 (F i j)) := by
  obtain ⟨b, off, e, h1, h2, hc⟩ := h.sl (by omega)
  exact ⟨b, off, e, h1, h2, hc i j hi' hj⟩
end Go.Proofs.YtbmlglkdlialgaaDoor
