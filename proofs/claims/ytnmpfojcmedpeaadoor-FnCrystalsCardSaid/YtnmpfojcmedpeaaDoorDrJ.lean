/-
  Words for draws of kinds: rows of kinds that grow beside the cursor, texts, one of some texts. Conditions: fewer than 2^40 draws.
-/
import Derived.Test.YtnmpfojcmedpeaaDoorCuB
import Derived.Test.YtnmpfojcmedpeaaDoorCrT
namespace Go.Proofs.YtnmpfojcmedpeaaDoor
open Go.RowKit

/-- Kinds, laid in a row. -/
def kcL : List (ByteArray × Int × Int) → List Value
  | [] => []
  | p :: l => .string p.1 :: .int .i64 p.2.1 :: .int .i64 p.2.2 :: kcL l
theorem kcL_append (l : List (ByteArray × Int × Int)) (p : ByteArray × Int × Int) : kcL (l ++ [p]) = kcL l ++ [.string p.1, .int .i64 p.2.1, .int .i64 p.2.2] := by
  induction l with
  | nil => rfl
  | cons q l ih => simp [kcL, ih]
def kcS (l : List (ByteArray × Int × Int)) (i : Nat) : ByteArray := (l.getD i (⟨#[]⟩, 0, 0)).1
def kcF (l : List (ByteArray × Int × Int)) (i j : Nat) : Int := if j = 1 then (l.getD i (⟨#[]⟩, 0, 0)).2.1 else (l.getD i (⟨#[]⟩, 0, 0)).2.2
theorem kcL_at (l : List (ByteArray × Int × Int)) : ∀ i j, i < l.length → j < 3 → (kcL l).getD (i * 3 + j) undef = kdC (kcS l) (kcF l) i j := by
  induction l with
  | nil => intro i j h; simp at h
  | cons q l ih =>
    intro i j hi hj
    cases i with
    | zero => match j, hj with
      | 0, _ => simp [kcL, kdC, kcS]
      | 1, _ => simp [kcL, kdC, kcF]
      | 2, _ => simp [kcL, kdC, kcF]
    | succ i =>
      have := ih i j (by simpa using hi) hj
      have e : (i + 1) * 3 + j = (i * 3 + j) + 1 + 1 + 1 := by omega
      rw [e]
      simp only [kcL, List.getD_cons_succ]
      rw [this]
      match j, hj with
      | 0, _ => simp [kdC, kcS]
      | 1, _ => simp [kdC, kcF]
      | 2, _ => simp [kdC, kcF]
/-- A row of kinds of the call's own. -/
def RowsK (w : World) (B : Nat) (e : TypeId) (v : Value) (n : Nat) : Prop := ∃ l, w.ownsRow B e 3 v n (kcL l) ∧ l.length = n ∧ ∀ p ∈ l, p.1.size ≤ 100
theorem RowsK.new {w : World} {B : Nat} {e : TypeId} (hB : B ≤ w.heap.size) : RowsK (w.alloc (.cells #[] e)) B e (.slice (some ⟨w.heap.size, 0, none⟩) 0 0) 0 :=
  ⟨[], World.ownsRow_lit (base := B) (e := e) (size := 3) w #[] 0 hB (Nat.zero_le _) (by simp), rfl, fun p hp => by simp at hp⟩
theorem RowsK.below {w w' : World} {B : Nat} {e : TypeId} {n : Nat} {v : Value} (h : RowsK w B e v n) (hb : Below w.heap.size w w') : RowsK w' B e v n := by
  obtain ⟨l, h1, h2⟩ := h
  exact ⟨l, own_below h1 hb, h2⟩
theorem RowsK.alloc {w : World} {B : Nat} {e : TypeId} {n : Nat} {v : Value} (h : RowsK w B e v n) (o : Obj) : RowsK (w.alloc o) B e v n := h.below ((Below.refl _ _).alloc (Nat.le_refl _) _)
theorem RowsK.tch {w w' : World} {B cu : Nat} {e : TypeId} {n : Nat} {v : Value} (h : RowsK w B e v n) (ht : Tch cu (cu + 1) w w') (hc : cu < B) : RowsK w' B e v n := by
  obtain ⟨l, h1, h2⟩ := h
  refine ⟨l, h1.kept (row := some cu) ⟨ht.os, ht.tape, ht.output, ht.size, fun k hk hn => ht.block k hk (by intro h; exact hn (by congr 1; omega))⟩ ?_, h2⟩
  cases hv : v.ownBlock with
  | none => exact .inl rfl
  | some q =>
    refine .inr fun e' => ?_
    injection e' with e'
    subst e'
    have := (h1.lt _ hv).1
    omega
theorem RowsK.out {w : World} {B : Nat} {e : TypeId} {n : Nat} {v : Value} (h : RowsK w B e v n) : ∃ A c S F, v = .slice A n c ∧ Ow w B w.heap.size A n 3 (kdC S F) ∧ ∀ i, i < n → (S i).size ≤ 9223372036854775807 := by
  obtain ⟨l, h1, h2, h3⟩ := h
  obtain ⟨A, c, e1, hO⟩ := own_sl h1
  refine ⟨A, c, kcS l, kcF l, e1, hO.congr fun i j hi hj => kcL_at l i j (by omega) hj, fun i hi => ?_⟩
  have := h3 (l.getD i (⟨#[]⟩, 0, 0)) (by rw [List.getD_eq_getElem?_getD, List.getElem?_eq_getElem (by omega)]; exact List.getElem_mem _)
  unfold kcS
  omega
/-- The first of them may be written. -/
theorem RowsK.form {w : World} {B : Nat} {e : TypeId} {n : Nat} {v : Value} (h : RowsK w B e v n) (h0 : 0 < n) : ∃ g c, v = .slice (some ⟨g, 0, none⟩) n c ∧ B ≤ g ∧ g < w.heap.size ∧
    (∃ s, w.cell? ⟨g, 0, none⟩ = some (.string s)) ∧ (∃ z, w.cell? ⟨g, 1, none⟩ = some (.int .i64 z)) ∧ (∃ z, w.cell? ⟨g, 2, none⟩ = some (.int .i64 z)) ∧ (∀ j, w.frozen? ⟨g, j, none⟩ = false) ∧
    (∀ s, s.size ≤ 100 → RowsK (w.setCell ⟨g, 0, none⟩ (.string s)) B e v n) ∧ (∀ z, RowsK (w.setCell ⟨g, 1, none⟩ (.int .i64 z)) B e v n) ∧ ∀ z, RowsK (w.setCell ⟨g, 2, none⟩ (.int .i64 z)) B e v n := by
  obtain ⟨l, h1, h2, h3⟩ := h
  obtain ⟨g, cap, rfl, hb, hg⟩ := h1.form h0
  match l, h2 with
  | [], h2 => simp at h2; omega
  | p :: l, h2 =>
    refine ⟨g, cap, rfl, hb, hg, ⟨p.1, ?_⟩, ⟨p.2.1, ?_⟩, ⟨p.2.2, ?_⟩, fun j => h1.frozenAt j, fun s hs => ?_, fun z => ?_, fun z => ?_⟩
    · rw [h1.cellAt 0 (by omega)]; rfl
    · rw [h1.cellAt 1 (by omega)]; rfl
    · rw [h1.cellAt 2 (by omega)]; rfl
    · refine ⟨(s, p.2) :: l, (h1.stored 0 (.string s)).1, h2, fun q hq => ?_⟩
      rcases List.mem_cons.1 hq with e | e
      · subst e; exact hs
      · exact h3 q (List.mem_cons_of_mem _ e)
    · refine ⟨(p.1, z, p.2.2) :: l, (h1.stored 1 (.int .i64 z)).1, h2, fun q hq => ?_⟩
      rcases List.mem_cons.1 hq with e | e
      · subst e; exact h3 p (List.mem_cons_self)
      · exact h3 q (List.mem_cons_of_mem _ e)
    · refine ⟨(p.1, p.2.1, z) :: l, (h1.stored 2 (.int .i64 z)).1, h2, fun q hq => ?_⟩
      rcases List.mem_cons.1 hq with e | e
      · subst e; exact h3 p (List.mem_cons_self)
      · exact h3 q (List.mem_cons_of_mem _ e)
/-- Texts lie in block g. -/
structure Strs (w : World) (g n : Nat) : Prop where
  lt : g < w.heap.size
  at_ : ∀ j, j < n → ∃ s, w.cell? ⟨g, j, none⟩ = some (.string s) ∧ s.size ≤ 100
theorem Strs.agr {w w' : World} {g n : Nat} (h : Strs w g n) (ha : Agr g (g + 1) w w') (hs : w.heap.size ≤ w'.heap.size) : Strs w' g n :=
  ⟨Nat.lt_of_lt_of_le h.lt hs, fun j hj => by obtain ⟨s, e, r⟩ := h.at_ j hj; exact ⟨s, (ha.cell (p := ⟨g, j, none⟩) (Nat.le_refl _) (Nat.lt_succ_self _)).trans e, r⟩⟩
theorem Strs.below {w w' : World} {g n : Nat} (h : Strs w g n) (hb : Below w.heap.size w w') : Strs w' g n := h.agr (Below.agr hb h.lt) hb.size
theorem Strs.tch {w w' : World} {g n cu : Nat} (h : Strs w g n) (ht : Tch cu (cu + 1) w w') (hg : g ≠ cu) : Strs w' g n := h.agr (Tch.agr ht h.lt (by omega)) ht.size
def strB : Value → Bool
  | .string s => decide (s.size ≤ 100)
  | _ => false
theorem Strs.new (w : World) (cs : Array Value) (t : TypeId) {n : Nat} (hn : n = cs.size) (h : cs.toList.all strB = true) : Strs (w.alloc (.cells cs t)) w.heap.size n := by
  subst hn
  refine ⟨by simp, fun j hj => ?_⟩
  have h1 := List.all_eq_true.1 h cs[j] (by simp)
  unfold strB at h1
  split at h1
  · rename_i s e
    refine ⟨s, ?_, by simpa using h1⟩
    rw [World.cell?_alloc_new]
    simp [hj, e]
  · cases h1
theorem Lits0.new' (w : World) (cs : Array Value) (t : TypeId) {n g : Nat} (hg : g = w.heap.size) (hn : n = cs.size) (h : cs.toList.all lit0 = true) : Lits0 (w.alloc (.cells cs t)) g n := by
  subst hg
  exact Lits0.new w cs t hn h
theorem Lits0.alloc {w : World} {g n : Nat} (h : Lits0 w g n) (o : Obj) : Lits0 (w.alloc o) g n := h.below ((Below.refl _ _).alloc (Nat.le_refl _) _)
/-- Block g is as it was. -/
structure Kp (g : Nat) (w w' : World) : Prop where
  agr : Agr g (g + 1) w w'
theorem Kp.refl (g : Nat) (w : World) : Kp g w w := ⟨Agr.refl _ _ _⟩
theorem Kp.alloc {g : Nat} {a w : World} (h : Kp g a w) (hs : g < w.heap.size) (o : Obj) : Kp g a (w.alloc o) := ⟨h.agr.trans (Below.agr ((Below.refl _ _).alloc (Nat.le_refl _) o) hs)⟩
theorem Kp.drew {g : Nat} {a w : World} (h : Kp g a w) : Kp g a w.drew := ⟨h.agr⟩
theorem Kp.tch {g cu : Nat} {a w w' : World} (h : Kp g a w) (ht : Tch cu (cu + 1) w w') (hs : g < w.heap.size) (hn : g ≠ cu) : Kp g a w' := ⟨h.agr.trans (Tch.agr ht hs (by omega))⟩
theorem Kp.below {g B : Nat} {a w w' : World} (h : Kp g a w) (hb : Below B w w') (hs : g < B) : Kp g a w' := ⟨h.agr.trans (Below.agr hb hs)⟩
theorem Lits0.drew {w : World} {g n : Nat} (h : Lits0 w g n) : Lits0 w.drew g n := h.below (Below.refl _ _).drew
theorem Agr.alloc {lo hi : Nat} {a w : World} (h : Agr lo hi a w) (hs : hi ≤ w.heap.size) (o : Obj) : Agr lo hi a (w.alloc o) := h.trans (Below.agr ((Below.refl _ _).alloc (Nat.le_refl _) o) hs)
theorem Agr.drew {lo hi : Nat} {a w : World} (h : Agr lo hi a w) : Agr lo hi a w.drew := h
/-- One of some texts. -/
def DrawT (w : World) (cu m : Nat) (e : Ending) (w' : World) : Prop :=
  ∃ s : ByteArray, e = .returned (.string s) ∧ s.size ≤ 100 ∧ Cur w' cu m ∧ Tch cu (cu + 1) w w'
set_option maxHeartbeats 1000000 in
theorem of_any (cu m g n c : Nat) (w : World) (hm : m ≤ 1099511627776) (hn0 : 0 < n) (hn : n ≤ 200) (hg : g ≠ cu) (hl : Strs w g n) (h : Cur w cu m) :
    Calls Tryd.prog 90 #[.pointer (some ⟨cu, 0, none⟩), .slice (some ⟨g, 0, none⟩) n c] w (DrawT w cu (m + 1)) := by
  go_enter Tryd.func90, Tryd.ntmps90
  go_wp2_with fail
  go_at_call 89
  refine (pick_any _ _ _ _ hm (by omega) h).mono ?_
  rintro _ w1 ⟨r, rfl, r0, r1, hc, ht⟩
  have r2 : r < n := by split at r1 <;> omega
  obtain ⟨k, rfl⟩ : ∃ k : Nat, r = k := ⟨r.toNat, by omega⟩
  have hk : k < n := by omega
  obtain ⟨s, e, hs⟩ := (hl.tch ht hg).at_ k hk
  clear r1
  go_wp2
  go_ret
  exact ⟨_, rfl, hs, hc, ht⟩
end Go.Proofs.YtnmpfojcmedpeaaDoor
