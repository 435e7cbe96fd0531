/-
  Contracts: numbers picked by the cursor, one of some numbers, once in so many times. Conditions: fewer than 2^40 draws, at most 200 choices.
-/
import Derived.Test.YtbmlglkdlialgaaDoorCur
namespace Go.Proofs.YtbmlglkdlialgaaDoor
open Go.RowKit

theorem Tch.cell_ne {lo hi : Nat} {w w' : World} (t : Tch lo hi w w') {p : Addr} (hp : p.block < w.heap.size) (hn : ¬(lo ≤ p.block ∧ p.block < hi)) : w'.cell? p = w.cell? p := World.cell?_of_block (t.block _ hp hn)
theorem Tch.frozen_ne {lo hi : Nat} {w w' : World} (t : Tch lo hi w w') {p : Addr} (hp : p.block < w.heap.size) (hn : ¬(lo ≤ p.block ∧ p.block < hi)) : w'.frozen? p = w.frozen? p := World.frozen?_of_block (t.block _ hp hn)
/-- Numbers from lo to hi lie in block g. -/
structure Lits (w : World) (g n : Nat) (lo hi : Int) : Prop where
  lt : g < w.heap.size
  at_ : ∀ j, j < n → ∃ x, w.cell? ⟨g, j, none⟩ = some (.int .i64 x) ∧ lo ≤ x ∧ x ≤ hi
theorem Lits.mono {w : World} {g n n' : Nat} {lo hi lo' hi' : Int} (h : Lits w g n lo hi) (hn : n' ≤ n) (h1 : lo' ≤ lo) (h2 : hi ≤ hi') : Lits w g n' lo' hi' :=
  ⟨h.lt, fun j hj => by obtain ⟨x, e, a, b⟩ := h.at_ j (by omega); exact ⟨x, e, by omega, by omega⟩⟩
theorem Lits.below {w w' : World} {g n : Nat} {lo hi : Int} (h : Lits w g n lo hi) (hb : Below w.heap.size w w') : Lits w' g n lo hi :=
  ⟨Nat.lt_of_lt_of_le h.lt hb.size, fun j hj => by obtain ⟨x, e, r⟩ := h.at_ j hj; exact ⟨x, (hb.cell (p := ⟨g, j, none⟩) h.lt).trans e, r⟩⟩
theorem Lits.tch {w w' : World} {g n cu : Nat} {lo hi : Int} (h : Lits w g n lo hi) (ht : Tch cu (cu + 1) w w') (hg : g ≠ cu) : Lits w' g n lo hi :=
  ⟨Nat.lt_of_lt_of_le h.lt ht.size, fun j hj => by obtain ⟨x, e, r⟩ := h.at_ j hj; exact ⟨x, (ht.cell_ne (p := ⟨g, j, none⟩) h.lt (by show ¬(cu ≤ g ∧ g < cu + 1); omega)).trans e, r⟩⟩
def litB (lo hi : Int) : Value → Bool
  | .int .i64 x => decide (lo ≤ x) && decide (x ≤ hi)
  | _ => false
theorem litB_at {lo hi : Int} {v : Value} (h : litB lo hi v = true) : ∃ x, v = .int .i64 x ∧ lo ≤ x ∧ x ≤ hi := by
  unfold litB at h
  split at h
  · simp only [Bool.and_eq_true, decide_eq_true_eq] at h
    exact ⟨_, rfl, h.1, h.2⟩
  · cases h
/-- A new block of numbers. -/
theorem Lits.new (w : World) (cs : Array Value) (t : TypeId) {n : Nat} {lo hi : Int} (hn : n = cs.size) (h : cs.toList.all (litB lo hi) = true) : Lits (w.alloc (.cells cs t)) w.heap.size n lo hi := by
  subst hn
  refine ⟨by simp, fun j hj => ?_⟩
  obtain ⟨x, e, r⟩ := litB_at (List.all_eq_true.1 h cs[j] (by simp))
  refine ⟨x, ?_, r⟩
  rw [World.cell?_alloc_new]
  simp [hj, e]

/-- As a draw, but of a yes or no. -/
def DrawB (w : World) (cu m : Nat) (e : Ending) (w' : World) : Prop :=
  ∃ b : Bool, e = .returned (.bool b) ∧ Cur w' cu m ∧ Tch cu (cu + 1) w w'

set_option maxHeartbeats 1000000 in
theorem pick_any (cu m : Nat) (n : Int) (w : World) (hm : m ≤ 1099511627776) (hn : n ≤ 200) (h : Cur w cu m) :
    Calls Tryd.prog 36 #[.pointer (some ⟨cu, 0, none⟩), .int .i64 n] w (DrawP w cu (m + 1) 0 (if n ≤ 1 then 0 else n - 1)) := by
  by_cases h1 : n ≤ 1
  · rw [if_pos h1]
    go_enter Tryd.func36, Tryd.ntmps36
    go_wp2
    go_ret
    exact ⟨_, rfl, Int.le_refl _, Int.le_refl _, h.more (by omega), Tch.refl _ _ _⟩
  · rw [if_neg h1]
    have hd : decide (n ≤ 1) = false := by simpa using h1
    have hd2 : decide (200 < n) = false := by simp; omega
    have h1 : 1 < n := by omega
    go_enter Tryd.func36, Tryd.ntmps36
    go_wp2_with fail
    go_at_call 65
    refine (next_any _ _ _ hm h).mono ?_
    rintro _ w1 ⟨r, rfl, r0, r1, hc, ht⟩
    have e0 := Int.emod_nonneg r (show n ≠ 0 by omega)
    have e1 := Int.emod_lt_of_pos r (show 0 < n by omega)
    go_wp2
    go_ret
    exact ⟨_, rfl, e0, by omega, hc, ht⟩
set_option maxHeartbeats 1000000 in
theorem among_any (cu m g n c : Nat) (lo hi : Int) (w : World) (hm : m ≤ 1099511627776) (hn0 : 0 < n) (hn : n ≤ 200) (hg : g ≠ cu) (hl : Lits w g n lo hi) (h : Cur w cu m) :
    Calls Tryd.prog 57 #[.pointer (some ⟨cu, 0, none⟩), .slice (some ⟨g, 0, none⟩) n c] w (DrawP w cu (m + 1) lo hi) := by
  go_enter Tryd.func57, Tryd.ntmps57
  go_wp2_with fail
  go_at_call 36
  refine (pick_any _ _ _ _ hm (by omega) h).mono ?_
  rintro _ w1 ⟨r, rfl, r0, r1, hc, ht⟩
  have r2 : r < n := by split at r1 <;> omega
  obtain ⟨k, rfl⟩ : ∃ k : Nat, r = k := ⟨r.toNat, by omega⟩
  have hk : k < n := by omega
  obtain ⟨x, e, x0, x1⟩ := (hl.tch ht hg).at_ k hk
  clear r1
  go_wp2
  go_ret
  exact ⟨_, rfl, x0, x1, hc, ht⟩
theorem one_any (cu m : Nat) (n : Int) (w : World) (hm : m ≤ 1099511627776) (hn : n ≤ 200) (h : Cur w cu m) :
    Calls Tryd.prog 35 #[.pointer (some ⟨cu, 0, none⟩), .int .i64 n] w (DrawB w cu (m + 1)) := by
  go_enter Tryd.func35, Tryd.ntmps35
  go_wp2_with fail
  go_at_call 36
  refine (pick_any _ _ _ _ hm hn h).mono ?_
  rintro _ w1 ⟨r, rfl, r0, r1, hc, ht⟩
  clear r1
  go_wp2
  go_ret
  exact ⟨_, rfl, hc, ht⟩
/-- Numbers lie in block g, whatever they are. -/
structure Lits0 (w : World) (g n : Nat) : Prop where
  lt : g < w.heap.size
  at_ : ∀ j, j < n → ∃ x, w.cell? ⟨g, j, none⟩ = some (.int .i64 x)
theorem Lits0.below {w w' : World} {g n : Nat} (h : Lits0 w g n) (hb : Below w.heap.size w w') : Lits0 w' g n :=
  ⟨Nat.lt_of_lt_of_le h.lt hb.size, fun j hj => by obtain ⟨x, e⟩ := h.at_ j hj; exact ⟨x, (hb.cell (p := ⟨g, j, none⟩) h.lt).trans e⟩⟩
theorem Lits0.tch {w w' : World} {g n cu : Nat} (h : Lits0 w g n) (ht : Tch cu (cu + 1) w w') (hg : g ≠ cu) : Lits0 w' g n :=
  ⟨Nat.lt_of_lt_of_le h.lt ht.size, fun j hj => by obtain ⟨x, e⟩ := h.at_ j hj; exact ⟨x, (ht.cell_ne (p := ⟨g, j, none⟩) h.lt (by show ¬(cu ≤ g ∧ g < cu + 1); omega)).trans e⟩⟩
def lit0 : Value → Bool
  | .int .i64 _ => true
  | _ => false
theorem Lits0.new (w : World) (cs : Array Value) (t : TypeId) {n : Nat} (hn : n = cs.size) (h : cs.toList.all lit0 = true) : Lits0 (w.alloc (.cells cs t)) w.heap.size n := by
  subst hn
  refine ⟨by simp, fun j hj => ?_⟩
  have h1 := List.all_eq_true.1 h cs[j] (by simp)
  unfold lit0 at h1
  split at h1
  · rename_i x e
    refine ⟨x, ?_⟩
    rw [World.cell?_alloc_new]
    simp [hj, e]
  · cases h1
/-- As a draw, the number anything. -/
def Draw0 (w : World) (cu m : Nat) (e : Ending) (w' : World) : Prop :=
  ∃ r : Int, e = .returned (.int .i64 r) ∧ Cur w' cu m ∧ Tch cu (cu + 1) w w'
set_option maxHeartbeats 1000000 in
theorem among0_any (cu m g n c : Nat) (w : World) (hm : m ≤ 1099511627776) (hn0 : 0 < n) (hn : n ≤ 200) (hg : g ≠ cu) (hl : Lits0 w g n) (h : Cur w cu m) :
    Calls Tryd.prog 57 #[.pointer (some ⟨cu, 0, none⟩), .slice (some ⟨g, 0, none⟩) n c] w (Draw0 w cu (m + 1)) := by
  go_enter Tryd.func57, Tryd.ntmps57
  go_wp2_with fail
  go_at_call 36
  refine (pick_any _ _ _ _ hm (by omega) h).mono ?_
  rintro _ w1 ⟨r, rfl, r0, r1, hc, ht⟩
  have r2 : r < n := by split at r1 <;> omega
  obtain ⟨k, rfl⟩ : ∃ k : Nat, r = k := ⟨r.toNat, by omega⟩
  have hk : k < n := by omega
  obtain ⟨x, e⟩ := (hl.tch ht hg).at_ k hk
  clear r1
  go_wp2
  go_ret
  exact ⟨_, rfl, hc, ht⟩
end Go.Proofs.YtbmlglkdlialgaaDoor
