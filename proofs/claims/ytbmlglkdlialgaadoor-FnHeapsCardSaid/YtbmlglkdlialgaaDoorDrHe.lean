/-
  Contracts: a grade, tons, an id that are drawn. Conditions: fewer than 2^40 draws.
-/
import Derived.Test.YtbmlglkdlialgaaDoorDrHd
import Derived.Test.YtbmlglkdlialgaaDoorHpC
namespace Go.Proofs.YtbmlglkdlialgaaDoor
open Go.RowKit

theorem DrS.drew {w0 w : World} {cu m : Nat} (h : DrS w0 w cu m) : DrS w0 w.drew cu m := h.grow (Below.refl _ _).drew
theorem DrS.then {w0 w w' : World} {cu m : Nat} (h : DrS w0 w cu m) (hb : Below w.heap.size w w') : DrS w0 w' cu m := h.grow (hb.mono h.size)
set_option maxHeartbeats 1000000 in
theorem grade7_any (cu m : Nat) (w : World) (hm : m ≤ 1099511000000) (h : Cur w cu m) :
    Calls Tryd.prog 39 #[.pointer (some ⟨cu, 0, none⟩)] w (Draw0 w cu (m + 2)) := by
  have hD := DrS.start h
  have hcu := h.lt
  go_enter Tryd.func39, Tryd.ntmps39
  go_wp2_with fail
  go_at_call 36
  refine (pick_any _ _ _ _ (by omega) (by decide) (hD.cur.alloc _)).mono ?_
  rintro _ w7 ⟨q, rfl, qa, qb, hc, ht⟩
  have hl := Lits0.tch (n := 6) (Lits0.new _ _ _ (by rfl) (by rfl)) ht (Nat.ne_of_gt hcu)
  replace hD := (hD.alloc _).draw hc ht
  clear hc ht
  rw [if_neg (by decide)] at qb
  have hq : q / 11 = 0 ∨ q / 11 = 1 ∨ q / 11 = 2 := by omega
  rcases hq with e | e | e
  all_goals
    go_wp2_with fail
    go_at_call 57
    refine (among0_any _ _ _ _ _ _ (by omega) (by decide) (by decide) (Nat.ne_of_gt hcu) (hl.mono (by omega)) hD.cur).mono ?_
    rintro _ w8 ⟨r, rfl, hc, ht⟩
    have hD8 := hD.draw hc ht
    clear hD hl hc ht
    go_wp2
    go_ret
    exact ⟨r, rfl, hD8.cur.more (by omega), hD8.tch⟩
set_option maxHeartbeats 1000000 in
theorem tons7_any (cu m : Nat) (w : World) (hm : m ≤ 1099511000000) (h : Cur w cu m) :
    Calls Tryd.prog 37 #[.pointer (some ⟨cu, 0, none⟩)] w (Draw0 w cu (m + 2)) := by
  have hD := DrS.start h
  have hcu := h.lt
  go_enter Tryd.func37, Tryd.ntmps37
  go_wp2_with fail
  go_at_call 36
  refine (pick_any _ _ _ _ (by omega) (by decide) (hD.cur.alloc _)).mono ?_
  rintro _ w7 ⟨q, rfl, qa, qb, hc, ht⟩
  have hl := Lits0.tch (n := 8) (Lits0.new _ _ _ (by rfl) (by rfl)) ht (Nat.ne_of_gt hcu)
  replace hD := (hD.alloc _).draw hc ht
  clear hc ht
  rw [if_neg (by decide)] at qb
  have hq : q / 11 = 0 ∨ q / 11 = 1 ∨ q / 11 = 2 := by omega
  rcases hq with e | e | e
  all_goals
    go_wp2_with fail
    go_at_call 57
    refine (among0_any _ _ _ _ _ _ (by omega) (by decide) (by decide) (Nat.ne_of_gt hcu) (hl.mono (by omega)) hD.cur).mono ?_
    rintro _ w8 ⟨r, rfl, hc, ht⟩
    have hD8 := hD.draw hc ht
    clear hD hl hc ht
    go_wp2
    go_ret
    exact ⟨r, rfl, hD8.cur.more (by omega), hD8.tch⟩
set_option maxHeartbeats 1000000 in
theorem l7Tons0_any (id g : Int) (B : Option Addr) (n c : Nat) (L : Nat → Nat → Int) (cov : Bool) (w : World) (hn : n ≤ 1048576) (h : Rd w B n 1 (ints L)) :
    Calls Tryd.prog 58 #[.agg #[.int .i64 id, .int .i64 g, .slice B n c, .bool cov]] w fun e w' => (∃ x, e = .returned (.int .i64 x)) ∧ Below w.heap.size w w' := by
  go_enter Tryd.func58, Tryd.ntmps58
  go_wp2
  have hb0 : Below w.heap.size w (w.alloc (.cells #[.int .i64 id, .int .i64 g, .slice B n c, .bool cov] 28)) := (Below.refl _ _).alloc (Nat.le_refl _) _
  have e2 : World.cell? (w.alloc (.cells #[.int .i64 id, .int .i64 g, .slice B n c, .bool cov] 28)) ⟨w.heap.size, 2, none⟩ = some (.slice B n c) := by rw [World.cell?_alloc_new]; rfl
  have h := Rd.below h hb0
  generalize w.alloc (.cells #[.int .i64 id, .int .i64 g, .slice B n c, .bool cov] 28) = W2 at hb0 e2 h ⊢
  go_loop [3, 4] (fun s i => ∃ (k : Nat) (S : Int), k ≤ n ∧ i = .int .i64 k ∧ s = .int .i64 S) (fun _ i => n - (intOf i).toNat)
  case atStart => exact ⟨0, 0, by omega, rfl, rfl⟩
  case round =>
    obtain ⟨k, S, hk, rfl, rfl⟩ := hrel
    by_cases hlt : k < n
    · obtain ⟨b, off, rfl, -, hbw, hc⟩ := h (by omega)
      have hc0 := hc k 0 hlt (by omega)
      simp only [Nat.add_zero, Nat.mul_one] at hc0
      clear hc
      go_wp2
      go_round
      case rel => exact ⟨k + 1, _, by omega, by go_num, rfl⟩
      case measure => simp [intOf]; omega
    · obtain rfl : k = n := by omega
      go_wp2
      go_ret
      exact ⟨⟨S, rfl⟩, hb0⟩
set_option maxHeartbeats 2000000 in
theorem heapId_any (cu m lo : Nat) (A : Option Addr) (n c : Nat) (H : Nat → HeapD) (w : World) (hm : m ≤ 1099511000000) (hn : n ≤ 20) (hlo : cu < lo) (hH : Hp w lo w.heap.size A n H) (h : Cur w cu m) :
    Calls Tryd.prog 38 #[.pointer (some ⟨cu, 0, none⟩), .slice A n c] w (Draw0 w cu (m + 2)) := by
  have hD := DrS.start h
  by_cases h0 : n = 0
  · subst h0
    clear hH
    go_enter Tryd.func38, Tryd.ntmps38
    go_wp2_with fail
    go_at_call 57
    refine (among0_any cu _ _ _ _ _ (by omega) (by decide) (by decide) (Nat.ne_of_gt hD.cur.lt) (Lits0.new _ _ _ (by rfl) (by rfl)) (hD.cur.alloc _)).mono ?_
    rintro _ w9 ⟨r, rfl, hc, ht⟩
    replace hD := (hD.alloc _).draw hc ht
    clear hc ht
    go_wp2
    go_ret
    exact ⟨r, rfl, hD.cur.more (by omega), hD.tch⟩
  · have hd : ((n : Int) == 0) = false := by simp; omega
    go_enter Tryd.func38, Tryd.ntmps38
    go_wp2_with fail
    go_at_call 35
    refine (one_any _ _ _ _ (by omega) (by decide) hD.cur).mono ?_
    rintro _ w4 ⟨bb, rfl, hc, ht⟩
    replace hH := (hH.agr (Tch.agr ht (Nat.le_refl _) (.inr (by omega)))).mono (Nat.le_refl _) ht.size
    replace hD := hD.draw hc ht
    clear hc ht
    cases bb
    · go_wp2_with fail
      go_at_call 36
      refine (pick_any _ _ _ _ (by omega) (by omega) hD.cur).mono ?_
      rintro _ w6 ⟨q, rfl, qa, qb, hc, ht⟩
      replace hH := (hH.agr (Tch.agr ht (Nat.le_refl _) (.inr (by omega)))).mono (Nat.le_refl _) ht.size
      replace hD := hD.draw hc ht
      clear hc ht
      have qn : q < n := by split at qb <;> omega
      obtain ⟨k, rfl⟩ : ∃ k : Nat, q = k := ⟨q.toNat, by omega⟩
      obtain ⟨Bf, cf, hS, -⟩ := hH
      obtain ⟨b, off, rfl, hbw, hcc⟩ := hp_at (Sl.mono hS (Nat.zero_le _) (Nat.le_refl _)) (Below.refl _ _) (by omega)
      have c0 := (hcc k (by omega)).1
      clear hcc hS qb h0
      go_wp2
      go_ret
      exact ⟨_, rfl, hD.cur.more (by omega), hD.tch⟩
    · clear hH
      go_wp2_with fail
      go_at_call 57
      refine (among0_any cu _ _ _ _ _ (by omega) (by decide) (by decide) (Nat.ne_of_gt hD.cur.lt) (Lits0.new _ _ _ (by rfl) (by rfl)) (hD.cur.alloc _)).mono ?_
      rintro _ w9 ⟨r, rfl, hc, ht⟩
      replace hD := (hD.alloc _).draw hc ht
      clear hc ht
      go_wp2
      go_ret
      exact ⟨r, rfl, hD.cur.more (by omega), hD.tch⟩
end Go.Proofs.YtbmlglkdlialgaaDoor
