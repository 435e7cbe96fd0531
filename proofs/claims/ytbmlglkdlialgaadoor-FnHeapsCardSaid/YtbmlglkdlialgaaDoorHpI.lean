/-
  Contracts on layers: those of which tons have been taken, of the program and of the reference. Conditions: layers of a valid heap, tons from 0 to 6000.
-/
import Derived.Test.YtbmlglkdlialgaaDoorHpG
namespace Go.Proofs.YtbmlglkdlialgaaDoor
open Go.RowKit

theorem takeF_lt {L : Nat → Nat → Int} {q : Nat} {t : Int} (h0 : 0 < t) (h : t < L q 0) : takeF L (q + 1) t = (q + 1, fun i j => if i = q then L q 0 - t else L i j) := by
  simp only [takeF]; rw [if_neg (by omega), if_pos h]
theorem takeF_ge {L : Nat → Nat → Int} {q : Nat} {t : Int} (h0 : 0 < t) (h : L q 0 ≤ t) : takeF L (q + 1) t = takeF L q (t - L q 0) := by
  simp only [takeF]; rw [if_neg (by omega), if_neg (by omega)]
theorem rowL_set (L : Nat → Nat → Int) (q : Nat) (x : Int) : (rowL (ints L) (q + 1) 1).set q (.int .i64 x) = rowL (ints (fun i j => if i = q then x else L i j)) (q + 1) 1 := by
  apply List.ext_getElem
  · simp [rowL]
  · intro i h1 h2
    have hi : i < q + 1 := by simpa [rowL] using h2
    simp only [List.getElem_set, rowL, List.getElem_map, List.getElem_range, Nat.mul_one, Nat.div_one, Nat.mod_one, ints]
    by_cases h : q = i
    · subst h; simp
    · rw [if_neg h, if_neg (fun e => h e.symm)]
theorem l1Least_any (a b : Int) (w : World) :
    Calls Tryd.prog 72 #[.int .i64 a, .int .i64 b] w fun e w' => e = .returned (.int .i64 (min a b)) ∧ w = w' := by
  go_enter Tryd.func72, Tryd.ntmps72
  go_wp2
  all_goals go_ret
  · exact ⟨ret_int (by omega), rfl⟩
  · exact ⟨ret_int (by omega), rfl⟩
set_option maxRecDepth 20000 in
set_option maxHeartbeats 2000000 in
theorem without_any (A : Option Addr) (n c : Nat) (L : Nat → Nat → Int) (t : Int) (w : World) (hn : n ≤ 1048576) (ht0 : 0 ≤ t) (ht1 : t ≤ 6000) (HL : Hid (∀ k, k < n → 1 ≤ L k 0 ∧ L k 0 ≤ 500)) (h : Rd w A n 1 (ints L)) :
    Calls Tryd.prog 50 #[.slice A n c, .int .i64 t] w fun e w' => ∃ v, e = .returned v ∧ w'.ownsRow w.heap.size 3 1 v (takeF L n t).1 (rowL (ints (takeF L n t).2) (takeF L n t).1 1) ∧ Below w.heap.size w w' := by
  obtain ⟨FIN, hF⟩ : ∃ FIN, takeF L n t = FIN := ⟨_, rfl⟩
  have HF := hide hF
  rw [hF]
  clear hF
  go_enter Tryd.func50, Tryd.ntmps50
  go_wp2_with fail
  go_at_call 70
  refine (cloneI_own _ _ _ _ _ hn h).mono ?_
  rintro _ w1 ⟨v1, rfl, ho1, hb1⟩
  go_wp2
  clear h
  go_loopw [1, 5, 6, 7] (fun ti v _ _ wr => ∃ (k : Nat) (t' : Int) (M : Nat → Nat → Int), ti = .int .i64 t' ∧ k ≤ n ∧ 0 ≤ t' ∧ t' ≤ 6000 ∧ wr.ownsRow w.heap.size 3 1 v k (rowL (ints M) k 1) ∧ Hid ((M = L ∧ takeF L k t' = FIN) ∨ (t' = 0 ∧ FIN = (k, M))) ∧ Below w.heap.size w wr) (fun ti v _ _ _ => 2 * (intOf ti).toNat + (match v with | .slice _ n _ => n | _ => 0))
  case atStart => exact ⟨n, t, L, rfl, Nat.le_refl _, ht0, ht1, ho1, hide (.inl ⟨rfl, HF.out⟩), hb1⟩
  case round =>
    clear ho1 hb1
    obtain ⟨k, t', M, rfl, hk, t0, t1, ho, HM, hb⟩ := hrel
    have fin : (t' = 0 ∨ k = 0) → FIN = (k, M) := fun hz => by
      rcases HM.out with ⟨e1, e2⟩ | ⟨-, e2⟩
      · subst e1
        rcases hz with hz | hz
        · subst hz; rw [← e2, takeF_zero]
        · subst hz; rw [← e2]; rfl
      · exact e2
    have HFIN := hide fin
    clear fin
    by_cases h0 : 0 < t'
    · obtain ⟨G, cc, rfl, hkc, hGf⟩ := own_form ho
      by_cases hk0 : 0 < k
      · obtain ⟨q, rfl⟩ : ∃ q, k = q + 1 := ⟨k - 1, by omega⟩
        obtain ⟨g, cap, e, hg1, hg2⟩ := ho.form (by omega)
        injection e with e e' e''
        subst e e''
        have hML : M = L ∧ takeF L (q + 1) t' = FIN := by
          rcases HM.out with h | ⟨h, -⟩
          · exact h
          · omega
        obtain ⟨rfl, hTF⟩ := hML
        have HTF := hide hTF
        clear hTF
        obtain ⟨l1, l2⟩ := HL.out q (by omega)
        have hcell := ho.cellAt q (by omega)
        have hfr := ho.frozenAt q
        have hrq : (rowL (ints M) (q + 1) 1)[q]? = some (.int .i64 (M q 0)) := by simp [rowL, Nat.mod_one]
        rw [hrq] at hcell
        clear hrq
        have hst := fun u => ho.stored q u
        have hq0 : decide ((0 : Int) ≤ (q : Int)) = true := by simp
        have hqc : decide ((q : Int) ≤ (cc : Int)) = true := decide_eq_true (by omega)
        have hq1 : decide ((0 : Int) < (q : Int) + 1) = true := decide_eq_true (by omega)
        by_cases hlt : t' < M q 0
        · have hmin : min t' (M q 0) = t' := by omega
          have hz : (M q 0 - t' == 0) = false := by simp; omega
          go_wp2
          go_roundw
          case rel => exact ⟨q + 1, 0, fun i j => if i = q then M q 0 - t' else M i j, rfl, hk, by omega, by omega, by rw [← rowL_set]; exact (hst _).1, hide (.inr ⟨rfl, by rw [← HTF.out, takeF_lt h0 hlt]⟩), hb.setCell (p := ⟨g, q, none⟩) hg1 _⟩
          case measure => simp [intOf]; omega
        · have h2f : ∀ x : Int, (wr.setCell ⟨g, q, none⟩ (.int .i64 x)).ownsRow w.heap.size 3 1 (.slice (some ⟨g, 0, none⟩) q cc) q (rowL (ints M) q 1) := fun x => by
            have h1 := (hst (.int .i64 x)).1
            rw [rowL_set] at h1
            have h2 := own_take h1 (k := q) (by omega)
            rw [rowL_take _ _ _ _ (by omega), rowL_congr (G := ints M) fun i j hi hj => by simp [show i ≠ q by omega]] at h2
            exact h2
          by_cases heq : M q 0 < t'
          · have hz : (M q 0 - M q 0 == 0) = true := by simp
            have hmin : min t' (M q 0) = M q 0 := by omega
            go_wp2
            go_roundw
            case rel => exact ⟨q, t' - M q 0, M, rfl, by omega, by omega, by omega, h2f _, hide (.inl ⟨rfl, by rw [← HTF.out, takeF_ge h0 (by omega)]⟩), hb.setCell (p := ⟨g, q, none⟩) hg1 _⟩
            case measure => simp [intOf]; omega
          · have hte := hide (show t' = M q 0 by omega)
            have hz : (M q 0 - t' == 0) = true := by simp; omega
            have hmin : min t' (M q 0) = t' := by omega
            go_wp2
            go_roundw
            case rel => exact ⟨q, t' - M q 0, M, (by first | (rw [← hte.out]; done) | (rw [← hte.out]; simp)), by omega, by omega, by omega, h2f _, hide (.inl ⟨rfl, by rw [← HTF.out, takeF_ge h0 (by omega)]⟩), hb.setCell (p := ⟨g, q, none⟩) hg1 _⟩
            case measure => simp [intOf]; omega
      · obtain rfl : k = 0 := by omega
        go_wp2
        go_ret
        exact ⟨_, rfl, by rw [HFIN.out (by simp)]; exact ho, hb⟩
    · have ht : t' = 0 := by omega
      have ht2 : decide ((0 : Int) < t') = false := by simp; omega
      go_wp2
      go_ret
      exact ⟨_, rfl, by rw [HFIN.out (.inl ht)]; exact ho, hb⟩
set_option maxRecDepth 20000 in
set_option maxHeartbeats 2000000 in
theorem l7Take_any (A : Option Addr) (n c : Nat) (L : Nat → Nat → Int) (t : Int) (w : World) (hn : n ≤ 1048576) (ht0 : 0 ≤ t) (ht1 : t ≤ 6000) (HL : Hid (∀ k, k < n → 1 ≤ L k 0 ∧ L k 0 ≤ 500)) (h : Rd w A n 1 (ints L)) :
    Calls Tryd.prog 59 #[.slice A n c, .int .i64 t] w fun e w' => ∃ v, e = .returned v ∧ w'.ownsRow w.heap.size 3 1 v (takeF L n t).1 (rowL (ints (takeF L n t).2) (takeF L n t).1 1) ∧ Below w.heap.size w w' := by
  have hle : ∀ (a b : Int) (w : World), Calls Tryd.prog 72 #[.int .i64 a, .int .i64 b] w fun e w' => e = .returned (.int .i64 (min a b)) ∧ w = w' := l1Least_any
  obtain ⟨FIN, hF⟩ : ∃ FIN, takeF L n t = FIN := ⟨_, rfl⟩
  have HF := hide hF
  rw [hF]
  clear hF
  go_enter Tryd.func59, Tryd.ntmps59
  go_wp2_with fail
  go_at_call 71
  refine (l1Own_own _ _ _ _ _ hn h).mono ?_
  rintro _ w1 ⟨v1, rfl, ho1, hb1⟩
  go_wp2
  clear h
  go_loopw [1, 5, 6, 7] (fun ti v _ _ wr => ∃ (k : Nat) (t' : Int) (M : Nat → Nat → Int), ti = .int .i64 t' ∧ k ≤ n ∧ 0 ≤ t' ∧ t' ≤ 6000 ∧ wr.ownsRow w.heap.size 3 1 v k (rowL (ints M) k 1) ∧ Hid ((M = L ∧ takeF L k t' = FIN) ∨ (t' = 0 ∧ FIN = (k, M))) ∧ Below w.heap.size w wr) (fun ti v _ _ _ => 2 * (intOf ti).toNat + (match v with | .slice _ n _ => n | _ => 0))
  case atStart => exact ⟨n, t, L, rfl, Nat.le_refl _, ht0, ht1, ho1, hide (.inl ⟨rfl, HF.out⟩), hb1⟩
  case round =>
    clear ho1 hb1
    obtain ⟨k, t', M, rfl, hk, t0, t1, ho, HM, hb⟩ := hrel
    have fin : (t' = 0 ∨ k = 0) → FIN = (k, M) := fun hz => by
      rcases HM.out with ⟨e1, e2⟩ | ⟨-, e2⟩
      · subst e1
        rcases hz with hz | hz
        · subst hz; rw [← e2, takeF_zero]
        · subst hz; rw [← e2]; rfl
      · exact e2
    have HFIN := hide fin
    clear fin
    by_cases h0 : 0 < t'
    · obtain ⟨G, cc, rfl, hkc, hGf⟩ := own_form ho
      by_cases hk0 : 0 < k
      · obtain ⟨q, rfl⟩ : ∃ q, k = q + 1 := ⟨k - 1, by omega⟩
        obtain ⟨g, cap, e, hg1, hg2⟩ := ho.form (by omega)
        injection e with e e' e''
        subst e e''
        have hML : M = L ∧ takeF L (q + 1) t' = FIN := by
          rcases HM.out with h | ⟨h, -⟩
          · exact h
          · omega
        obtain ⟨rfl, hTF⟩ := hML
        have HTF := hide hTF
        clear hTF
        obtain ⟨l1, l2⟩ := HL.out q (by omega)
        have hcell := ho.cellAt q (by omega)
        have hfr := ho.frozenAt q
        have hrq : (rowL (ints M) (q + 1) 1)[q]? = some (.int .i64 (M q 0)) := by simp [rowL, Nat.mod_one]
        rw [hrq] at hcell
        clear hrq
        have hst := fun u => ho.stored q u
        have hq0 : decide ((0 : Int) ≤ (q : Int)) = true := by simp
        have hqc : decide ((q : Int) ≤ (cc : Int)) = true := decide_eq_true (by omega)
        have hq1 : decide ((0 : Int) < (q : Int) + 1) = true := decide_eq_true (by omega)
        by_cases hlt : t' < M q 0
        · have hmin : min t' (M q 0) = t' := by omega
          have hz : (M q 0 - t' == 0) = false := by simp; omega
          go_wp2
          go_roundw
          case rel => exact ⟨q + 1, 0, fun i j => if i = q then M q 0 - t' else M i j, rfl, hk, by omega, by omega, by rw [← rowL_set]; exact (hst _).1, hide (.inr ⟨rfl, by rw [← HTF.out, takeF_lt h0 hlt]⟩), hb.setCell (p := ⟨g, q, none⟩) hg1 _⟩
          case measure => simp [intOf]; omega
        · have h2f : ∀ x : Int, (wr.setCell ⟨g, q, none⟩ (.int .i64 x)).ownsRow w.heap.size 3 1 (.slice (some ⟨g, 0, none⟩) q cc) q (rowL (ints M) q 1) := fun x => by
            have h1 := (hst (.int .i64 x)).1
            rw [rowL_set] at h1
            have h2 := own_take h1 (k := q) (by omega)
            rw [rowL_take _ _ _ _ (by omega), rowL_congr (G := ints M) fun i j hi hj => by simp [show i ≠ q by omega]] at h2
            exact h2
          by_cases heq : M q 0 < t'
          · have hz : (M q 0 - M q 0 == 0) = true := by simp
            have hmin : min t' (M q 0) = M q 0 := by omega
            go_wp2
            go_roundw
            case rel => exact ⟨q, t' - M q 0, M, rfl, by omega, by omega, by omega, h2f _, hide (.inl ⟨rfl, by rw [← HTF.out, takeF_ge h0 (by omega)]⟩), hb.setCell (p := ⟨g, q, none⟩) hg1 _⟩
            case measure => simp [intOf]; omega
          · have hte := hide (show t' = M q 0 by omega)
            have hz : (M q 0 - t' == 0) = true := by simp; omega
            have hmin : min t' (M q 0) = t' := by omega
            go_wp2
            go_roundw
            case rel => exact ⟨q, t' - M q 0, M, (by first | (rw [← hte.out]; done) | (rw [← hte.out]; simp)), by omega, by omega, by omega, h2f _, hide (.inl ⟨rfl, by rw [← HTF.out, takeF_ge h0 (by omega)]⟩), hb.setCell (p := ⟨g, q, none⟩) hg1 _⟩
            case measure => simp [intOf]; omega
      · obtain rfl : k = 0 := by omega
        go_wp2
        go_ret
        exact ⟨_, rfl, by rw [HFIN.out (by simp)]; exact ho, hb⟩
    · have ht : t' = 0 := by omega
      have ht2 : decide ((0 : Int) < t') = false := by simp; omega
      go_wp2
      go_ret
      exact ⟨_, rfl, by rw [HFIN.out (.inl ht)]; exact ho, hb⟩
end Go.Proofs.YtbmlglkdlialgaaDoor
