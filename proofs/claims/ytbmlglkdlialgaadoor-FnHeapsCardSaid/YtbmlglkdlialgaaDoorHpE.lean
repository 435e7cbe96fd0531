/-
  Contracts on heaps: the one on which a layer is put best, of the program and of the reference. Conditions: lengths up to 2^20.
-/
import Derived.Test.YtbmlglkdlialgaaDoorHpD
import Derived.Test.YtbmlglkdlialgaaDoorApp
import Derived.Test.YtbmlglkdlialgaaDoorInts
import Derived.Test.YtbmlglkdlialgaaDoorOwn
namespace Go.Proofs.YtbmlglkdlialgaaDoor
open Go.RowKit

/-- One layer more. -/
def addL (n : Nat) (L : Nat → Nat → Int) (t : Int) : Nat → Nat → Int := fun i j => if i = n then t else L i j
theorem rowL_snoc (n : Nat) (L : Nat → Nat → Int) (t : Int) : rowL (ints (addL n L t)) (n + 1) 1 = rowL (ints L) n 1 ++ [.int .i64 t] := by
  simp only [rowL, Nat.mul_one, Nat.div_one, Nat.mod_one, List.range_succ, List.map_append, List.map_cons, List.map_nil]
  congr 1
  · refine List.map_congr_left fun i hi => ?_
    have : i < n := List.mem_range.1 hi
    simp only [ints, addL, if_neg (show i ≠ n by omega)]
  · simp [ints, addL]
theorem allB_congr {p q : Nat → Bool} {n : Nat} (h : ∀ k, k < n → p k = q k) : allB p n = allB q n := by
  induction n with
  | zero => rfl
  | succ m ih => simp only [allB]; rw [ih fun k hk => h k (by omega), h m (by omega)]
theorem heapB_add {id g : Int} {n : Nat} {L : Nat → Nat → Int} {t : Int} (h : heapB id g n L = true) : heapB id g (n + 1) (addL n L t) = (inB t 1 500 && bearsB n L t) := by
  simp only [heapB, Bool.and_eq_true, decide_eq_true_eq] at h
  obtain ⟨⟨⟨h1, h2⟩, h3⟩, h4⟩ := h
  have e1 : allB (layB (addL n L t)) n = true := by
    rw [allB_congr (q := layB L) fun k hk => ?_, h4]
    simp only [layB, addL, if_neg (show k ≠ n by omega), if_neg (show k - 1 ≠ n by omega)]
  have e2 : layB (addL n L t) n = (inB t 1 500 && (decide (n = 0) || decide (t ≤ L (n - 1) 0))) := by
    by_cases h0 : n = 0
    · subst h0; simp [layB, addL]
    · simp [layB, addL, h0, show n - 1 ≠ n by omega]
  have e3 : decide (((n + 1 : Nat) : Int) ≤ 12) = decide ((n : Int) < 12) := by
    rw [decide_eq_decide]; omega
  unfold heapB bearsB
  rw [h1, h2, e3]
  simp only [allB, e1, e2, Bool.true_and]
  cases inB t 1 500 <;> cases decide ((n : Int) < 12) <;> simp

set_option maxHeartbeats 2000000 in
theorem l7Can_any (id g : Int) (B : Option Addr) (n c : Nat) (L : Nat → Nat → Int) (cov : Bool) (gr t : Int) (w : World) (HV : Hid (heapB id g n L = true)) (h : Rd w B n 1 (ints L)) :
    Calls Tryd.prog 44 #[.agg #[.int .i64 id, .int .i64 g, .slice B n c, .bool cov], .int .i64 gr, .int .i64 t] w fun e w' => e = .returned (.bool (takesB ⟨id, g, n, L, cov⟩ gr t)) ∧ Below w.heap.size w w' := by
  obtain ⟨i0, hi0, hz0, hz1, hz2⟩ := info_parts info_int
  have hn12 : n ≤ 12 := (heapB_at HV.out).2.2.1
  have HT := hide (show takesB ⟨id, g, n, L, cov⟩ gr t = ((g == gr) && !cov && heapB id g (n + 1) (addL n L t)) by rw [heapB_add HV.out]; simp [takesB, Bool.and_assoc])
  generalize takesB ⟨id, g, n, L, cov⟩ gr t = R at HT ⊢
  cases hg : (g == gr)
  · have HR := hide (show R = false by rw [HT.out, hg]; rfl)
    have hb0 : Below w.heap.size w (w.alloc (.cells #[.int .i64 id, .int .i64 g, .slice B n c, .bool cov] 28)) := (Below.refl _ _).alloc (Nat.le_refl _) _
    have h' := Rd.below h hb0
    go_enter Tryd.func44, Tryd.ntmps44
    go_wp2_with fail
    go_at_call 71
    refine (l1Own_own _ _ _ _ _ (by omega) h').mono ?_
    rintro _ w1 ⟨v1, rfl, hown1, hb1⟩
    have hs1 : w.heap.size + 1 ≤ w1.heap.size := by simpa using hb1.size
    have hown1 : w1.ownsRow (w.heap.size + 1) 3 1 v1 n (rowL (ints L) n 1) := by simpa using hown1
    have c0 := (hb1.cell (p := ⟨w.heap.size, 0, none⟩) (by simp)).trans (show _ = some (Value.int .i64 id) by go_simp)
    have c1 := (hb1.cell (p := ⟨w.heap.size, 1, none⟩) (by simp)).trans (show _ = some (Value.int .i64 g) by go_simp)
    have c2 := (hb1.cell (p := ⟨w.heap.size, 2, none⟩) (by simp)).trans (show _ = some (Value.slice B n c) by go_simp)
    have c3 := (hb1.cell (p := ⟨w.heap.size, 3, none⟩) (by simp)).trans (show _ = some (Value.bool cov) by go_simp)
    have f2 := (hb1.frozen (p := ⟨w.heap.size, 2, none⟩) (by simp)).trans (show _ = false by go_simp)
    have hbA : Below w.heap.size w w1 := hb0.trans (hb1.mono (by simp))
    clear hb1 h' hb0
    go_wp2_with (at_builtin; refine wpList_append_own _ rfl _ _ 22 rfl (w.heap.size + 1) 3 i0 (.int .i64 0) 1 8 Tryd.underlying22 hi0 hz0 hz1 hz2 rfl (by decide) _ _ _ rfl (hown1.alloc _) ⟨w1.heap.size, 0, none⟩ 1 1 [.int .i64 t] rfl rfl (World.news_of_block (cs := #[.int .i64 t]) (t := 3) (fr := (0, 0)) (heap_alloc_new w1 _)) (by simp [Value.oneCell']) (by simp only [maxLen]; omega) (by omega) (by simp; omega) ?_; intro v2 w2 hown2 hg2 _; have hbb := grown_below (hown1.alloc _) hg2 (by simp; omega); clear hg2; rw [← rowL_snoc] at hown2; obtain ⟨A2, cc2, rfl, hO2⟩ := own_tab hown2; have e0 := (hbb.cell (p := ⟨w.heap.size, 0, none⟩) (Nat.lt_succ_self _)).trans ((World.cell?_alloc_past (w := w1) _ _ _ (by omega)).trans c0); have e1 := (hbb.cell (p := ⟨w.heap.size, 1, none⟩) (Nat.lt_succ_self _)).trans ((World.cell?_alloc_past (w := w1) _ _ _ (by omega)).trans c1); have e2 := (hbb.cell (p := ⟨w.heap.size, 2, none⟩) (Nat.lt_succ_self _)).trans ((World.cell?_alloc_past (w := w1) _ _ _ (by omega)).trans c2); have e3 := (hbb.cell (p := ⟨w.heap.size, 3, none⟩) (Nat.lt_succ_self _)).trans ((World.cell?_alloc_past (w := w1) _ _ _ (by omega)).trans c3); have k2 := (hbb.frozen (p := ⟨w.heap.size, 2, none⟩) (Nat.lt_succ_self _)).trans ((World.frozen?_alloc_past (w := w1) _ _ _ (by omega)).trans f2); clear c0 c1 c2 c3 f2)
    have hbB := (hbA.alloc hbA.size _).trans (hbb.mono (by omega))
    have hs2 := hbb.size
    simp at hs2
    go_wp2
    go_ret
    exact ⟨ret_bool HR.out.symm, hbB.setCell (p := ⟨w.heap.size, 2, none⟩) (Nat.le_refl _) _⟩
  · cases cov
    · have HR := hide (show R = heapB id g (n + 1) (addL n L t) by rw [HT.out, hg]; rfl)
      have hb0 : Below w.heap.size w (w.alloc (.cells #[.int .i64 id, .int .i64 g, .slice B n c, .bool false] 28)) := (Below.refl _ _).alloc (Nat.le_refl _) _
      have h' := Rd.below h hb0
      go_enter Tryd.func44, Tryd.ntmps44
      go_wp2_with fail
      go_at_call 71
      refine (l1Own_own _ _ _ _ _ (by omega) h').mono ?_
      rintro _ w1 ⟨v1, rfl, hown1, hb1⟩
      have hs1 : w.heap.size + 1 ≤ w1.heap.size := by simpa using hb1.size
      have hown1 : w1.ownsRow (w.heap.size + 1) 3 1 v1 n (rowL (ints L) n 1) := by simpa using hown1
      have c0 := (hb1.cell (p := ⟨w.heap.size, 0, none⟩) (by simp)).trans (show _ = some (Value.int .i64 id) by go_simp)
      have c1 := (hb1.cell (p := ⟨w.heap.size, 1, none⟩) (by simp)).trans (show _ = some (Value.int .i64 g) by go_simp)
      have c2 := (hb1.cell (p := ⟨w.heap.size, 2, none⟩) (by simp)).trans (show _ = some (Value.slice B n c) by go_simp)
      have c3 := (hb1.cell (p := ⟨w.heap.size, 3, none⟩) (by simp)).trans (show _ = some (Value.bool false) by go_simp)
      have f2 := (hb1.frozen (p := ⟨w.heap.size, 2, none⟩) (by simp)).trans (show _ = false by go_simp)
      have hbA : Below w.heap.size w w1 := hb0.trans (hb1.mono (by simp))
      clear hb1 h' hb0
      go_wp2_with (at_builtin; refine wpList_append_own _ rfl _ _ 22 rfl (w.heap.size + 1) 3 i0 (.int .i64 0) 1 8 Tryd.underlying22 hi0 hz0 hz1 hz2 rfl (by decide) _ _ _ rfl (hown1.alloc _) ⟨w1.heap.size, 0, none⟩ 1 1 [.int .i64 t] rfl rfl (World.news_of_block (cs := #[.int .i64 t]) (t := 3) (fr := (0, 0)) (heap_alloc_new w1 _)) (by simp [Value.oneCell']) (by simp only [maxLen]; omega) (by omega) (by simp; omega) ?_; intro v2 w2 hown2 hg2 _; have hbb := grown_below (hown1.alloc _) hg2 (by simp; omega); clear hg2; rw [← rowL_snoc] at hown2; obtain ⟨A2, cc2, rfl, hO2⟩ := own_tab hown2; have e0 := (hbb.cell (p := ⟨w.heap.size, 0, none⟩) (Nat.lt_succ_self _)).trans ((World.cell?_alloc_past (w := w1) _ _ _ (by omega)).trans c0); have e1 := (hbb.cell (p := ⟨w.heap.size, 1, none⟩) (Nat.lt_succ_self _)).trans ((World.cell?_alloc_past (w := w1) _ _ _ (by omega)).trans c1); have e2 := (hbb.cell (p := ⟨w.heap.size, 2, none⟩) (Nat.lt_succ_self _)).trans ((World.cell?_alloc_past (w := w1) _ _ _ (by omega)).trans c2); have e3 := (hbb.cell (p := ⟨w.heap.size, 3, none⟩) (Nat.lt_succ_self _)).trans ((World.cell?_alloc_past (w := w1) _ _ _ (by omega)).trans c3); have k2 := (hbb.frozen (p := ⟨w.heap.size, 2, none⟩) (Nat.lt_succ_self _)).trans ((World.frozen?_alloc_past (w := w1) _ _ _ (by omega)).trans f2); clear c0 c1 c2 c3 f2)
      have hbB := (hbA.alloc hbA.size _).trans (hbb.mono (by omega))
      have hs2 := hbb.size
      simp at hs2
      have hz : w.heap.size < (w2.setCell ⟨w.heap.size, 2, none⟩ (.slice A2 (n + 1) cc2)).heap.size := by simp; omega
      have hl2 : Rd (w2.setCell ⟨w.heap.size, 2, none⟩ (.slice A2 (n + 1) cc2)) A2 (n + 1) 1 (ints (addL n L t)) := (Sl.agr hO2.sl (fun k h1 h2 => Below.heap_setCell _ _ _ _ (by simp; omega))).mono (Nat.zero_le _) (by simp)
      go_wp2_with fail
      go_at_call 28
      refine (l7One_any _ _ _ _ _ _ _ _ (by omega) hl2).mono ?_
      rintro _ w4 ⟨rfl, hb4⟩
      go_wp2
      go_ret
      exact ⟨ret_bool HR.out.symm, (hbB.setCell (p := ⟨w.heap.size, 2, none⟩) (Nat.le_refl _) _).trans (hb4.mono (by simp; omega))⟩
    · have HR := hide (show R = false by rw [HT.out, hg]; rfl)
      have hb0 : Below w.heap.size w (w.alloc (.cells #[.int .i64 id, .int .i64 g, .slice B n c, .bool true] 28)) := (Below.refl _ _).alloc (Nat.le_refl _) _
      have h' := Rd.below h hb0
      go_enter Tryd.func44, Tryd.ntmps44
      go_wp2_with fail
      go_at_call 71
      refine (l1Own_own _ _ _ _ _ (by omega) h').mono ?_
      rintro _ w1 ⟨v1, rfl, hown1, hb1⟩
      have hs1 : w.heap.size + 1 ≤ w1.heap.size := by simpa using hb1.size
      have hown1 : w1.ownsRow (w.heap.size + 1) 3 1 v1 n (rowL (ints L) n 1) := by simpa using hown1
      have c0 := (hb1.cell (p := ⟨w.heap.size, 0, none⟩) (by simp)).trans (show _ = some (Value.int .i64 id) by go_simp)
      have c1 := (hb1.cell (p := ⟨w.heap.size, 1, none⟩) (by simp)).trans (show _ = some (Value.int .i64 g) by go_simp)
      have c2 := (hb1.cell (p := ⟨w.heap.size, 2, none⟩) (by simp)).trans (show _ = some (Value.slice B n c) by go_simp)
      have c3 := (hb1.cell (p := ⟨w.heap.size, 3, none⟩) (by simp)).trans (show _ = some (Value.bool true) by go_simp)
      have f2 := (hb1.frozen (p := ⟨w.heap.size, 2, none⟩) (by simp)).trans (show _ = false by go_simp)
      have hbA : Below w.heap.size w w1 := hb0.trans (hb1.mono (by simp))
      clear hb1 h' hb0
      go_wp2_with (at_builtin; refine wpList_append_own _ rfl _ _ 22 rfl (w.heap.size + 1) 3 i0 (.int .i64 0) 1 8 Tryd.underlying22 hi0 hz0 hz1 hz2 rfl (by decide) _ _ _ rfl (hown1.alloc _) ⟨w1.heap.size, 0, none⟩ 1 1 [.int .i64 t] rfl rfl (World.news_of_block (cs := #[.int .i64 t]) (t := 3) (fr := (0, 0)) (heap_alloc_new w1 _)) (by simp [Value.oneCell']) (by simp only [maxLen]; omega) (by omega) (by simp; omega) ?_; intro v2 w2 hown2 hg2 _; have hbb := grown_below (hown1.alloc _) hg2 (by simp; omega); clear hg2; rw [← rowL_snoc] at hown2; obtain ⟨A2, cc2, rfl, hO2⟩ := own_tab hown2; have e0 := (hbb.cell (p := ⟨w.heap.size, 0, none⟩) (Nat.lt_succ_self _)).trans ((World.cell?_alloc_past (w := w1) _ _ _ (by omega)).trans c0); have e1 := (hbb.cell (p := ⟨w.heap.size, 1, none⟩) (Nat.lt_succ_self _)).trans ((World.cell?_alloc_past (w := w1) _ _ _ (by omega)).trans c1); have e2 := (hbb.cell (p := ⟨w.heap.size, 2, none⟩) (Nat.lt_succ_self _)).trans ((World.cell?_alloc_past (w := w1) _ _ _ (by omega)).trans c2); have e3 := (hbb.cell (p := ⟨w.heap.size, 3, none⟩) (Nat.lt_succ_self _)).trans ((World.cell?_alloc_past (w := w1) _ _ _ (by omega)).trans c3); have k2 := (hbb.frozen (p := ⟨w.heap.size, 2, none⟩) (Nat.lt_succ_self _)).trans ((World.frozen?_alloc_past (w := w1) _ _ _ (by omega)).trans f2); clear c0 c1 c2 c3 f2)
      have hbB := (hbA.alloc hbA.size _).trans (hbb.mono (by omega))
      have hs2 := hbb.size
      simp at hs2
      go_wp2
      go_ret
      exact ⟨ret_bool HR.out.symm, hbB.setCell (p := ⟨w.heap.size, 2, none⟩) (Nat.le_refl _) _⟩

theorem topH_pos {n : Nat} {L : Nat → Nat → Int} (h : 0 < n) : topH n L = L (n - 1) 0 := by unfold topH; rw [if_neg (by omega)]
set_option maxHeartbeats 1000000 in
theorem l7Top_any (id g : Int) (B : Option Addr) (n c : Nat) (L : Nat → Nat → Int) (cov : Bool) (w : World) (hn : n ≤ 1048576) (h : Rd w B n 1 (ints L)) :
    Calls Tryd.prog 56 #[.agg #[.int .i64 id, .int .i64 g, .slice B n c, .bool cov]] w fun e w' => e = .returned (.int .i64 (topH n L)) ∧ Below w.heap.size w w' := by
  have hb0 : Below w.heap.size w (w.alloc (.cells #[.int .i64 id, .int .i64 g, .slice B n c, .bool cov] 28)) := (Below.refl _ _).alloc (Nat.le_refl _) _
  have h := Rd.below h hb0
  by_cases h0 : 0 < n
  · have HT := hide (topH_pos (L := L) h0)
    generalize topH n L = T at HT ⊢
    obtain ⟨b, off, rfl, -, hbw, hc⟩ := h h0
    have hc0 := hc (n - 1) 0 (by omega) (by omega)
    simp only [Nat.add_zero, Nat.mul_one] at hc0
    clear hc h
    have hd : decide (0 < (n : Int)) = true := by simp; omega
    have hd1 : (0 : Int) ≤ (n : Int) - 1 := by omega
    go_enter Tryd.func56, Tryd.ntmps56
    go_wp2
    go_ret
    exact ⟨ret_int HT.out.symm, hb0⟩
  · obtain rfl : n = 0 := by omega
    go_enter Tryd.func56, Tryd.ntmps56
    go_wp2
    go_ret
    exact ⟨rfl, hb0⟩
set_option maxHeartbeats 1000000 in
theorem topOf_any (B : Option Addr) (n c : Nat) (L : Nat → Nat → Int) (w : World) (hn : n ≤ 1048576) (h : Rd w B n 1 (ints L)) :
    Calls Tryd.prog 52 #[.slice B n c] w fun e w' => e = .returned (.int .i64 (topH n L)) ∧ w = w' := by
  by_cases h0 : 0 < n
  · have HT := hide (topH_pos (L := L) h0)
    generalize topH n L = T at HT ⊢
    obtain ⟨b, off, rfl, -, hbw, hc⟩ := h h0
    have hc0 := hc (n - 1) 0 (by omega) (by omega)
    simp only [Nat.add_zero, Nat.mul_one] at hc0
    clear hc h
    have hd : ((n : Int) == 0) = false := by simp; omega
    have hd1 : (0 : Int) ≤ (n : Int) - 1 := by omega
    go_enter Tryd.func52, Tryd.ntmps52
    go_wp2
    go_ret
    exact ⟨ret_int HT.out.symm, rfl⟩
  · obtain rfl : n = 0 := by omega
    go_enter Tryd.func52, Tryd.ntmps52
    go_wp2
    go_ret
    exact ⟨rfl, rfl⟩
set_option maxHeartbeats 1000000 in
theorem bears_any (B : Option Addr) (n c : Nat) (L : Nat → Nat → Int) (t : Int) (w : World) (hn : n ≤ 1048576) (h : Rd w B n 1 (ints L)) :
    Calls Tryd.prog 68 #[.slice B n c, .int .i64 t] w fun e w' => e = .returned (.bool (bearsB n L t)) ∧ w = w' := by
  have HT := hide (show bearsB n L t = (decide ((n : Int) < 12) && (decide (n = 0) || decide (t ≤ L (n - 1) 0))) from rfl)
  generalize bearsB n L t = T at HT ⊢
  by_cases h12 : (n : Int) < 12
  · by_cases h0 : 0 < n
    · obtain ⟨b, off, rfl, -, hbw, hc⟩ := h h0
      have hc0 := hc (n - 1) 0 (by omega) (by omega)
      simp only [Nat.add_zero, Nat.mul_one] at hc0
      clear hc h
      have hd : ((n : Int) == 0) = false := by simp; omega
      have hd1 : (0 : Int) ≤ (n : Int) - 1 := by omega
      have HT' := hide (show T = decide (t ≤ L (n - 1) 0) by rw [HT.out]; simp [h12, show n ≠ 0 by omega])
      go_enter Tryd.func68, Tryd.ntmps68
      go_wp2
      all_goals
        go_ret
        exact ⟨ret_bool HT'.out.symm, rfl⟩
    · obtain rfl : n = 0 := by omega
      go_enter Tryd.func68, Tryd.ntmps68
      go_wp2
      go_ret
      exact ⟨ret_bool (by rw [HT.out]; rfl), rfl⟩
  · have hd : decide ((n : Int) < 12) = false := by simpa using h12
    have HT' := hide (show T = false by rw [HT.out, hd]; rfl)
    go_enter Tryd.func68, Tryd.ntmps68
    go_wp2
    go_ret
    exact ⟨ret_bool HT'.out.symm, rfl⟩
set_option maxHeartbeats 1000000 in
theorem takes_any (id g : Int) (B : Option Addr) (n c : Nat) (L : Nat → Nat → Int) (cov : Bool) (gr t : Int) (w : World) (hn : n ≤ 1048576) (h : Rd w B n 1 (ints L)) :
    Calls Tryd.prog 41 #[.agg #[.int .i64 id, .int .i64 g, .slice B n c, .bool cov], .int .i64 gr, .int .i64 t] w fun e w' => e = .returned (.bool (takesB ⟨id, g, n, L, cov⟩ gr t)) ∧ Below w.heap.size w w' := by
  have HT := hide (show takesB ⟨id, g, n, L, cov⟩ gr t = ((g == gr) && !cov && inB t 1 500 && bearsB n L t) from rfl)
  generalize takesB ⟨id, g, n, L, cov⟩ gr t = R at HT ⊢
  have hb0 : Below w.heap.size w (w.alloc (.cells #[.int .i64 id, .int .i64 g, .slice B n c, .bool cov] 28)) := (Below.refl _ _).alloc (Nat.le_refl _) _
  have h' := Rd.below h hb0
  cases hg : (g == gr)
  · have HR := hide (show R = false by rw [HT.out, hg]; rfl)
    go_enter Tryd.func41, Tryd.ntmps41
    go_wp2
    go_ret
    exact ⟨ret_bool HR.out.symm, hb0⟩
  cases cov
  rotate_left
  · have HR := hide (show R = false by rw [HT.out, hg]; rfl)
    go_enter Tryd.func41, Tryd.ntmps41
    go_wp2
    go_ret
    exact ⟨ret_bool HR.out.symm, hb0⟩
  cases ht : inB t 1 500
  · have HR := hide (show R = false by rw [HT.out, hg, ht]; rfl)
    go_enter Tryd.func41, Tryd.ntmps41
    go_wp2_with (first | (go_at_call 51; refine (isLayer_any _ _).mono ?_; rintro _ _ ⟨rfl, rfl⟩))
    go_ret
    exact ⟨ret_bool HR.out.symm, hb0⟩
  · have HR := hide (show R = bearsB n L t by rw [HT.out, hg, ht]; rfl)
    go_enter Tryd.func41, Tryd.ntmps41
    go_wp2_with (first | (go_at_call 51; refine (isLayer_any _ _).mono ?_; rintro _ _ ⟨rfl, rfl⟩) | (go_at_call 68; refine (bears_any _ _ _ _ _ _ hn h').mono ?_; rintro _ _ ⟨rfl, rfl⟩))
    go_ret
    exact ⟨ret_bool HR.out.symm, hb0⟩
end Go.Proofs.YtbmlglkdlialgaaDoor
