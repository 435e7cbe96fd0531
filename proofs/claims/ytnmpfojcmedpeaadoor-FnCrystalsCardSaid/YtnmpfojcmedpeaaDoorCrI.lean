/-
  AfterDrying and FallOut, of the program and of the reference. Conditions: lengths up to 2^20.
-/
import Derived.Test.YtnmpfojcmedpeaaDoorCrH
namespace Go.Proofs.YtnmpfojcmedpeaaDoor
open Go.RowKit

theorem dry_no {S : Nat → ByteArray} {F : Nat → Nat → Int} {n : Nat} {x : Int} {m : Nat} {L : Nat → Nat → Int} {y : Int} (h : dryB S F n x m L y = false) : dryN S F n x m L y = 0 ∧ dryX S F n x m L y = 0 := by simp [dryN, dryX, h]
theorem dry_yes {S : Nat → ByteArray} {F : Nat → Nat → Int} {n : Nat} {x : Int} {m : Nat} {L : Nat → Nat → Int} {y : Int} (h : dryB S F n x m L y = true) :
    dryN S F n x m L y = n ∧ dryX S F n x m L y = fallX F L (x - y) n ∧ n ≤ 6 ∧ m = n ∧ 0 ≤ x - y ∧ x - y ≤ 1000000 ∧ 0 ≤ y ∧ y ≤ x ∧ x ≤ 1000000 ∧ Hid (∀ k, k < n → (0 ≤ F k 1 ∧ F k 1 ≤ 9) ∧ 1 ≤ F k 2 ∧ F k 2 ≤ 1000) ∧ Hid (∀ k, k < n → 0 ≤ L k 0 ∧ L k 0 ≤ 1000000) := by
  refine ⟨by simp [dryN, h], by simp [dryX, h], ?_⟩
  simp only [dryB, Bool.and_eq_true] at h
  obtain ⟨h3, ⟨x1, x2⟩, rfl, h4⟩ := liqB_at h.1
  have h5 := kindsB_at h3
  have h6 := inB_true h.2
  exact ⟨h5.1.2, rfl, by omega, by omega, h6.1, h6.2, x2, hide h5.2, hide h4⟩
set_option maxRecDepth 20000 in
set_option maxHeartbeats 1000000 in
theorem AfterDrying_any (A : Option Addr) (n c : Nat) (S : Nat → ByteArray) (F : Nat → Nat → Int) (x : Int) (B : Option Addr) (m d : Nat) (L : Nat → Nat → Int) (y : Int) (w : World) (hn : n ≤ 1048576) (hm : m ≤ 1048576) (HS : Hid (∀ i, i < n → (S i).size ≤ 9223372036854775807)) (h : Rd w A n 3 (kdC S F)) (hL : Rd w B m 1 (ints L)) :
    Calls Tryd.prog 36 #[.slice A n c, .agg #[.int .i64 x, .slice B m d], .int .i64 y] w (FallI w (fun A1 c1 A2 c2 => .tuple #[.agg #[.int .i64 (dryX S F n x m L y), .slice A1 (dryN S F n x m L y) c1], .slice A2 (dryN S F n x m L y) c2, .bool (dryB S F n x m L y)]) (dryN S F n x m L y) (ints (fallS F L (x - y))) (ints (fallG F L (x - y)))) := by
  cases h1 : liqB S F n x m L
  · have hB : dryB S F n x m L y = false := by simp [dryB, h1]
    obtain ⟨hN, hX⟩ := dry_no hB
    rw [hB, hN, hX]
    clear hB hN hX
    go_enter Tryd.func36, Tryd.ntmps36
    go_upto_region 1 with fail
    have hb_W : Below w.heap.size w ((w.alloc (.cells #[.int .i64 x, .slice B m d] 27)).alloc (.cells #[.int .i64 0, .slice none 0 0] 27)) := ((Below.refl _ _).alloc (Nat.le_refl _) _).alloc (by simp) _
    have gc1_W : World.cell? ((w.alloc (.cells #[.int .i64 x, .slice B m d] 27)).alloc (.cells #[.int .i64 0, .slice none 0 0] 27)) ⟨w.heap.size, 0, none⟩ = some (.int .i64 x) := by go_simp
    have gc2_W : World.cell? ((w.alloc (.cells #[.int .i64 x, .slice B m d] 27)).alloc (.cells #[.int .i64 0, .slice none 0 0] 27)) ⟨w.heap.size, 1, none⟩ = some (.slice B m d) := by go_simp
    have gf3_W : World.frozen? ((w.alloc (.cells #[.int .i64 x, .slice B m d] 27)).alloc (.cells #[.int .i64 0, .slice none 0 0] 27)) ⟨w.heap.size, 0, none⟩ = false := by go_simp
    have gc4_W : World.cell? ((w.alloc (.cells #[.int .i64 x, .slice B m d] 27)).alloc (.cells #[.int .i64 0, .slice none 0 0] 27)) ⟨w.heap.size + 1, 0, none⟩ = some (.int .i64 0) := by go_simp
    have gc5_W : World.cell? ((w.alloc (.cells #[.int .i64 x, .slice B m d] 27)).alloc (.cells #[.int .i64 0, .slice none 0 0] 27)) ⟨w.heap.size + 1, 1, none⟩ = some (.slice none 0 0) := by go_simp
    have gf6_W : World.frozen? ((w.alloc (.cells #[.int .i64 x, .slice B m d] 27)).alloc (.cells #[.int .i64 0, .slice none 0 0] 27)) ⟨w.heap.size + 1, 0, none⟩ = false := by go_simp
    have gf7_W : World.frozen? ((w.alloc (.cells #[.int .i64 x, .slice B m d] 27)).alloc (.cells #[.int .i64 0, .slice none 0 0] 27)) ⟨w.heap.size + 1, 1, none⟩ = false := by go_simp
    have hz_W : (w.heap.size + 1) < (World.heap ((w.alloc (.cells #[.int .i64 x, .slice B m d] 27)).alloc (.cells #[.int .i64 0, .slice none 0 0] 27))).size := by simp
    generalize (w.alloc (.cells #[.int .i64 x, .slice B m d] 27)).alloc (.cells #[.int .i64 0, .slice none 0 0] 27) = W at hb_W gc1_W gc2_W gf3_W gc4_W gc5_W gf6_W gf7_W hz_W ⊢
    go_wp2_with fail
    go_at_call 30
    refine (IsLiquor_any _ _ _ _ _ _ _ _ _ _ _ hn hm HS (Rd.below h hb_W) (Rd.below hL hb_W)).mono ?_
    rintro _ w1 ⟨rfl, hb1⟩
    rw [h1]
    have hz0 : w.heap.size < W.heap.size := by omega
    have c0 := (hb1.cell (p := ⟨w.heap.size, 0, none⟩) hz0).trans gc1_W
    have c1 := (hb1.cell (p := ⟨w.heap.size, 1, none⟩) hz0).trans gc2_W
    have f0 := (hb1.frozen (p := ⟨w.heap.size, 0, none⟩) hz0).trans gf3_W
    have r0 := (hb1.cell (p := ⟨w.heap.size + 1, 0, none⟩) hz_W).trans gc4_W
    have r1 := (hb1.cell (p := ⟨w.heap.size + 1, 1, none⟩) hz_W).trans gc5_W
    have r2 := (hb1.frozen (p := ⟨w.heap.size + 1, 0, none⟩) hz_W).trans gf6_W
    have r3 := (hb1.frozen (p := ⟨w.heap.size + 1, 1, none⟩) hz_W).trans gf7_W
    have hs1 : w.heap.size + 1 < w1.heap.size := Nat.lt_of_lt_of_le hz_W hb1.size
    have hbA := gr hb_W hb1
    clear gc1_W gc2_W gf3_W gc4_W gc5_W gf6_W gf7_W hz0 hz_W hb_W hb1 h1
    go_wp2
    replace hbA := (hbA.setCell (p := ⟨w.heap.size + 1, 0, none⟩) (Nat.le_succ _) (.int .i64 0)).setCell (p := ⟨w.heap.size + 1, 1, none⟩) (Nat.le_succ _) (.slice none 0 0)
    refine bodyPost_ret (v := .tuple #[.agg #[.int .i64 0, .slice none 0 0], .slice none 0 0, .bool false]) (by simp only [results, Tryd.results36]; go_simp) rfl ⟨none, 0, none, 0, w.heap.size, rfl, Nat.le_refl _, hbA.size, Ow.nil _ _ _ _ _ _, Ow.nil _ _ _ _ _ _, hbA⟩
  · cases h2 : inB y 0 x
    · have hB : dryB S F n x m L y = false := by simp [dryB, h2]
      obtain ⟨hN, hX⟩ := dry_no hB
      rw [hB, hN, hX]
      clear hB hN hX
      go_enter Tryd.func36, Tryd.ntmps36
      go_upto_region 1 with fail
      have hb_W : Below w.heap.size w ((w.alloc (.cells #[.int .i64 x, .slice B m d] 27)).alloc (.cells #[.int .i64 0, .slice none 0 0] 27)) := ((Below.refl _ _).alloc (Nat.le_refl _) _).alloc (by simp) _
      have gc1_W : World.cell? ((w.alloc (.cells #[.int .i64 x, .slice B m d] 27)).alloc (.cells #[.int .i64 0, .slice none 0 0] 27)) ⟨w.heap.size, 0, none⟩ = some (.int .i64 x) := by go_simp
      have gc2_W : World.cell? ((w.alloc (.cells #[.int .i64 x, .slice B m d] 27)).alloc (.cells #[.int .i64 0, .slice none 0 0] 27)) ⟨w.heap.size, 1, none⟩ = some (.slice B m d) := by go_simp
      have gf3_W : World.frozen? ((w.alloc (.cells #[.int .i64 x, .slice B m d] 27)).alloc (.cells #[.int .i64 0, .slice none 0 0] 27)) ⟨w.heap.size, 0, none⟩ = false := by go_simp
      have gc4_W : World.cell? ((w.alloc (.cells #[.int .i64 x, .slice B m d] 27)).alloc (.cells #[.int .i64 0, .slice none 0 0] 27)) ⟨w.heap.size + 1, 0, none⟩ = some (.int .i64 0) := by go_simp
      have gc5_W : World.cell? ((w.alloc (.cells #[.int .i64 x, .slice B m d] 27)).alloc (.cells #[.int .i64 0, .slice none 0 0] 27)) ⟨w.heap.size + 1, 1, none⟩ = some (.slice none 0 0) := by go_simp
      have gf6_W : World.frozen? ((w.alloc (.cells #[.int .i64 x, .slice B m d] 27)).alloc (.cells #[.int .i64 0, .slice none 0 0] 27)) ⟨w.heap.size + 1, 0, none⟩ = false := by go_simp
      have gf7_W : World.frozen? ((w.alloc (.cells #[.int .i64 x, .slice B m d] 27)).alloc (.cells #[.int .i64 0, .slice none 0 0] 27)) ⟨w.heap.size + 1, 1, none⟩ = false := by go_simp
      have hz_W : (w.heap.size + 1) < (World.heap ((w.alloc (.cells #[.int .i64 x, .slice B m d] 27)).alloc (.cells #[.int .i64 0, .slice none 0 0] 27))).size := by simp
      generalize (w.alloc (.cells #[.int .i64 x, .slice B m d] 27)).alloc (.cells #[.int .i64 0, .slice none 0 0] 27) = W at hb_W gc1_W gc2_W gf3_W gc4_W gc5_W gf6_W gf7_W hz_W ⊢
      go_wp2_with fail
      go_at_call 30
      refine (IsLiquor_any _ _ _ _ _ _ _ _ _ _ _ hn hm HS (Rd.below h hb_W) (Rd.below hL hb_W)).mono ?_
      rintro _ w1 ⟨rfl, hb1⟩
      rw [h1]
      have hz0 : w.heap.size < W.heap.size := by omega
      have c0 := (hb1.cell (p := ⟨w.heap.size, 0, none⟩) hz0).trans gc1_W
      have c1 := (hb1.cell (p := ⟨w.heap.size, 1, none⟩) hz0).trans gc2_W
      have f0 := (hb1.frozen (p := ⟨w.heap.size, 0, none⟩) hz0).trans gf3_W
      have r0 := (hb1.cell (p := ⟨w.heap.size + 1, 0, none⟩) hz_W).trans gc4_W
      have r1 := (hb1.cell (p := ⟨w.heap.size + 1, 1, none⟩) hz_W).trans gc5_W
      have r2 := (hb1.frozen (p := ⟨w.heap.size + 1, 0, none⟩) hz_W).trans gf6_W
      have r3 := (hb1.frozen (p := ⟨w.heap.size + 1, 1, none⟩) hz_W).trans gf7_W
      have hs1 : w.heap.size + 1 < w1.heap.size := Nat.lt_of_lt_of_le hz_W hb1.size
      have hbA := gr hb_W hb1
      clear gc1_W gc2_W gf3_W gc4_W gc5_W gf6_W gf7_W hz0 hz_W hb_W hb1 h1
      go_wp2_with (first | (go_at_call 63; refine (within_any _ _ _ _).mono ?_; rintro _ _ ⟨rfl, rfl⟩))
      replace hbA := (hbA.setCell (p := ⟨w.heap.size + 1, 0, none⟩) (Nat.le_succ _) (.int .i64 0)).setCell (p := ⟨w.heap.size + 1, 1, none⟩) (Nat.le_succ _) (.slice none 0 0)
      refine bodyPost_ret (v := .tuple #[.agg #[.int .i64 0, .slice none 0 0], .slice none 0 0, .bool false]) (by simp only [results, Tryd.results36]; go_simp) rfl ⟨none, 0, none, 0, w.heap.size, rfl, Nat.le_refl _, hbA.size, Ow.nil _ _ _ _ _ _, Ow.nil _ _ _ _ _ _, hbA⟩
    · have hB : dryB S F n x m L y = true := by simp [dryB, h1, h2]
      obtain ⟨hN, hX, hn6, hmn, x1, x2, y1, y2, y3, HF, HL⟩ := dry_yes hB
      rw [hB, hN, hX]
      clear hB hN hX
      subst hmn
      go_enter Tryd.func36, Tryd.ntmps36
      go_upto_region 1 with fail
      have hb_W : Below w.heap.size w ((w.alloc (.cells #[.int .i64 x, .slice B m d] 27)).alloc (.cells #[.int .i64 0, .slice none 0 0] 27)) := ((Below.refl _ _).alloc (Nat.le_refl _) _).alloc (by simp) _
      have gc1_W : World.cell? ((w.alloc (.cells #[.int .i64 x, .slice B m d] 27)).alloc (.cells #[.int .i64 0, .slice none 0 0] 27)) ⟨w.heap.size, 0, none⟩ = some (.int .i64 x) := by go_simp
      have gc2_W : World.cell? ((w.alloc (.cells #[.int .i64 x, .slice B m d] 27)).alloc (.cells #[.int .i64 0, .slice none 0 0] 27)) ⟨w.heap.size, 1, none⟩ = some (.slice B m d) := by go_simp
      have gf3_W : World.frozen? ((w.alloc (.cells #[.int .i64 x, .slice B m d] 27)).alloc (.cells #[.int .i64 0, .slice none 0 0] 27)) ⟨w.heap.size, 0, none⟩ = false := by go_simp
      have gc4_W : World.cell? ((w.alloc (.cells #[.int .i64 x, .slice B m d] 27)).alloc (.cells #[.int .i64 0, .slice none 0 0] 27)) ⟨w.heap.size + 1, 0, none⟩ = some (.int .i64 0) := by go_simp
      have gc5_W : World.cell? ((w.alloc (.cells #[.int .i64 x, .slice B m d] 27)).alloc (.cells #[.int .i64 0, .slice none 0 0] 27)) ⟨w.heap.size + 1, 1, none⟩ = some (.slice none 0 0) := by go_simp
      have gf6_W : World.frozen? ((w.alloc (.cells #[.int .i64 x, .slice B m d] 27)).alloc (.cells #[.int .i64 0, .slice none 0 0] 27)) ⟨w.heap.size + 1, 0, none⟩ = false := by go_simp
      have gf7_W : World.frozen? ((w.alloc (.cells #[.int .i64 x, .slice B m d] 27)).alloc (.cells #[.int .i64 0, .slice none 0 0] 27)) ⟨w.heap.size + 1, 1, none⟩ = false := by go_simp
      have hz_W : (w.heap.size + 1) < (World.heap ((w.alloc (.cells #[.int .i64 x, .slice B m d] 27)).alloc (.cells #[.int .i64 0, .slice none 0 0] 27))).size := by simp
      generalize (w.alloc (.cells #[.int .i64 x, .slice B m d] 27)).alloc (.cells #[.int .i64 0, .slice none 0 0] 27) = W at hb_W gc1_W gc2_W gf3_W gc4_W gc5_W gf6_W gf7_W hz_W ⊢
      go_wp2_with fail
      go_at_call 30
      refine (IsLiquor_any _ _ _ _ _ _ _ _ _ _ _ hn hm HS (Rd.below h hb_W) (Rd.below hL hb_W)).mono ?_
      rintro _ w1 ⟨rfl, hb1⟩
      rw [h1]
      have hz0 : w.heap.size < W.heap.size := by omega
      have c0 := (hb1.cell (p := ⟨w.heap.size, 0, none⟩) hz0).trans gc1_W
      have c1 := (hb1.cell (p := ⟨w.heap.size, 1, none⟩) hz0).trans gc2_W
      have f0 := (hb1.frozen (p := ⟨w.heap.size, 0, none⟩) hz0).trans gf3_W
      have r0 := (hb1.cell (p := ⟨w.heap.size + 1, 0, none⟩) hz_W).trans gc4_W
      have r1 := (hb1.cell (p := ⟨w.heap.size + 1, 1, none⟩) hz_W).trans gc5_W
      have r2 := (hb1.frozen (p := ⟨w.heap.size + 1, 0, none⟩) hz_W).trans gf6_W
      have r3 := (hb1.frozen (p := ⟨w.heap.size + 1, 1, none⟩) hz_W).trans gf7_W
      have hs1 : w.heap.size + 1 < w1.heap.size := Nat.lt_of_lt_of_le hz_W hb1.size
      have hbA := gr hb_W hb1
      clear gc1_W gc2_W gf3_W gc4_W gc5_W gf6_W gf7_W hz0 hz_W hb_W hb1 h1
      go_wp2_with fail
      go_at_call 63
      refine (within_any _ _ _ _).mono ?_
      rintro _ _ ⟨rfl, rfl⟩
      rw [h2]
      clear h2
      go_wp2_with fail
      have hbV := hbA.setCell (p := ⟨w.heap.size, 0, none⟩) (Nat.le_refl _) (.int .i64 (x - y))
      have q0 : (w1.setCell ⟨w.heap.size, 0, none⟩ (.int .i64 (x - y))).cell? ⟨w.heap.size + 1, 0, none⟩ = some (.int .i64 0) := by go_simp
      have q1 : (w1.setCell ⟨w.heap.size, 0, none⟩ (.int .i64 (x - y))).cell? ⟨w.heap.size + 1, 1, none⟩ = some (.slice none 0 0) := by go_simp
      have q2 : (w1.setCell ⟨w.heap.size, 0, none⟩ (.int .i64 (x - y))).frozen? ⟨w.heap.size + 1, 0, none⟩ = false := by go_simp
      have q3 : (w1.setCell ⟨w.heap.size, 0, none⟩ (.int .i64 (x - y))).frozen? ⟨w.heap.size + 1, 1, none⟩ = false := by go_simp
      have hsV : w.heap.size + 1 < (w1.setCell ⟨w.heap.size, 0, none⟩ (.int .i64 (x - y))).heap.size := by simpa using hs1
      clear c0 c1 f0 r0 r1 r2 r3 hs1 hbA
      generalize w1.setCell ⟨w.heap.size, 0, none⟩ (.int .i64 (x - y)) = V at hbV q0 q1 q2 q3 hsV ⊢
      go_wp2_with fail
      go_at_call 72
      refine (fallOut_any _ _ _ _ _ _ _ _ _ _ hn6 x1 x2 HF HL (Rd.below h hbV) (Rd.below hL hbV)).mono ?_
      rintro _ w4 ⟨A1, c1, A2, c2, mid, rfl, hm1, hm2, hO, hM, hb4⟩
      have s0 := (hb4.cell (p := ⟨w.heap.size + 1, 0, none⟩) hsV).trans q0
      have s1 := (hb4.cell (p := ⟨w.heap.size + 1, 1, none⟩) hsV).trans q1
      have s2 := (hb4.frozen (p := ⟨w.heap.size + 1, 0, none⟩) hsV).trans q2
      have s3 := (hb4.frozen (p := ⟨w.heap.size + 1, 1, none⟩) hsV).trans q3
      have hs4 : w.heap.size + 1 < w4.heap.size := Nat.lt_of_lt_of_le hsV hb4.size
      have hbF := gr hbV hb4
      clear q0 q1 q2 q3 hbV hb4
      replace hO := (((hO.cell_out (p := ⟨w.heap.size + 1, 0, none⟩) (.inl (by exact (by omega : w.heap.size + 1 < V.heap.size))) (.int .i64 (fallX F L (x - y) m))).cell_out (p := ⟨w.heap.size + 1, 1, none⟩) (.inl (by exact (by omega : w.heap.size + 1 < V.heap.size))) (.slice A1 m c1)).alloc (by first | (simp; done) | (simp; omega)) (.cells #[.int .i64 (fallX F L (x - y) m), .slice A1 m c1] 27))
      replace hM := (((hM.cell_out (p := ⟨w.heap.size + 1, 0, none⟩) (.inl (by exact (by omega : w.heap.size + 1 < mid))) (.int .i64 (fallX F L (x - y) m))).cell_out (p := ⟨w.heap.size + 1, 1, none⟩) (.inl (by exact (by omega : w.heap.size + 1 < mid))) (.slice A1 m c1)).alloc (by simp) (.cells #[.int .i64 (fallX F L (x - y) m), .slice A1 m c1] 27))
      replace hbF := ((hbF.setCell (p := ⟨w.heap.size + 1, 0, none⟩) (Nat.le_succ _) (.int .i64 (fallX F L (x - y) m))).setCell (p := ⟨w.heap.size + 1, 1, none⟩) (Nat.le_succ _) (.slice A1 m c1))
      replace hbF := hbF.alloc hbF.size (.cells #[.int .i64 (fallX F L (x - y) m), .slice A1 m c1] 27)
      go_wp2
      refine bodyPost_ret (v := .tuple #[.agg #[.int .i64 (fallX F L (x - y) m), .slice A1 m c1], .slice A2 m c2, .bool true]) (by simp only [results, Tryd.results36]; go_simp) rfl ⟨A1, c1, A2, c2, mid, rfl, by omega, by simp; omega, hO.mono (by omega) (Nat.le_refl _), hM.mono (Nat.le_refl _) (by simp), hbF⟩
set_option maxRecDepth 20000 in
set_option maxHeartbeats 1000000 in
theorem spec_AfterDrying_any (A : Option Addr) (n c : Nat) (S : Nat → ByteArray) (F : Nat → Nat → Int) (x : Int) (B : Option Addr) (m d : Nat) (L : Nat → Nat → Int) (y : Int) (w : World) (hn : n ≤ 1048576) (hm : m ≤ 1048576) (HS : Hid (∀ i, i < n → (S i).size ≤ 9223372036854775807)) (h : Rd w A n 3 (kdC S F)) (hL : Rd w B m 1 (ints L)) :
    Calls Tryd.prog 37 #[.slice A n c, .agg #[.int .i64 x, .slice B m d], .int .i64 y] w (FallR w (fun A1 c1 A2 c2 => .tuple #[.agg #[.int .i64 (dryX S F n x m L y), .slice A1 (dryN S F n x m L y) c1], .slice A2 (dryN S F n x m L y) c2, .bool (dryB S F n x m L y)]) (dryN S F n x m L y) (ints (fallS F L (x - y))) (ints (fallG F L (x - y)))) := by
  cases h1 : liqB S F n x m L
  · have hB : dryB S F n x m L y = false := by simp [dryB, h1]
    obtain ⟨hN, hX⟩ := dry_no hB
    rw [hB, hN, hX]
    clear hB hN hX
    go_enter Tryd.func37, Tryd.ntmps37
    go_upto_region 1 with fail
    have hb_W : Below w.heap.size w ((w.alloc (.cells #[.int .i64 x, .slice B m d] 27)).alloc (.cells #[.int .i64 0, .slice none 0 0] 27)) := ((Below.refl _ _).alloc (Nat.le_refl _) _).alloc (by simp) _
    have gc1_W : World.cell? ((w.alloc (.cells #[.int .i64 x, .slice B m d] 27)).alloc (.cells #[.int .i64 0, .slice none 0 0] 27)) ⟨w.heap.size, 0, none⟩ = some (.int .i64 x) := by go_simp
    have gc2_W : World.cell? ((w.alloc (.cells #[.int .i64 x, .slice B m d] 27)).alloc (.cells #[.int .i64 0, .slice none 0 0] 27)) ⟨w.heap.size, 1, none⟩ = some (.slice B m d) := by go_simp
    have gf3_W : World.frozen? ((w.alloc (.cells #[.int .i64 x, .slice B m d] 27)).alloc (.cells #[.int .i64 0, .slice none 0 0] 27)) ⟨w.heap.size, 0, none⟩ = false := by go_simp
    have gc4_W : World.cell? ((w.alloc (.cells #[.int .i64 x, .slice B m d] 27)).alloc (.cells #[.int .i64 0, .slice none 0 0] 27)) ⟨w.heap.size + 1, 0, none⟩ = some (.int .i64 0) := by go_simp
    have gc5_W : World.cell? ((w.alloc (.cells #[.int .i64 x, .slice B m d] 27)).alloc (.cells #[.int .i64 0, .slice none 0 0] 27)) ⟨w.heap.size + 1, 1, none⟩ = some (.slice none 0 0) := by go_simp
    have gf6_W : World.frozen? ((w.alloc (.cells #[.int .i64 x, .slice B m d] 27)).alloc (.cells #[.int .i64 0, .slice none 0 0] 27)) ⟨w.heap.size + 1, 0, none⟩ = false := by go_simp
    have gf7_W : World.frozen? ((w.alloc (.cells #[.int .i64 x, .slice B m d] 27)).alloc (.cells #[.int .i64 0, .slice none 0 0] 27)) ⟨w.heap.size + 1, 1, none⟩ = false := by go_simp
    have hz_W : (w.heap.size + 1) < (World.heap ((w.alloc (.cells #[.int .i64 x, .slice B m d] 27)).alloc (.cells #[.int .i64 0, .slice none 0 0] 27))).size := by simp
    generalize (w.alloc (.cells #[.int .i64 x, .slice B m d] 27)).alloc (.cells #[.int .i64 0, .slice none 0 0] 27) = W at hb_W gc1_W gc2_W gf3_W gc4_W gc5_W gf6_W gf7_W hz_W ⊢
    go_wp2_with fail
    go_at_call 56
    refine (l10Liquor_any _ _ _ _ _ _ _ _ _ _ _ hn hm HS (Rd.below h hb_W) (Rd.below hL hb_W)).mono ?_
    rintro _ w1 ⟨rfl, hb1⟩
    rw [h1]
    have hz0 : w.heap.size < W.heap.size := by omega
    have c0 := (hb1.cell (p := ⟨w.heap.size, 0, none⟩) hz0).trans gc1_W
    have c1 := (hb1.cell (p := ⟨w.heap.size, 1, none⟩) hz0).trans gc2_W
    have f0 := (hb1.frozen (p := ⟨w.heap.size, 0, none⟩) hz0).trans gf3_W
    have r0 := (hb1.cell (p := ⟨w.heap.size + 1, 0, none⟩) hz_W).trans gc4_W
    have r1 := (hb1.cell (p := ⟨w.heap.size + 1, 1, none⟩) hz_W).trans gc5_W
    have r2 := (hb1.frozen (p := ⟨w.heap.size + 1, 0, none⟩) hz_W).trans gf6_W
    have r3 := (hb1.frozen (p := ⟨w.heap.size + 1, 1, none⟩) hz_W).trans gf7_W
    have hs1 : w.heap.size + 1 < w1.heap.size := Nat.lt_of_lt_of_le hz_W hb1.size
    have hbA := gr hb_W hb1
    clear gc1_W gc2_W gf3_W gc4_W gc5_W gf6_W gf7_W hz0 hz_W hb_W hb1 h1
    go_wp2
    have hsA := hbA.size
    have hbG := hbA.alloc hbA.size (.cells #[] 3)
    replace hbA := ((hbA.setCell (p := ⟨w.heap.size + 1, 0, none⟩) (Nat.le_succ _) (.int .i64 0)).setCell (p := ⟨w.heap.size + 1, 1, none⟩) (Nat.le_succ _) (.slice none 0 0))
    replace hbA := hbA.alloc hbA.size (.cells #[] 3)
    refine bodyPost_ret (v := .tuple #[.agg #[.int .i64 0, .slice none 0 0], .slice (some ⟨w1.heap.size, 0, none⟩) 0 0, .bool false]) (by simp only [results, Tryd.results37]; go_simp) rfl ⟨none, 0, some ⟨w1.heap.size, 0, none⟩, 0, rfl, Ow.nil _ _ _ _ _ _, Ow.nil _ _ _ _ _ _, hbA⟩
  · cases h2 : inB y 0 x
    · have hB : dryB S F n x m L y = false := by simp [dryB, h2]
      obtain ⟨hN, hX⟩ := dry_no hB
      rw [hB, hN, hX]
      clear hB hN hX
      go_enter Tryd.func37, Tryd.ntmps37
      go_upto_region 1 with fail
      have hb_W : Below w.heap.size w ((w.alloc (.cells #[.int .i64 x, .slice B m d] 27)).alloc (.cells #[.int .i64 0, .slice none 0 0] 27)) := ((Below.refl _ _).alloc (Nat.le_refl _) _).alloc (by simp) _
      have gc1_W : World.cell? ((w.alloc (.cells #[.int .i64 x, .slice B m d] 27)).alloc (.cells #[.int .i64 0, .slice none 0 0] 27)) ⟨w.heap.size, 0, none⟩ = some (.int .i64 x) := by go_simp
      have gc2_W : World.cell? ((w.alloc (.cells #[.int .i64 x, .slice B m d] 27)).alloc (.cells #[.int .i64 0, .slice none 0 0] 27)) ⟨w.heap.size, 1, none⟩ = some (.slice B m d) := by go_simp
      have gf3_W : World.frozen? ((w.alloc (.cells #[.int .i64 x, .slice B m d] 27)).alloc (.cells #[.int .i64 0, .slice none 0 0] 27)) ⟨w.heap.size, 0, none⟩ = false := by go_simp
      have gc4_W : World.cell? ((w.alloc (.cells #[.int .i64 x, .slice B m d] 27)).alloc (.cells #[.int .i64 0, .slice none 0 0] 27)) ⟨w.heap.size + 1, 0, none⟩ = some (.int .i64 0) := by go_simp
      have gc5_W : World.cell? ((w.alloc (.cells #[.int .i64 x, .slice B m d] 27)).alloc (.cells #[.int .i64 0, .slice none 0 0] 27)) ⟨w.heap.size + 1, 1, none⟩ = some (.slice none 0 0) := by go_simp
      have gf6_W : World.frozen? ((w.alloc (.cells #[.int .i64 x, .slice B m d] 27)).alloc (.cells #[.int .i64 0, .slice none 0 0] 27)) ⟨w.heap.size + 1, 0, none⟩ = false := by go_simp
      have gf7_W : World.frozen? ((w.alloc (.cells #[.int .i64 x, .slice B m d] 27)).alloc (.cells #[.int .i64 0, .slice none 0 0] 27)) ⟨w.heap.size + 1, 1, none⟩ = false := by go_simp
      have hz_W : (w.heap.size + 1) < (World.heap ((w.alloc (.cells #[.int .i64 x, .slice B m d] 27)).alloc (.cells #[.int .i64 0, .slice none 0 0] 27))).size := by simp
      generalize (w.alloc (.cells #[.int .i64 x, .slice B m d] 27)).alloc (.cells #[.int .i64 0, .slice none 0 0] 27) = W at hb_W gc1_W gc2_W gf3_W gc4_W gc5_W gf6_W gf7_W hz_W ⊢
      go_wp2_with fail
      go_at_call 56
      refine (l10Liquor_any _ _ _ _ _ _ _ _ _ _ _ hn hm HS (Rd.below h hb_W) (Rd.below hL hb_W)).mono ?_
      rintro _ w1 ⟨rfl, hb1⟩
      rw [h1]
      have hz0 : w.heap.size < W.heap.size := by omega
      have c0 := (hb1.cell (p := ⟨w.heap.size, 0, none⟩) hz0).trans gc1_W
      have c1 := (hb1.cell (p := ⟨w.heap.size, 1, none⟩) hz0).trans gc2_W
      have f0 := (hb1.frozen (p := ⟨w.heap.size, 0, none⟩) hz0).trans gf3_W
      have r0 := (hb1.cell (p := ⟨w.heap.size + 1, 0, none⟩) hz_W).trans gc4_W
      have r1 := (hb1.cell (p := ⟨w.heap.size + 1, 1, none⟩) hz_W).trans gc5_W
      have r2 := (hb1.frozen (p := ⟨w.heap.size + 1, 0, none⟩) hz_W).trans gf6_W
      have r3 := (hb1.frozen (p := ⟨w.heap.size + 1, 1, none⟩) hz_W).trans gf7_W
      have hs1 : w.heap.size + 1 < w1.heap.size := Nat.lt_of_lt_of_le hz_W hb1.size
      have hbA := gr hb_W hb1
      clear gc1_W gc2_W gf3_W gc4_W gc5_W gf6_W gf7_W hz0 hz_W hb_W hb1 h1
      go_wp2_with (first | (go_at_call 73; refine (l1In_any _ _ _ _).mono ?_; rintro _ _ ⟨rfl, rfl⟩))
      have hsA := hbA.size
      have hbG := hbA.alloc hbA.size (.cells #[] 3)
      replace hbA := ((hbA.setCell (p := ⟨w.heap.size + 1, 0, none⟩) (Nat.le_succ _) (.int .i64 0)).setCell (p := ⟨w.heap.size + 1, 1, none⟩) (Nat.le_succ _) (.slice none 0 0))
      replace hbA := hbA.alloc hbA.size (.cells #[] 3)
      refine bodyPost_ret (v := .tuple #[.agg #[.int .i64 0, .slice none 0 0], .slice (some ⟨w1.heap.size, 0, none⟩) 0 0, .bool false]) (by simp only [results, Tryd.results37]; go_simp) rfl ⟨none, 0, some ⟨w1.heap.size, 0, none⟩, 0, rfl, Ow.nil _ _ _ _ _ _, Ow.nil _ _ _ _ _ _, hbA⟩
    · have hB : dryB S F n x m L y = true := by simp [dryB, h1, h2]
      obtain ⟨hN, hX, hn6, hmn, x1, x2, y1, y2, y3, HF, HL⟩ := dry_yes hB
      rw [hB, hN, hX]
      clear hB hN hX
      subst hmn
      go_enter Tryd.func37, Tryd.ntmps37
      go_upto_region 1 with fail
      have hb_W : Below w.heap.size w ((w.alloc (.cells #[.int .i64 x, .slice B m d] 27)).alloc (.cells #[.int .i64 0, .slice none 0 0] 27)) := ((Below.refl _ _).alloc (Nat.le_refl _) _).alloc (by simp) _
      have gc1_W : World.cell? ((w.alloc (.cells #[.int .i64 x, .slice B m d] 27)).alloc (.cells #[.int .i64 0, .slice none 0 0] 27)) ⟨w.heap.size, 0, none⟩ = some (.int .i64 x) := by go_simp
      have gc2_W : World.cell? ((w.alloc (.cells #[.int .i64 x, .slice B m d] 27)).alloc (.cells #[.int .i64 0, .slice none 0 0] 27)) ⟨w.heap.size, 1, none⟩ = some (.slice B m d) := by go_simp
      have gf3_W : World.frozen? ((w.alloc (.cells #[.int .i64 x, .slice B m d] 27)).alloc (.cells #[.int .i64 0, .slice none 0 0] 27)) ⟨w.heap.size, 0, none⟩ = false := by go_simp
      have gc4_W : World.cell? ((w.alloc (.cells #[.int .i64 x, .slice B m d] 27)).alloc (.cells #[.int .i64 0, .slice none 0 0] 27)) ⟨w.heap.size + 1, 0, none⟩ = some (.int .i64 0) := by go_simp
      have gc5_W : World.cell? ((w.alloc (.cells #[.int .i64 x, .slice B m d] 27)).alloc (.cells #[.int .i64 0, .slice none 0 0] 27)) ⟨w.heap.size + 1, 1, none⟩ = some (.slice none 0 0) := by go_simp
      have gf6_W : World.frozen? ((w.alloc (.cells #[.int .i64 x, .slice B m d] 27)).alloc (.cells #[.int .i64 0, .slice none 0 0] 27)) ⟨w.heap.size + 1, 0, none⟩ = false := by go_simp
      have gf7_W : World.frozen? ((w.alloc (.cells #[.int .i64 x, .slice B m d] 27)).alloc (.cells #[.int .i64 0, .slice none 0 0] 27)) ⟨w.heap.size + 1, 1, none⟩ = false := by go_simp
      have hz_W : (w.heap.size + 1) < (World.heap ((w.alloc (.cells #[.int .i64 x, .slice B m d] 27)).alloc (.cells #[.int .i64 0, .slice none 0 0] 27))).size := by simp
      generalize (w.alloc (.cells #[.int .i64 x, .slice B m d] 27)).alloc (.cells #[.int .i64 0, .slice none 0 0] 27) = W at hb_W gc1_W gc2_W gf3_W gc4_W gc5_W gf6_W gf7_W hz_W ⊢
      go_wp2_with fail
      go_at_call 56
      refine (l10Liquor_any _ _ _ _ _ _ _ _ _ _ _ hn hm HS (Rd.below h hb_W) (Rd.below hL hb_W)).mono ?_
      rintro _ w1 ⟨rfl, hb1⟩
      rw [h1]
      have hz0 : w.heap.size < W.heap.size := by omega
      have c0 := (hb1.cell (p := ⟨w.heap.size, 0, none⟩) hz0).trans gc1_W
      have c1 := (hb1.cell (p := ⟨w.heap.size, 1, none⟩) hz0).trans gc2_W
      have f0 := (hb1.frozen (p := ⟨w.heap.size, 0, none⟩) hz0).trans gf3_W
      have r0 := (hb1.cell (p := ⟨w.heap.size + 1, 0, none⟩) hz_W).trans gc4_W
      have r1 := (hb1.cell (p := ⟨w.heap.size + 1, 1, none⟩) hz_W).trans gc5_W
      have r2 := (hb1.frozen (p := ⟨w.heap.size + 1, 0, none⟩) hz_W).trans gf6_W
      have r3 := (hb1.frozen (p := ⟨w.heap.size + 1, 1, none⟩) hz_W).trans gf7_W
      have hs1 : w.heap.size + 1 < w1.heap.size := Nat.lt_of_lt_of_le hz_W hb1.size
      have hbA := gr hb_W hb1
      clear gc1_W gc2_W gf3_W gc4_W gc5_W gf6_W gf7_W hz0 hz_W hb_W hb1 h1
      go_wp2_with fail
      go_at_call 73
      refine (l1In_any _ _ _ _).mono ?_
      rintro _ _ ⟨rfl, rfl⟩
      rw [h2]
      clear h2
      go_wp2_with fail
      have q0 := r0
      have q1 := r1
      have q2 := r2
      have q3 := r3
      clear r0 r1 r2 r3 c0 c1 f0
      generalize w1 = V at hbA q0 q1 q2 q3 hs1 ⊢
      have hsV := hs1
      have hbV := hbA
      clear hs1 hbA
      go_wp2_with fail
      go_at_call 62
      refine (l10Fall_any _ _ _ _ _ _ _ _ _ _ hn6 x1 x2 HF HL (Rd.below h hbV) (Rd.below hL hbV)).mono ?_
      rintro _ w4 ⟨A1, c1, A2, c2, rfl, hO, hM, hb4⟩
      have hVs := hb4.size
      have s0 := (hb4.cell (p := ⟨w.heap.size + 1, 0, none⟩) hsV).trans q0
      have s1 := (hb4.cell (p := ⟨w.heap.size + 1, 1, none⟩) hsV).trans q1
      have s2 := (hb4.frozen (p := ⟨w.heap.size + 1, 0, none⟩) hsV).trans q2
      have s3 := (hb4.frozen (p := ⟨w.heap.size + 1, 1, none⟩) hsV).trans q3
      have hs4 : w.heap.size + 1 < w4.heap.size := Nat.lt_of_lt_of_le hsV hb4.size
      have hbF := gr hbV hb4
      clear q0 q1 q2 q3 hbV hb4
      replace hO := (((hO.cell_out (p := ⟨w.heap.size + 1, 0, none⟩) (.inl (by exact (by omega : w.heap.size + 1 < V.heap.size))) (.int .i64 (fallX F L (x - y) m))).cell_out (p := ⟨w.heap.size + 1, 1, none⟩) (.inl (by exact (by omega : w.heap.size + 1 < V.heap.size))) (.slice A1 m c1)).alloc (by first | (simp; done) | (simp; omega)) (.cells #[.int .i64 (fallX F L (x - y) m), .slice A1 m c1] 27))
      replace hM := (((hM.cell_out (p := ⟨w.heap.size + 1, 0, none⟩) (.inl (by exact (by omega : w.heap.size + 1 < V.heap.size))) (.int .i64 (fallX F L (x - y) m))).cell_out (p := ⟨w.heap.size + 1, 1, none⟩) (.inl (by exact (by omega : w.heap.size + 1 < V.heap.size))) (.slice A1 m c1)).alloc (by simp) (.cells #[.int .i64 (fallX F L (x - y) m), .slice A1 m c1] 27))
      replace hbF := ((hbF.setCell (p := ⟨w.heap.size + 1, 0, none⟩) (Nat.le_succ _) (.int .i64 (fallX F L (x - y) m))).setCell (p := ⟨w.heap.size + 1, 1, none⟩) (Nat.le_succ _) (.slice A1 m c1))
      replace hbF := hbF.alloc hbF.size (.cells #[.int .i64 (fallX F L (x - y) m), .slice A1 m c1] 27)
      go_wp2
      refine bodyPost_ret (v := .tuple #[.agg #[.int .i64 (fallX F L (x - y) m), .slice A1 m c1], .slice A2 m c2, .bool true]) (by simp only [results, Tryd.results37]; go_simp) rfl ⟨A1, c1, A2, c2, rfl, hO.mono (by omega) (by simp), hM.mono (by omega) (by simp), hbF⟩
set_option maxRecDepth 20000 in
set_option maxHeartbeats 1000000 in
theorem spec_FallOut_any (A : Option Addr) (n c : Nat) (S : Nat → ByteArray) (F : Nat → Nat → Int) (x : Int) (B : Option Addr) (m d : Nat) (L : Nat → Nat → Int) (w : World) (hn : n ≤ 1048576) (hm : m ≤ 1048576) (HS : Hid (∀ i, i < n → (S i).size ≤ 9223372036854775807)) (h : Rd w A n 3 (kdC S F)) (hL : Rd w B m 1 (ints L)) :
    Calls Tryd.prog 27 #[.slice A n c, .agg #[.int .i64 x, .slice B m d]] w (FallR w (fun A1 c1 A2 c2 => .tuple #[.agg #[.int .i64 (dryX S F n x m L 0), .slice A1 (dryN S F n x m L 0) c1], .slice A2 (dryN S F n x m L 0) c2, .bool (dryB S F n x m L 0)]) (dryN S F n x m L 0) (ints (fallS F L (x - 0))) (ints (fallG F L (x - 0)))) := by
  cases h1 : liqB S F n x m L
  · have hB : dryB S F n x m L 0 = false := by simp [dryB, h1]
    obtain ⟨hN, hX⟩ := dry_no hB
    rw [hB, hN, hX]
    clear hB hN hX
    go_enter Tryd.func27, Tryd.ntmps27
    go_upto_region 1 with fail
    have hb_W : Below w.heap.size w ((w.alloc (.cells #[.int .i64 x, .slice B m d] 27)).alloc (.cells #[.int .i64 0, .slice none 0 0] 27)) := ((Below.refl _ _).alloc (Nat.le_refl _) _).alloc (by simp) _
    have gc1_W : World.cell? ((w.alloc (.cells #[.int .i64 x, .slice B m d] 27)).alloc (.cells #[.int .i64 0, .slice none 0 0] 27)) ⟨w.heap.size, 0, none⟩ = some (.int .i64 x) := by go_simp
    have gc2_W : World.cell? ((w.alloc (.cells #[.int .i64 x, .slice B m d] 27)).alloc (.cells #[.int .i64 0, .slice none 0 0] 27)) ⟨w.heap.size, 1, none⟩ = some (.slice B m d) := by go_simp
    have gf3_W : World.frozen? ((w.alloc (.cells #[.int .i64 x, .slice B m d] 27)).alloc (.cells #[.int .i64 0, .slice none 0 0] 27)) ⟨w.heap.size, 0, none⟩ = false := by go_simp
    have gc4_W : World.cell? ((w.alloc (.cells #[.int .i64 x, .slice B m d] 27)).alloc (.cells #[.int .i64 0, .slice none 0 0] 27)) ⟨w.heap.size + 1, 0, none⟩ = some (.int .i64 0) := by go_simp
    have gc5_W : World.cell? ((w.alloc (.cells #[.int .i64 x, .slice B m d] 27)).alloc (.cells #[.int .i64 0, .slice none 0 0] 27)) ⟨w.heap.size + 1, 1, none⟩ = some (.slice none 0 0) := by go_simp
    have gf6_W : World.frozen? ((w.alloc (.cells #[.int .i64 x, .slice B m d] 27)).alloc (.cells #[.int .i64 0, .slice none 0 0] 27)) ⟨w.heap.size + 1, 0, none⟩ = false := by go_simp
    have gf7_W : World.frozen? ((w.alloc (.cells #[.int .i64 x, .slice B m d] 27)).alloc (.cells #[.int .i64 0, .slice none 0 0] 27)) ⟨w.heap.size + 1, 1, none⟩ = false := by go_simp
    have hz_W : (w.heap.size + 1) < (World.heap ((w.alloc (.cells #[.int .i64 x, .slice B m d] 27)).alloc (.cells #[.int .i64 0, .slice none 0 0] 27))).size := by simp
    generalize (w.alloc (.cells #[.int .i64 x, .slice B m d] 27)).alloc (.cells #[.int .i64 0, .slice none 0 0] 27) = W at hb_W gc1_W gc2_W gf3_W gc4_W gc5_W gf6_W gf7_W hz_W ⊢
    go_wp2_with fail
    go_at_call 56
    refine (l10Liquor_any _ _ _ _ _ _ _ _ _ _ _ hn hm HS (Rd.below h hb_W) (Rd.below hL hb_W)).mono ?_
    rintro _ w1 ⟨rfl, hb1⟩
    rw [h1]
    have hz0 : w.heap.size < W.heap.size := by omega
    have c0 := (hb1.cell (p := ⟨w.heap.size, 0, none⟩) hz0).trans gc1_W
    have c1 := (hb1.cell (p := ⟨w.heap.size, 1, none⟩) hz0).trans gc2_W
    have f0 := (hb1.frozen (p := ⟨w.heap.size, 0, none⟩) hz0).trans gf3_W
    have r0 := (hb1.cell (p := ⟨w.heap.size + 1, 0, none⟩) hz_W).trans gc4_W
    have r1 := (hb1.cell (p := ⟨w.heap.size + 1, 1, none⟩) hz_W).trans gc5_W
    have r2 := (hb1.frozen (p := ⟨w.heap.size + 1, 0, none⟩) hz_W).trans gf6_W
    have r3 := (hb1.frozen (p := ⟨w.heap.size + 1, 1, none⟩) hz_W).trans gf7_W
    have hs1 : w.heap.size + 1 < w1.heap.size := Nat.lt_of_lt_of_le hz_W hb1.size
    have hbA := gr hb_W hb1
    clear gc1_W gc2_W gf3_W gc4_W gc5_W gf6_W gf7_W hz0 hz_W hb_W hb1 h1
    go_wp2
    have hsA := hbA.size
    have hbG := hbA.alloc hbA.size (.cells #[] 3)
    replace hbA := ((hbA.setCell (p := ⟨w.heap.size + 1, 0, none⟩) (Nat.le_succ _) (.int .i64 0)).setCell (p := ⟨w.heap.size + 1, 1, none⟩) (Nat.le_succ _) (.slice none 0 0))
    replace hbA := hbA.alloc hbA.size (.cells #[] 3)
    refine bodyPost_ret (v := .tuple #[.agg #[.int .i64 0, .slice none 0 0], .slice (some ⟨w1.heap.size, 0, none⟩) 0 0, .bool false]) (by simp only [results, Tryd.results27]; go_simp) rfl ⟨none, 0, some ⟨w1.heap.size, 0, none⟩, 0, rfl, Ow.nil _ _ _ _ _ _, Ow.nil _ _ _ _ _ _, hbA⟩
  · have hB : dryB S F n x m L 0 = true := by
      have := (liqB_at h1).2.1
      have h2 : inB 0 0 x = true := by simp [inB]; omega
      simp [dryB, h1, h2]
    obtain ⟨hN, hX, hn6, hmn, x1, x2, y1, y2, y3, HF, HL⟩ := dry_yes hB
    rw [hB, hN, hX]
    clear hB hN hX
    subst hmn
    have HZ : Hid (x - 0 = x) := hide (Int.sub_zero x)
    rw [HZ.out] at x1 x2 ⊢
    go_enter Tryd.func27, Tryd.ntmps27
    go_upto_region 1 with fail
    have hb_W : Below w.heap.size w ((w.alloc (.cells #[.int .i64 x, .slice B m d] 27)).alloc (.cells #[.int .i64 0, .slice none 0 0] 27)) := ((Below.refl _ _).alloc (Nat.le_refl _) _).alloc (by simp) _
    have gc1_W : World.cell? ((w.alloc (.cells #[.int .i64 x, .slice B m d] 27)).alloc (.cells #[.int .i64 0, .slice none 0 0] 27)) ⟨w.heap.size, 0, none⟩ = some (.int .i64 x) := by go_simp
    have gc2_W : World.cell? ((w.alloc (.cells #[.int .i64 x, .slice B m d] 27)).alloc (.cells #[.int .i64 0, .slice none 0 0] 27)) ⟨w.heap.size, 1, none⟩ = some (.slice B m d) := by go_simp
    have gf3_W : World.frozen? ((w.alloc (.cells #[.int .i64 x, .slice B m d] 27)).alloc (.cells #[.int .i64 0, .slice none 0 0] 27)) ⟨w.heap.size, 0, none⟩ = false := by go_simp
    have gc4_W : World.cell? ((w.alloc (.cells #[.int .i64 x, .slice B m d] 27)).alloc (.cells #[.int .i64 0, .slice none 0 0] 27)) ⟨w.heap.size + 1, 0, none⟩ = some (.int .i64 0) := by go_simp
    have gc5_W : World.cell? ((w.alloc (.cells #[.int .i64 x, .slice B m d] 27)).alloc (.cells #[.int .i64 0, .slice none 0 0] 27)) ⟨w.heap.size + 1, 1, none⟩ = some (.slice none 0 0) := by go_simp
    have gf6_W : World.frozen? ((w.alloc (.cells #[.int .i64 x, .slice B m d] 27)).alloc (.cells #[.int .i64 0, .slice none 0 0] 27)) ⟨w.heap.size + 1, 0, none⟩ = false := by go_simp
    have gf7_W : World.frozen? ((w.alloc (.cells #[.int .i64 x, .slice B m d] 27)).alloc (.cells #[.int .i64 0, .slice none 0 0] 27)) ⟨w.heap.size + 1, 1, none⟩ = false := by go_simp
    have hz_W : (w.heap.size + 1) < (World.heap ((w.alloc (.cells #[.int .i64 x, .slice B m d] 27)).alloc (.cells #[.int .i64 0, .slice none 0 0] 27))).size := by simp
    generalize (w.alloc (.cells #[.int .i64 x, .slice B m d] 27)).alloc (.cells #[.int .i64 0, .slice none 0 0] 27) = W at hb_W gc1_W gc2_W gf3_W gc4_W gc5_W gf6_W gf7_W hz_W ⊢
    go_wp2_with fail
    go_at_call 56
    refine (l10Liquor_any _ _ _ _ _ _ _ _ _ _ _ hn hm HS (Rd.below h hb_W) (Rd.below hL hb_W)).mono ?_
    rintro _ w1 ⟨rfl, hb1⟩
    rw [h1]
    have hz0 : w.heap.size < W.heap.size := by omega
    have c0 := (hb1.cell (p := ⟨w.heap.size, 0, none⟩) hz0).trans gc1_W
    have c1 := (hb1.cell (p := ⟨w.heap.size, 1, none⟩) hz0).trans gc2_W
    have f0 := (hb1.frozen (p := ⟨w.heap.size, 0, none⟩) hz0).trans gf3_W
    have r0 := (hb1.cell (p := ⟨w.heap.size + 1, 0, none⟩) hz_W).trans gc4_W
    have r1 := (hb1.cell (p := ⟨w.heap.size + 1, 1, none⟩) hz_W).trans gc5_W
    have r2 := (hb1.frozen (p := ⟨w.heap.size + 1, 0, none⟩) hz_W).trans gf6_W
    have r3 := (hb1.frozen (p := ⟨w.heap.size + 1, 1, none⟩) hz_W).trans gf7_W
    have hs1 : w.heap.size + 1 < w1.heap.size := Nat.lt_of_lt_of_le hz_W hb1.size
    have hbA := gr hb_W hb1
    clear gc1_W gc2_W gf3_W gc4_W gc5_W gf6_W gf7_W hz0 hz_W hb_W hb1 h1
    go_wp2_with fail
    have q0 := r0
    have q1 := r1
    have q2 := r2
    have q3 := r3
    clear r0 r1 r2 r3 c0 c1 f0
    generalize w1 = V at hbA q0 q1 q2 q3 hs1 ⊢
    have hsV := hs1
    have hbV := hbA
    clear hs1 hbA
    go_wp2_with fail
    go_at_call 62
    refine (l10Fall_any _ _ _ _ _ _ _ _ _ _ hn6 x1 x2 HF HL (Rd.below h hbV) (Rd.below hL hbV)).mono ?_
    rintro _ w4 ⟨A1, c1, A2, c2, rfl, hO, hM, hb4⟩
    have hVs := hb4.size
    have s0 := (hb4.cell (p := ⟨w.heap.size + 1, 0, none⟩) hsV).trans q0
    have s1 := (hb4.cell (p := ⟨w.heap.size + 1, 1, none⟩) hsV).trans q1
    have s2 := (hb4.frozen (p := ⟨w.heap.size + 1, 0, none⟩) hsV).trans q2
    have s3 := (hb4.frozen (p := ⟨w.heap.size + 1, 1, none⟩) hsV).trans q3
    have hs4 : w.heap.size + 1 < w4.heap.size := Nat.lt_of_lt_of_le hsV hb4.size
    have hbF := gr hbV hb4
    clear q0 q1 q2 q3 hbV hb4
    replace hO := (((hO.cell_out (p := ⟨w.heap.size + 1, 0, none⟩) (.inl (by exact (by omega : w.heap.size + 1 < V.heap.size))) (.int .i64 (fallX F L (x) m))).cell_out (p := ⟨w.heap.size + 1, 1, none⟩) (.inl (by exact (by omega : w.heap.size + 1 < V.heap.size))) (.slice A1 m c1)).alloc (by first | (simp; done) | (simp; omega)) (.cells #[.int .i64 (fallX F L (x) m), .slice A1 m c1] 27))
    replace hM := (((hM.cell_out (p := ⟨w.heap.size + 1, 0, none⟩) (.inl (by exact (by omega : w.heap.size + 1 < V.heap.size))) (.int .i64 (fallX F L (x) m))).cell_out (p := ⟨w.heap.size + 1, 1, none⟩) (.inl (by exact (by omega : w.heap.size + 1 < V.heap.size))) (.slice A1 m c1)).alloc (by simp) (.cells #[.int .i64 (fallX F L (x) m), .slice A1 m c1] 27))
    replace hbF := ((hbF.setCell (p := ⟨w.heap.size + 1, 0, none⟩) (Nat.le_succ _) (.int .i64 (fallX F L (x) m))).setCell (p := ⟨w.heap.size + 1, 1, none⟩) (Nat.le_succ _) (.slice A1 m c1))
    replace hbF := hbF.alloc hbF.size (.cells #[.int .i64 (fallX F L (x) m), .slice A1 m c1] 27)
    go_wp2
    refine bodyPost_ret (v := .tuple #[.agg #[.int .i64 (fallX F L (x) m), .slice A1 m c1], .slice A2 m c2, .bool true]) (by simp only [results, Tryd.results27]; go_simp) rfl ⟨A1, c1, A2, c2, rfl, hO.mono (by omega) (by simp), hM.mono (by omega) (by simp), hbF⟩
set_option maxRecDepth 20000 in
set_option maxHeartbeats 1000000 in
theorem FallOut_any (A : Option Addr) (n c : Nat) (S : Nat → ByteArray) (F : Nat → Nat → Int) (x : Int) (B : Option Addr) (m d : Nat) (L : Nat → Nat → Int) (w : World) (hn : n ≤ 1048576) (hm : m ≤ 1048576) (HS : Hid (∀ i, i < n → (S i).size ≤ 9223372036854775807)) (h : Rd w A n 3 (kdC S F)) (hL : Rd w B m 1 (ints L)) :
    Calls Tryd.prog 26 #[.slice A n c, .agg #[.int .i64 x, .slice B m d]] w (FallI w (fun A1 c1 A2 c2 => .tuple #[.agg #[.int .i64 (dryX S F n x m L 0), .slice A1 (dryN S F n x m L 0) c1], .slice A2 (dryN S F n x m L 0) c2, .bool (dryB S F n x m L 0)]) (dryN S F n x m L 0) (ints (fallS F L (x - 0))) (ints (fallG F L (x - 0)))) := by
  have HC := fun (W : World) (h : Rd W A n 3 (kdC S F)) (hL : Rd W B m 1 (ints L)) => AfterDrying_any A n c S F x B m d L 0 W hn hm HS h hL
  generalize dryX S F n x m L 0 = X at HC ⊢
  generalize dryN S F n x m L 0 = N at HC ⊢
  generalize dryB S F n x m L 0 = D at HC ⊢
  go_enter Tryd.func26, Tryd.ntmps26
  go_upto_region 1 with fail
  have hb_W : Below w.heap.size w ((w.alloc (.cells #[.int .i64 x, .slice B m d] 27)).alloc (.cells #[.int .i64 0, .slice none 0 0] 27)) := ((Below.refl _ _).alloc (Nat.le_refl _) _).alloc (by simp) _
  have gc1_W : World.cell? ((w.alloc (.cells #[.int .i64 x, .slice B m d] 27)).alloc (.cells #[.int .i64 0, .slice none 0 0] 27)) ⟨w.heap.size, 0, none⟩ = some (.int .i64 x) := by go_simp
  have gc2_W : World.cell? ((w.alloc (.cells #[.int .i64 x, .slice B m d] 27)).alloc (.cells #[.int .i64 0, .slice none 0 0] 27)) ⟨w.heap.size, 1, none⟩ = some (.slice B m d) := by go_simp
  have gf3_W : World.frozen? ((w.alloc (.cells #[.int .i64 x, .slice B m d] 27)).alloc (.cells #[.int .i64 0, .slice none 0 0] 27)) ⟨w.heap.size, 0, none⟩ = false := by go_simp
  have gc4_W : World.cell? ((w.alloc (.cells #[.int .i64 x, .slice B m d] 27)).alloc (.cells #[.int .i64 0, .slice none 0 0] 27)) ⟨w.heap.size + 1, 0, none⟩ = some (.int .i64 0) := by go_simp
  have gc5_W : World.cell? ((w.alloc (.cells #[.int .i64 x, .slice B m d] 27)).alloc (.cells #[.int .i64 0, .slice none 0 0] 27)) ⟨w.heap.size + 1, 1, none⟩ = some (.slice none 0 0) := by go_simp
  have gf6_W : World.frozen? ((w.alloc (.cells #[.int .i64 x, .slice B m d] 27)).alloc (.cells #[.int .i64 0, .slice none 0 0] 27)) ⟨w.heap.size + 1, 0, none⟩ = false := by go_simp
  have gf7_W : World.frozen? ((w.alloc (.cells #[.int .i64 x, .slice B m d] 27)).alloc (.cells #[.int .i64 0, .slice none 0 0] 27)) ⟨w.heap.size + 1, 1, none⟩ = false := by go_simp
  have hz_W : (w.heap.size + 1) < (World.heap ((w.alloc (.cells #[.int .i64 x, .slice B m d] 27)).alloc (.cells #[.int .i64 0, .slice none 0 0] 27))).size := by simp
  generalize (w.alloc (.cells #[.int .i64 x, .slice B m d] 27)).alloc (.cells #[.int .i64 0, .slice none 0 0] 27) = W at hb_W gc1_W gc2_W gf3_W gc4_W gc5_W gf6_W gf7_W hz_W ⊢
  have hz0 : w.heap.size < W.heap.size := by omega
  go_wp2_with fail
  go_at_call 36
  refine (HC _ (Rd.below h hb_W) (Rd.below hL hb_W)).mono ?_
  rintro _ w4 ⟨A1, c1, A2, c2, mid, rfl, hm1, hm2, hO, hM, hb4⟩
  have s0 := (hb4.cell (p := ⟨w.heap.size + 1, 0, none⟩) hz_W).trans gc4_W
  have s1 := (hb4.cell (p := ⟨w.heap.size + 1, 1, none⟩) hz_W).trans gc5_W
  have s2 := (hb4.frozen (p := ⟨w.heap.size + 1, 0, none⟩) hz_W).trans gf6_W
  have s3 := (hb4.frozen (p := ⟨w.heap.size + 1, 1, none⟩) hz_W).trans gf7_W
  have hs4 : w.heap.size + 1 < w4.heap.size := Nat.lt_of_lt_of_le hz_W hb4.size
  have hbF := gr hb_W hb4
  clear gc1_W gc2_W gf3_W gc4_W gc5_W gf6_W gf7_W hb_W hb4
  replace hO := (hO.cell_out (p := ⟨w.heap.size + 1, 0, none⟩) (.inl (by exact (by omega : w.heap.size + 1 < W.heap.size))) (.int .i64 X)).cell_out (p := ⟨w.heap.size + 1, 1, none⟩) (.inl (by exact (by omega : w.heap.size + 1 < W.heap.size))) (.slice A1 N c1)
  replace hM := (hM.cell_out (p := ⟨w.heap.size + 1, 0, none⟩) (.inl (by exact (by omega : w.heap.size + 1 < mid))) (.int .i64 X)).cell_out (p := ⟨w.heap.size + 1, 1, none⟩) (.inl (by exact (by omega : w.heap.size + 1 < mid))) (.slice A1 N c1)
  replace hbF := (hbF.setCell (p := ⟨w.heap.size + 1, 0, none⟩) (Nat.le_succ _) (.int .i64 X)).setCell (p := ⟨w.heap.size + 1, 1, none⟩) (Nat.le_succ _) (.slice A1 N c1)
  go_wp2
  refine bodyPost_ret (v := .tuple #[.agg #[.int .i64 X, .slice A1 N c1], .slice A2 N c2, .bool D]) (by simp only [results, Tryd.results26]; go_simp) rfl ⟨A1, c1, A2, c2, mid, rfl, by omega, by simp; omega, hO.mono (by omega) (Nat.le_refl _), hM.mono (Nat.le_refl _) (by simp), hbF⟩
end Go.Proofs.YtnmpfojcmedpeaaDoor
