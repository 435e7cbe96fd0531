/-
  Contracts on heaps: whether one is valid, and whether a list is, of the program and of the reference. Conditions: lengths up to 2^20.
-/
import Derived.Test.YtbmlglkdlialgaaDoorNum
import Derived.Test.YtbmlglkdlialgaaDoorHpB
namespace Go.Proofs.YtbmlglkdlialgaaDoor
open Go.RowKit

theorem isId_any (n : Int) (w : World) :
    Calls Tryd.prog 61 #[.int .i64 n] w fun e w' => e = .returned (.bool (inB n 1 99)) ∧ w = w' := by
  go_enter Tryd.func61, Tryd.ntmps61
  go_wp2_with (first | (go_at_call 49; refine (within_any _ _ _ _).mono ?_; rintro _ _ ⟨rfl, rfl⟩))
  all_goals go_ret
  all_goals exact ⟨rfl, rfl⟩
theorem isGrade_any (n : Int) (w : World) :
    Calls Tryd.prog 47 #[.int .i64 n] w fun e w' => e = .returned (.bool (inB n 1 4)) ∧ w = w' := by
  go_enter Tryd.func47, Tryd.ntmps47
  go_wp2_with (first | (go_at_call 49; refine (within_any _ _ _ _).mono ?_; rintro _ _ ⟨rfl, rfl⟩))
  all_goals go_ret
  all_goals exact ⟨rfl, rfl⟩
theorem isLayer_any (n : Int) (w : World) :
    Calls Tryd.prog 51 #[.int .i64 n] w fun e w' => e = .returned (.bool (inB n 1 500)) ∧ w = w' := by
  go_enter Tryd.func51, Tryd.ntmps51
  go_wp2_with (first | (go_at_call 49; refine (within_any _ _ _ _).mono ?_; rintro _ _ ⟨rfl, rfl⟩))
  all_goals go_ret
  all_goals exact ⟨rfl, rfl⟩
theorem l7Grade_any (n : Int) (w : World) :
    Calls Tryd.prog 54 #[.int .i64 n] w fun e w' => e = .returned (.bool (inB n 1 4)) ∧ w = w' := by
  go_enter Tryd.func54, Tryd.ntmps54
  go_wp2_with (first | (go_at_call 55; refine (l1In_any _ _ _ _).mono ?_; rintro _ _ ⟨rfl, rfl⟩))
  all_goals go_ret
  all_goals exact ⟨rfl, rfl⟩

set_option maxHeartbeats 2000000 in
theorem l7One_any (id g : Int) (B : Option Addr) (n c : Nat) (L : Nat → Nat → Int) (cov : Bool) (w : World) (hn : n ≤ 1048577) (h : Rd w B n 1 (ints L)) :
    Calls Tryd.prog 28 #[.agg #[.int .i64 id, .int .i64 g, .slice B n c, .bool cov]] w fun e w' => e = .returned (.bool (heapB id g n L)) ∧ Below w.heap.size w w' := by
  go_enter Tryd.func28, Tryd.ntmps28
  go_wp2
  have hb0 : Below w.heap.size w (w.alloc (.cells #[.int .i64 id, .int .i64 g, .slice B n c, .bool cov] 28)) := (Below.refl _ _).alloc (Nat.le_refl _) _
  have hs0 : w.heap.size < (w.alloc (.cells #[.int .i64 id, .int .i64 g, .slice B n c, .bool cov] 28)).heap.size := by simp
  have e0 : World.cell? (w.alloc (.cells #[.int .i64 id, .int .i64 g, .slice B n c, .bool cov] 28)) ⟨w.heap.size, 0, none⟩ = some (.int .i64 id) := by rw [World.cell?_alloc_new]; rfl
  have e1 : World.cell? (w.alloc (.cells #[.int .i64 id, .int .i64 g, .slice B n c, .bool cov] 28)) ⟨w.heap.size, 1, none⟩ = some (.int .i64 g) := by rw [World.cell?_alloc_new]; rfl
  have e2 : World.cell? (w.alloc (.cells #[.int .i64 id, .int .i64 g, .slice B n c, .bool cov] 28)) ⟨w.heap.size, 2, none⟩ = some (.slice B n c) := by rw [World.cell?_alloc_new]; rfl
  have e3 : World.cell? (w.alloc (.cells #[.int .i64 id, .int .i64 g, .slice B n c, .bool cov] 28)) ⟨w.heap.size, 3, none⟩ = some (.bool cov) := by rw [World.cell?_alloc_new]; rfl
  have h := Rd.below h hb0
  generalize w.alloc (.cells #[.int .i64 id, .int .i64 g, .slice B n c, .bool cov] 28) = W2 at hb0 hs0 e0 e1 e2 e3 h ⊢
  go_loopw [3] (fun i wr => ∃ k : Nat, k ≤ n ∧ i = .int .i64 k ∧ allB (layB L) k = true ∧ Below W2.heap.size W2 wr) (fun i _ => n - (intOf i).toNat)
  case atStart => exact ⟨0, by omega, rfl, rfl, Below.refl _ _⟩
  case round =>
    obtain ⟨k, hk, rfl, hgood, hb⟩ := hrel
    have HG := hide hgood
    clear hgood
    have hsr := hb.size
    have c0 := (hb.cell (by exact hs0)).trans e0
    have c1 := (hb.cell (by exact hs0)).trans e1
    have c2 := (hb.cell (by exact hs0)).trans e2
    clear e0 e1 e2 e3
    have hz : w.heap.size < wr.heap.size := by omega
    by_cases hlt : k < n
    · obtain ⟨b, off, rfl, -, hbw, hc⟩ := Rd.below h hb (by omega)
      have d2 := fun x : After wr => x.cell c2 hz
      have d3 := fun x : After wr => x.cell (hc k 0 hlt (by omega)) hbw
      have d4 := fun x : After wr => x.cell (hc (k - 1) 0 (by omega) (by omega)) hbw
      simp only [Nat.add_zero, Nat.mul_one] at d3 d4
      clear hc c0 c1
      have HZ := hide (fun he : layB L k = false => (by simp [heapB, allB_false hlt he] : heapB id g n L = false))
      have HZ1 := hide (fun he : layB L k = true => allB_succ HG.out he)
      go_wp2
      clear c2
      cases h1 : inB (L k 0) 1 500
      · refine region_after (by kernel_rfl) (by kernel_rfl) ?_
        repeat (go_big_quiet_step ((first | (go_at_call 55; exact Calls.after_same (l1In_any _ _ _ _)))))
        refine wpQuiet_nil ?_
        rintro _ ⟨x, rfl⟩
        go_wp2
        go_ret
        exact ⟨ret_bool (HZ.out (by simp [layB, h1])).symm, gr hb0 (gr hb x.h)⟩
      · by_cases h3 : 0 < k
        · refine region_after (by kernel_rfl) (by kernel_rfl) ?_
          repeat (go_big_quiet_step ((first | (go_at_call 55; exact Calls.after_same (l1In_any _ _ _ _)))))
          refine wpQuiet_nil ?_
          rintro _ ⟨x, rfl⟩
          go_wp2
          · go_ret
            have h4 : L (k - 1) 0 < L k 0 := by assumption
            exact ⟨ret_bool (HZ.out (by simp [layB, h1]; omega)).symm, gr hb0 (gr hb x.h)⟩
          · have h4 : L k 0 ≤ L (k - 1) 0 := by assumption
            go_roundw
            case rel => exact ⟨k + 1, by omega, by go_num, HZ1.out (by simp [layB, h1, h4]), gr hb x.h⟩
            case measure => simp [intOf]; omega
        · have h4 : decide (0 < (k : Int)) = false := by simp; omega
          have h5 : k = 0 := by omega
          have H5 := hide h5
          clear h5
          refine region_after (by kernel_rfl) (by kernel_rfl) ?_
          repeat (go_big_quiet_step ((first | (go_at_call 55; exact Calls.after_same (l1In_any _ _ _ _)))))
          refine wpQuiet_nil ?_
          rintro _ ⟨x, rfl⟩
          go_wp2
          go_roundw
          case rel => exact ⟨k + 1, by omega, by go_num, HZ1.out (by simp [layB, h1]; exact Or.inl H5.out), gr hb x.h⟩
          case measure => simp [intOf]; omega
    · obtain rfl : k = n := by omega
      have HE := hide (show heapB id g k L = (inB id 1 99 && inB g 1 4 && decide ((k : Int) ≤ 12)) by simp [heapB, HG.out])
      cases h1 : inB id 1 99
      · go_wp2_with (first | (go_at_call 55; refine (l1In_any _ _ _ _).mono ?_; rintro _ _ ⟨rfl, rfl⟩))
        go_ret
        exact ⟨ret_bool (by rw [HE.out, h1]; rfl), gr hb0 hb⟩
      · cases h2 : inB g 1 4
        · go_wp2_with (first | (go_at_call 55; refine (l1In_any _ _ _ _).mono ?_; rintro _ _ ⟨rfl, rfl⟩) | (go_at_call 54; refine (l7Grade_any _ _).mono ?_; rintro _ _ ⟨rfl, rfl⟩))
          go_ret
          exact ⟨ret_bool (by rw [HE.out, h1, h2]; rfl), gr hb0 hb⟩
        · go_wp2_with (first | (go_at_call 55; refine (l1In_any _ _ _ _).mono ?_; rintro _ _ ⟨rfl, rfl⟩) | (go_at_call 54; refine (l7Grade_any _ _).mono ?_; rintro _ _ ⟨rfl, rfl⟩))
          go_ret
          exact ⟨ret_bool (by rw [HE.out, h1, h2]; rfl), gr hb0 hb⟩

set_option maxHeartbeats 2000000 in
theorem IsHeap_any (id g : Int) (B : Option Addr) (n c : Nat) (L : Nat → Nat → Int) (cov : Bool) (w : World) (hn : n ≤ 1048577) (h : Rd w B n 1 (ints L)) :
    Calls Tryd.prog 26 #[.agg #[.int .i64 id, .int .i64 g, .slice B n c, .bool cov]] w fun e w' => e = .returned (.bool (heapB id g n L)) ∧ Below w.heap.size w w' := by
  have HE := hide (show heapB id g n L = (inB id 1 99 && inB g 1 4 && decide ((n : Int) ≤ 12) && allB (layB L) n) from rfl)
  cases h1 : inB id 1 99
  · go_enter Tryd.func26, Tryd.ntmps26
    go_wp2_with (first | (go_at_call 61; refine (isId_any _ _).mono ?_; rintro _ _ ⟨rfl, rfl⟩))
    go_ret
    exact ⟨ret_bool (by rw [HE.out, h1]; rfl), (Below.refl _ _).alloc (Nat.le_refl _) _⟩
  cases h2 : inB g 1 4
  · go_enter Tryd.func26, Tryd.ntmps26
    go_wp2_with (first | (go_at_call 61; refine (isId_any _ _).mono ?_; rintro _ _ ⟨rfl, rfl⟩) | (go_at_call 47; refine (isGrade_any _ _).mono ?_; rintro _ _ ⟨rfl, rfl⟩))
    go_ret
    exact ⟨ret_bool (by rw [HE.out, h1, h2]; rfl), (Below.refl _ _).alloc (Nat.le_refl _) _⟩
  by_cases h3 : (n : Int) ≤ 12
  rotate_left
  · have HE' := hide (show heapB id g n L = false by rw [HE.out]; simp [h3])
    have h3' : decide (12 < (n : Int)) = true := by simp; omega
    clear h3
    go_enter Tryd.func26, Tryd.ntmps26
    go_wp2_with (first | (go_at_call 61; refine (isId_any _ _).mono ?_; rintro _ _ ⟨rfl, rfl⟩) | (go_at_call 47; refine (isGrade_any _ _).mono ?_; rintro _ _ ⟨rfl, rfl⟩))
    go_ret
    exact ⟨ret_bool HE'.out.symm, (Below.refl _ _).alloc (Nat.le_refl _) _⟩
  have HE' := hide (show heapB id g n L = allB (layB L) n by rw [HE.out]; simp [h1, h2, h3])
  clear HE
  go_enter Tryd.func26, Tryd.ntmps26
  go_wp2_with (first | (go_at_call 61; refine (isId_any _ _).mono ?_; rintro _ _ ⟨rfl, rfl⟩) | (go_at_call 47; refine (isGrade_any _ _).mono ?_; rintro _ _ ⟨rfl, rfl⟩))
  clear h1 h2
  have hb0 : Below w.heap.size w (w.alloc (.cells #[.int .i64 id, .int .i64 g, .slice B n c, .bool cov] 28)) := (Below.refl _ _).alloc (Nat.le_refl _) _
  have hs0 : w.heap.size < (w.alloc (.cells #[.int .i64 id, .int .i64 g, .slice B n c, .bool cov] 28)).heap.size := by simp
  have e0 : World.cell? (w.alloc (.cells #[.int .i64 id, .int .i64 g, .slice B n c, .bool cov] 28)) ⟨w.heap.size, 0, none⟩ = some (.int .i64 id) := by rw [World.cell?_alloc_new]; rfl
  have e1 : World.cell? (w.alloc (.cells #[.int .i64 id, .int .i64 g, .slice B n c, .bool cov] 28)) ⟨w.heap.size, 1, none⟩ = some (.int .i64 g) := by rw [World.cell?_alloc_new]; rfl
  have e2 : World.cell? (w.alloc (.cells #[.int .i64 id, .int .i64 g, .slice B n c, .bool cov] 28)) ⟨w.heap.size, 2, none⟩ = some (.slice B n c) := by rw [World.cell?_alloc_new]; rfl
  have e3 : World.cell? (w.alloc (.cells #[.int .i64 id, .int .i64 g, .slice B n c, .bool cov] 28)) ⟨w.heap.size, 3, none⟩ = some (.bool cov) := by rw [World.cell?_alloc_new]; rfl
  have h := Rd.below h hb0
  generalize w.alloc (.cells #[.int .i64 id, .int .i64 g, .slice B n c, .bool cov] 28) = W2 at hb0 hs0 e0 e1 e2 e3 h ⊢
  go_loopw [24] (fun i wr => ∃ k : Nat, k ≤ n ∧ i = .int .i64 k ∧ allB (layB L) k = true ∧ Below W2.heap.size W2 wr) (fun i _ => n - (intOf i).toNat)
  case atStart => exact ⟨0, by omega, rfl, rfl, Below.refl _ _⟩
  case round =>
    obtain ⟨k, hk, rfl, hgood, hb⟩ := hrel
    have HG := hide hgood
    clear hgood
    have hsr := hb.size
    have c2 := (hb.cell (by exact hs0)).trans e2
    clear e0 e1 e2 e3
    have hz : w.heap.size < wr.heap.size := by omega
    by_cases hlt : k < n
    · obtain ⟨b, off, rfl, -, hbw, hc⟩ := Rd.below h hb (by omega)
      have d3 := hc k 0 hlt (by omega)
      have d4 := hc (k - 1) 0 (by omega) (by omega)
      simp only [Nat.add_zero, Nat.mul_one] at d3 d4
      clear hc
      have HZ := hide (fun he : layB L k = false => HE'.out.trans (allB_false hlt he))
      have HZ1 := hide (fun he : layB L k = true => allB_succ HG.out he)
      cases h1 : inB (L k 0) 1 500
      · go_wp2_with (first | (go_at_call 51; refine (isLayer_any _ _).mono ?_; rintro _ _ ⟨rfl, rfl⟩))
        go_ret
        exact ⟨ret_bool (HZ.out (by simp [layB, h1])).symm, gr hb0 hb⟩
      · by_cases h3 : 0 < k
        · go_wp2_with (first | (go_at_call 51; refine (isLayer_any _ _).mono ?_; rintro _ _ ⟨rfl, rfl⟩))
          · go_ret
            have h4 : L (k - 1) 0 < L k 0 := by assumption
            exact ⟨ret_bool (HZ.out (by simp [layB, h1]; omega)).symm, gr hb0 hb⟩
          · have h4 : L k 0 ≤ L (k - 1) 0 := by assumption
            go_roundw
            case rel => exact ⟨k + 1, by omega, by go_num, HZ1.out (by simp [layB, h1, h4]), hb⟩
            case measure => simp [intOf]; omega
        · have h4 : decide (0 < (k : Int)) = false := by simp; omega
          have h5 : k = 0 := by omega
          have H5 := hide h5
          clear h5
          go_wp2_with (first | (go_at_call 51; refine (isLayer_any _ _).mono ?_; rintro _ _ ⟨rfl, rfl⟩))
          go_roundw
          case rel => exact ⟨k + 1, by omega, by go_num, HZ1.out (by simp [layB, h1]; exact Or.inl H5.out), hb⟩
          case measure => simp [intOf]; omega
    · obtain rfl : k = n := by omega
      go_wp2
      go_ret
      exact ⟨ret_bool (by rw [HE'.out, HG.out]), gr hb0 hb⟩

set_option maxHeartbeats 2000000 in
theorem l7Good_any (A : Option Addr) (n c : Nat) (H : Nat → HeapD) (w : World) (hn : n ≤ 1048576) (hln : ∀ i, i < n → (H i).n ≤ 1048576) (h : HpR w A n H) :
    Calls Tryd.prog 53 #[.slice A n c] w fun e w' => e = .returned (.bool (heapsB H n)) ∧ Below w.heap.size w w' := by
  obtain ⟨B, cc, hS, hL⟩ := h
  have HL := hide hL
  have HN := hide hln
  clear hL hln
  go_enter Tryd.func53, Tryd.ntmps53
  go_wp2
  go_loopw [3] (fun i wr => ∃ k : Nat, k ≤ n ∧ i = .int .i64 k ∧ allB (heapAtB H) k = true ∧ Below w.heap.size w wr) (fun i _ => n - (intOf i).toNat)
  case atStart => exact ⟨0, by omega, rfl, rfl, Below.refl _ _⟩
  case round =>
    obtain ⟨k, hk, rfl, hgood, hb⟩ := hrel
    have HG := hide hgood
    clear hgood
    by_cases hlt : k < n
    · obtain ⟨b, off, rfl, hbw, hc⟩ := hp_at hS hb (by omega)
      obtain ⟨c0, c1, c2, c3⟩ := hc k hlt
      have cp := (hc (k - 1) (by omega)).1
      clear hc
      have d0 := fun x : After wr => x.cell c0 hbw
      have d1 := fun x : After wr => x.cell c1 hbw
      have d2 := fun x : After wr => x.cell c2 hbw
      have d3 := fun x : After wr => x.cell c3 hbw
      have dp := fun x : After wr => x.cell cp hbw
      clear c0 c1 c2 c3 cp
      have hl := fun x : After wr => Rd.after (Rd.below (HL.out k hlt).1 hb) x
      have hln := HN.out k hlt
      have HZ := hide (fun he : heapAtB H k = false => (by simp [heapsB, allB_false hlt he] : heapsB H n = false))
      have HZ1 := hide (fun he : heapAtB H k = true => allB_succ HG.out he)
      go_wp2
      cases h1 : heapB (H k).id (H k).gr (H k).n (H k).L
      · refine region_after (by kernel_rfl) (by kernel_rfl) ?_
        repeat (go_big_quiet_step ((first | (go_at_call 28; exact Calls.after (l7One_any _ _ _ _ _ _ _ _ (by omega) (hl _))))))
        refine wpQuiet_nil ?_
        rintro _ ⟨x, rfl⟩
        go_wp2
        go_ret
        exact ⟨ret_bool (HZ.out (by simp [heapAtB, h1])).symm, gr hb x.h⟩
      · by_cases h3 : 0 < k
        · refine region_after (by kernel_rfl) (by kernel_rfl) ?_
          repeat (go_big_quiet_step ((first | (go_at_call 28; exact Calls.after (l7One_any _ _ _ _ _ _ _ _ (by omega) (hl _))))))
          refine wpQuiet_nil ?_
          rintro _ ⟨x, rfl⟩
          go_wp2
          · go_ret
            have h4 : (H k).id ≤ (H (k - 1)).id := by assumption
            exact ⟨ret_bool (HZ.out (by simp [heapAtB, h1]; omega)).symm, gr hb x.h⟩
          · have h4 : (H (k - 1)).id < (H k).id := by assumption
            go_roundw
            case rel => exact ⟨k + 1, by omega, by go_num, HZ1.out (by simp [heapAtB, h1, h4]), gr hb x.h⟩
            case measure => simp [intOf]; omega
        · have h4 : decide (0 < (k : Int)) = false := by simp; omega
          have h5 : k = 0 := by omega
          have H5 := hide h5
          clear h5
          refine region_after (by kernel_rfl) (by kernel_rfl) ?_
          repeat (go_big_quiet_step ((first | (go_at_call 28; exact Calls.after (l7One_any _ _ _ _ _ _ _ _ (by omega) (hl _))))))
          refine wpQuiet_nil ?_
          rintro _ ⟨x, rfl⟩
          go_wp2
          go_roundw
          case rel => exact ⟨k + 1, by omega, by go_num, HZ1.out (by simp [heapAtB, h1]; exact Or.inl H5.out), gr hb x.h⟩
          case measure => simp [intOf]; omega
    · go_wp2
      go_ret
      obtain rfl : k = n := by omega
      exact ⟨ret_bool (by simp [heapsB, HG.out]), hb⟩
end Go.Proofs.YtbmlglkdlialgaaDoor
