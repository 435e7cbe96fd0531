/-
  Contracts on heaps: whether a list is valid, its tons, of the program and of the reference. Conditions: lengths up to 2^20.
-/
import Derived.Test.YtbmlglkdlialgaaDoorHpA
import Derived.Test.YtbmlglkdlialgaaDoorOwn
namespace Go.Proofs.YtbmlglkdlialgaaDoor
open Go.RowKit

set_option maxHeartbeats 2000000 in
theorem AreHeaps_any (A : Option Addr) (n c : Nat) (H : Nat → HeapD) (w : World) (hn : n ≤ 1048576) (hln : ∀ i, i < n → (H i).n ≤ 1048576) (h : HpR w A n H) :
    Calls Tryd.prog 17 #[.slice A n c] w fun e w' => e = .returned (.bool (heapsB H n)) ∧ Below w.heap.size w w' := by
  obtain ⟨B, cc, hS, hL⟩ := h
  have HL := hide hL
  have HN := hide hln
  clear hL hln
  go_enter Tryd.func17, Tryd.ntmps17
  go_wp2
  go_loopw [7] (fun i wr => ∃ k : Nat, k ≤ n ∧ i = .int .i64 k ∧ allB (heapAtB H) k = true ∧ Below w.heap.size w wr) (fun i _ => n - (intOf i).toNat)
  case atStart => exact ⟨0, by omega, rfl, rfl, Below.refl _ _⟩
  case round =>
    obtain ⟨k, hk, rfl, hgood, hb⟩ := hrel
    have HG := hide hgood
    clear hgood
    by_cases hlt : k < n
    · obtain ⟨b, off, rfl, hbw, hc⟩ := hp_at hS hb (by omega)
      obtain ⟨c0, c1, c2, c3⟩ := hc k hlt
      have cp := (hc (k - 1) (by omega)).1
      clear hc
      have hln := HN.out k hlt
      have HZ := hide (fun he : heapAtB H k = false => (by simp [heapsB, allB_false hlt he] : heapsB H n = false))
      have HZ1 := hide (fun he : heapAtB H k = true => allB_succ HG.out he)
      go_wp2
      have hbW : Below wr.heap.size wr (wr.alloc (.cells #[.int .i64 (H k).id, .int .i64 (H k).gr, .slice (B k) (H k).n (cc k), .bool (H k).cov] 28)) := (Below.refl _ _).alloc (Nat.le_refl _) _
      have hsW : wr.heap.size < (wr.alloc (.cells #[.int .i64 (H k).id, .int .i64 (H k).gr, .slice (B k) (H k).n (cc k), .bool (H k).cov] 28)).heap.size := by simp
      have e0 : World.cell? (wr.alloc (.cells #[.int .i64 (H k).id, .int .i64 (H k).gr, .slice (B k) (H k).n (cc k), .bool (H k).cov] 28)) ⟨wr.heap.size, 0, none⟩ = some (.int .i64 (H k).id) := by rw [World.cell?_alloc_new]; rfl
      have e1 : World.cell? (wr.alloc (.cells #[.int .i64 (H k).id, .int .i64 (H k).gr, .slice (B k) (H k).n (cc k), .bool (H k).cov] 28)) ⟨wr.heap.size, 1, none⟩ = some (.int .i64 (H k).gr) := by rw [World.cell?_alloc_new]; rfl
      have e2 : World.cell? (wr.alloc (.cells #[.int .i64 (H k).id, .int .i64 (H k).gr, .slice (B k) (H k).n (cc k), .bool (H k).cov] 28)) ⟨wr.heap.size, 2, none⟩ = some (.slice (B k) (H k).n (cc k)) := by rw [World.cell?_alloc_new]; rfl
      have e3 : World.cell? (wr.alloc (.cells #[.int .i64 (H k).id, .int .i64 (H k).gr, .slice (B k) (H k).n (cc k), .bool (H k).cov] 28)) ⟨wr.heap.size, 3, none⟩ = some (.bool (H k).cov) := by rw [World.cell?_alloc_new]; rfl
      generalize wr.alloc (.cells #[.int .i64 (H k).id, .int .i64 (H k).gr, .slice (B k) (H k).n (cc k), .bool (H k).cov] 28) = W2 at hbW hsW e0 e1 e2 e3 ⊢
      have hbz : b < W2.heap.size := by omega
      have cp2 := (hbW.cell (by exact hbw)).trans cp
      clear c0 c1 c2 c3 cp
      have hbx := fun x : After W2 => gr hb (gr hbW x.h)
      have hl := fun x : After W2 => Rd.after (Rd.below (HL.out k hlt).1 (gr hb hbW)) x
      have d0 := fun x : After W2 => x.cell e0 hsW
      have d1 := fun x : After W2 => x.cell e1 hsW
      have d2 := fun x : After W2 => x.cell e2 hsW
      have d3 := fun x : After W2 => x.cell e3 hsW
      have dp := fun x : After W2 => x.cell cp2 hbz
      clear e0 e1 e2 e3 cp2
      cases h1 : heapB (H k).id (H k).gr (H k).n (H k).L
      · refine region_after (by kernel_rfl) (by kernel_rfl) ?_
        repeat (go_big_quiet_step ((first | (go_at_call 26; exact Calls.after (IsHeap_any _ _ _ _ _ _ _ _ (by omega) (hl _))))))
        refine wpQuiet_nil ?_
        rintro _ ⟨x, rfl⟩
        go_wp2
        go_ret
        exact ⟨ret_bool (HZ.out (by simp [heapAtB, h1])).symm, hbx x⟩
      · by_cases h3 : 0 < k
        · refine region_after (by kernel_rfl) (by kernel_rfl) ?_
          repeat (go_big_quiet_step ((first | (go_at_call 26; exact Calls.after (IsHeap_any _ _ _ _ _ _ _ _ (by omega) (hl _))))))
          refine wpQuiet_nil ?_
          rintro _ ⟨x, rfl⟩
          go_wp2
          · go_ret
            have h4 : (H k).id ≤ (H (k - 1)).id := by assumption
            exact ⟨ret_bool (HZ.out (by simp [heapAtB, h1]; omega)).symm, hbx x⟩
          · have h4 : (H (k - 1)).id < (H k).id := by assumption
            go_roundw
            case rel => exact ⟨k + 1, by omega, by go_num, HZ1.out (by simp [heapAtB, h1, h4]), hbx x⟩
            case measure => simp [intOf]; omega
        · have h4 : decide (0 < (k : Int)) = false := by simp; omega
          have h5 : k = 0 := by omega
          have H5 := hide h5
          clear h5
          refine region_after (by kernel_rfl) (by kernel_rfl) ?_
          repeat (go_big_quiet_step ((first | (go_at_call 26; exact Calls.after (IsHeap_any _ _ _ _ _ _ _ _ (by omega) (hl _))))))
          refine wpQuiet_nil ?_
          rintro _ ⟨x, rfl⟩
          go_wp2
          go_roundw
          case rel => exact ⟨k + 1, by omega, by go_num, HZ1.out (by simp [heapAtB, h1]; exact Or.inl H5.out), hbx x⟩
          case measure => simp [intOf]; omega
    · go_wp2
      go_ret
      obtain rfl : k = n := by omega
      exact ⟨ret_bool (by simp [heapsB, HG.out]), hb⟩


set_option maxHeartbeats 1000000 in
theorem l7Tons_any (id g : Int) (B : Option Addr) (n c : Nat) (L : Nat → Nat → Int) (cov : Bool) (w : World) (hn : n ≤ 1048576) (h : Rd w B n 1 (ints L)) (HB : Hid (∀ k, k ≤ n → 0 ≤ sumI (fun j => L j 0) k ∧ sumI (fun j => L j 0) k ≤ 1000000000000)) :
    Calls Tryd.prog 58 #[.agg #[.int .i64 id, .int .i64 g, .slice B n c, .bool cov]] w fun e w' => e = .returned (.int .i64 (tonsH n L)) ∧ Below w.heap.size w w' := by
  go_enter Tryd.func58, Tryd.ntmps58
  go_wp2
  have hb0 : Below w.heap.size w (w.alloc (.cells #[.int .i64 id, .int .i64 g, .slice B n c, .bool cov] 28)) := (Below.refl _ _).alloc (Nat.le_refl _) _
  have e2 : World.cell? (w.alloc (.cells #[.int .i64 id, .int .i64 g, .slice B n c, .bool cov] 28)) ⟨w.heap.size, 2, none⟩ = some (.slice B n c) := by rw [World.cell?_alloc_new]; rfl
  have h := Rd.below h hb0
  generalize w.alloc (.cells #[.int .i64 id, .int .i64 g, .slice B n c, .bool cov] 28) = W2 at hb0 e2 h ⊢
  go_loop [3, 4] (fun s i => ∃ k : Nat, k ≤ n ∧ i = .int .i64 k ∧ s = .int .i64 (sumI (fun j => L j 0) k)) (fun _ i => n - (intOf i).toNat)
  case atStart => exact ⟨0, by omega, rfl, rfl⟩
  case round =>
    obtain ⟨k, hk, rfl, rfl⟩ := hrel
    by_cases hlt : k < n
    · obtain ⟨b, off, rfl, -, hbw, hc⟩ := h (by omega)
      have hc0 := hc k 0 hlt (by omega)
      simp only [Nat.add_zero, Nat.mul_one] at hc0
      clear hc
      obtain ⟨g1, g2⟩ := HB.out k hk
      obtain ⟨g3, g4⟩ := HB.out (k + 1) (by omega)
      have HS := hide (show sumI (fun j => L j 0) (k + 1) = sumI (fun j => L j 0) k + L k 0 from rfl)
      rw [HS.out] at g3 g4
      generalize sumI (fun j => L j 0) k = S at g1 g2 g3 g4 HS ⊢
      go_wp2
      go_round
      case rel => exact ⟨k + 1, by omega, by go_num, by rw [HS.out]⟩
      case measure => simp [intOf]; omega
    · obtain rfl : k = n := by omega
      go_wp2
      go_ret
      exact ⟨rfl, hb0⟩

/-- The tons of the heaps of a grade. -/
def gradeT (H : Nat → HeapD) (g : Int) (i : Nat) : Int := if (H i).gr = g then tonsH (H i).n (H i).L else 0
theorem gradeT_bd {H : Nat → HeapD} {n : Nat} {g : Int} (h : heapsB H n = true) : ∀ k, k ≤ n → 0 ≤ sumI (gradeT H g) k ∧ sumI (gradeT H g) k ≤ 60000 := fun k hk => by
  have hs := heapsB_at h
  have := sumI_bound (f := gradeT H g) (b := 6000) (n := n) (fun i hi => by
    have := tonsH_bd (hs.2 i hi).1 (H i).n (Nat.le_refl _)
    unfold gradeT tonsH
    split <;> omega) k hk
  omega
theorem tons_hid {H : Nat → HeapD} {n k : Nat} (h : heapsB H n = true) (hk : k < n) : Hid (∀ q, q ≤ (H k).n → 0 ≤ sumI (fun j => (H k).L j 0) q ∧ sumI (fun j => (H k).L j 0) q ≤ 1000000000000) := hide fun q hq => by
  have := tonsH_bd ((heapsB_at h).2 k hk).1 q hq
  omega

set_option maxHeartbeats 2000000 in
theorem spec_TonsOf_any (A : Option Addr) (n c : Nat) (H : Nat → HeapD) (g : Int) (w : World) (hn : n ≤ 1048576) (hln : ∀ i, i < n → (H i).n ≤ 1048576) (h : HpR w A n H) :
    Calls Tryd.prog 24 #[.slice A n c, .int .i64 g] w fun e w' => e = .returned (.tuple #[.int .i64 (tonsOfR H n g).1, .bool (tonsOfR H n g).2]) ∧ Below w.heap.size w w' := by
  cases h1 : heapsB H n
  · have HR := hide (show tonsOfR H n g = (0, false) by simp [tonsOfR, h1])
    go_enter Tryd.func24, Tryd.ntmps24
    go_wp2_with (first | (go_at_call 53; refine (l7Good_any _ _ _ _ _ hn hln h).mono ?_; rintro _ w1 ⟨rfl, hb_w1⟩; have hc_w1 := bcell hb_w1))
    go_ret2
    exact ⟨ret_p HR.out, hb_w1⟩
  cases h2 : inB g 1 4
  · have HR := hide (show tonsOfR H n g = (0, false) by simp [tonsOfR, h2])
    go_enter Tryd.func24, Tryd.ntmps24
    go_wp2_with (first | (go_at_call 53; refine (l7Good_any _ _ _ _ _ hn hln h).mono ?_; rintro _ w1 ⟨rfl, hb_w1⟩; have hc_w1 := bcell hb_w1) | (go_at_call 54; refine (l7Grade_any _ _).mono ?_; rintro _ _ ⟨rfl, rfl⟩))
    go_ret2
    exact ⟨ret_p HR.out, hb_w1⟩
  have HR := hide (show tonsOfR H n g = (sumI (gradeT H g) n, true) by simp [tonsOfR, h1, h2]; rfl)
  have HV := hide h1
  have HN := hide hln
  go_enter Tryd.func24, Tryd.ntmps24
  go_wp2_with (first | (go_at_call 53; refine (l7Good_any _ _ _ _ _ hn hln h).mono ?_; rintro _ w1 ⟨rfl, hb_w1⟩; have hc_w1 := bcell hb_w1) | (go_at_call 54; refine (l7Grade_any _ _).mono ?_; rintro _ _ ⟨rfl, rfl⟩))
  clear h1 h2 hln
  obtain ⟨B, cc, hS, hL⟩ := h
  have HL := hide hL
  clear hL hc_w1
  go_loopw [6, 7] (fun s i wr => ∃ k : Nat, k ≤ n ∧ i = .int .i64 k ∧ s = .int .i64 (sumI (gradeT H g) k) ∧ Below w.heap.size w wr) (fun _ i _ => n - (intOf i).toNat)
  case atStart => exact ⟨0, by omega, rfl, rfl, hb_w1⟩
  case round =>
    obtain ⟨k, hk, rfl, rfl, hb⟩ := hrel
    by_cases hlt : k < n
    · obtain ⟨b, off, rfl, hbw, hc⟩ := hp_at hS hb (by omega)
      obtain ⟨c0, c1, c2, c3⟩ := hc k hlt
      clear hc
      obtain ⟨g1, g2⟩ := gradeT_bd (g := g) HV.out k hk
      obtain ⟨g3, g4⟩ := gradeT_bd (g := g) HV.out (k + 1) (by omega)
      have HS := hide (show sumI (gradeT H g) (k + 1) = sumI (gradeT H g) k + (if (H k).gr = g then tonsH (H k).n (H k).L else 0) from rfl)
      have hl := Rd.below (HL.out k hlt).1 hb
      have HT := tons_hid HV.out hlt
      have hln := HN.out k hlt
      generalize sumI (gradeT H g) k = S at g1 g2 HS ⊢
      cases hd : ((H k).gr == g)
      · have HS' := hide (show sumI (gradeT H g) (k + 1) = S by rw [HS.out, if_neg (by simpa using hd)]; omega)
        go_wp2
        go_roundw
        case rel => exact ⟨k + 1, by omega, by go_num, by rw [HS'.out], hb⟩
        case measure => simp [intOf]; omega
      · have HS' := hide (show sumI (gradeT H g) (k + 1) = S + tonsH (H k).n (H k).L by rw [HS.out, if_pos (by simpa using hd)])
        rw [HS'.out] at g3 g4
        go_wp2_with fail
        go_at_call 58
        refine (l7Tons_any _ _ _ _ _ _ _ _ hln hl HT).mono ?_
        rintro _ w2 ⟨rfl, hb2⟩
        go_wp2
        go_roundw
        case rel => exact ⟨k + 1, by omega, by go_num, by rw [HS'.out], gr hb hb2⟩
        case measure => simp [intOf]; omega
    · obtain rfl : k = n := by omega
      go_wp2
      go_ret2
      exact ⟨ret_p HR.out, hb⟩
set_option maxHeartbeats 2000000 in
theorem TonsOf_any (A : Option Addr) (n c : Nat) (H : Nat → HeapD) (g : Int) (w : World) (hn : n ≤ 1048576) (hln : ∀ i, i < n → (H i).n ≤ 1048576) (h : HpR w A n H) :
    Calls Tryd.prog 15 #[.slice A n c, .int .i64 g] w fun e w' => e = .returned (.tuple #[.int .i64 (tonsOfR H n g).1, .bool (tonsOfR H n g).2]) ∧ Below w.heap.size w w' := by
  cases h1 : heapsB H n
  · have HR := hide (show tonsOfR H n g = (0, false) by simp [tonsOfR, h1])
    go_enter Tryd.func15, Tryd.ntmps15
    go_wp2_with (first | (go_at_call 17; refine (AreHeaps_any _ _ _ _ _ hn hln h).mono ?_; rintro _ w1 ⟨rfl, hb_w1⟩; have hc_w1 := bcell hb_w1))
    go_ret2
    exact ⟨ret_p HR.out, hb_w1⟩
  cases h2 : inB g 1 4
  · have HR := hide (show tonsOfR H n g = (0, false) by simp [tonsOfR, h2])
    go_enter Tryd.func15, Tryd.ntmps15
    go_wp2_with (first | (go_at_call 17; refine (AreHeaps_any _ _ _ _ _ hn hln h).mono ?_; rintro _ w1 ⟨rfl, hb_w1⟩; have hc_w1 := bcell hb_w1) | (go_at_call 47; refine (isGrade_any _ _).mono ?_; rintro _ _ ⟨rfl, rfl⟩))
    go_ret2
    exact ⟨ret_p HR.out, hb_w1⟩
  have HR := hide (show tonsOfR H n g = (sumI (gradeT H g) n, true) by simp [tonsOfR, h1, h2]; rfl)
  have HV := hide h1
  have HN := hide hln
  go_enter Tryd.func15, Tryd.ntmps15
  go_wp2_with (first | (go_at_call 17; refine (AreHeaps_any _ _ _ _ _ hn hln h).mono ?_; rintro _ w1 ⟨rfl, hb_w1⟩; have hc_w1 := bcell hb_w1) | (go_at_call 47; refine (isGrade_any _ _).mono ?_; rintro _ _ ⟨rfl, rfl⟩))
  clear h1 h2 hln
  obtain ⟨B, cc, hS, hL⟩ := h
  have HL := hide hL
  clear hL hc_w1
  go_loopw [6, 19] (fun s i wr => ∃ k : Nat, k ≤ n ∧ i = .int .i64 k ∧ s = .int .i64 (sumI (gradeT H g) k) ∧ Below w.heap.size w wr) (fun _ i _ => n - (intOf i).toNat)
  case atStart => exact ⟨0, by omega, rfl, rfl, hb_w1⟩
  case round =>
    obtain ⟨k, hk, rfl, rfl, hb⟩ := hrel
    by_cases hlt : k < n
    · obtain ⟨b, off, rfl, hbw, hc⟩ := hp_at hS hb (by omega)
      obtain ⟨c0, c1, c2, c3⟩ := hc k hlt
      clear hc
      obtain ⟨g1, g2⟩ := gradeT_bd (g := g) HV.out k hk
      obtain ⟨g3, g4⟩ := gradeT_bd (g := g) HV.out (k + 1) (by omega)
      have HS := hide (show sumI (gradeT H g) (k + 1) = sumI (gradeT H g) k + (if (H k).gr = g then tonsH (H k).n (H k).L else 0) from rfl)
      have hl := Rd.below (HL.out k hlt).1 hb
      have HT := tons_hid HV.out hlt
      have hln := HN.out k hlt
      generalize sumI (gradeT H g) k = S at g1 g2 HS ⊢
      cases hd : ((H k).gr == g)
      · have HS' := hide (show sumI (gradeT H g) (k + 1) = S by rw [HS.out, if_neg (by simpa using hd)]; omega)
        go_wp2
        go_roundw
        case rel => exact ⟨k + 1, by omega, by go_num, by rw [HS'.out], hb.alloc hb.size _⟩
        case measure => simp [intOf]; omega
      · have HS' := hide (show sumI (gradeT H g) (k + 1) = S + tonsH (H k).n (H k).L by rw [HS.out, if_pos (by simpa using hd)])
        rw [HS'.out] at g3 g4
        have hl' := Rd.alloc hl (.cells #[.int .i64 (H k).id, .int .i64 (H k).gr, .slice (B k) (H k).n (cc k), .bool (H k).cov] 28)
        unfold tonsH at HS' g3 g4
        go_wp2_with fail
        go_at_call 48
        refine (sumOf_any _ _ _ _ _ hln hl' HT).mono ?_
        rintro _ _ ⟨rfl, rfl⟩
        go_wp2
        go_roundw
        case rel => exact ⟨k + 1, by omega, by go_num, by rw [HS'.out], hb.alloc hb.size _⟩
        case measure => simp [intOf]; omega
    · obtain rfl : k = n := by omega
      go_wp2
      go_ret2
      exact ⟨ret_p HR.out, hb⟩
end Go.Proofs.YtbmlglkdlialgaaDoor
