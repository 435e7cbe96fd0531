/-
  Comparison of two heaps by their tons: cmp.Compare and the program's closure. Conditions: valid heaps.
-/
import Derived.Test.YtidcmdnhnnhnhaaHpY
import Derived.Test.YtidcmdnhnnhnhaaHpG
import Derived.Shelf.Abstract
namespace Go.Proofs.Ytidcmdnhnnhnhaa
open Go.RowKit

def cmpV (x y : Int) : Int := if x < y then -1 else if y < x then 1 else 0
theorem cmpV_neg (x y : Int) : decide (cmpV x y < 0) = decide (x < y) := by
  unfold cmpV
  by_cases h : x < y
  · simp [h]
  · by_cases h2 : y < x <;> simp [h, h2]
set_option maxHeartbeats 1000000 in
theorem compare_any (x y : Int) (w : World) :
    Calls Try.prog 83 #[.int .i64 x, .int .i64 y] w fun e w' => e = .returned (.int .i64 (cmpV x y)) ∧ w = w' := by
  have hn : ∀ (z : Int) (w : World), Calls Try.prog 96 #[.int .i64 z] w fun e w' => e = .returned (.bool false) ∧ w = w' := by
    intro z w
    have h1 : (z != z) = false := by simp
    go_enter Try.func96, Try.ntmps96
    go_wp2
    go_ret
    exact ⟨rfl, rfl⟩
  by_cases h : x < y
  · have H := hide (show cmpV x y = -1 by simp [cmpV, h])
    have hd : decide (x < y) = true := by simpa using h
    clear h
    go_enter Try.func83, Try.ntmps83
    go_wp2_with (first | (go_at_call 96; refine (hn _ _).mono ?_; rintro _ _ ⟨rfl, rfl⟩))
    go_ret
    exact ⟨ret_int H.out.symm, rfl⟩
  · by_cases h2 : y < x
    · have H := hide (show cmpV x y = 1 by simp [cmpV, h, h2])
      have hd : decide (x < y) = false := by simpa using h
      have hd2 : decide (y < x) = true := by simpa using h2
      clear h h2
      go_enter Try.func83, Try.ntmps83
      go_wp2_with (first | (go_at_call 96; refine (hn _ _).mono ?_; rintro _ _ ⟨rfl, rfl⟩))
      go_ret
      exact ⟨ret_int H.out.symm, rfl⟩
    · have H := hide (show cmpV x y = 0 by simp [cmpV, h, h2])
      have hd : decide (x < y) = false := by simpa using h
      have hd2 : decide (y < x) = false := by simpa using h2
      clear h h2
      go_enter Try.func83, Try.ntmps83
      go_wp2_with (first | (go_at_call 96; refine (hn _ _).mono ?_; rintro _ _ ⟨rfl, rfl⟩))
      go_ret
      exact ⟨ret_int H.out.symm, rfl⟩

theorem sum_hid {H : Nat → HeapD} {n i : Nat} (h : heapsB H n = true) (hi : i < n) : Hid (∀ k, k ≤ (H i).n → 0 ≤ sumI (fun j => (H i).L j 0) k ∧ sumI (fun j => (H i).L j 0) k ≤ 1000000000000) := fun k hk => by
  have := tonsH_bd ((heapsB_at h).2 i hi).1 k hk
  omega
set_option maxHeartbeats 2000000 in
theorem cvCmp_any (lb : Nat) (A : Option Addr) (n c : Nat) (H : Nat → HeapD) (i k : Nat) (w : World) (HV : Hid (heapsB H n = true)) (hi : i < n) (hk : k < n) (h : HpR w A n H) (hc : w.cell? ⟨lb, 0, none⟩ = some (.slice A n c)) (hl : lb < w.heap.size) :
    Calls Try.prog 82 #[.int .i64 i, .int .i64 k, .pointer (some ⟨lb, 0, none⟩)] w fun e w' => e = .returned (.int .i64 (cmpV (hpT H k) (hpT H i))) ∧ Below w.heap.size w w' := by
  obtain ⟨B, cc, hS, hL⟩ := h
  have HL := hide hL
  clear hL
  obtain ⟨b, off, rfl, hbw, hcell⟩ := hp_at hS (Below.refl _ _) (by omega)
  have i2 := (hcell i hi).2.2.1
  have k2 := (hcell k hk).2.2.1
  have ni : (H i).n ≤ 1048576 := by have := (heapB_at ((heapsB_at HV.out).2 i hi).1).2.2.1; omega
  have nk : (H k).n ≤ 1048576 := by have := (heapB_at ((heapsB_at HV.out).2 k hk).1).2.2.1; omega
  have d0 := fun y : After w => y.cell hc hl
  have d1 := fun y : After w => y.cell i2 hbw
  have d2 := fun y : After w => y.cell k2 hbw
  have ri := fun y : After w => Rd.after (HL.out i hi).1 y
  have rk := fun y : After w => Rd.after (HL.out k hk).1 y
  have si := sum_hid HV.out hi
  have sk := sum_hid HV.out hk
  clear hcell i2 k2 hc hS
  unfold hpT tonsH
  go_enter Try.func82, Try.ntmps82
  go_wp2
  refine region_after (by kernel_rfl) (by kernel_rfl) ?_
  repeat (go_big_quiet_step ((first | (go_at_call 69; exact Calls.after_same (sumOf_any _ _ _ _ _ nk (rk _) sk)) | (go_at_call 69; exact Calls.after_same (sumOf_any _ _ _ _ _ ni (ri _) si)) | (go_at_call 83; exact Calls.after_same (compare_any _ _ _)))))
  refine wpQuiet_nil ?_
  rintro _ ⟨y, rfl⟩
  go_wp2
  go_ret
  exact ⟨rfl, y.h⟩
end Go.Proofs.Ytidcmdnhnnhnhaa
