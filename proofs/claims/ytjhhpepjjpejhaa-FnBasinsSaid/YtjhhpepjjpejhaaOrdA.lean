/-
  Comparison of two basins: cmp.Compare and the program's closure. Conditions: a series.
-/
import Derived.Test.YtjhhpepjjpejhaaOrdM
namespace Go.Proofs.Ytjhhpepjjpejhaa
open Go.RowKit

set_option maxHeartbeats 1000000 in
theorem compare_any (x y : Int) (w : World) :
    Calls Try.prog 55 #[.int .i64 x, .int .i64 y] w fun e w' => e = .returned (.int .i64 (cmpV x y)) ∧ w = w' := by
  have hn : ∀ (z : Int) (w : World), Calls Try.prog 66 #[.int .i64 z] w fun e w' => e = .returned (.bool false) ∧ w = w' := by
    intro z w
    have h1 : (z != z) = false := by simp
    go_enter Try.func66, Try.ntmps66
    go_wp2
    go_ret
    exact ⟨rfl, rfl⟩
  by_cases h : x < y
  · have H := hide (show cmpV x y = -1 by simp [cmpV, h])
    have hd : decide (x < y) = true := by simpa using h
    clear h
    go_enter Try.func55, Try.ntmps55
    go_wp2_with (first | (go_at_call 66; refine (hn _ _).mono ?_; rintro _ _ ⟨rfl, rfl⟩))
    go_ret
    exact ⟨ret_int H.out.symm, rfl⟩
  · by_cases h2 : y < x
    · have H := hide (show cmpV x y = 1 by simp [cmpV, h, h2])
      have hd : decide (x < y) = false := by simpa using h
      have hd2 : decide (y < x) = true := by simpa using h2
      clear h h2
      go_enter Try.func55, Try.ntmps55
      go_wp2_with (first | (go_at_call 66; refine (hn _ _).mono ?_; rintro _ _ ⟨rfl, rfl⟩))
      go_ret
      exact ⟨ret_int H.out.symm, rfl⟩
    · have H := hide (show cmpV x y = 0 by simp [cmpV, h, h2])
      have hd : decide (x < y) = false := by simpa using h
      have hd2 : decide (y < x) = false := by simpa using h2
      clear h h2
      go_enter Try.func55, Try.ntmps55
      go_wp2_with (first | (go_at_call 66; refine (hn _ _).mono ?_; rintro _ _ ⟨rfl, rfl⟩))
      go_ret
      exact ⟨ret_int H.out.symm, rfl⟩

def massF (F : Nat → Nat → Int) (k : Nat) : Int := F k 1 + F k 2
theorem aheadB_eq (F : Nat → Nat → Int) (i b : Nat) : aheadB F i b = decide (massF F b * F i 0 < massF F i * F b 0) := rfl
theorem cross_bd {F : Nat → Nat → Int} {n i k : Nat} (h : seriesB F n = true) (hi : i < n) (hk : k < n) : 0 ≤ massF F i * F k 0 ∧ massF F i * F k 0 ≤ 2000000 * 100000 := by
  obtain ⟨-, a1, a2⟩ := basin_at h hi
  obtain ⟨b1, -, -⟩ := basin_at h hk
  exact mul_bd (by unfold massF; omega) (by unfold massF; omega) (by omega) b1.2
set_option maxHeartbeats 2000000 in
theorem depthCmp_any (lb off : Nat) (A : Option Addr) (n c : Nat) (F : Nat → Nat → Int) (i k : Nat) (w : World) (HV : Hid (seriesB F n = true)) (hi : i < n) (hk : k < n) (h : Rd w A n 3 (ints F)) (hc : w.cell? ⟨lb, off, none⟩ = some (.slice A n c)) (hl : lb < w.heap.size) :
    Calls Try.prog 54 #[.int .i64 i, .int .i64 k, .pointer (some ⟨lb, off, none⟩)] w fun e w' => e = .returned (.int .i64 (cmpV (massF F k * F i 0) (massF F i * F k 0))) ∧ Below w.heap.size w w' := by
  obtain ⟨-, ⟨a1, a2⟩, a3, a4⟩ := basin_at HV.out hi
  obtain ⟨-, ⟨b1, b2⟩, b3, b4⟩ := basin_at HV.out hk
  obtain ⟨p1, p2⟩ := cross_bd HV.out hk hi
  obtain ⟨p3, p4⟩ := cross_bd HV.out hi hk
  unfold massF at p1 p2 p3 p4 ⊢
  obtain ⟨b, o, rfl, -, hbw, hcell⟩ := h (by omega)
  have i0 := hcell i 0 hi (by omega)
  have i1 := hcell i 1 hi (by omega)
  have i2 := hcell i 2 hi (by omega)
  have k0 := hcell k 0 hk (by omega)
  have k1 := hcell k 1 hk (by omega)
  have k2 := hcell k 2 hk (by omega)
  simp only [Nat.add_zero, ints] at i0 i1 i2 k0 k1 k2
  have d0 := fun y : After w => y.cell hc hl
  have d1 := fun y : After w => y.cell i0 hbw
  have d2 := fun y : After w => y.cell i1 hbw
  have d3 := fun y : After w => y.cell i2 hbw
  have d4 := fun y : After w => y.cell k0 hbw
  have d5 := fun y : After w => y.cell k1 hbw
  have d6 := fun y : After w => y.cell k2 hbw
  clear hcell i0 i1 i2 k0 k1 k2 hc
  go_enter Try.func54, Try.ntmps54
  go_wp2
  refine region_after (by kernel_rfl) (by kernel_rfl) ?_
  repeat (go_big_quiet_step ((first | (go_at_call 45; exact Calls.after (mass_any _ _ _ (by assumption) (by omega) (by assumption) (by omega))) | (go_at_call 55; exact Calls.after_same (compare_any _ _ _)))))
  refine wpQuiet_nil ?_
  rintro _ ⟨y, rfl⟩
  go_wp2
  go_ret
  exact ⟨rfl, y.h⟩
end Go.Proofs.Ytjhhpepjjpejhaa
