/-
  Contracts on suns: the smallest area and the best first day, of the program and of the reference. Conditions: lengths up to 2^20.
-/
import Derived.Test.YtajmebclmippeaaSunF
import Derived.Test.YtajmebclmippeaaSunM2
namespace Go.Proofs.Ytajmebclmippeaa
open Go.RowKit

theorem field0 (a b : Value) (w : World) : (Instr.field 32 (.agg #[a, b]) 0).run Try.prog w = .ok a w := by kernel_rfl
set_option maxRecDepth 20000 in
set_option maxHeartbeats 2000000 in
theorem SmallestArea_any (A : Option Addr) (n c : Nat) (F : Nat → Nat → Int) (x y p q goal : Int) (w : World) (hn : n ≤ 1048576) (h : Rd w A n 2 (ints F)) :
    Calls Try.prog 27 #[.slice A n c, .agg #[.int .i64 x, .int .i64 y], .int .i64 p, .int .i64 q, .int .i64 goal] w fun e w' => e = .returned (.tuple #[.int .i64 (smallR F n x y p q goal).1, .bool (smallR F n x y p q goal).2]) ∧ Below w.heap.size w w' := by
  have hfld := field0
  have h' : Rd (w.alloc (.cells #[.int .i64 x, .int .i64 y] 32)) A n 2 (ints F) := Rd.alloc h _
  have hb0 : Below w.heap.size w (w.alloc (.cells #[.int .i64 x, .int .i64 y] 32)) := (Below.refl _ _).alloc (Nat.le_refl _) _
  cases h1 : askedB F n x y 1
  · have HR := hide (show smallR F n x y p q goal = (0, false) by simp [smallR, h1])
    go_enter Try.func27, Try.ntmps27
    go_wp2_with fail
    go_at_call 60
    refine (isOnArea_any _ _ _ _ _ _ _ _ hn h').mono ?_
    rintro _ w1 ⟨rfl, hb1⟩
    have hy1 : w.heap.size < w1.heap.size := by have := hb1.size; simp at this; omega
    have HW := gr hb0 hb1
    go_wp2
    go_ret2
    exact ⟨ret_p HR.out, HW⟩
  cases h2 : spanB p q
  · have HR := hide (show smallR F n x y p q goal = (0, false) by simp [smallR, h2])
    go_enter Try.func27, Try.ntmps27
    go_wp2_with fail
    go_at_call 60
    refine (isOnArea_any _ _ _ _ _ _ _ _ hn h').mono ?_
    rintro _ w1 ⟨rfl, hb1⟩
    have hy1 : w.heap.size < w1.heap.size := by have := hb1.size; simp at this; omega
    have HW := gr hb0 hb1
    go_wp2_with fail
    go_at_call 67
    refine (areDays_any _ _ _).mono ?_
    rintro _ _ ⟨rfl, rfl⟩
    go_wp2
    go_ret2
    exact ⟨ret_p HR.out, HW⟩
  by_cases h3 : 0 ≤ goal
  rotate_left
  · have HR := hide (show smallR F n x y p q goal = (0, false) by simp [smallR, h3])
    have h3' : goal < 0 := by omega
    go_enter Try.func27, Try.ntmps27
    go_wp2_with fail
    go_at_call 60
    refine (isOnArea_any _ _ _ _ _ _ _ _ hn h').mono ?_
    rintro _ w1 ⟨rfl, hb1⟩
    have hy1 : w.heap.size < w1.heap.size := by have := hb1.size; simp at this; omega
    have HW := gr hb0 hb1
    go_wp2_with fail
    go_at_call 67
    refine (areDays_any _ _ _).mono ?_
    rintro _ _ ⟨rfl, rfl⟩
    go_wp2
    go_ret2
    exact ⟨ret_p HR.out, HW⟩
  obtain ⟨g1, g2, -, -, -⟩ := askedB_true h1
  have HV := hide g1
  have HB := hide g2
  have HR : Hid (smallR F n x y p q goal = smallV (firstB (fun i => decide (afterW F ((i : Int) + 1) x y p q n ≤ goal)) maxAreas)) := by
    unfold Hid smallR; rw [h1, h2, decide_eq_true h3]; exact if_pos rfl
  obtain ⟨N, hN⟩ : ∃ N, N = maxAreas := ⟨_, rfl⟩
  rw [← hN] at HR
  have hN1 : N ≤ 100000 := by rw [hN]; exact Nat.le_refl _
  have hN2 : 100000 ≤ N := by rw [hN]; exact Nat.le_refl _
  clear g1 g2 hN
  go_enter Try.func27, Try.ntmps27
  go_wp2_with fail
  go_at_call 60
  refine (isOnArea_any _ _ _ _ _ _ _ _ hn h').mono ?_
  rintro _ w1 ⟨rfl, hb1⟩
  have hy1 : w.heap.size < w1.heap.size := by have := hb1.size; simp at this; omega
  have HW := gr hb0 hb1
  have o1 := (box2_new w 32 (.int .i64 x) (.int .i64 y)).below hb1 (by simp)
  go_wp2_with fail
  go_at_call 67
  refine (areDays_any _ _ _).mono ?_
  rintro _ _ ⟨rfl, rfl⟩
  go_wp2
  go_loopw [12] (fun i wr => ∃ k : Nat, k ≤ N ∧ i = .int .i64 ((k : Int) + 1) ∧ Ow wr w.heap.size (w.heap.size + 1) (some ⟨w.heap.size, 0, none⟩) 1 2 (fun _ j => #[.int .i64 x, .int .i64 y][j]!) ∧
     firstB (fun i => decide (afterW F ((i : Int) + 1) x y p q n ≤ goal)) k = none ∧ w.heap.size < wr.heap.size ∧ Below w.heap.size w wr) (fun i _ => N + 1 - (intOf i).toNat)
  case atStart => exact ⟨0, by omega, rfl, o1, rfl, hy1, HW⟩
  case round =>
    obtain ⟨k, hk, rfl, p1, hf, hs, hb⟩ := hrel
    have HF := hide hf
    clear hf
    obtain ⟨b0, b1, b2, b3⟩ := box2 p1
    by_cases hlt : k < N
    · have hin : inB ((k : Int) + 1) 1 100000 = true := inB_of (by omega) (by omega)
      go_wp2_with fail
      go_at_call 72
      refine (isArea_any _ _).mono ?_
      rintro _ _ ⟨rfl, rfl⟩
      go_wp2_with fail
      go_at_call 68
      refine (afterSun_any _ _ _ _ _ _ _ _ _ _ hn (Rd.below h hb) HV HB (by omega) (by omega)).mono ?_
      rintro _ w2 ⟨rfl, hb2⟩
      have hs2 := hb2.size
      by_cases hq : afterW F ((k : Int) + 1) x y p q n ≤ goal
      · go_wp2
        go_ret2
        exact ⟨ret_p (by rw [HR.out, firstB_at HF.out (by simpa using hq) hlt]; rfl), gr hb hb2⟩
      · go_wp2
        go_roundw
        case rel => exact ⟨k + 1, by omega, by go_num, p1.below hb2 (by omega), firstB_succ_none HF.out (by simpa using hq), by omega, gr hb hb2⟩
        case measure => simp [intOf]; omega
    · have hin : inB ((k : Int) + 1) 1 100000 = false := by unfold inB; simp; omega
      have HE := hide (show k = N by omega)
      go_wp2_with fail
      go_at_call 72
      refine (isArea_any _ _).mono ?_
      rintro _ _ ⟨rfl, rfl⟩
      go_wp2
      go_ret2
      exact ⟨ret_p (by rw [HR.out, ← HE.out, HF.out]; rfl), hb⟩

set_option maxRecDepth 20000 in
set_option maxHeartbeats 2000000 in
theorem spec_SmallestArea_any (A : Option Addr) (n c : Nat) (F : Nat → Nat → Int) (x y p q goal : Int) (w : World) (hn : n ≤ 1048576) (h : Rd w A n 2 (ints F)) :
    Calls Try.prog 28 #[.slice A n c, .agg #[.int .i64 x, .int .i64 y], .int .i64 p, .int .i64 q, .int .i64 goal] w fun e w' => e = .returned (.tuple #[.int .i64 (smallR F n x y p q goal).1, .bool (smallR F n x y p q goal).2]) ∧ Below w.heap.size w w' := by
  have hfld := field0
  have h' : Rd (w.alloc (.cells #[.int .i64 x, .int .i64 y] 32)) A n 2 (ints F) := Rd.alloc h _
  have hb0 : Below w.heap.size w (w.alloc (.cells #[.int .i64 x, .int .i64 y] 32)) := (Below.refl _ _).alloc (Nat.le_refl _) _
  cases h1 : askedB F n x y 1
  · have HR := hide (show smallR F n x y p q goal = (0, false) by simp [smallR, h1])
    go_enter Try.func28, Try.ntmps28
    go_wp2_with fail
    go_at_call 63
    refine (l6Asked_any _ _ _ _ _ _ _ _ hn h').mono ?_
    rintro _ w1 ⟨rfl, hb1⟩
    have hy1 : w.heap.size < w1.heap.size := by have := hb1.size; simp at this; omega
    have HW := gr hb0 hb1
    go_wp2
    go_ret2
    exact ⟨ret_p HR.out, HW⟩
  cases h2 : spanB p q
  · have HR := hide (show smallR F n x y p q goal = (0, false) by simp [smallR, h2])
    go_enter Try.func28, Try.ntmps28
    go_wp2_with fail
    go_at_call 63
    refine (l6Asked_any _ _ _ _ _ _ _ _ hn h').mono ?_
    rintro _ w1 ⟨rfl, hb1⟩
    have hy1 : w.heap.size < w1.heap.size := by have := hb1.size; simp at this; omega
    have HW := gr hb0 hb1
    go_wp2_with fail
    go_at_call 70
    refine (l6Span_any _ _ _).mono ?_
    rintro _ _ ⟨rfl, rfl⟩
    go_wp2
    go_ret2
    exact ⟨ret_p HR.out, HW⟩
  by_cases h3 : 0 ≤ goal
  rotate_left
  · have HR := hide (show smallR F n x y p q goal = (0, false) by simp [smallR, h3])
    have h3' : goal < 0 := by omega
    go_enter Try.func28, Try.ntmps28
    go_wp2_with fail
    go_at_call 63
    refine (l6Asked_any _ _ _ _ _ _ _ _ hn h').mono ?_
    rintro _ w1 ⟨rfl, hb1⟩
    have hy1 : w.heap.size < w1.heap.size := by have := hb1.size; simp at this; omega
    have HW := gr hb0 hb1
    go_wp2_with fail
    go_at_call 70
    refine (l6Span_any _ _ _).mono ?_
    rintro _ _ ⟨rfl, rfl⟩
    go_wp2
    go_ret2
    exact ⟨ret_p HR.out, HW⟩
  obtain ⟨g1, g2, -, -, -⟩ := askedB_true h1
  have HV := hide g1
  have HB := hide g2
  have HR : Hid (smallR F n x y p q goal = smallV (firstB (fun i => decide (afterW F ((i : Int) + 1) x y p q n ≤ goal)) maxAreas)) := by
    unfold Hid smallR; rw [h1, h2, decide_eq_true h3]; exact if_pos rfl
  obtain ⟨N, hN⟩ : ∃ N, N = maxAreas := ⟨_, rfl⟩
  rw [← hN] at HR
  have hN1 : N ≤ 100000 := by rw [hN]; exact Nat.le_refl _
  have hN2 : 100000 ≤ N := by rw [hN]; exact Nat.le_refl _
  clear g1 g2 hN
  go_enter Try.func28, Try.ntmps28
  go_wp2_with fail
  go_at_call 63
  refine (l6Asked_any _ _ _ _ _ _ _ _ hn h').mono ?_
  rintro _ w1 ⟨rfl, hb1⟩
  have hy1 : w.heap.size < w1.heap.size := by have := hb1.size; simp at this; omega
  have HW := gr hb0 hb1
  have o1 := (box2_new w 32 (.int .i64 x) (.int .i64 y)).below hb1 (by simp)
  have hmono := hide (fun (a b : Int) (ha : 1 ≤ a) (hab : a ≤ b) (hb2 : b ≤ 100000) => afterW_area (p := p) (q := q) HV.out HB.out ha hab hb2 n (Nat.le_refl _))
  obtain ⟨b0, b1, b2, b3⟩ := box2 o1
  have hr1 := Rd.below h' hb1
  go_wp2_with fail
  go_at_call 70
  refine (l6Span_any _ _ _).mono ?_
  rintro _ _ ⟨rfl, rfl⟩
  go_wp2_with fail
  go_at_call 71
  refine (l6After_any _ _ _ _ _ _ _ _ _ _ hn hr1 HV HB (by omega) (by omega)).mono ?_
  rintro _ w2 ⟨rfl, hb2⟩
  have hs2 := hb2.size
  by_cases hq : afterW F 100000 x y p q n ≤ goal
  rotate_left
  · have hq' : goal < afterW F 100000 x y p q n := by omega
    go_wp2
    go_ret2
    exact ⟨ret_p (by
      rw [HR.out, firstB_eq_none (fun j hj => by
        have := hmono.out ((j : Int) + 1) 100000 (by omega) (by omega) (Int.le_refl _)
        simp; omega)]
      rfl), gr HW hb2⟩
  have p1 := o1.below hb2 (by omega)
  replace HW := gr HW hb2
  replace hy1 : w.heap.size < w2.heap.size := by omega
  go_wp2
  clear b0 b1 b2 b3 hs2 hr1 o1
  go_loopw [12, 13] (fun lo hi wr => ∃ a b : Int, lo = .int .i64 a ∧ hi = .int .i64 b ∧ 1 ≤ a ∧ a ≤ b ∧ b ≤ 100000 ∧ afterW F b x y p q n ≤ goal ∧ (∀ i, 1 ≤ i → i < a → goal < afterW F i x y p q n) ∧ Ow wr w.heap.size (w.heap.size + 1) (some ⟨w.heap.size, 0, none⟩) 1 2 (fun _ j => #[.int .i64 x, .int .i64 y][j]!) ∧
     w.heap.size < wr.heap.size ∧ Below w.heap.size w wr) (fun lo hi _ => (intOf hi - intOf lo).toNat)
  case atStart => exact ⟨1, 100000, rfl, rfl, by omega, by omega, by omega, hq, fun i _ _ => by omega, p1, hy1, HW⟩
  case round =>
    obtain ⟨a, b, rfl, rfl, h1a, hab, hb1', hgb, hga, p1, hs, hb⟩ := hrel
    have Hga := hide hga
    have Hgb := hide hgb
    clear hga hgb
    obtain ⟨b0, b1, b2, b3⟩ := box2 p1
    by_cases hlt : a < b
    · go_wp2_with fail
      go_at_call 71
      refine (l6After_any _ _ _ _ _ _ _ _ _ _ hn (Rd.below h hb) HV HB (by omega) (by omega)).mono ?_
      rintro _ w3 ⟨rfl, hb3⟩
      have hs3 := hb3.size
      have hm1 : a ≤ (a + b) / 2 := by omega
      have hm2 : (a + b) / 2 < b := by omega
      have HM := hide (fun i (h1 : 1 ≤ i) (h2 : i ≤ (a + b) / 2) => hmono.out i ((a + b) / 2) h1 h2 (by omega))
      by_cases hq2 : afterW F ((a + b) / 2) x y p q n ≤ goal
      · go_wp2
        go_roundw
        case rel => exact ⟨a, (a + b) / 2, rfl, rfl, h1a, hm1, by omega, hq2, Hga.out, p1.below hb3 (by omega), by omega, gr hb hb3⟩
        case measure => simp [intOf]; omega
      · go_wp2
        go_roundw
        case rel => exact ⟨(a + b) / 2 + 1, b, by go_num, rfl, by omega, by omega, hb1', Hgb.out, fun i h1 h2 => by have := HM.out i h1 (by omega); omega, p1.below hb3 (by omega), by omega, gr hb hb3⟩
        case measure => simp [intOf]; omega
    · have HE := hide (show a = b by omega)
      go_wp2
      go_ret2
      exact ⟨ret_p (by
        rw [HR.out, firstB_eq (i := (a - 1).toNat) (by omega) (by
          have e : (((a - 1).toNat : Nat) : Int) + 1 = a := by omega
          simp only [e, decide_eq_true_eq]
          rw [HE.out]; exact Hgb.out) (fun j hj => by
          have := Hga.out ((j : Int) + 1) (by omega) (by omega)
          simp; omega)]
        simp only [smallV, Prod.mk.injEq, and_true]
        omega), hb⟩

set_option maxHeartbeats 2000000 in
theorem l1Most_any (a b : Int) (w : World) :
    Calls Try.prog 81 #[.int .i64 a, .int .i64 b] w fun e w' => e = .returned (.int .i64 (max a b)) ∧ w = w' := by
  by_cases h : b < a
  · have H := hide (show max a b = a by omega)
    go_enter Try.func81, Try.ntmps81
    go_wp2
    go_ret
    exact ⟨ret_int H.out.symm, rfl⟩
  · have H := hide (show max a b = b by omega)
    go_enter Try.func81, Try.ntmps81
    go_wp2
    go_ret
    exact ⟨ret_int H.out.symm, rfl⟩
end Go.Proofs.Ytajmebclmippeaa
