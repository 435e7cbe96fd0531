/-
  Contracts on suns and a brine: whether they may be asked, what evaporates on a day, the brine after a span, of the program and of the reference. Conditions: lengths up to 2^20.
-/
import Derived.Test.YtajmebclmippeaaSunC
namespace Go.Proofs.Ytajmebclmippeaa
open Go.RowKit

theorem l6Asked_any (A : Option Addr) (n c : Nat) (F : Nat → Nat → Int) (x y area : Int) (w : World) (hn : n ≤ 1048576) (h : Rd w A n 2 (ints F)) :
    Calls Try.prog 63 #[.slice A n c, .agg #[.int .i64 x, .int .i64 y], .int .i64 area] w fun e w' => e = .returned (.bool (askedB F n x y area)) ∧ Below w.heap.size w w' := by
  have h' : Rd (w.alloc (.cells #[.int .i64 x, .int .i64 y] 32)) A n 2 (ints F) := Rd.alloc h _
  have hb0 : Below w.heap.size w (w.alloc (.cells #[.int .i64 x, .int .i64 y] 32)) := (Below.refl _ _).alloc (Nat.le_refl _) _
  cases h1 : sunsB F n
  · have HR := hide (show askedB F n x y area = false by simp [askedB, h1])
    go_enter Try.func63, Try.ntmps63
    go_wp2_with fail
    go_at_call 50
    refine (l6Good_any _ _ _ _ _ hn h').mono ?_
    rintro _ w1 ⟨rfl, hb1⟩
    go_wp2
    go_ret
    exact ⟨ret_bool HR.out.symm, gr hb0 hb1⟩
  · cases h2 : brineB x y
    · have HR := hide (show askedB F n x y area = false by simp [askedB, h2])
      go_enter Try.func63, Try.ntmps63
      go_wp2_with fail
      go_at_call 50
      refine (l6Good_any _ _ _ _ _ hn h').mono ?_
      rintro _ w1 ⟨rfl, hb1⟩
      have hc1 := bcell hb1
      go_wp2_with fail
      go_at_call 89
      refine (l2Brine_any _ _ _).mono ?_
      rintro _ w2 ⟨rfl, hb2⟩
      go_wp2
      go_ret
      exact ⟨ret_bool HR.out.symm, gr hb0 (gr hb1 hb2)⟩
    · obtain ⟨⟨x1, x2⟩, y1, y2⟩ := brineB_true h2
      have HR := hide (show askedB F n x y area = (decide (0 < x + y) && inB area 1 100000) by simp [askedB, h1, h2])
      go_enter Try.func63, Try.ntmps63
      go_wp2_with fail
      go_at_call 50
      refine (l6Good_any _ _ _ _ _ hn h').mono ?_
      rintro _ w1 ⟨rfl, hb1⟩
      have hc1 := bcell hb1
      have hy1 : w.heap.size < w1.heap.size := by have := hb1.size; simp at this; omega
      go_wp2_with fail
      go_at_call 89
      refine (l2Brine_any _ _ _).mono ?_
      rintro _ w2 ⟨rfl, hb2⟩
      have hc2 := bcell hb2
      have hy2 : w.heap.size < w2.heap.size := by have := hb2.size; omega
      go_wp2_with fail
      go_at_call 90
      refine (l2Mass_any _ _ _ x1 (by omega) y1 (by omega)).mono ?_
      rintro _ w3 ⟨rfl, hb3⟩
      go_wp2_with (first | (go_at_call 80; refine (l1In_any _ _ _ _).mono ?_; rintro _ _ ⟨rfl, rfl⟩))
      all_goals
        go_ret
        exact ⟨ret_bool (by rw [HR.out]; first | (simp [*]; done) | (simp [*]; intro; omega)), gr hb0 (gr hb1 (gr hb2 hb3))⟩
theorem isOnArea_any (A : Option Addr) (n c : Nat) (F : Nat → Nat → Int) (x y area : Int) (w : World) (hn : n ≤ 1048576) (h : Rd w A n 2 (ints F)) :
    Calls Try.prog 60 #[.slice A n c, .agg #[.int .i64 x, .int .i64 y], .int .i64 area] w fun e w' => e = .returned (.bool (askedB F n x y area)) ∧ Below w.heap.size w w' := by
  have h' : Rd (w.alloc (.cells #[.int .i64 x, .int .i64 y] 32)) A n 2 (ints F) := Rd.alloc h _
  have hb0 : Below w.heap.size w (w.alloc (.cells #[.int .i64 x, .int .i64 y] 32)) := (Below.refl _ _).alloc (Nat.le_refl _) _
  cases h1 : sunsB F n
  · have HR := hide (show askedB F n x y area = false by simp [askedB, h1])
    go_enter Try.func60, Try.ntmps60
    go_wp2_with fail
    go_at_call 17
    refine (AreSuns_any _ _ _ _ _ hn h').mono ?_
    rintro _ w1 ⟨rfl, hb1⟩
    go_wp2
    go_ret
    exact ⟨ret_bool HR.out.symm, gr hb0 hb1⟩
  · cases h2 : brineB x y
    · have HR := hide (show askedB F n x y area = false by simp [askedB, h2])
      go_enter Try.func60, Try.ntmps60
      go_wp2_with fail
      go_at_call 17
      refine (AreSuns_any _ _ _ _ _ hn h').mono ?_
      rintro _ w1 ⟨rfl, hb1⟩
      have hc1 := bcell hb1
      go_wp2_with fail
      go_at_call 88
      refine (IsBrine_any _ _ _).mono ?_
      rintro _ w2 ⟨rfl, hb2⟩
      go_wp2
      go_ret
      exact ⟨ret_bool HR.out.symm, gr hb0 (gr hb1 hb2)⟩
    · obtain ⟨⟨x1, x2⟩, y1, y2⟩ := brineB_true h2
      have HR := hide (show askedB F n x y area = (decide (0 < x + y) && inB area 1 100000) by simp [askedB, h1, h2])
      go_enter Try.func60, Try.ntmps60
      go_wp2_with fail
      go_at_call 17
      refine (AreSuns_any _ _ _ _ _ hn h').mono ?_
      rintro _ w1 ⟨rfl, hb1⟩
      have hc1 := bcell hb1
      have hy1 : w.heap.size < w1.heap.size := by have := hb1.size; simp at this; omega
      go_wp2_with fail
      go_at_call 88
      refine (IsBrine_any _ _ _).mono ?_
      rintro _ w2 ⟨rfl, hb2⟩
      have hc2 := bcell hb2
      have hy2 : w.heap.size < w2.heap.size := by have := hb2.size; omega
      go_wp2_with fail
      go_at_call 75
      refine (mass_any _ _ _ x1 (by omega) y1 (by omega)).mono ?_
      rintro _ w3 ⟨rfl, hb3⟩
      go_wp2_with (first | (go_at_call 72; refine (isArea_any _ _).mono ?_; rintro _ _ ⟨rfl, rfl⟩))
      all_goals
        go_ret
        exact ⟨ret_bool (by rw [HR.out]; first | (simp [*]; done) | (simp [*]; intro; omega)), gr hb0 (gr hb1 (gr hb2 hb3))⟩

set_option maxHeartbeats 1000000 in
theorem spec_LossOn_any (A : Option Addr) (n c : Nat) (F : Nat → Nat → Int) (x y area day : Int) (w : World) (hn : n ≤ 1048576) (h : Rd w A n 2 (ints F)) :
    Calls Try.prog 22 #[.slice A n c, .agg #[.int .i64 x, .int .i64 y], .int .i64 area, .int .i64 day] w fun e w' => e = .returned (.tuple #[.int .i64 (lossOnR F n x y area day).1, .bool (lossOnR F n x y area day).2]) ∧ Below w.heap.size w w' := by
  have h' : Rd (w.alloc (.cells #[.int .i64 x, .int .i64 y] 32)) A n 2 (ints F) := Rd.alloc h _
  have hb0 : Below w.heap.size w (w.alloc (.cells #[.int .i64 x, .int .i64 y] 32)) := (Below.refl _ _).alloc (Nat.le_refl _) _
  cases h1 : askedB F n x y area
  · have HR := hide (show lossOnR F n x y area day = (0, false) by simp [lossOnR, h1])
    go_enter Try.func22, Try.ntmps22
    go_wp2_with fail
    go_at_call 63
    refine (l6Asked_any _ _ _ _ _ _ _ _ hn h').mono ?_
    rintro _ w1 ⟨rfl, hb1⟩
    go_wp2
    go_ret2
    exact ⟨ret_p HR.out, gr hb0 hb1⟩
  · cases h2 : inB day 0 4000
    · have HR := hide (show lossOnR F n x y area day = (0, false) by simp [lossOnR, h2])
      go_enter Try.func22, Try.ntmps22
      go_wp2_with fail
      go_at_call 63
      refine (l6Asked_any _ _ _ _ _ _ _ _ hn h').mono ?_
      rintro _ w1 ⟨rfl, hb1⟩
      go_wp2_with fail
      go_at_call 64
      refine (l2Day_any _ _).mono ?_
      rintro _ _ ⟨rfl, rfl⟩
      go_wp2
      go_ret2
      exact ⟨ret_p HR.out, gr hb0 hb1⟩
    · have HR := hide (show lossOnR F n x y area day = (lossV x y area (onV F day n), true) by simp [lossOnR, h1, h2])
      obtain ⟨g1, g2, g3, g4, g5⟩ := askedB_true h1
      have ho := onV_sun (day := day) g1
      clear g1 g3
      go_enter Try.func22, Try.ntmps22
      go_wp2_with fail
      go_at_call 63
      refine (l6Asked_any _ _ _ _ _ _ _ _ hn h').mono ?_
      rintro _ w1 ⟨rfl, hb1⟩
      have hc1 := bcell hb1
      have hy1 : w.heap.size < w1.heap.size := by have := hb1.size; simp at this; omega
      have h'' := Rd.below h' hb1
      clear h'
      go_wp2_with fail
      go_at_call 64
      refine (l2Day_any _ _).mono ?_
      rintro _ _ ⟨rfl, rfl⟩
      go_wp2
      have e0 : w1.cell? ⟨w.heap.size, 0, none⟩ = some (.int .i64 x) := by go_simp
      have e1 : w1.cell? ⟨w.heap.size, 1, none⟩ = some (.int .i64 y) := by go_simp
      have a0 := fun z : After w1 => z.cell e0 hy1
      have a1 := fun z : After w1 => z.cell e1 hy1
      clear hc1
      refine region_after (by kernel_rfl) (by kernel_rfl) ?_
      repeat (go_big_quiet_step ((first | (go_at_call 66; exact Calls.after (l6On_any _ _ _ _ _ _ hn (Rd.after h'' _))) | (go_at_call 65; exact Calls.after (l6Loss_any _ _ _ _ _ g2 g4 g5 ho.1 ho.2)))))
      refine wpQuiet_nil ?_
      rintro _ ⟨z, rfl⟩
      go_wp2
      go_ret2
      exact ⟨ret_p HR.out, gr hb0 (gr hb1 z.h)⟩
set_option maxHeartbeats 1000000 in
theorem LossOn_any (A : Option Addr) (n c : Nat) (F : Nat → Nat → Int) (x y area day : Int) (w : World) (hn : n ≤ 1048576) (h : Rd w A n 2 (ints F)) :
    Calls Try.prog 21 #[.slice A n c, .agg #[.int .i64 x, .int .i64 y], .int .i64 area, .int .i64 day] w fun e w' => e = .returned (.tuple #[.int .i64 (lossOnR F n x y area day).1, .bool (lossOnR F n x y area day).2]) ∧ Below w.heap.size w w' := by
  have h' : Rd (w.alloc (.cells #[.int .i64 x, .int .i64 y] 32)) A n 2 (ints F) := Rd.alloc h _
  have hb0 : Below w.heap.size w (w.alloc (.cells #[.int .i64 x, .int .i64 y] 32)) := (Below.refl _ _).alloc (Nat.le_refl _) _
  cases h1 : askedB F n x y area
  · have HR := hide (show lossOnR F n x y area day = (0, false) by simp [lossOnR, h1])
    go_enter Try.func21, Try.ntmps21
    go_wp2_with fail
    go_at_call 60
    refine (isOnArea_any _ _ _ _ _ _ _ _ hn h').mono ?_
    rintro _ w1 ⟨rfl, hb1⟩
    go_wp2
    go_ret2
    exact ⟨ret_p HR.out, gr hb0 hb1⟩
  · cases h2 : inB day 0 4000
    · have HR := hide (show lossOnR F n x y area day = (0, false) by simp [lossOnR, h2])
      go_enter Try.func21, Try.ntmps21
      go_wp2_with fail
      go_at_call 60
      refine (isOnArea_any _ _ _ _ _ _ _ _ hn h').mono ?_
      rintro _ w1 ⟨rfl, hb1⟩
      go_wp2_with fail
      go_at_call 51
      refine (isDay_any _ _).mono ?_
      rintro _ _ ⟨rfl, rfl⟩
      go_wp2
      go_ret2
      exact ⟨ret_p HR.out, gr hb0 hb1⟩
    · have HR := hide (show lossOnR F n x y area day = (lossV x y area (onV F day n), true) by simp [lossOnR, h1, h2])
      obtain ⟨g1, g2, g3, g4, g5⟩ := askedB_true h1
      have ho := onV_sun (day := day) g1
      clear g1 g3
      go_enter Try.func21, Try.ntmps21
      go_wp2_with fail
      go_at_call 60
      refine (isOnArea_any _ _ _ _ _ _ _ _ hn h').mono ?_
      rintro _ w1 ⟨rfl, hb1⟩
      have hc1 := bcell hb1
      have hy1 : w.heap.size < w1.heap.size := by have := hb1.size; simp at this; omega
      have h'' := Rd.below h' hb1
      clear h'
      go_wp2_with fail
      go_at_call 51
      refine (isDay_any _ _).mono ?_
      rintro _ _ ⟨rfl, rfl⟩
      go_wp2
      have e0 : w1.cell? ⟨w.heap.size, 0, none⟩ = some (.int .i64 x) := by go_simp
      have e1 : w1.cell? ⟨w.heap.size, 1, none⟩ = some (.int .i64 y) := by go_simp
      have a0 := fun z : After w1 => z.cell e0 hy1
      have a1 := fun z : After w1 => z.cell e1 hy1
      clear hc1
      refine region_after (by kernel_rfl) (by kernel_rfl) ?_
      repeat (go_big_quiet_step ((first | (go_at_call 62; exact Calls.after (sunOn_any _ _ _ _ _ _ hn (Rd.after h'' _))) | (go_at_call 61; exact Calls.after (loss_any _ _ _ _ _ g2 g4 g5 ho.1 ho.2)))))
      refine wpQuiet_nil ?_
      rintro _ ⟨z, rfl⟩
      go_wp2
      go_ret2
      exact ⟨ret_p HR.out, gr hb0 (gr hb1 z.h)⟩

end Go.Proofs.Ytajmebclmippeaa
