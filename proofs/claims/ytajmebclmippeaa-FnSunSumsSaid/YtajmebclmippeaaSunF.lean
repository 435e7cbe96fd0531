/-
  Contracts on suns and a brine: the first day after which it is strong, of the program and of the reference. Conditions: lengths up to 2^20.
-/
import Derived.Test.YtajmebclmippeaaSunE
import Derived.Test.YtajmebclmippeaaSunM
namespace Go.Proofs.Ytajmebclmippeaa
open Go.RowKit

theorem isStrength_any (num den : Int) (w : World) :
    Calls Try.prog 74 #[.int .i64 num, .int .i64 den] w fun e w' => e = .returned (.bool (rateB num den)) ∧ w = w' := by
  have HR := hide (show rateB num den = (decide (1 ≤ num) && decide (num ≤ den) && decide (den ≤ 1000)) from rfl)
  go_enter Try.func74, Try.ntmps74
  go_wp2
  all_goals go_ret
  all_goals exact ⟨ret_bool (by rw [HR.out]; first | (simp [*]; done) | (simp [*]; omega)), rfl⟩
theorem l2Rate_any (num den : Int) (w : World) :
    Calls Try.prog 76 #[.int .i64 num, .int .i64 den] w fun e w' => e = .returned (.bool (rateB num den)) ∧ w = w' := by
  have HR := hide (show rateB num den = (inB num 1 den && decide (den ≤ 1000)) from rfl)
  cases h1 : inB num 1 den <;>
  · go_enter Try.func76, Try.ntmps76
    go_wp2_with (first | (go_at_call 80; refine (l1In_any _ _ _ _).mono ?_; rintro _ _ ⟨rfl, rfl⟩))
    go_ret
    exact ⟨ret_bool (by rw [HR.out]; simp [h1]), rfl⟩

theorem l6Strong_any (x y num den : Int) (w : World) (HB : Hid (brineB x y = true)) (hr : Hid (rateB num den = true)) :
    Calls Try.prog 77 #[.agg #[.int .i64 x, .int .i64 y], .int .i64 num, .int .i64 den] w fun e w' => e = .returned (.bool (strongB x y num den)) ∧ Below w.heap.size w w' := by
  have HR := hide (show strongB x y num den = (decide (0 < x + y) && decide (num * (x + y) ≤ y * den)) from rfl)
  obtain ⟨⟨b1, b2⟩, b3, b4⟩ := strong_bd HB.out hr.out
  obtain ⟨⟨x1, x2⟩, y1, y2⟩ := brineB_true HB.out
  have HW := hide (rateB_true hr.out)
  by_cases hc : num * (x + y) ≤ y * den
  · have hc' : decide (num * (x + y) ≤ y * den) = true := by simpa using hc
    go_enter Try.func77, Try.ntmps77
    go_wp2
    have hb_w1 : Below w.heap.size w (w.alloc (.cells #[.int .i64 x, .int .i64 y] 32)) := (Below.refl _ _).alloc (Nat.le_refl _) _
    have gc1_w1 : World.cell? (w.alloc (.cells #[.int .i64 x, .int .i64 y] 32)) ⟨w.heap.size, 0, none⟩ = some (.int .i64 x) := by go_simp
    have gc2_w1 : World.cell? (w.alloc (.cells #[.int .i64 x, .int .i64 y] 32)) ⟨w.heap.size, 1, none⟩ = some (.int .i64 y) := by go_simp
    have hz_w1 : w.heap.size < (World.heap (w.alloc (.cells #[.int .i64 x, .int .i64 y] 32))).size := by simp
    generalize w.alloc (.cells #[.int .i64 x, .int .i64 y] 32) = w1 at hb_w1 gc1_w1 gc2_w1 hz_w1 ⊢
    have hca := acell w1
    refine region_after (by kernel_rfl) (by kernel_rfl) ?_
    repeat (go_big_quiet_step ((first | (go_at_call 90; exact Calls.after (l2Mass_any _ _ _ x1 (by omega) y1 (by omega))))))
    refine wpQuiet_nil ?_
    rintro _ ⟨z, rfl⟩
    go_wp2
    go_ret
    exact ⟨ret_bool (by rw [HR.out, hc']; simp), gr hb_w1 z.h⟩
  · have hc' : decide (num * (x + y) ≤ y * den) = false := by simpa using hc
    go_enter Try.func77, Try.ntmps77
    go_wp2
    have hb_w1 : Below w.heap.size w (w.alloc (.cells #[.int .i64 x, .int .i64 y] 32)) := (Below.refl _ _).alloc (Nat.le_refl _) _
    have gc1_w1 : World.cell? (w.alloc (.cells #[.int .i64 x, .int .i64 y] 32)) ⟨w.heap.size, 0, none⟩ = some (.int .i64 x) := by go_simp
    have gc2_w1 : World.cell? (w.alloc (.cells #[.int .i64 x, .int .i64 y] 32)) ⟨w.heap.size, 1, none⟩ = some (.int .i64 y) := by go_simp
    have hz_w1 : w.heap.size < (World.heap (w.alloc (.cells #[.int .i64 x, .int .i64 y] 32))).size := by simp
    generalize w.alloc (.cells #[.int .i64 x, .int .i64 y] 32) = w1 at hb_w1 gc1_w1 gc2_w1 hz_w1 ⊢
    have hca := acell w1
    refine region_after (by kernel_rfl) (by kernel_rfl) ?_
    repeat (go_big_quiet_step ((first | (go_at_call 90; exact Calls.after (l2Mass_any _ _ _ x1 (by omega) y1 (by omega))))))
    refine wpQuiet_nil ?_
    rintro _ ⟨z, rfl⟩
    go_wp2
    go_ret
    exact ⟨ret_bool (by rw [HR.out, hc']; simp), gr hb_w1 z.h⟩

set_option maxRecDepth 20000 in
set_option maxHeartbeats 2000000 in
theorem StrongOn_any (A : Option Addr) (n c : Nat) (F : Nat → Nat → Int) (x y area num den : Int) (w : World) (hn : n ≤ 1048576) (h : Rd w A n 2 (ints F)) :
    Calls Try.prog 30 #[.slice A n c, .agg #[.int .i64 x, .int .i64 y], .int .i64 area, .int .i64 num, .int .i64 den] w fun e w' => e = .returned (.tuple #[.int .i64 (strongOnR F n x y area num den).1, .bool (strongOnR F n x y area num den).2]) ∧ Below w.heap.size w w' := by
  have h' : Rd (w.alloc (.cells #[.int .i64 x, .int .i64 y] 32)) A n 2 (ints F) := Rd.alloc h _
  have hb0 : Below w.heap.size w (w.alloc (.cells #[.int .i64 x, .int .i64 y] 32)) := (Below.refl _ _).alloc (Nat.le_refl _) _
  have HU := hide (show strongOnR F n x y area num den = strongOnR F n x y area num den from rfl)
  cases h1 : askedB F n x y area
  · have HR := hide (show strongOnR F n x y area num den = (0, false) by simp [strongOnR, h1])
    go_enter Try.func30, Try.ntmps30
    go_wp2_with fail
    go_at_call 60
    refine (isOnArea_any _ _ _ _ _ _ _ _ hn h').mono ?_
    rintro _ w1 ⟨rfl, hb1⟩
    have hy1 : w.heap.size < w1.heap.size := by have := hb1.size; simp at this; omega
    have HW := gr hb0 hb1
    go_wp2
    go_ret2
    exact ⟨ret_p HR.out, HW⟩
  cases h2 : rateB num den
  · have HR := hide (show strongOnR F n x y area num den = (0, false) by simp [strongOnR, h2])
    go_enter Try.func30, Try.ntmps30
    go_wp2_with fail
    go_at_call 60
    refine (isOnArea_any _ _ _ _ _ _ _ _ hn h').mono ?_
    rintro _ w1 ⟨rfl, hb1⟩
    have hy1 : w.heap.size < w1.heap.size := by have := hb1.size; simp at this; omega
    have HW := gr hb0 hb1
    go_wp2_with fail
    go_at_call 74
    refine (isStrength_any _ _ _).mono ?_
    rintro _ _ ⟨rfl, rfl⟩
    go_wp2
    go_ret2
    exact ⟨ret_p HR.out, HW⟩
  obtain ⟨g1, g2, -, g4, g5⟩ := askedB_true h1
  have HV := hide g1
  have HB := hide g2
  have HT := hide h2
  clear g1 g2 HU
  go_enter Try.func30, Try.ntmps30
  go_wp2_with fail
  go_at_call 60
  refine (isOnArea_any _ _ _ _ _ _ _ _ hn h').mono ?_
  rintro _ w1 ⟨rfl, hb1⟩
  have hy1 : w.heap.size < w1.heap.size := by have := hb1.size; simp at this; omega
  have HW := gr hb0 hb1
  have hc1 := bcell hb1
  go_wp2_with fail
  go_at_call 74
  refine (isStrength_any _ _ _).mono ?_
  rintro _ _ ⟨rfl, rfl⟩
  go_wp2
  have o1 := Ow.below (box2_new w 32 (.int .i64 x) (.int .i64 y)) hb1 (by simp)
  have h'' := Rd.below h hb0
  clear hc1
  have HR : Hid (strongOnR F n x y area num den = strongOnV (firstB (fun d => strongB (dayW F n area x y (d + 1)) y num den) maxDays)) := by unfold Hid strongOnR; rw [h1, HT.out]; exact if_pos rfl
  obtain ⟨N, hN⟩ : ∃ N, N = maxDays := ⟨_, rfl⟩
  rw [← hN] at HR
  have hN1 : N ≤ 4001 := by rw [hN]; exact Nat.le_refl _
  have hN2 : 4001 ≤ N := by rw [hN]; exact Nat.le_refl _
  clear hN
  go_loopw [24] (fun i wr => ∃ k : Nat, k ≤ N ∧ i = .int .i64 k ∧ Ow wr w.heap.size (w.heap.size + 1) (some ⟨w.heap.size, 0, none⟩) 1 2 (fun _ j => #[.int .i64 (dayW F n area x y k), .int .i64 y][j]!) ∧
     firstB (fun d => strongB (dayW F n area x y (d + 1)) y num den) k = none ∧ w.heap.size < wr.heap.size ∧ Below w.heap.size w wr) (fun i _ => N - (intOf i).toNat)
  case atStart => exact ⟨0, by omega, rfl, o1, rfl, hy1, HW⟩
  case round =>
    obtain ⟨k, hk, rfl, p1, hf, hs, hb⟩ := hrel
    have HF := hide hf
    clear hf
    obtain ⟨b0, b1, b2, b3⟩ := box2 p1
    by_cases hlt : k < N
    · have hbk := hide (dayW_brine HV.out HB.out g4 g5 k)
      have hbk1 := hide (dayW_brine HV.out HB.out g4 g5 (k + 1))
      have HS := hide (show afterW F area (dayW F n area x y k) y k k n = dayW F n area x y (k + 1) from rfl)
      go_wp2_with fail
      go_at_call 68
      refine (afterSun_any _ _ _ _ _ _ _ _ _ _ hn (Rd.below h hb) HV hbk g4 g5).mono ?_
      rintro _ w2 ⟨rfl, hb2⟩
      rw [HS.out]
      have HF1 := hide (fun hp : strongB (dayW F n area x y (k + 1)) y num den = true => firstB_at HF.out hp hlt)
      have HF2 := hide (fun hp : strongB (dayW F n area x y (k + 1)) y num den = false => firstB_succ_none HF.out hp)
      generalize hWW : dayW F n area x y (k + 1) = W at hbk1 HF1 HF2 ⊢
      have HWW := hide hWW
      clear hWW HS
      have p2 := p1.below hb2 (by omega)
      obtain ⟨c0, c1, c2, c3⟩ := box2 p2
      have hz2 : w.heap.size < w2.heap.size := Nat.lt_of_lt_of_le hs hb2.size
      go_upto_region 7 with fail
      have p3 := box2_set p2 (.int .i64 W) (.int .i64 y)
      have hb3 : Below w.heap.size w ((w2.setCell ⟨w.heap.size, 0, none⟩ (.int .i64 W)).setCell ⟨w.heap.size, 1, none⟩ (.int .i64 y)) := ((gr hb hb2).setCell (p := ⟨w.heap.size, 0, none⟩) (Nat.le_refl _) _).setCell (p := ⟨w.heap.size, 1, none⟩) (Nat.le_refl _) _
      have hz3 : w.heap.size < ((w2.setCell ⟨w.heap.size, 0, none⟩ (.int .i64 W)).setCell ⟨w.heap.size, 1, none⟩ (.int .i64 y)).heap.size := by simpa using hz2
      generalize (w2.setCell ⟨w.heap.size, 0, none⟩ (.int .i64 W)).setCell ⟨w.heap.size, 1, none⟩ (.int .i64 y) = w3 at p3 hb3 hz3 ⊢
      clear c0 c1 c2 c3 b0 b1 b2 b3 p2
      obtain ⟨c0, c1, c2, c3⟩ := box2 p3
      have hca := acell w3
      obtain ⟨⟨v1, v2⟩, v3, v4⟩ := strong_bd hbk1.out HT.out
      obtain ⟨⟨x1, x2⟩, y1, y2⟩ := brineB_true hbk1.out
      have HS := hide (show strongB W y num den = (decide (0 < W + y) && decide (num * (W + y) ≤ y * den)) from rfl)
      by_cases hm : 0 < W + y
      · refine region_after (by kernel_rfl) (by kernel_rfl) ?_
        repeat (go_big_quiet_step ((first | (go_at_call 75; exact Calls.after (mass_any _ _ _ x1 (by omega) y1 (by omega))))))
        refine wpQuiet_nil ?_
        rintro _ ⟨z, rfl⟩
        by_cases hq : num * (W + y) ≤ y * den
        · go_wp2
          go_ret2
          exact ⟨ret_p (by rw [HR.out, HF1.out (by rw [HS.out]; simp [hm, hq])]; rfl), gr hb3 z.h⟩
        · go_wp2
          have hbz := z.h
          have hsz := hbz.size
          go_roundw
          case rel => exact ⟨k + 1, by omega, by go_num, (by rw [HWW.out]; exact p3.below hbz (by omega)), HF2.out (by rw [HS.out]; simp [hm, hq]), by omega, gr hb3 hbz⟩
          case measure => simp [intOf]; omega
      · have hm' : decide (0 < W + y) = false := by simpa using hm
        refine region_after (by kernel_rfl) (by kernel_rfl) ?_
        repeat (go_big_quiet_step ((first | (go_at_call 75; exact Calls.after (mass_any _ _ _ x1 (by omega) y1 (by omega))))))
        refine wpQuiet_nil ?_
        rintro _ ⟨z, rfl⟩
        go_wp2
        have hbz := z.h
        have hsz := hbz.size
        go_roundw
        case rel => exact ⟨k + 1, by omega, by go_num, (by rw [HWW.out]; exact p3.below hbz (by omega)), HF2.out (by rw [HS.out, hm']; rfl), by omega, gr hb3 hbz⟩
        case measure => simp [intOf]; omega
    · have HE := hide (show k = N by omega)
      go_wp2
      go_ret2
      exact ⟨ret_p (by rw [HR.out, ← HE.out, HF.out]; rfl), hb⟩

set_option maxHeartbeats 2000000 in
theorem spec_StrongOn_any (A : Option Addr) (n c : Nat) (F : Nat → Nat → Int) (x y area num den : Int) (w : World) (hn : n ≤ 1048576) (h : Rd w A n 2 (ints F)) :
    Calls Try.prog 31 #[.slice A n c, .agg #[.int .i64 x, .int .i64 y], .int .i64 area, .int .i64 num, .int .i64 den] w fun e w' => e = .returned (.tuple #[.int .i64 (strongOnS F n x y area num den).1, .bool (strongOnS F n x y area num den).2]) ∧ Below w.heap.size w w' := by
  have h' : Rd (w.alloc (.cells #[.int .i64 x, .int .i64 y] 32)) A n 2 (ints F) := Rd.alloc h _
  have hb0 : Below w.heap.size w (w.alloc (.cells #[.int .i64 x, .int .i64 y] 32)) := (Below.refl _ _).alloc (Nat.le_refl _) _
  have HU := hide (show strongOnS F n x y area num den = strongOnS F n x y area num den from rfl)
  cases h1 : askedB F n x y area
  · have HR := hide (show strongOnS F n x y area num den = (0, false) by simp [strongOnS, h1])
    go_enter Try.func31, Try.ntmps31
    go_wp2_with fail
    go_at_call 63
    refine (l6Asked_any _ _ _ _ _ _ _ _ hn h').mono ?_
    rintro _ w1 ⟨rfl, hb1⟩
    have hy1 : w.heap.size < w1.heap.size := by have := hb1.size; simp at this; omega
    have HW := gr hb0 hb1
    go_wp2
    go_ret2
    exact ⟨ret_p HR.out, HW⟩
  cases h2 : rateB num den
  · have HR := hide (show strongOnS F n x y area num den = (0, false) by simp [strongOnS, h2])
    go_enter Try.func31, Try.ntmps31
    go_wp2_with fail
    go_at_call 63
    refine (l6Asked_any _ _ _ _ _ _ _ _ hn h').mono ?_
    rintro _ w1 ⟨rfl, hb1⟩
    have hy1 : w.heap.size < w1.heap.size := by have := hb1.size; simp at this; omega
    have HW := gr hb0 hb1
    go_wp2_with fail
    go_at_call 76
    refine (l2Rate_any _ _ _).mono ?_
    rintro _ _ ⟨rfl, rfl⟩
    go_wp2
    go_ret2
    exact ⟨ret_p HR.out, HW⟩
  obtain ⟨g1, g2, -, g4, g5⟩ := askedB_true h1
  have HV := hide g1
  have HB := hide g2
  have HT := hide h2
  clear g1 g2 HU
  go_enter Try.func31, Try.ntmps31
  go_wp2_with fail
  go_at_call 63
  refine (l6Asked_any _ _ _ _ _ _ _ _ hn h').mono ?_
  rintro _ w1 ⟨rfl, hb1⟩
  have hy1 : w.heap.size < w1.heap.size := by have := hb1.size; simp at this; omega
  have HW := gr hb0 hb1
  have hc1 := bcell hb1
  go_wp2_with fail
  go_at_call 76
  refine (l2Rate_any _ _ _).mono ?_
  rintro _ _ ⟨rfl, rfl⟩
  have hr1 := Rd.below h' hb1
  have hz0 := hide (afterW_brine (a := 0) (b := 0) HV.out HB.out g4 g5 n (Nat.le_refl _))
  go_wp2_with fail
  go_at_call 71
  refine (l6After_any _ _ _ _ _ _ _ _ _ _ hn hr1 HV HB g4 g5).mono ?_
  rintro _ w2 ⟨rfl, hb2⟩
  go_wp2_with fail
  go_at_call 77
  refine (l6Strong_any _ _ _ _ _ hz0 HT).mono ?_
  rintro _ w3 ⟨rfl, hb3⟩
  have o1 := ((box2_new w 32 (.int .i64 x) (.int .i64 y)).below hb1 (by simp)).below hb2 (by omega)
  have hs2 := hb2.size
  have hs3 := hb3.size
  replace o1 := o1.below hb3 (by omega)
  replace HW := gr HW (gr hb2 hb3)
  replace hy1 : w.heap.size < w3.heap.size := by omega
  clear hc1 hs2 hs3
  have HR : Hid (strongOnS F n x y area num den = if strongB (afterW F area x y 0 0 n) y num den then (0, true) else strongOnU F (firstB (fun i => strongB (afterW F area x y 0 (F i 0) n) y num den) n)) := by
    unfold Hid strongOnS; rw [h1, HT.out]; exact if_pos rfl
  cases hs0 : strongB (afterW F area x y 0 0 n) y num den
  rotate_left
  · go_wp2
    go_ret2
    exact ⟨ret_p (by rw [HR.out, hs0]; rfl), HW⟩
  replace HR : Hid (strongOnS F n x y area num den = strongOnU F (firstB (fun i => strongB (afterW F area x y 0 (F i 0) n) y num den) n)) := by
    unfold Hid; rw [HR.out, hs0]; rfl
  go_wp2
  go_loopw [12] (fun i wr => ∃ k : Nat, k ≤ n ∧ i = .int .i64 k ∧ Ow wr w.heap.size (w.heap.size + 1) (some ⟨w.heap.size, 0, none⟩) 1 2 (fun _ j => #[.int .i64 x, .int .i64 y][j]!) ∧
     firstB (fun i => strongB (afterW F area x y 0 (F i 0) n) y num den) k = none ∧ w.heap.size < wr.heap.size ∧ Below w.heap.size w wr) (fun i _ => n - (intOf i).toNat)
  case atStart => exact ⟨0, by omega, rfl, o1, rfl, hy1, HW⟩
  case round =>
    obtain ⟨k, hk, rfl, p1, hf, hs, hb⟩ := hrel
    have HF := hide hf
    clear hf
    obtain ⟨b0, b1, b2, b3⟩ := box2 p1
    by_cases hlt : k < n
    · obtain ⟨q, off, hA, -, hbw, hc⟩ := Rd.below h hb (by omega)
      subst hA
      have hc0 := hc k 0 hlt (by omega)
      simp only [Nat.add_zero] at hc0
      clear hc
      have hz := hide (afterW_brine (a := 0) (b := F k 0) HV.out HB.out g4 g5 n (Nat.le_refl _))
      have hca := acell wr
      have hq := fun z : After wr => Rd.after (Rd.below h hb) z
      have HF1 := hide (fun hp : strongB (afterW F area x y 0 (F k 0) n) y num den = true => firstB_at HF.out hp hlt)
      have HF2 := hide (fun hp : strongB (afterW F area x y 0 (F k 0) n) y num den = false => firstB_succ_none HF.out hp)
      go_wp2
      refine region_after (by kernel_rfl) (by kernel_rfl) ?_
      repeat (go_big_quiet_step ((first | (go_at_call 71; exact Calls.after (l6After_any _ _ _ _ _ _ _ _ _ _ hn (hq _) HV HB g4 g5)) | (go_at_call 77; exact Calls.after (l6Strong_any _ _ _ _ _ hz HT)))))
      refine wpQuiet_nil ?_
      rintro _ ⟨z, rfl⟩
      have hsz := z.h.size
      cases hp : strongB (afterW F area x y 0 (F k 0) n) y num den
      · go_wp2
        go_roundw
        case rel => exact ⟨k + 1, by omega, by go_num, p1.below z.h (by omega), HF2.out hp, by omega, gr hb z.h⟩
        case measure => simp [intOf]; omega
      · go_wp2
        go_ret2
        exact ⟨ret_p (by rw [HR.out, HF1.out hp]; rfl), gr hb z.h⟩
    · have HE := hide (show k = n by omega)
      go_wp2
      go_ret2
      exact ⟨ret_p (by have e := HF.out; rw [HE.out] at e; rw [HR.out, e]; rfl), hb⟩

theorem spec_StrongOn_same (A : Option Addr) (n c : Nat) (F : Nat → Nat → Int) (x y area num den : Int) (w : World) (hn : n ≤ 1048576) (h : Rd w A n 2 (ints F)) :
    Calls Try.prog 31 #[.slice A n c, .agg #[.int .i64 x, .int .i64 y], .int .i64 area, .int .i64 num, .int .i64 den] w fun e w' => e = .returned (.tuple #[.int .i64 (strongOnR F n x y area num den).1, .bool (strongOnR F n x y area num den).2]) ∧ Below w.heap.size w w' := by
  have := spec_StrongOn_any A n c F x y area num den w hn h
  rw [strongOn_same] at this
  exact this
end Go.Proofs.Ytajmebclmippeaa
