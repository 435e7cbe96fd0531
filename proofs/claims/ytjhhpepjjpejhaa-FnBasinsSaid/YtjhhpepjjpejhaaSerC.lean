/-
  Contracts on basins: whether a series is rising, of the program and of the reference. Conditions: lengths up to 2^20.
-/
import Derived.Test.YtjhhpepjjpejhaaSerB
namespace Go.Proofs.Ytjhhpepjjpejhaa
open Go.RowKit

theorem ret_bb {a x : Bool} {p : Bool × Bool} (h : p = (a, x)) : Ending.returned (.tuple #[.bool a, .bool x]) = .returned (.tuple #[.bool p.1, .bool p.2]) := by rw [h]

set_option maxHeartbeats 2000000 in
theorem spec_IsRising_any (A : Option Addr) (n c : Nat) (F : Nat → Nat → Int) (w : World) (hn : n ≤ 1048576) (h : Rd w A n 3 (ints F)) :
    Calls Try.prog 16 #[.slice A n c] w fun e w' => e = .returned (.tuple #[.bool (risingR F n).1, .bool (risingR F n).2]) ∧ Below w.heap.size w w' := by
  cases h1 : seriesB F n
  · have HR := hide (show risingR F n = (false, false) by simp [risingR, h1])
    go_enter Try.func16, Try.ntmps16
    go_wp2_with (first | (go_at_call 35; refine (l8Good_any _ _ _ _ _ hn h).mono ?_; rintro _ w1 ⟨rfl, hb_w1⟩; have hc_w1 := bcell hb_w1))
    go_ret2
    exact ⟨ret_bb HR.out, hb_w1⟩
  have HR := hide (show risingR F n = (allB (riseB F) n, true) by simp [risingR, h1])
  have HV := hide h1
  clear h1
  go_enter Try.func16, Try.ntmps16
  go_wp2_with fail
  go_at_call 35
  refine (l8Good_any _ _ _ _ _ hn h).mono ?_
  rintro _ w1 ⟨rfl, hb1⟩
  rw [HV.out]
  go_wp2
  have hw1 := hb1.size
  have hO := box2_new w1 47 (.int .i64 0) (.int .i64 0)
  have hb2 : Below w.heap.size w (w1.alloc (.cells #[.int .i64 0, .int .i64 0] 47)) := hb1.alloc hb1.size _
  have hs2 : w1.heap.size < (w1.alloc (.cells #[.int .i64 0, .int .i64 0] 47)).heap.size := by simp
  generalize w1.alloc (.cells #[.int .i64 0, .int .i64 0] 47) = W2 at hO hb2 hs2 ⊢
  go_loopw [5] (fun i wr => ∃ k : Nat, k ≤ n ∧ i = .int .i64 k ∧ allB (riseB F) k = true ∧ Ow wr w1.heap.size (w1.heap.size + 1) (some ⟨w1.heap.size, 0, none⟩) 1 2 (fun _ j => #[Value.int .i64 (lastP F k).1, .int .i64 (lastP F k).2][j]!) ∧ w1.heap.size < wr.heap.size ∧ Below w.heap.size w wr) (fun i _ => n - (intOf i).toNat)
  case atStart => exact ⟨0, by omega, rfl, rfl, hO, hs2, hb2⟩
  case round =>
    clear hO hb2 hs2
    obtain ⟨k, hk, rfl, hgood, hO, hs, hb⟩ := hrel
    have HG := hide hgood
    clear hgood
    by_cases hlt : k < n
    · obtain ⟨q, off, rfl, -, hbw, hc⟩ := Rd.below h hb (by omega)
      have hc0 := hc k 0 hlt (by omega)
      have hc1 := hc k 1 hlt (by omega)
      have hc2 := hc k 2 hlt (by omega)
      simp only [Nat.add_zero] at hc0
      obtain ⟨-, ⟨p1, p2⟩, p3, p4⟩ := basin_at HV.out hlt
      obtain ⟨⟨l1, l2⟩, l3, l4⟩ := lastP_bd HV.out k hk
      have HL := hide (show lastP F (k + 1) = if F k 1 + F k 2 = 0 then lastP F k else (F k 1, F k 2) from rfl)
      have HZ := hide (fun he : riseB F k = false => allB_false hlt he)
      have HZ1 := hide (fun he : riseB F k = true => allB_succ HG.out he)
      have HB := hide (show riseB F k = (decide (F k 1 + F k 2 = 0) || decide ((lastP F k).1 + (lastP F k).2 ≤ 0) || decide ((lastP F k).2 * F k 1 ≤ F k 2 * (lastP F k).1)) from rfl)
      generalize lastP F k = L at hO l1 l2 l3 l4 HL HB
      obtain ⟨la, lb⟩ := L
      simp only at hO l1 l2 l3 l4
      clear hc
      go_wp2_with fail
      have hbW : Below wr.heap.size wr (wr.alloc (.cells #[.int .i64 (F k 1), .int .i64 (F k 2)] 47)) := (Below.refl _ _).alloc (Nat.le_refl _) _
      have e1 : World.cell? (wr.alloc (.cells #[.int .i64 (F k 1), .int .i64 (F k 2)] 47)) ⟨wr.heap.size, 0, none⟩ = some (.int .i64 (F k 1)) := by rw [World.cell?_alloc_new]; rfl
      have e2 : World.cell? (wr.alloc (.cells #[.int .i64 (F k 1), .int .i64 (F k 2)] 47)) ⟨wr.heap.size, 1, none⟩ = some (.int .i64 (F k 2)) := by rw [World.cell?_alloc_new]; rfl
      have hsW : wr.heap.size < (wr.alloc (.cells #[.int .i64 (F k 1), .int .i64 (F k 2)] 47)).heap.size := by simp
      generalize wr.alloc (.cells #[.int .i64 (F k 1), .int .i64 (F k 2)] 47) = W3 at hbW e1 e2 hsW ⊢
      clear hc0 hc1 hc2
      replace hO := hO.below hbW (by omega)
      by_cases hm : F k 1 + F k 2 = 0
      · have hm' : (F k 1 + F k 2 == 0) = true := by simpa using hm
        have HM := hide hm
        clear hm
        go_wp2_with fail
        go_at_call 43
        refine (l2Mass_any _ _ _ p1 (by omega) p3 (by omega)).mono ?_
        rintro _ w3 ⟨rfl, hb3⟩
        replace hO := hO.below hb3 (by omega)
        replace e1 := (Below.cell hb3 (p := ⟨wr.heap.size, 0, none⟩) (by simp; omega)).trans e1
        replace e2 := (Below.cell hb3 (p := ⟨wr.heap.size, 1, none⟩) (by simp; omega)).trans e2
        have s_b3 := Below.size hb3
        go_wp2
        go_roundw
        case rel => exact ⟨k + 1, by omega, by go_num, HZ1.out (by rw [HB.out]; simp [HM.out]), by rw [HL.out, if_pos HM.out]; exact hO, by omega, gr hb (gr hbW hb3)⟩
        case measure => simp [intOf]; omega
      · have hm' : (F k 1 + F k 2 == 0) = false := by simpa using hm
        have HM := hide hm
        clear hm
        go_wp2_with fail
        go_at_call 43
        refine (l2Mass_any _ _ _ p1 (by omega) p3 (by omega)).mono ?_
        rintro _ w3 ⟨rfl, hb3⟩
        replace hO := hO.below hb3 (by omega)
        replace e1 := (Below.cell hb3 (p := ⟨wr.heap.size, 0, none⟩) (by simp; omega)).trans e1
        replace e2 := (Below.cell hb3 (p := ⟨wr.heap.size, 1, none⟩) (by simp; omega)).trans e2
        have s_b3 := Below.size hb3
        obtain ⟨g0, g1, f0, f1⟩ := box2 hO
        by_cases hl : 0 < la + lb
        · cases hs3 : decide (F k 2 * la < lb * F k 1)
          · go_wp2_with fail
            go_at_call 43
            refine (l2Mass_any _ _ _ l1 (by omega) l3 (by omega)).mono ?_
            rintro _ w4 ⟨rfl, hb4⟩
            clear g0 g1 f0 f1
            replace hO := hO.below hb4 (by omega)
            replace e1 := (Below.cell hb4 (p := ⟨wr.heap.size, 0, none⟩) (by simp; omega)).trans e1
            replace e2 := (Below.cell hb4 (p := ⟨wr.heap.size, 1, none⟩) (by simp; omega)).trans e2
            have s_b4 := Below.size hb4
            obtain ⟨g0, g1, f0, f1⟩ := box2 hO
            go_wp2_with fail
            go_at_call 44
            refine (l2Stronger_any _ _ _ _ _ l1 l2 l3 l4 p1 p2 p3 p4).mono ?_
            rintro _ w5 ⟨rfl, hb5⟩
            clear g0 g1 f0 f1
            replace hO := hO.below hb5 (by omega)
            replace e1 := (Below.cell hb5 (p := ⟨wr.heap.size, 0, none⟩) (by simp; omega)).trans e1
            replace e2 := (Below.cell hb5 (p := ⟨wr.heap.size, 1, none⟩) (by simp; omega)).trans e2
            have s_b5 := Below.size hb5
            obtain ⟨g0, g1, f0, f1⟩ := box2 hO
            go_wp2
            go_roundw
            case rel => exact ⟨k + 1, by omega, by go_num, HZ1.out (by rw [HB.out]; simp at hs3; simp [hs3]), by rw [HL.out, if_neg HM.out]; exact box2_set hO _ _, by simp; omega, ((gr hb (gr hbW (gr hb3 (gr hb4 hb5)))).setCell (p := ⟨w1.heap.size, 0, none⟩) hw1 _).setCell (p := ⟨w1.heap.size, 1, none⟩) hw1 _⟩
            case measure => simp [intOf]; omega
          · go_wp2_with fail
            go_at_call 43
            refine (l2Mass_any _ _ _ l1 (by omega) l3 (by omega)).mono ?_
            rintro _ w4 ⟨rfl, hb4⟩
            clear g0 g1 f0 f1
            replace hO := hO.below hb4 (by omega)
            replace e1 := (Below.cell hb4 (p := ⟨wr.heap.size, 0, none⟩) (by simp; omega)).trans e1
            replace e2 := (Below.cell hb4 (p := ⟨wr.heap.size, 1, none⟩) (by simp; omega)).trans e2
            have s_b4 := Below.size hb4
            obtain ⟨g0, g1, f0, f1⟩ := box2 hO
            go_wp2_with fail
            go_at_call 44
            refine (l2Stronger_any _ _ _ _ _ l1 l2 l3 l4 p1 p2 p3 p4).mono ?_
            rintro _ w5 ⟨rfl, hb5⟩
            go_wp2
            go_ret2
            exact ⟨ret_bb (by rw [HR.out, HZ.out (by rw [HB.out]; have := HM.out; simp at hs3; simp [this, hs3]; omega)]), gr hb (gr hbW (gr hb3 (gr hb4 hb5)))⟩
        · have hl' : decide (0 < la + lb) = false := by simpa using hl
          go_wp2_with fail
          go_at_call 43
          refine (l2Mass_any _ _ _ l1 (by omega) l3 (by omega)).mono ?_
          rintro _ w4 ⟨rfl, hb4⟩
          clear g0 g1 f0 f1
          replace hO := hO.below hb4 (by omega)
          replace e1 := (Below.cell hb4 (p := ⟨wr.heap.size, 0, none⟩) (by simp; omega)).trans e1
          replace e2 := (Below.cell hb4 (p := ⟨wr.heap.size, 1, none⟩) (by simp; omega)).trans e2
          have s_b4 := Below.size hb4
          obtain ⟨g0, g1, f0, f1⟩ := box2 hO
          go_wp2
          go_roundw
          case rel => exact ⟨k + 1, by omega, by go_num, HZ1.out (by rw [HB.out]; simp at hl'; simp [hl']), by rw [HL.out, if_neg HM.out]; exact box2_set hO _ _, by simp; omega, ((gr hb (gr hbW (gr hb3 hb4))).setCell (p := ⟨w1.heap.size, 0, none⟩) hw1 _).setCell (p := ⟨w1.heap.size, 1, none⟩) hw1 _⟩
          case measure => simp [intOf]; omega
    · obtain rfl : k = n := by omega
      go_wp2
      go_ret2
      exact ⟨ret_bb (by rw [HR.out, HG.out]), hb⟩

set_option maxHeartbeats 2000000 in
theorem IsRising_any (A : Option Addr) (n c : Nat) (F : Nat → Nat → Int) (w : World) (hn : n ≤ 1048576) (h : Rd w A n 3 (ints F)) :
    Calls Try.prog 17 #[.slice A n c] w fun e w' => e = .returned (.tuple #[.bool (risingR F n).1, .bool (risingR F n).2]) ∧ Below w.heap.size w w' := by
  cases h1 : seriesB F n
  · have HR := hide (show risingR F n = (false, false) by simp [risingR, h1])
    go_enter Try.func17, Try.ntmps17
    go_wp2_with (first | (go_at_call 12; refine (IsSeries_any _ _ _ _ _ hn h).mono ?_; rintro _ w1 ⟨rfl, hb_w1⟩; have hc_w1 := bcell hb_w1))
    go_ret2
    exact ⟨ret_bb HR.out, hb_w1⟩
  have HR := hide (show risingR F n = (allB (riseB F) n, true) by simp [risingR, h1])
  have HV := hide h1
  clear h1
  go_enter Try.func17, Try.ntmps17
  go_wp2_with fail
  go_at_call 12
  refine (IsSeries_any _ _ _ _ _ hn h).mono ?_
  rintro _ w1 ⟨rfl, hb1⟩
  rw [HV.out]
  go_wp2
  have hw1 := hb1.size
  have hO := box2_new w1 47 (.int .i64 0) (.int .i64 0)
  have hb2 : Below w.heap.size w (w1.alloc (.cells #[.int .i64 0, .int .i64 0] 47)) := hb1.alloc hb1.size _
  have hs2 : w1.heap.size < (w1.alloc (.cells #[.int .i64 0, .int .i64 0] 47)).heap.size := by simp
  generalize w1.alloc (.cells #[.int .i64 0, .int .i64 0] 47) = W2 at hO hb2 hs2 ⊢
  go_loopw [13] (fun i wr => ∃ k : Nat, k ≤ n ∧ i = .int .i64 k ∧ allB (riseB F) k = true ∧ Ow wr w1.heap.size (w1.heap.size + 1) (some ⟨w1.heap.size, 0, none⟩) 1 2 (fun _ j => #[Value.int .i64 (lastP F k).1, .int .i64 (lastP F k).2][j]!) ∧ w1.heap.size < wr.heap.size ∧ Below w.heap.size w wr) (fun i _ => n - (intOf i).toNat)
  case atStart => exact ⟨0, by omega, rfl, rfl, hO, hs2, hb2⟩
  case round =>
    clear hO hb2 hs2
    obtain ⟨k, hk, rfl, hgood, hO, hs, hb⟩ := hrel
    have HG := hide hgood
    clear hgood
    by_cases hlt : k < n
    · obtain ⟨q, off, rfl, -, hbw, hc⟩ := Rd.below h hb (by omega)
      have hc0 := hc k 0 hlt (by omega)
      have hc1 := hc k 1 hlt (by omega)
      have hc2 := hc k 2 hlt (by omega)
      simp only [Nat.add_zero] at hc0
      obtain ⟨-, ⟨p1, p2⟩, p3, p4⟩ := basin_at HV.out hlt
      obtain ⟨⟨l1, l2⟩, l3, l4⟩ := lastP_bd HV.out k hk
      have HL := hide (show lastP F (k + 1) = if F k 1 + F k 2 = 0 then lastP F k else (F k 1, F k 2) from rfl)
      have HZ := hide (fun he : riseB F k = false => allB_false hlt he)
      have HZ1 := hide (fun he : riseB F k = true => allB_succ HG.out he)
      have HB := hide (show riseB F k = (decide (F k 1 + F k 2 = 0) || decide ((lastP F k).1 + (lastP F k).2 ≤ 0) || decide ((lastP F k).2 * F k 1 ≤ F k 2 * (lastP F k).1)) from rfl)
      generalize lastP F k = L at hO l1 l2 l3 l4 HL HB
      obtain ⟨la, lb⟩ := L
      simp only at hO l1 l2 l3 l4
      clear hc
      go_wp2_with fail
      have hbW : Below wr.heap.size wr (wr.alloc (.cells #[.int .i64 (F k 0), .int .i64 (F k 1), .int .i64 (F k 2)] 49)) := (Below.refl _ _).alloc (Nat.le_refl _) _
      have e1 : World.cell? (wr.alloc (.cells #[.int .i64 (F k 0), .int .i64 (F k 1), .int .i64 (F k 2)] 49)) ⟨wr.heap.size, 1, none⟩ = some (.int .i64 (F k 1)) := by rw [World.cell?_alloc_new]; rfl
      have e2 : World.cell? (wr.alloc (.cells #[.int .i64 (F k 0), .int .i64 (F k 1), .int .i64 (F k 2)] 49)) ⟨wr.heap.size, 2, none⟩ = some (.int .i64 (F k 2)) := by rw [World.cell?_alloc_new]; rfl
      have hsW : wr.heap.size < (wr.alloc (.cells #[.int .i64 (F k 0), .int .i64 (F k 1), .int .i64 (F k 2)] 49)).heap.size := by simp
      generalize wr.alloc (.cells #[.int .i64 (F k 0), .int .i64 (F k 1), .int .i64 (F k 2)] 49) = W3 at hbW e1 e2 hsW ⊢
      clear hc0 hc1 hc2
      replace hO := hO.below hbW (by omega)
      by_cases hm : F k 1 + F k 2 = 0
      · have hm' : (F k 1 + F k 2 == 0) = true := by simpa using hm
        have HM := hide hm
        clear hm
        go_wp2_with fail
        go_at_call 45
        refine (mass_any _ _ _ p1 (by omega) p3 (by omega)).mono ?_
        rintro _ w3 ⟨rfl, hb3⟩
        replace hO := hO.below hb3 (by omega)
        replace e1 := (Below.cell hb3 (p := ⟨wr.heap.size, 1, none⟩) (by simp; omega)).trans e1
        replace e2 := (Below.cell hb3 (p := ⟨wr.heap.size, 2, none⟩) (by simp; omega)).trans e2
        have s_b3 := Below.size hb3
        go_wp2
        go_roundw
        case rel => exact ⟨k + 1, by omega, by go_num, HZ1.out (by rw [HB.out]; simp [HM.out]), by rw [HL.out, if_pos HM.out]; exact hO, by omega, gr hb (gr hbW hb3)⟩
        case measure => simp [intOf]; omega
      · have hm' : (F k 1 + F k 2 == 0) = false := by simpa using hm
        have HM := hide hm
        clear hm
        go_wp2_with fail
        go_at_call 45
        refine (mass_any _ _ _ p1 (by omega) p3 (by omega)).mono ?_
        rintro _ w3 ⟨rfl, hb3⟩
        replace hO := hO.below hb3 (by omega)
        replace e1 := (Below.cell hb3 (p := ⟨wr.heap.size, 1, none⟩) (by simp; omega)).trans e1
        replace e2 := (Below.cell hb3 (p := ⟨wr.heap.size, 2, none⟩) (by simp; omega)).trans e2
        have s_b3 := Below.size hb3
        obtain ⟨g0, g1, f0, f1⟩ := box2 hO
        go_wp2
        have hz3 : w1.heap.size < w3.heap.size := by omega
        have hz4 : wr.heap.size < w3.heap.size := by omega
        have d0 := fun x : After w3 => x.cell g0 hz3
        have d1 := fun x : After w3 => x.cell g1 hz3
        have d2 := fun x : After w3 => x.cell e1 hz4
        have d3 := fun x : After w3 => x.cell e2 hz4
        have HE1 := hide e1
        have HE2 := hide e2
        clear g0 g1 f0 f1 e1 e2
        have HSS := hide (strong_same la lb (F k 2) (F k 1))
        by_cases hl : 0 < la + lb
        · obtain ⟨b1, b2⟩ := mul_bd p3 p4 (show 0 ≤ la + lb by omega) (show la + lb ≤ 2000000 by omega)
          obtain ⟨b3, b4⟩ := mul_bd l3 l4 (show 0 ≤ F k 1 + F k 2 by omega) (show F k 1 + F k 2 ≤ 2000000 by omega)
          by_cases hs3 : F k 2 * (la + lb) < lb * (F k 1 + F k 2)
          · refine region_after (by kernel_rfl) (by kernel_rfl) ?_
            repeat (go_big_quiet_step ((first | (go_at_call 45; exact Calls.after (mass_any _ _ _ (by assumption) (by omega) (by assumption) (by omega))))))
            refine wpQuiet_nil ?_
            rintro _ ⟨x, rfl⟩
            go_wp2
            go_ret2
            have hs4 := HSS.out.1 hs3
            exact ⟨ret_bb (by rw [HR.out, HZ.out (by rw [HB.out]; have := HM.out; simp [this, hs4]; omega)]), gr hb (gr hbW (gr hb3 x.h))⟩
          · refine region_after (by kernel_rfl) (by kernel_rfl) ?_
            repeat (go_big_quiet_step ((first | (go_at_call 45; exact Calls.after (mass_any _ _ _ (by assumption) (by omega) (by assumption) (by omega))))))
            refine wpQuiet_nil ?_
            rintro _ ⟨x, rfl⟩
            clear d0 d1 d2 d3
            have hs4 : ¬ F k 2 * la < lb * F k 1 := fun h => hs3 (HSS.out.2 h)
            have e1 := HE1.out
            have e2 := HE2.out
            replace hO := hO.below x.h (by omega)
            replace e1 := (Below.cell x.h (p := ⟨wr.heap.size, 1, none⟩) (by simp; omega)).trans e1
            replace e2 := (Below.cell x.h (p := ⟨wr.heap.size, 2, none⟩) (by simp; omega)).trans e2
            have s_x := Below.size x.h
            obtain ⟨g0, g1, f0, f1⟩ := box2 hO
            go_wp2
            go_roundw
            case rel => exact ⟨k + 1, by omega, by go_num, HZ1.out (by rw [HB.out]; simp; omega), by rw [HL.out, if_neg HM.out]; exact box2_set hO _ _, by simp; omega, ((gr hb (gr hbW (gr hb3 x.h))).setCell (p := ⟨w1.heap.size, 0, none⟩) hw1 _).setCell (p := ⟨w1.heap.size, 1, none⟩) hw1 _⟩
            case measure => simp [intOf]; omega
        · have hl' : decide (0 < la + lb) = false := by simpa using hl
          refine region_after (by kernel_rfl) (by kernel_rfl) ?_
          repeat (go_big_quiet_step ((first | (go_at_call 45; exact Calls.after (mass_any _ _ _ (by assumption) (by omega) (by assumption) (by omega))))))
          refine wpQuiet_nil ?_
          rintro _ ⟨x, rfl⟩
          clear d0 d1 d2 d3
          have e1 := HE1.out
          have e2 := HE2.out
          replace hO := hO.below x.h (by omega)
          replace e1 := (Below.cell x.h (p := ⟨wr.heap.size, 1, none⟩) (by simp; omega)).trans e1
          replace e2 := (Below.cell x.h (p := ⟨wr.heap.size, 2, none⟩) (by simp; omega)).trans e2
          have s_x := Below.size x.h
          obtain ⟨g0, g1, f0, f1⟩ := box2 hO
          go_wp2
          go_roundw
          case rel => exact ⟨k + 1, by omega, by go_num, HZ1.out (by rw [HB.out]; simp at hl'; simp [hl']), by rw [HL.out, if_neg HM.out]; exact box2_set hO _ _, by simp; omega, ((gr hb (gr hbW (gr hb3 x.h))).setCell (p := ⟨w1.heap.size, 0, none⟩) hw1 _).setCell (p := ⟨w1.heap.size, 1, none⟩) hw1 _⟩
          case measure => simp [intOf]; omega
    · obtain rfl : k = n := by omega
      go_wp2
      go_ret2
      exact ⟨ret_bb (by rw [HR.out, HG.out]), hb⟩
end Go.Proofs.Ytjhhpepjjpejhaa
