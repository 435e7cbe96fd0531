/-
  Contracts on basins: whether they are a series, and the strongest of them, of the program and of the reference. Conditions: lengths up to 2^20.
-/
import Derived.Test.YtjhhpepjjpejhaaBrine
import Derived.Test.YtjhhpepjjpejhaaTail
import Derived.Test.YtjhhpepjjpejhaaSerM
import Derived.Shelf.Abstract
namespace Go.Proofs.Ytjhhpepjjpejhaa
open Go.RowKit

theorem mul_bd {a b M N : Int} (h1 : 0 ≤ a) (h2 : a ≤ M) (h3 : 0 ≤ b) (h4 : b ≤ N) : 0 ≤ a * b ∧ a * b ≤ M * N :=
  ⟨Int.mul_nonneg h1 h3, Int.mul_le_mul h2 h4 h3 (by omega)⟩

set_option maxHeartbeats 1000000 in
theorem l8Good_any (A : Option Addr) (n c : Nat) (F : Nat → Nat → Int) (w : World) (hn : n ≤ 1048576) (h : Rd w A n 3 (ints F)) :
    Calls Try.prog 35 #[.slice A n c] w fun e w' => e = .returned (.bool (seriesB F n)) ∧ Below w.heap.size w w' := by
  go_enter Try.func35, Try.ntmps35
  go_wp2
  go_loopw [3] (fun i wr => ∃ k : Nat, k ≤ n ∧ i = .int .i64 k ∧ allB (basinB F) k = true ∧ Below w.heap.size w wr) (fun i _ => n - (intOf i).toNat)
  case atStart => exact ⟨0, by omega, rfl, rfl, Below.refl _ _⟩
  case round =>
    obtain ⟨k, hk, rfl, hgood, hb⟩ := hrel
    have HG := hide hgood
    clear hgood
    by_cases hlt : k < n
    · obtain ⟨b, off, rfl, -, hbw, hc⟩ := Rd.below h hb (by omega)
      have hc0 := hc k 0 hlt (by omega)
      have hc1 := hc k 1 hlt (by omega)
      have hc2 := hc k 2 hlt (by omega)
      simp only [Nat.add_zero] at hc0 hc1 hc2
      clear hc
      have HZ := hide (fun he : basinB F k = false => (by simp [seriesB, allB_false hlt he] : seriesB F n = false))
      have HZ1 := hide (fun he : basinB F k = true => allB_succ HG.out he)
      cases h1 : inB (F k 0) 1 100000
      · go_wp2_with (first | (go_at_call 46; refine (l1In_any _ _ _ _).mono ?_; rintro _ _ ⟨rfl, rfl⟩))
        go_ret
        exact ⟨ret_bool (HZ.out (by simp [basinB, h1])).symm, hb⟩
      · cases h2 : brineB (F k 1) (F k 2)
        · go_wp2_with (first | (go_at_call 46; refine (l1In_any _ _ _ _).mono ?_; rintro _ _ ⟨rfl, rfl⟩) | (go_at_call 60; refine (l2Brine_any _ _ _).mono ?_; rintro _ w2 ⟨rfl, hb_w2⟩; have hc_w2 := bcell hb_w2))
          go_ret
          exact ⟨ret_bool (HZ.out (by simp [basinB, h1, h2])).symm, gr hb hb_w2⟩
        · go_wp2_with (first | (go_at_call 46; refine (l1In_any _ _ _ _).mono ?_; rintro _ _ ⟨rfl, rfl⟩) | (go_at_call 60; refine (l2Brine_any _ _ _).mono ?_; rintro _ w2 ⟨rfl, hb_w2⟩; have hc_w2 := bcell hb_w2))
          go_roundw
          case rel => exact ⟨k + 1, by omega, by go_num, HZ1.out (by simp [basinB, h1, h2]), gr hb hb_w2⟩
          case measure => simp [intOf]; omega
    · go_wp2_with (first | (go_at_call 46; refine (l1In_any _ _ _ _).mono ?_; rintro _ _ ⟨rfl, rfl⟩))
      go_ret
      obtain rfl : k = n := by omega
      exact ⟨ret_bool (by simp [seriesB, HG.out]), hb⟩

theorem spec_IsSeries_any (A : Option Addr) (n c : Nat) (F : Nat → Nat → Int) (w : World) (hn : n ≤ 1048576) (h : Rd w A n 3 (ints F)) :
    Calls Try.prog 10 #[.slice A n c] w fun e w' => e = .returned (.bool (seriesB F n)) ∧ Below w.heap.size w w' := by
  go_enter Try.func10, Try.ntmps10
  go_wp2_with (first | (go_at_call 35; refine (l8Good_any _ _ _ _ _ hn h).mono ?_; rintro _ w1 ⟨rfl, hb_w1⟩; have hc_w1 := bcell hb_w1))
  go_ret
  exact ⟨rfl, hb_w1⟩

set_option maxHeartbeats 400000 in
theorem serP_any (a x y : Int) (w : World) :
    Calls Try.prog 39 #[.agg #[.int .i64 a, .int .i64 x, .int .i64 y]] w fun e w' => e = .returned (.bool (!(inB a 1 100000 && brineB x y))) ∧ Below w.heap.size w w' := by
  cases h1 : inB a 1 100000
  · go_enter Try.func39, Try.ntmps39
    go_wp2_with (first | (go_at_call 40; refine (isArea_any _ _).mono ?_; rintro _ _ ⟨rfl, rfl⟩))
    go_ret
    exact ⟨rfl, (Below.refl _ _).alloc (Nat.le_refl _) _⟩
  · go_enter Try.func39, Try.ntmps39
    go_wp2_with (first | (go_at_call 40; refine (isArea_any _ _).mono ?_; rintro _ _ ⟨rfl, rfl⟩) | (go_at_call 41; refine (IsBrine_any _ _ _).mono ?_; rintro _ w1 ⟨rfl, hb_w1⟩; have hc_w1 := bcell hb_w1))
    go_ret
    exact ⟨by simp, gr ((Below.refl _ _).alloc (Nat.le_refl _) _) hb_w1⟩

/-- An index, or -1. -/
def idxV : Option Nat → Int
  | some i => i
  | none => -1

set_option maxHeartbeats 1000000 in
theorem serIdx_any (A : Option Addr) (n c : Nat) (F : Nat → Nat → Int) (w : World) (hn : n ≤ 1048576) (h : Rd w A n 3 (ints F)) :
    Calls Try.prog 62 #[.slice A n c, .func (.func 39) #[] #[]] w fun e w' => e = .returned (.int .i64 (idxV (firstB (fun i => !(basinB F i)) n))) ∧ Below w.heap.size w w' := by
  have eg : ∀ args w, (callFunc 39 args).run Try.prog w = .ok (.enter 39 args) w := enters_of Try.func39 (by kernel_rfl) rfl
  go_enter Try.func62, Try.ntmps62
  go_wp2
  go_loopw [8] (fun i wr => ∃ k : Nat, k ≤ n ∧ i = .int .i64 k ∧ firstB (fun i => !(basinB F i)) k = none ∧ Below w.heap.size w wr) (fun i _ => n - (intOf i).toNat)
  case atStart => exact ⟨0, by omega, rfl, rfl, Below.refl _ _⟩
  case round =>
    obtain ⟨k, hk, rfl, hf, hb⟩ := hrel
    have HF := hide hf
    clear hf
    by_cases hlt : k < n
    · obtain ⟨b, off, rfl, -, hbw, hc⟩ := Rd.below h hb (by omega)
      have hc0 := hc k 0 hlt (by omega)
      have hc1 := hc k 1 hlt (by omega)
      have hc2 := hc k 2 hlt (by omega)
      simp only [Nat.add_zero] at hc0 hc1 hc2
      clear hc
      cases hd : (inB (F k 0) 1 100000 && brineB (F k 1) (F k 2))
      · go_wp2_with (go_at_fn 39; refine (serP_any _ _ _ _).mono ?_; rintro _ w2 ⟨rfl, hb2⟩)
        go_ret
        exact ⟨ret_int (by rw [firstB_at HF.out (by simp [basinB, hd]) hlt]; rfl), gr hb hb2⟩
      · go_wp2_with (go_at_fn 39; refine (serP_any _ _ _ _).mono ?_; rintro _ w2 ⟨rfl, hb2⟩)
        go_roundw
        case rel => exact ⟨k + 1, by omega, by go_num, firstB_succ_none HF.out (by simp only [basinB, hd]; rfl), gr hb hb2⟩
        case measure => simp [intOf]; omega
    · go_wp2
      go_ret
      obtain rfl : k = n := by omega
      exact ⟨ret_int (by rw [HF.out]; rfl), hb⟩

theorem firstB_all (p : Nat → Bool) (n : Nat) : decide (0 ≤ idxV (firstB (fun i => !(p i)) n)) = !(allB p n) := by
  cases h : firstB (fun i => !(p i)) n with
  | none =>
    have : allB p n = true := allB_of fun k hk => by simpa using firstB_none h k hk
    simp [idxV, this]
  | some i =>
    obtain ⟨h1, h2, -⟩ := firstB_some h
    have : allB p n = false := allB_false h1 (by simpa using h2)
    simp [idxV, this]

set_option maxHeartbeats 400000 in
theorem serHas_any (A : Option Addr) (n c : Nat) (F : Nat → Nat → Int) (w : World) (hn : n ≤ 1048576) (h : Rd w A n 3 (ints F)) :
    Calls Try.prog 38 #[.slice A n c, .func (.func 39) #[] #[]] w fun e w' => e = .returned (.bool (!(allB (basinB F) n))) ∧ Below w.heap.size w w' := by
  have H := hide (firstB_all (basinB F) n)
  go_enter Try.func38, Try.ntmps38
  go_wp2_with fail
  go_at_call 62
  refine (serIdx_any _ _ _ _ _ hn h).mono ?_
  rintro _ w1 ⟨rfl, hb1⟩
  generalize idxV (firstB (fun i => !(basinB F i)) n) = r at H ⊢
  go_wp2
  go_ret
  exact ⟨ret_bool H.out, hb1⟩

set_option maxHeartbeats 400000 in
theorem IsSeries_any (A : Option Addr) (n c : Nat) (F : Nat → Nat → Int) (w : World) (hn : n ≤ 1048576) (h : Rd w A n 3 (ints F)) :
    Calls Try.prog 12 #[.slice A n c] w fun e w' => e = .returned (.bool (seriesB F n)) ∧ Below w.heap.size w w' := by
  have H := hide (show seriesB F n = (inB n 1 8 && allB (basinB F) n) from rfl)
  cases h1 : inB n 1 8
  · go_enter Try.func12, Try.ntmps12
    go_wp2_with (first | (go_at_call 37; refine (within_any _ _ _ _).mono ?_; rintro _ _ ⟨rfl, rfl⟩))
    go_ret
    exact ⟨ret_bool (by rw [H.out, h1]; rfl), Below.refl _ _⟩
  · go_enter Try.func12, Try.ntmps12
    go_wp2_with (first | (go_at_call 37; refine (within_any _ _ _ _).mono ?_; rintro _ _ ⟨rfl, rfl⟩) | (go_at_call 38; refine (serHas_any _ _ _ _ _ hn h).mono ?_; rintro _ w1 ⟨rfl, hb_w1⟩; have hc_w1 := bcell hb_w1))
    go_ret
    exact ⟨ret_bool (by rw [H.out, h1]; simp), hb_w1⟩

theorem l2Stronger_any (x y p q : Int) (w : World) (h1 : 0 ≤ x) (h2 : x ≤ 1000000) (h3 : 0 ≤ y) (h4 : y ≤ 1000000) (h5 : 0 ≤ p) (h6 : p ≤ 1000000) (h7 : 0 ≤ q) (h8 : q ≤ 1000000) :
    Calls Try.prog 44 #[.agg #[.int .i64 x, .int .i64 y], .agg #[.int .i64 p, .int .i64 q]] w fun e w' => e = .returned (.bool (decide (q * x < y * p))) ∧ Below w.heap.size w w' := by
  have b1 := mul_bd h7 h8 h1 h2
  have b2 := mul_bd h3 h4 h5 h6
  obtain ⟨b1, b1'⟩ := b1
  obtain ⟨b2, b2'⟩ := b2
  have W0 := ((Below.refl w.heap.size w).alloc (Nat.le_refl _) (.cells #[.int .i64 x, .int .i64 y] 47)).alloc (by simp) (.cells #[.int .i64 p, .int .i64 q] 47)
  go_enter Try.func44, Try.ntmps44
  go_wp2
  go_ret
  exact ⟨rfl, W0⟩

set_option maxHeartbeats 2000000 in
theorem spec_StrongestBasin_any (A : Option Addr) (n c : Nat) (F : Nat → Nat → Int) (w : World) (hn : n ≤ 1048576) (h : Rd w A n 3 (ints F)) :
    Calls Try.prog 14 #[.slice A n c] w fun e w' => e = .returned (.tuple #[.int .i64 (strongestR F n).1, .bool (strongestR F n).2]) ∧ Below w.heap.size w w' := by
  cases h1 : seriesB F n
  · have HR := hide (show strongestR F n = (0, false) by simp [strongestR, h1])
    go_enter Try.func14, Try.ntmps14
    go_wp2_with (first | (go_at_call 35; refine (l8Good_any _ _ _ _ _ hn h).mono ?_; rintro _ w1 ⟨rfl, hb_w1⟩; have hc_w1 := bcell hb_w1))
    go_ret2
    exact ⟨ret_p HR.out, hb_w1⟩
  · have HR := hide (show strongestR F n = if strongI F n < 0 then (0, false) else (strongI F n, true) by simp [strongestR, h1])
    have HV := hide h1
    clear h1
    have H1 : Hid (seriesB F n = true) := HV
    go_enter Try.func14, Try.ntmps14
    go_wp2_with fail
    go_at_call 35
    refine (l8Good_any _ _ _ _ _ hn h).mono ?_
    rintro _ w1 ⟨rfl, hb1⟩
    rw [HV.out]
    go_wp2
    go_loopw [4, 5] (fun b i wr => ∃ k : Nat, k ≤ n ∧ i = .int .i64 k ∧ b = .int .i64 (strongI F k) ∧ Below w.heap.size w wr) (fun _ i _ => n - (intOf i).toNat)
    case atStart => exact ⟨0, by omega, rfl, rfl, hb1⟩
    case round =>
      obtain ⟨k, hk, rfl, rfl, hb⟩ := hrel
      obtain ⟨hS1, hS2⟩ := strongI_bd F k
      by_cases hlt : k < n
      · obtain ⟨q, off, rfl, -, hbw, hc⟩ := Rd.below h hb (by omega)
        have hc1 := fun x : After wr => x.cell (hc k 1 hlt (by omega)) hbw
        have hc2 := fun x : After wr => x.cell (hc k 2 hlt (by omega)) hbw
        obtain ⟨-, ⟨p1, p2⟩, p3, p4⟩ := basin_at HV.out hlt
        have HS := hide (show strongI F (k + 1) = if 0 < F k 1 + F k 2 ∧ (strongI F k < 0 ∨ F (strongI F k).toNat 2 * F k 1 < F k 2 * F (strongI F k).toNat 1) then (k : Int) else strongI F k from rfl)
        generalize strongI F k = S at hS1 hS2 HS ⊢
        by_cases hm : 0 < F k 1 + F k 2
        · by_cases hS : S < 0
          · obtain rfl : S = -1 := by omega
            clear hS hc
            go_wp2
            refine region_after (by kernel_rfl) (by kernel_rfl) ?_
            repeat (go_big_quiet_step ((first | (go_at_call 43; exact Calls.after (l2Mass_any _ _ _ p1 (by omega) p3 (by omega))))))
            refine wpQuiet_nil ?_
            rintro _ ⟨x, rfl⟩
            go_wp2
            go_roundw
            case rel => exact ⟨k + 1, by omega, by go_num, by rw [HS.out, if_pos ⟨hm, Or.inl (by omega)⟩], hb.trans (x.h.mono hb.size)⟩
            case measure => simp [intOf]; omega
          · obtain ⟨p, rfl⟩ : ∃ p : Nat, S = p := ⟨S.toNat, by omega⟩
            have hpn : p < n := by omega
            have hc3 := fun x : After wr => x.cell (hc p 1 hpn (by omega)) hbw
            have hc4 := fun x : After wr => x.cell (hc p 2 hpn (by omega)) hbw
            obtain ⟨-, ⟨q1, q2⟩, q3, q4⟩ := basin_at HV.out hpn
            clear hc hS
            have hS : decide ((p : Int) < 0) = false := by simp
            rw [show (p : Int).toNat = p from Int.toNat_natCast p] at HS
            cases hs : decide (F p 2 * F k 1 < F k 2 * F p 1)
            · go_wp2
              refine region_after (by kernel_rfl) (by kernel_rfl) ?_
              repeat (go_big_quiet_step ((first | (go_at_call 43; exact Calls.after (l2Mass_any _ _ _ p1 (by omega) p3 (by omega))) | (go_at_call 44; exact Calls.after (l2Stronger_any _ _ _ _ _ p1 p2 p3 p4 q1 q2 q3 q4)))))
              refine wpQuiet_nil ?_
              rintro _ ⟨x, rfl⟩
              go_wp2
              go_roundw
              case rel => exact ⟨k + 1, by omega, by go_num, by rw [HS.out, if_neg (by simp at hs; omega)], hb.trans (x.h.mono hb.size)⟩
              case measure => simp [intOf]; omega
            · go_wp2
              refine region_after (by kernel_rfl) (by kernel_rfl) ?_
              repeat (go_big_quiet_step ((first | (go_at_call 43; exact Calls.after (l2Mass_any _ _ _ p1 (by omega) p3 (by omega))) | (go_at_call 44; exact Calls.after (l2Stronger_any _ _ _ _ _ p1 p2 p3 p4 q1 q2 q3 q4)))))
              refine wpQuiet_nil ?_
              rintro _ ⟨x, rfl⟩
              go_wp2
              go_roundw
              case rel => exact ⟨k + 1, by omega, by go_num, by rw [HS.out, if_pos ⟨hm, Or.inr (by simpa using hs)⟩], hb.trans (x.h.mono hb.size)⟩
              case measure => simp [intOf]; omega
        · have hm' : decide (0 < F k 1 + F k 2) = false := by simpa using hm
          clear hc
          go_wp2
          refine region_after (by kernel_rfl) (by kernel_rfl) ?_
          repeat (go_big_quiet_step ((first | (go_at_call 43; exact Calls.after (l2Mass_any _ _ _ p1 (by omega) p3 (by omega))))))
          refine wpQuiet_nil ?_
          rintro _ ⟨x, rfl⟩
          go_wp2
          go_roundw
          case rel => exact ⟨k + 1, by omega, by go_num, by rw [HS.out, if_neg (by simp at hm'; omega)], hb.trans (x.h.mono hb.size)⟩
          case measure => simp [intOf]; omega
      · obtain rfl : k = n := by omega
        by_cases hS : strongI F k < 0
        · have HR' := hide (show strongestR F k = (0, false) by rw [HR.out, if_pos hS])
          go_wp2
          go_ret2
          exact ⟨ret_p HR'.out, hb⟩
        · have HR' := hide (show strongestR F k = (strongI F k, true) by rw [HR.out, if_neg hS])
          go_wp2
          go_ret2
          exact ⟨ret_p HR'.out, hb⟩
end Go.Proofs.Ytjhhpepjjpejhaa
