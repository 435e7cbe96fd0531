/-
  Contracts on basins: the strongest of a series, of the program. Conditions: lengths up to 2^20.
-/
import Derived.Test.YtjhhpepjjpejhaaSerA
namespace Go.Proofs.Ytjhhpepjjpejhaa
open Go.RowKit

set_option maxHeartbeats 2000000 in
theorem StrongestBasin_any (A : Option Addr) (n c : Nat) (F : Nat → Nat → Int) (w : World) (hn : n ≤ 1048576) (h : Rd w A n 3 (ints F)) :
    Calls Try.prog 15 #[.slice A n c] w fun e w' => e = .returned (.tuple #[.int .i64 (strongestR F n).1, .bool (strongestR F n).2]) ∧ Below w.heap.size w w' := by
  cases h1 : seriesB F n
  · have HR := hide (show strongestR F n = (0, false) by simp [strongestR, h1])
    go_enter Try.func15, Try.ntmps15
    go_wp2_with (first | (go_at_call 12; refine (IsSeries_any _ _ _ _ _ hn h).mono ?_; rintro _ w1 ⟨rfl, hb_w1⟩; have hc_w1 := bcell hb_w1))
    go_ret2
    exact ⟨ret_p HR.out, hb_w1⟩
  · have HR := hide (show strongestR F n = if strongI F n < 0 then (0, false) else (strongI F n, true) by simp [strongestR, h1])
    have HV := hide h1
    clear h1
    go_enter Try.func15, Try.ntmps15
    go_wp2_with fail
    go_at_call 12
    refine (IsSeries_any _ _ _ _ _ hn h).mono ?_
    rintro _ w1 ⟨rfl, hb1⟩
    rw [HV.out]
    go_wp2
    go_loopw [4, 12] (fun b i wr => ∃ k : Nat, k ≤ n ∧ i = .int .i64 k ∧ b = .int .i64 (strongI F k) ∧ Below w.heap.size w wr) (fun _ i _ => n - (intOf i).toNat)
    case atStart => exact ⟨0, by omega, rfl, rfl, hb1⟩
    case round =>
      obtain ⟨k, hk, rfl, rfl, hb⟩ := hrel
      obtain ⟨hS1, hS2⟩ := strongI_bd F k
      by_cases hlt : k < n
      · obtain ⟨q, off, rfl, -, hbw, hc⟩ := Rd.below h hb (by omega)
        have hc0 := hc k 0 hlt (by omega)
        have hc1 := hc k 1 hlt (by omega)
        have hc2 := hc k 2 hlt (by omega)
        simp only [Nat.add_zero] at hc0
        obtain ⟨-, ⟨p1, p2⟩, p3, p4⟩ := basin_at HV.out hlt
        have HS := hide (show strongI F (k + 1) = if 0 < F k 1 + F k 2 ∧ (strongI F k < 0 ∨ F (strongI F k).toNat 2 * F k 1 < F k 2 * F (strongI F k).toNat 1) then (k : Int) else strongI F k from rfl)
        generalize strongI F k = S at hS1 hS2 HS ⊢
        go_wp2
        generalize hW : World.alloc wr (.cells #[.int .i64 (F k 0), .int .i64 (F k 1), .int .i64 (F k 2)] 49) = W2
        have hbW : Below (World.heap wr).size wr W2 := by rw [← hW]; exact (Below.refl _ _).alloc (Nat.le_refl _) _
        have hsW : (World.heap wr).size < W2.heap.size := by rw [← hW]; simp
        have e0 : W2.cell? ⟨(World.heap wr).size, 0, none⟩ = some (.int .i64 (F k 0)) := by rw [← hW]; simp
        have e1 : W2.cell? ⟨(World.heap wr).size, 1, none⟩ = some (.int .i64 (F k 1)) := by rw [← hW]; simp
        have e2 : W2.cell? ⟨(World.heap wr).size, 2, none⟩ = some (.int .i64 (F k 2)) := by rw [← hW]; simp
        clear hW
        have hbx := fun x : After W2 => (hb.trans (hbW.mono hb.size)).trans (x.h.mono (Nat.le_trans hb.size (Nat.le_of_lt hsW)))
        have hq2 := Nat.lt_trans hbw hsW
        have hcq : ∀ i j, i < n → j < 3 → ∀ x : After W2, x.w.cell? ⟨q, off + i * 3 + j, none⟩ = some (ints F i j) := fun i j hi hj x => x.cell ((hbW.cell (by exact hbw)).trans (hc i j hi hj)) hq2
        clear hc hc0 hc1 hc2
        have hc0 := fun x : After W2 => x.cell e0 hsW
        have hc1 := fun x : After W2 => x.cell e1 hsW
        have hc2 := fun x : After W2 => x.cell e2 hsW
        clear e0 e1 e2
        by_cases hm : 0 < F k 1 + F k 2
        · by_cases hS : S < 0
          · obtain rfl : S = -1 := by omega
            clear hS hcq
            refine region_after (by kernel_rfl) (by kernel_rfl) ?_
            repeat (go_big_quiet_step ((first | (go_at_call 45; exact Calls.after (mass_any _ _ _ p1 (by omega) p3 (by omega))))))
            refine wpQuiet_nil ?_
            rintro _ ⟨x, rfl⟩
            go_wp2
            go_roundw
            case rel => exact ⟨k + 1, by omega, by go_num, by rw [HS.out, if_pos ⟨hm, Or.inl (by omega)⟩], hbx x⟩
            case measure => simp [intOf]; omega
          · obtain ⟨p, rfl⟩ : ∃ p : Nat, S = p := ⟨S.toNat, by omega⟩
            have hpn : p < n := by omega
            have hc3 := hcq p 1 hpn (by omega)
            have hc4 := hcq p 2 hpn (by omega)
            obtain ⟨-, ⟨q1, q2⟩, q3, q4⟩ := basin_at HV.out hpn
            clear hcq hS
            have hS : decide ((p : Int) < 0) = false := by simp
            rw [show (p : Int).toNat = p from Int.toNat_natCast p] at HS
            have hss := strong_same (F k 1) (F k 2) (F p 2) (F p 1)
            have HSS := hide hss
            clear hss
            obtain ⟨b1, b2⟩ := mul_bd p3 p4 (show 0 ≤ F p 1 + F p 2 by omega) (show F p 1 + F p 2 ≤ 2000000 by omega)
            obtain ⟨b3, b4⟩ := mul_bd q3 q4 (show 0 ≤ F k 1 + F k 2 by omega) (show F k 1 + F k 2 ≤ 2000000 by omega)
            by_cases hs : F p 2 * (F k 1 + F k 2) < F k 2 * (F p 1 + F p 2)
            · refine region_after (by kernel_rfl) (by kernel_rfl) ?_
              repeat (go_big_quiet_step ((first | (go_at_call 45; exact Calls.after (mass_any _ _ _ (by assumption) (by omega) (by assumption) (by omega))))))
              refine wpQuiet_nil ?_
              rintro _ ⟨x, rfl⟩
              go_wp2
              go_roundw
              case rel => exact ⟨k + 1, by omega, by go_num, by rw [HS.out, if_pos ⟨hm, Or.inr (HSS.out.1 hs)⟩], hbx x⟩
              case measure => simp [intOf]; omega
            · refine region_after (by kernel_rfl) (by kernel_rfl) ?_
              repeat (go_big_quiet_step ((first | (go_at_call 45; exact Calls.after (mass_any _ _ _ (by assumption) (by omega) (by assumption) (by omega))))))
              refine wpQuiet_nil ?_
              rintro _ ⟨x, rfl⟩
              go_wp2
              go_roundw
              case rel => exact ⟨k + 1, by omega, by go_num, by rw [HS.out, if_neg (fun hh => hs (HSS.out.2 (hh.2.resolve_left (by omega))))], hbx x⟩
              case measure => simp [intOf]; omega
        · have hm' : decide (0 < F k 1 + F k 2) = false := by simpa using hm
          clear hcq
          refine region_after (by kernel_rfl) (by kernel_rfl) ?_
          repeat (go_big_quiet_step ((first | (go_at_call 45; exact Calls.after (mass_any _ _ _ p1 (by omega) p3 (by omega))))))
          refine wpQuiet_nil ?_
          rintro _ ⟨x, rfl⟩
          go_wp2
          go_roundw
          case rel => exact ⟨k + 1, by omega, by go_num, by rw [HS.out, if_neg (by simp at hm'; omega)], hbx x⟩
          case measure => simp [intOf]; omega
      · obtain rfl : k = n := by omega
        by_cases hS : strongI F k < 0
        · have HR' := hide (show strongestR F k = (0, false) by rw [HR.out, if_pos hS])
          have hm0 : max (strongI F k) 0 = 0 := by omega
          have hd : decide (0 ≤ strongI F k) = false := by simpa using hS
          go_wp2
          go_ret2
          exact ⟨ret_p HR'.out, hb⟩
        · have HR' := hide (show strongestR F k = (strongI F k, true) by rw [HR.out, if_neg hS])
          have hd : decide (0 ≤ strongI F k) = true := by simp; omega
          go_wp2
          go_ret2
          exact ⟨ret_p HR'.out, hb⟩
end Go.Proofs.Ytjhhpepjjpejhaa
