/-
  The walk of the law FnSunSums. Conditions: codes of bytes.
-/
import Derived.Test.YtajmebclmippeaaFnTv
import Derived.Test.YtajmebclmippeaaDrM
import Derived.Test.YtajmebclmippeaaSunH
namespace Go.Proofs.Ytajmebclmippeaa
open Go.RowKit

theorem vBig_put (A : Option Addr) (n c : Nat) (w : World) :
    Calls Try.prog 19 #[.slice A n c] w fun e w' => e = .returned (.bool (decide (65536 < (n : Int)))) ∧ w = w' := by
  go_enter Try.func19, Try.ntmps19
  go_wp2
  go_ret
  exact ⟨rfl, rfl⟩
set_option maxRecDepth 20000 in
set_option maxHeartbeats 4000000 in
theorem law_SunSums (A : Option Addr) (n c : Nat) (B : Nat → Int) (w : World) (h : CodeR w A n B) :
    Calls Try.prog 13 #[.slice A n c] w fun e w' => e = .returned (.bool true) ∧ Below w.heap.size w w' := by
  cases hbig : decide (65536 < (n : Int))
  rotate_left
  · go_enter Try.func13, Try.ntmps13
    go_wp2_with fail
    go_at_call 19
    refine (vBig_put _ _ _ _).mono ?_
    rintro _ _ ⟨rfl, rfl⟩
    rw [hbig]
    go_wp2
    go_ret
    exact ⟨rfl, Below.refl _ _⟩
  have hbA := Below.refl w.heap.size w
  have hsA := hbA.size
  go_enter Try.func13, Try.ntmps13
  go_wp2_with fail
  go_at_call 19
  refine (vBig_put _ _ _ _).mono ?_
  rintro _ _ ⟨rfl, rfl⟩
  rw [hbig]
  clear hbig
  go_wp2_with fail
  go_at_call 45
  refine (DrawBestStart_any _ _ _ _ _ h).mono ?_
  rintro _ w1 ⟨A1, n1, c1, F1, days, rfl, hn1, hO, hb⟩
  have hR := hO.sl.rd (Nat.le_refl _)
  replace hbA := hbA.trans (hb.mono (by omega))
  have hsA := hbA.size
  clear hO hb
  obtain ⟨b, ok, hE, hL⟩ := best_law F1 n1 days
  have HE := hide hE
  have HL := hide hL
  clear hE hL
  go_wp2_with fail
  go_at_call 37
  refine (BestStart_any _ _ _ _ days _ (by omega) hR).mono ?_
  rintro _ w2 ⟨rfl, hb⟩
  rw [HE.out]
  replace hR := Rd.below hR hb
  replace hbA := gr hbA hb
  have hsA := hbA.size
  clear hb
  go_wp2_with fail
  go_at_call 36
  refine (spec_BestStart_any _ _ _ _ days _ (by omega) hR).mono ?_
  rintro _ w3 ⟨rfl, hb⟩
  rw [HE.out]
  replace hR := Rd.below hR hb
  replace hbA := gr hbA hb
  have hsA := hbA.size
  clear hb
  clear HE
  go_upto_if 62 with fail
  go_cut [0] (fun s wx => s = .slice A n c ∧ Below w.heap.size w wx)
  case first =>
    as_aux_lemma =>
      cases ok
      · go_wp2
        go_meet
        exact ⟨rfl, hbA⟩
      · obtain ⟨⟨h20, d0, d1, b0, b1⟩, most, hM, hall⟩ := HL.out rfl
        have HM := hide hM
        have HA := hide hall
        clear HL hM hall
        go_wp2_with fail
        go_at_call 35
        refine (SunSum_any _ _ _ _ b (b + days - 1) _ (by omega) hR).mono ?_
        rintro _ w4 ⟨rfl, hb⟩
        rw [HM.out]
        replace hR := Rd.below hR hb
        replace hbA := gr hbA hb
        have hsA := hbA.size
        clear hb
        clear HM
        go_wp2
        go_loopw [11, 12, 13] (fun i _ _ wr => ∃ k : Nat, k ≤ n1 ∧ i = .int .i64 k ∧ Below w4.heap.size w4 wr) (fun i _ _ _ => n1 - (intOf i).toNat)
        case atStart => exact ⟨0, by omega, rfl, Below.refl _ _⟩
        case round =>
          obtain ⟨k, hk, rfl, hb⟩ := hrel
          by_cases hlt : k < n1
          · obtain ⟨⟨k0, k1⟩, hle⟩ := HA.out k hlt
            have hRr := Rd.below hR hb
            obtain ⟨bb, off, rfl, -, hbw, hc⟩ := hRr (by omega)
            have c0 := hc k 0 hlt (by omega)
            have HRR := hide hRr
            simp only [Nat.add_zero, ints] at c0
            have d2 := fun y : After wr => y.cell c0 hbw
            have HLE := hide hle
            generalize F1 k 0 = z at *
            clear hc hle hRr HA
            by_cases hz : z + days - 1 ≤ 4000
            · obtain ⟨m, hm1, hm2⟩ := HLE.out hz
              have HM1 := hide hm1
              have hm3 : decide (most < m) = false := decide_eq_false (by omega)
              clear hm1 hm2 HLE
              go_wp2_with fail
              refine region_after (by kernel_rfl) (by kernel_rfl) ?_
              repeat (go_big_quiet_step ((first | (go_at_call 35; exact Calls.after (SunSum_any _ _ _ _ z (z + days - 1) _ (by omega) (Rd.after HRR.out _))))))
              refine wpQuiet_nil ?_
              rintro _ ⟨y, rfl⟩
              rw [HM1.out]
              go_wp2
              go_roundw
              case rel => exact ⟨k + 1, by omega, by go_num, gr hb y.h⟩
              case measure => simp [intOf]; omega
            · go_wp2
              go_roundw
              case rel => exact ⟨k + 1, by omega, by go_num, hb⟩
              case measure => simp [intOf]; omega
          · obtain rfl : k = n1 := by omega
            clear HA hR
            go_wp2
            go_meet
            exact ⟨rfl, gr hbA hb⟩
  case rest =>
    as_aux_lemma =>
      clear hR HL hbA
      obtain ⟨rfl, hbA⟩ := hcut
      have hsB := hbA.size
      go_wp2_with fail
      go_at_call 46
      refine (DrawPutSun_any _ _ _ _ _ (h.below hbA)).mono ?_
      rintro _ v1 ⟨A4, n4, c4, F4, t, x, rfl, hn4, hcp, hO, hb⟩
      have hR := hO.sl.rd (Nat.le_refl _)
      replace hbA := hbA.trans (hb.mono (by omega))
      have hsA := hbA.size
      clear hO hb
      go_upto_region 20 with fail
      have hb : Below v1.heap.size v1 (v1.alloc (.cells #[.int .i64 t, .int .i64 x] 55)) := (Below.refl _ _).alloc (Nat.le_refl _) _
      have hX := Box2.new v1 55 (.int .i64 t) (.int .i64 x)
      generalize v1.alloc (.cells #[.int .i64 t, .int .i64 x] 55) = v2 at hb hX ⊢
      replace hR := Rd.below hR hb
      replace hbA := gr hbA hb
      have hsA := hbA.size
      clear hb
      generalize v1.heap.size = g1 at hX ⊢
      obtain ⟨N, ok, G, hN, hk, hG, h20, hL⟩ := put_law F4 n4 t x
      have HN := hide hN
      have HK := hide hk
      have HG := hide hG
      have HL := hide hL
      clear hN hk hG hL
      obtain ⟨kX, p0, p1, -, -⟩ := hX
      go_wp2_with fail
      go_at_call 42
      refine (PutSun_w _ _ _ _ t x _ (by omega) hR HN.out HK.out HG.out).mono ?_
      rintro _ v3 ⟨A5, c5, rfl, hS, hb⟩
      replace p0 := (Below.cell hb (p := ⟨g1, 0, none⟩) kX).trans p0
      replace p1 := (Below.cell hb (p := ⟨g1, 1, none⟩) kX).trans p1
      replace kX := Nat.lt_of_lt_of_le kX hb.size
      replace hR := Rd.below hR hb
      replace hbA := gr hbA hb
      have hsA := hbA.size
      clear hb
      go_wp2_with fail
      go_at_call 40
      refine (spec_PutSun_w _ _ _ _ t x _ (by omega) hcp hR HN.out HK.out HG.out).mono ?_
      rintro _ v4 ⟨A6, c6, rfl, hU, hb⟩
      replace p0 := (Below.cell hb (p := ⟨g1, 0, none⟩) kX).trans p0
      replace p1 := (Below.cell hb (p := ⟨g1, 1, none⟩) kX).trans p1
      replace kX := Nat.lt_of_lt_of_le kX hb.size
      replace hS := Rd.below hS hb
      replace hR := Rd.below hR hb
      replace hbA := gr hbA hb
      have hsA := hbA.size
      clear hb
      clear HN HK HG
      go_wp2_with fail
      go_at_call 47
      refine (vSuns_yes _ _ _ _ _ _ _ (by omega) hS hU).mono ?_
      rintro _ v5 ⟨rfl, hb⟩
      replace p0 := (Below.cell hb (p := ⟨g1, 0, none⟩) kX).trans p0
      replace p1 := (Below.cell hb (p := ⟨g1, 1, none⟩) kX).trans p1
      replace kX := Nat.lt_of_lt_of_le kX hb.size
      replace hS := Rd.below hS hb
      replace hR := Rd.below hR hb
      replace hbA := gr hbA hb
      have hsA := hbA.size
      clear hb
      clear hU
      go_upto_if 141 with fail
      go_cut [0] (fun s wx => s = .slice A n c ∧ Below w.heap.size w wx)
      case first =>
        as_aux_lemma =>
          cases ok
          · go_wp2
            go_meet
            exact ⟨rfl, hbA⟩
          · have HS := hide (HL.out rfl)
            go_wp2_with fail
            go_at_call 33
            refine (SunOn_any _ _ _ _ t _ (by omega) hS).mono ?_
            rintro _ v6 ⟨rfl, hb⟩
            rw [HS.out]
            replace p0 := (Below.cell hb (p := ⟨g1, 0, none⟩) kX).trans p0
            replace p1 := (Below.cell hb (p := ⟨g1, 1, none⟩) kX).trans p1
            replace hR := Rd.below hR hb
            replace hbA := gr hbA hb
            have hsA := hbA.size
            clear hb
            go_wp2
            go_meet
            exact ⟨rfl, hbA⟩
      case rest =>
        as_aux_lemma =>
          clear hR hS HL hbA p0 p1 kX
          obtain ⟨rfl, hbA⟩ := hcut
          have hsC := hbA.size
          go_wp2_with fail
          go_at_call 48
          refine (DrawSunSum_any _ _ _ _ _ (h.below hbA)).mono ?_
          rintro _ w1 ⟨A1, n1, c1, F1, a, d, rfl, hn1, hO, hb⟩
          have hR := hO.sl.rd (Nat.le_refl _)
          replace hbA := hbA.trans (hb.mono (by omega))
          have hsA := hbA.size
          clear hO hb
          obtain ⟨s, T, hE⟩ : ∃ s T, sunSumR F1 n1 a d = (s, T) := ⟨_, _, rfl⟩
          have HE := hide hE
          clear hE
          go_wp2_with fail
          go_at_call 35
          refine (SunSum_any _ _ _ _ a d _ (by omega) hR).mono ?_
          rintro _ w2 ⟨rfl, hb⟩
          rw [HE.out]
          replace hR := Rd.below hR hb
          replace hbA := gr hbA hb
          have hsA := hbA.size
          clear hb
          go_wp2_with fail
          go_at_call 34
          refine (spec_SunSum_any _ _ _ _ a d _ (by omega) hR).mono ?_
          rintro _ w3 ⟨rfl, hb⟩
          rw [HE.out]
          replace hR := Rd.below hR hb
          replace hbA := gr hbA hb
          have hsA := hbA.size
          clear hb
          clear HE hR
          go_wp2_with fail
          go_at_call 49
          refine (DrawSunOn_any _ _ _ _ _ (h.below hbA)).mono ?_
          rintro _ w4 ⟨A2, n2, c2, F2, e, rfl, hn2, hO, hb⟩
          have hR := hO.sl.rd (Nat.le_refl _)
          replace hbA := hbA.trans (hb.mono (by omega))
          have hsA := hbA.size
          clear hO hb
          obtain ⟨s2, T2, hE⟩ : ∃ s T, sunOnR F2 n2 e = (s, T) := ⟨_, _, rfl⟩
          have HE := hide hE
          clear hE
          go_wp2_with fail
          go_at_call 33
          refine (SunOn_any _ _ _ _ e _ (by omega) hR).mono ?_
          rintro _ w5 ⟨rfl, hb⟩
          rw [HE.out]
          replace hR := Rd.below hR hb
          replace hbA := gr hbA hb
          have hsA := hbA.size
          clear hb
          go_wp2_with fail
          go_at_call 32
          refine (spec_SunOn_any _ _ _ _ e _ (by omega) hR).mono ?_
          rintro _ w6 ⟨rfl, hb⟩
          rw [HE.out]
          replace hR := Rd.below hR hb
          replace hbA := gr hbA hb
          have hsA := hbA.size
          clear hb
          go_wp2
          go_ret
          exact ⟨rfl, hbA⟩
end Go.Proofs.Ytajmebclmippeaa
