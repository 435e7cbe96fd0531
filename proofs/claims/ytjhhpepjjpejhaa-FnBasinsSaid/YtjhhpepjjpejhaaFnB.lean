/-
  The walk of the law FnBasins. Conditions: codes of bytes.
-/
import Derived.Test.YtjhhpepjjpejhaaFnBv
namespace Go.Proofs.Ytjhhpepjjpejhaa
open Go.RowKit

theorem vBig_bas (A : Option Addr) (n c : Nat) (w : World) :
    Calls Try.prog 27 #[.slice A n c] w fun e w' => e = .returned (.bool (decide (65536 < (n : Int)))) ∧ w = w' := by
  go_enter Try.func27, Try.ntmps27
  go_wp2
  go_ret
  exact ⟨rfl, rfl⟩
set_option maxRecDepth 20000 in
set_option maxHeartbeats 8000000 in
theorem law_Basins (A : Option Addr) (n c : Nat) (B : Nat → Int) (w : World) (h : CodeR w A n B) :
    Calls Try.prog 8 #[.slice A n c] w fun e w' => e = .returned (.bool true) ∧ Below w.heap.size w w' := by
  cases hbig : decide (65536 < (n : Int))
  rotate_left
  · go_enter Try.func8, Try.ntmps8
    go_wp2_with fail
    go_at_call 27
    refine (vBig_bas _ _ _ _).mono ?_
    rintro _ _ ⟨rfl, rfl⟩
    rw [hbig]
    go_wp2
    go_ret
    exact ⟨rfl, Below.refl _ _⟩
  have hbA := Below.refl w.heap.size w
  have hsA := hbA.size
  go_enter Try.func8, Try.ntmps8
  go_wp2_with fail
  go_at_call 27
  refine (vBig_bas _ _ _ _).mono ?_
  rintro _ _ ⟨rfl, rfl⟩
  rw [hbig]
  clear hbig
  go_wp2_with fail
  go_at_call 28
  refine (DrawSunOnSeries_any _ _ _ _ _ h).mono ?_
  rintro _ w1 ⟨A1, n1, c1, F1, r, rfl, hn1, hO, hb⟩
  have hR := hO.sl.rd (Nat.le_refl _)
  replace hbA := hbA.trans (hb.mono (by omega))
  clear hO hb
  obtain ⟨N, g, ok, S, G, hN, hg, hk, hG, hNn, hall⟩ := sun_law F1 n1 r
  have HN := hide hN
  have Hg := hide hg
  have HK := hide hk
  have HG := hide hG
  have HA := hide hall
  clear hN hg hk hG hall
  go_wp2_with fail
  go_at_call 19
  refine (SunOnSeries_w _ _ _ _ r _ (by omega) hR HN.out Hg.out HK.out HG.out).mono ?_
  rintro _ w2 ⟨A2, c2, rfl, hS, hb⟩
  replace hR := Rd.below hR hb
  replace hbA := gr hbA hb
  clear hb
  go_wp2_with fail
  go_at_call 18
  refine (spec_SunOnSeries_w _ _ _ _ r _ (by omega) hR HN.out Hg.out HK.out HG.out).mono ?_
  rintro _ w3 ⟨A3, c3, rfl, hU, hb⟩
  replace hS := Rd.below hS hb
  replace hR := Rd.below hR hb
  replace hbA := gr hbA hb
  clear hb
  clear HN Hg HK HG
  go_wp2_with fail
  go_at_call 29
  refine (vBasins_yes _ _ _ _ _ _ _ (by omega) hS hU).mono ?_
  rintro _ w4 ⟨rfl, hb⟩
  replace hS := Rd.below hS hb
  replace hR := Rd.below hR hb
  replace hbA := gr hbA hb
  clear hb
  clear hU
  go_upto_if 66 with fail
  go_cut [0] (fun s wx => s = .slice A n c ∧ Below w.heap.size w wx)
  case first =>
    as_aux_lemma =>
      cases ok
      · go_wp2
        go_meet
        exact ⟨rfl, hbA⟩
      · obtain ⟨e1, h8, s0, sn, hst⟩ := HA.out rfl
        replace e1 := e1.symm
        subst e1
        have HST := hide hst
        have HSN := hide sn
        clear HA hst sn hNn
        go_wp2
        go_loopw [11, 12] (fun v i wr => ∃ k : Nat, k ≤ n1 ∧ i = .int .i64 k ∧ v = .int .i64 (S k) ∧ Below w4.heap.size w4 wr) (fun _ i _ => n1 - (intOf i).toNat)
        case atStart => exact ⟨0, by omega, rfl, by rw [s0], Below.refl _ _⟩
        case round =>
          clear s0
          obtain ⟨k, hk, rfl, rfl, hb⟩ := hrel
          by_cases hlt : k < n1
          · obtain ⟨⟨s1, s2⟩, ⟨p1, p2⟩, ⟨g1, g2⟩, e2, e3⟩ := HST.out k hlt
            have HE3 := hide e3
            obtain ⟨b, off, rfl, -, hbw, hc⟩ := Rd.below hR hb (by omega)
            obtain ⟨b', off', rfl, -, hbw', hc'⟩ := Rd.below hS hb (by omega)
            have a1 := fun x : After wr => x.cell (hc k 1 hlt (by omega)) hbw
            have a2 := fun x : After wr => x.cell (hc k 2 hlt (by omega)) hbw
            have f1 := fun x : After wr => x.cell (hc' k 1 hlt (by omega)) hbw'
            have f2 : ∀ x : After wr, x.w.cell? ⟨b', off' + k * 3 + 2, none⟩ = some (.int .i64 (F1 k 2)) := fun x => by rw [x.cell (hc' k 2 hlt (by omega)) hbw']; simp [ints, e2]
            simp only [ints] at a1 a2 f1
            clear hc hc' e2 e3 HST HSN
            generalize S k = S0 at *
            generalize G k 1 = z1 at *
            generalize F1 k 1 = y1 at *
            generalize F1 k 2 = y2 at *
            clear hR hS
            go_wp2
            refine region_after (by kernel_rfl) (by kernel_rfl) ?_
            repeat (go_big_quiet_step ((first | fail)))
            refine wpQuiet_nil ?_
            rintro _ ⟨x, rfl⟩
            go_wp2
            have a2' := fun u : After x.w => u.cell (a2 x) (Nat.lt_of_lt_of_le hbw x.h.size)
            have f2' := fun u : After x.w => u.cell (f2 x) (Nat.lt_of_lt_of_le hbw' x.h.size)
            replace hb := gr hb x.h
            clear a1 a2 f1 f2
            generalize x.w = W7 at *
            clear x
            refine region_after (by kernel_rfl) (by kernel_rfl) ?_
            repeat (go_big_quiet_step ((first | fail)))
            refine wpQuiet_nil ?_
            rintro _ ⟨u, rfl⟩
            go_wp2
            go_roundw
            case rel => exact ⟨k + 1, by omega, by go_num, by rw [HE3.out], gr hb u.h⟩
            case measure => simp [intOf]; omega
          · obtain rfl : k = n1 := by omega
            rw [HSN.out]
            clear HST HSN hR hS
            go_wp2
            go_meet
            exact ⟨rfl, gr hbA hb⟩
  case rest =>
    as_aux_lemma =>
      clear hR hS HA hbA
      obtain ⟨rfl, hbA⟩ := hcut
      have hsB := hbA.size
      go_wp2_with fail
      go_at_call 30
      refine (DrawStrongestBasin_any _ _ _ _ _ (h.below hbA)).mono ?_
      rintro _ v1 ⟨A4, n4, c4, F4, rfl, hn4, hO, hb⟩
      have hR := hO.sl.rd (Nat.le_refl _)
      replace hbA := hbA.trans (hb.mono (by omega))
      clear hO hb
      obtain ⟨best, T, hE, hT⟩ := strong_law F4 n4
      have HE := hide hE
      have HT := hide hT
      clear hE hT
      go_wp2_with fail
      go_at_call 15
      refine (StrongestBasin_w _ _ _ _ _ (by omega) hR HE.out).mono ?_
      rintro _ v2 ⟨rfl, hb⟩
      replace hR := Rd.below hR hb
      replace hbA := gr hbA hb
      clear hb
      go_wp2_with fail
      go_at_call 14
      refine (spec_StrongestBasin_w _ _ _ _ _ (by omega) hR HE.out).mono ?_
      rintro _ v3 ⟨rfl, hb⟩
      replace hR := Rd.below hR hb
      replace hbA := gr hbA hb
      clear hb
      clear HE
      go_upto_if 129 with fail
      go_cut [0] (fun s wx => s = .slice A n c ∧ v3 = wx)
      case first =>
        go_wp2
        go_meet
        exact ⟨rfl, rfl⟩
      obtain ⟨rfl, rfl⟩ := hcut
      go_step
      go_step
      go_cut [0] (fun s wx => s = .slice A n c ∧ Below w.heap.size w wx)
      case first =>
        as_aux_lemma =>
          cases T
          · go_wp2
            go_loopw [18, 19, 20] (fun i _ _ wr => i = .int .i64 0 ∧ Below w.heap.size w wr) (fun _ _ _ _ => 0)
            case atStart => exact ⟨rfl, hbA⟩
            case round =>
              obtain ⟨rfl, hb⟩ := hrel
              by_cases h0 : 0 < n4
              · have hd : decide ((0 : Int) < (n4 : Int)) = true := decide_eq_true (by omega)
                go_wp2
                go_meet
                exact ⟨rfl, hb⟩
              · obtain rfl : n4 = 0 := by omega
                go_wp2
                go_meet
                exact ⟨rfl, hb⟩
          · obtain ⟨h8, bb, rfl, hbn, hall⟩ := HT.out rfl
            have HA := hide hall
            clear HT hall
            go_wp2
            go_loopw [18, 19, 20] (fun i _ _ wr => ∃ k : Nat, k ≤ n4 ∧ i = .int .i64 k ∧ Below v3.heap.size v3 wr) (fun i _ _ _ => n4 - (intOf i).toNat)
            case atStart => exact ⟨0, by omega, rfl, Below.refl _ _⟩
            case round =>
              obtain ⟨k, hk, rfl, hb⟩ := hrel
              by_cases hlt : k < n4
              · obtain ⟨b1, b2, s, o, hE, hso⟩ := HA.out k hlt
                obtain ⟨b, off, rfl, -, hbw, hc⟩ := Rd.below hR hb (by omega)
                have a1 := fun x : After wr => x.cell (hc k 1 hlt (by omega)) hbw
                have a2 := fun x : After wr => x.cell (hc k 2 hlt (by omega)) hbw
                have f1 := fun x : After wr => x.cell (hc bb 1 hbn (by omega)) hbw
                have f2 := fun x : After wr => x.cell (hc bb 2 hbn (by omega)) hbw
                simp only [ints] at a1 a2 f1 f2
                have HB := hide (And.intro b1 (And.intro b2 hE))
                have HSO := hide hso
                clear hc b1 b2 hE hso HA hR
                go_wp2
                refine region_after (by kernel_rfl) (by kernel_rfl) ?_
                repeat (go_big_quiet_step ((first | (go_at_call 31; exact Calls.after (IsStronger_w _ _ _ _ _ HB.out.1 HB.out.2.1 HB.out.2.2)))))
                refine wpQuiet_nil ?_
                rintro _ ⟨x, rfl⟩
                replace hb := gr hb x.h
                clear a1 a2 f1 f2
                generalize x.w = W7 at *
                clear x
                cases o
                · go_wp2
                  go_roundw
                  case rel => exact ⟨k + 1, by omega, by go_num, hb⟩
                  case measure => simp [intOf]; omega
                · obtain rfl : s = false := HSO.out rfl
                  go_wp2
                  go_roundw
                  case rel => exact ⟨k + 1, by omega, by go_num, hb⟩
                  case measure => simp [intOf]; omega
              · obtain rfl : k = n4 := by omega
                clear HA hR
                go_wp2
                go_meet
                exact ⟨rfl, gr hbA hb⟩
      case rest =>
        as_aux_lemma =>
          clear hR hbA HT
          obtain ⟨rfl, hbA⟩ := hcut
          replace hsB := hbA.size
          go_wp2_with fail
          go_at_call 32
          refine (DrawIsRising_any _ _ _ _ _ (h.below hbA)).mono ?_
          rintro _ v4 ⟨A5, n5, c5, F5, rfl, hn5, hO, hb⟩
          have hR := hO.sl.rd (Nat.le_refl _)
          replace hbA := hbA.trans (hb.mono (by omega))
          clear hO hb
          obtain ⟨r, T, hE⟩ : ∃ r T, risingR F5 n5 = (r, T) := ⟨_, _, rfl⟩
          have HE := hide hE
          clear hE
          go_wp2_with fail
          go_at_call 17
          refine (IsRising_w _ _ _ _ _ (by omega) hR HE.out).mono ?_
          rintro _ v5 ⟨rfl, hb⟩
          replace hR := Rd.below hR hb
          replace hbA := gr hbA hb
          clear hb
          go_wp2_with fail
          go_at_call 16
          refine (spec_IsRising_w _ _ _ _ _ (by omega) hR HE.out).mono ?_
          rintro _ v6 ⟨rfl, hb⟩
          replace hR := Rd.below hR hb
          replace hbA := gr hbA hb
          clear hb
          clear HE hR
          go_upto_region 34 with fail
          replace hsB := hbA.size
          go_wp2_with fail
          go_at_call 33
          refine (DrawDepthOrder_any _ _ _ _ _ (h.below hbA)).mono ?_
          rintro _ v7 ⟨A6, n6, c6, F6, rfl, hn6, hO, hb⟩
          have hR := hO.sl.rd (Nat.le_refl _)
          replace hbA := hbA.trans (hb.mono (by omega))
          clear hO hb
          obtain ⟨N, ok, G, h1, h2, h3, h4⟩ : ∃ N ok G, ordLen F6 n6 = N ∧ seriesB F6 n6 = ok ∧ ordI F6 n6 = G ∧ N ≤ n6 := ⟨_, _, _, rfl, rfl, rfl, by unfold ordLen; split <;> omega⟩
          have H1 := hide h1
          have H2 := hide h2
          have H3 := hide h3
          clear h1 h2 h3
          go_wp2_with fail
          go_at_call 23
          refine (DepthOrder_w _ _ _ _ _ (by omega) hR H1.out H2.out H3.out).mono ?_
          rintro _ v8 ⟨A7, c7, rfl, hS, hb⟩
          replace hR := Rd.below hR hb
          replace hbA := gr hbA hb
          clear hb
          go_wp2_with fail
          go_at_call 22
          refine (spec_DepthOrder_w _ _ _ _ _ (by omega) hR H1.out H2.out H3.out).mono ?_
          rintro _ v9 ⟨A8, c8, rfl, hU, hb⟩
          replace hS := Rd.below hS hb
          replace hR := Rd.below hR hb
          replace hbA := gr hbA hb
          clear hb
          go_wp2_with fail
          go_at_call 34
          refine (vInts_yes _ _ _ _ _ _ _ (by omega) hS hU).mono ?_
          rintro _ v10 ⟨rfl, hb⟩
          go_wp2
          go_ret
          exact ⟨rfl, gr hbA hb⟩
end Go.Proofs.Ytjhhpepjjpejhaa
