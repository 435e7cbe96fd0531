/-
  The walk of the law FnDrySpans. Conditions: codes of bytes.
-/
import Derived.Test.YtcjjpkleipjibaaFnDv
namespace Go.Proofs.Ytcjjpkleipjibaa
open Go.RowKit

theorem vBig_dry (A : Option Addr) (n c : Nat) (w : World) :
    Calls Try.prog 44 #[.slice A n c] w fun e w' => e = .returned (.bool (decide (65536 < (n : Int)))) ∧ w = w' := by
  go_enter Try.func44, Try.ntmps44
  go_wp2
  go_ret
  exact ⟨rfl, rfl⟩
set_option maxRecDepth 20000 in
set_option maxHeartbeats 8000000 in
theorem law_Dry (A : Option Addr) (n c : Nat) (B : Nat → Int) (w : World) (h : CodeR w A n B) :
    Calls Try.prog 12 #[.slice A n c] w fun e w' => e = .returned (.bool true) ∧ Below w.heap.size w w' := by
  cases hbig : decide (65536 < (n : Int))
  rotate_left
  · go_enter Try.func12, Try.ntmps12
    go_wp2_with fail
    go_at_call 44
    refine (vBig_dry _ _ _ _).mono ?_
    rintro _ _ ⟨rfl, rfl⟩
    rw [hbig]
    go_wp2
    go_ret
    exact ⟨rfl, Below.refl _ _⟩
  have hbA := Below.refl w.heap.size w
  have hsA := hbA.size
  go_enter Try.func12, Try.ntmps12
  go_wp2_with fail
  go_at_call 44
  refine (vBig_dry _ _ _ _).mono ?_
  rintro _ _ ⟨rfl, rfl⟩
  rw [hbig]
  clear hbig
  go_wp2_with fail
  go_at_call 45
  refine (DrawDrySpans_any _ _ _ _ _ h).mono ?_
  rintro _ w1 ⟨A1, n1, c1, F1, p, q, rfl, hn1, hO, hb⟩
  have hR := hO.sl.rd (Nat.le_refl _)
  replace hbA := hbA.trans (hb.mono (by omega))
  clear hO hb
  obtain ⟨m, ok, x, y, T, G, hm, hk, hG, hE, hT, hm21, hmk, hall⟩ := dry_law F1 n1 p q
  have HM := hide hm
  have HK := hide hk
  have HG := hide hG
  have HE := hide hE
  have HA := hide hall
  have HT := hide hT
  clear hm hk hG hE hall hmk hT
  go_wp2_with fail
  go_at_call 34
  refine (DrySpans_w _ _ _ _ p q _ (by omega) hR HM.out HK.out HG.out).mono ?_
  rintro _ w2 ⟨A2, c2, rfl, hS, hb⟩
  replace hR := Rd.below hR hb
  replace hbA := gr hbA hb
  clear hb
  go_wp2_with fail
  go_at_call 33
  refine (spec_DrySpans_w _ _ _ _ p q _ (by omega) hR HM.out HK.out HG.out).mono ?_
  rintro _ w3 ⟨A3, c3, rfl, hU, hb⟩
  replace hS := Rd.below hS hb
  replace hR := Rd.below hR hb
  replace hbA := gr hbA hb
  clear hb
  go_wp2_with fail
  go_at_call 46
  refine (vPairs_yes _ _ _ _ _ _ _ (by omega) hS hU).mono ?_
  rintro _ w4 ⟨rfl, hb⟩
  replace hS := Rd.below hS hb
  clear hU
  replace hR := Rd.below hR hb
  replace hbA := gr hbA hb
  clear hb
  go_wp2_with fail
  go_at_call 26
  refine (LongestDry_w _ _ _ _ p q _ (by omega) hR HE.out).mono ?_
  rintro _ w5 ⟨rfl, hb⟩
  replace hS := Rd.below hS hb
  replace hR := Rd.below hR hb
  replace hbA := gr hbA hb
  clear hb
  go_wp2_with fail
  go_at_call 25
  refine (spec_LongestDry_w _ _ _ _ p q _ (by omega) hR HE.out).mono ?_
  rintro _ w6 ⟨rfl, hb⟩
  replace hS := Rd.below hS hb
  replace hR := Rd.below hR hb
  replace hbA := gr hbA hb
  clear hb
  clear HE HM HK HG
  go_upto_region 10 with fail
  go_cut [106] (fun s wx => s = .bool false ∧ w6 = wx)
  case first =>
    as_aux_lemma =>
      clear hR hS
      cases ok
      · obtain rfl : T = false := by rw [HT.out]; rfl
        clear HT
        go_wp2
        go_meet
        exact ⟨rfl, rfl⟩
      · by_cases hm0 : 0 < m
        · have e1 : decide ((0 : Int) < (m : Int)) = true := decide_eq_true (by omega)
          obtain rfl : T = true := by rw [HT.out, decide_eq_true hm0]; rfl
          clear HT
          go_wp2
          go_meet
          exact ⟨rfl, rfl⟩
        · obtain rfl : m = 0 := by omega
          obtain rfl : T = false := by rw [HT.out]; rfl
          clear HT
          go_wp2
          go_meet
          exact ⟨rfl, rfl⟩
  case rest =>
    obtain ⟨rfl, rfl⟩ := hcut
    clear HT
    go_wp2
    go_loopw [16, 17, 18] (fun i _ _ wr => ∃ k : Nat, k ≤ m ∧ i = .int .i64 k ∧ Below w6.heap.size w6 wr) (fun i _ _ _ => m - (intOf i).toNat)
    case atStart => exact ⟨0, by omega, rfl, Below.refl _ _⟩
    case round =>
      obtain ⟨k, hk, rfl, hb⟩ := hrel
      by_cases hlt : k < m
      · as_aux_lemma =>
          obtain ⟨⟨g0, g1, g2, g3⟩, ⟨x0, x1, y0, y1⟩, b1, b2, b3, hrb⟩ := HA.out k hlt
          obtain ⟨bs, off, rfl, -, hbs, hcl⟩ := Rd.below hS hb (by omega)
          have a0 := fun x : After wr => x.cell (hcl k 0 hlt (by omega)) hbs
          have a1 := fun x : After wr => x.cell (hcl k 1 hlt (by omega)) hbs
          simp only [Nat.add_zero, ints] at a0 a1
          clear hcl HA
          generalize G k 0 = z0 at *
          generalize G k 1 = z1 at *
          have HB := hide hrb
          have hRw := Rd.below hR hb
          have t1 : decide (y - x < z1 - z0) = false := decide_eq_false (by omega)
          have t2 : decide (z0 < p) = false := decide_eq_false (by omega)
          have t3 : decide (q < z1) = false := decide_eq_false (by omega)
          clear hrb hR hS
          go_wp2
          refine region_after (by kernel_rfl) (by kernel_rfl) ?_
          repeat (go_big_quiet_step ((first | (go_at_call 22; exact Calls.after (RainBetween_w _ _ _ _ _ _ _ _ (by omega) (Rd.after hRw _) HB.out)))))
          refine wpQuiet_nil ?_
          rintro _ ⟨v, rfl⟩
          go_wp2
          have a0' := fun u : After v.w => u.cell (a0 v) (Nat.lt_of_lt_of_le hbs v.h.size)
          have a1' := fun u : After v.w => u.cell (a1 v) (Nat.lt_of_lt_of_le hbs v.h.size)
          replace hb := gr hb v.h
          clear a0 a1 hRw
          generalize v.w = W7 at *
          clear v
          refine region_after (by kernel_rfl) (by kernel_rfl) ?_
          repeat (go_big_quiet_step ((first | fail)))
          refine wpQuiet_nil ?_
          rintro _ ⟨u, rfl⟩
          go_wp2
          go_roundw
          case rel => exact ⟨k + 1, by omega, by go_num, gr hb u.h⟩
          case measure => simp [intOf]; omega
      · as_aux_lemma =>
          replace hbA := gr hbA hb
          have hsB := hbA.size
          obtain rfl : k = m := by omega
          clear hR hS HA hb hlt hk hm21
          go_wp2_with fail
          go_at_call 47
          refine (DrawRainBetween_any _ _ _ _ _ (h.below hbA)).mono ?_
          rintro _ v1 ⟨A4, n4, c4, F4, ar, p4, q4, rfl, hn4, hO, hb⟩
          have hR := hO.sl.rd (Nat.le_refl _)
          replace hbA := hbA.trans (hb.mono (by omega))
          clear hO hb
          obtain ⟨r, T, hE⟩ : ∃ r T, rainBetweenR F4 n4 ar p4 q4 = (r, T) := ⟨_, _, rfl⟩
          have HE := hide hE
          clear hE
          go_wp2_with fail
          go_at_call 22
          refine (RainBetween_w _ _ _ _ ar p4 q4 _ (by omega) hR HE.out).mono ?_
          rintro _ v2 ⟨rfl, hb⟩
          replace hR := Rd.below hR hb
          replace hbA := gr hbA hb
          clear hb
          go_wp2_with fail
          go_at_call 21
          refine (spec_RainBetween_w _ _ _ _ ar p4 q4 _ (by omega) hR HE.out).mono ?_
          rintro _ v3 ⟨rfl, hb⟩
          replace hR := Rd.below hR hb
          replace hbA := gr hbA hb
          clear hb
          go_upto_region 23 with fail
          clear hR HE
          replace hsB := hbA.size
          go_wp2_with fail
          go_at_call 48
          refine (DrawWettestDay_any _ _ _ _ _ (h.below hbA)).mono ?_
          rintro _ v4 ⟨A5, n5, c5, F5, rfl, hn5, hO, hb⟩
          have hR := hO.sl.rd (Nat.le_refl _)
          replace hbA := hbA.trans (hb.mono (by omega))
          clear hO hb
          obtain ⟨r, T, hE⟩ : ∃ r T, wettestR F5 n5 = (r, T) := ⟨_, _, rfl⟩
          have HE := hide hE
          clear hE
          go_wp2_with fail
          go_at_call 20
          refine (WettestDay_w _ _ _ _ _ (by omega) hR HE.out).mono ?_
          rintro _ v5 ⟨rfl, hb⟩
          replace hR := Rd.below hR hb
          replace hbA := gr hbA hb
          clear hb
          go_wp2_with fail
          go_at_call 19
          refine (spec_WettestDay_w _ _ _ _ _ (by omega) hR HE.out).mono ?_
          rintro _ v6 ⟨rfl, hb⟩
          replace hR := Rd.below hR hb
          replace hbA := gr hbA hb
          clear hb
          go_upto_region 28 with fail
          cases T
          · go_wp2
            go_ret
            exact ⟨rfl, hbA⟩
          · as_aux_lemma =>
              obtain ⟨bi, e1, e2, e3⟩ := wet_ok (F := F5) (n := n5) (by rw [HE.out])
              rw [HE.out] at e1
              simp only at e1
              subst e1
              have HW := hide e2
              have HI := hide e3
              clear e2 e3 HE
              generalize F5 bi 1 = M at *
              generalize F5 bi 0 = D at *
              go_wp2_with fail
              go_at_call 24
              refine (RainOnArea_w _ _ _ _ _ _ _ (by omega) hR HW.out).mono ?_
              rintro _ v7 ⟨rfl, hb⟩
              replace hR := Rd.below hR hb
              replace hbA := gr hbA hb
              clear hb
              clear HW
              go_wp2
              go_loopw [34, 35, 36] (fun i _ _ wr => ∃ k : Nat, k ≤ n5 ∧ i = .int .i64 k ∧ Below v7.heap.size v7 wr) (fun i _ _ _ => n5 - (intOf i).toNat)
              case atStart => exact ⟨0, by omega, rfl, Below.refl _ _⟩
              case round =>
                obtain ⟨k, hk, rfl, hb⟩ := hrel
                by_cases hlt : k < n5
                · obtain ⟨hra, hle⟩ := HI.out k hlt
                  obtain ⟨bs, off, rfl, -, hbs, hcl⟩ := Rd.below hR hb (by omega)
                  have a0 := hcl k 0 hlt (by omega)
                  simp only [Nat.add_zero, ints] at a0
                  clear hcl
                  have HB := hide hra
                  clear hra
                  have t1 : decide (M < F5 k 1) = false := decide_eq_false (by omega)
                  go_wp2_with fail
                  go_at_call 24
                  refine (RainOnArea_w _ _ _ _ _ _ _ (by omega) (Rd.below hR hb) HB.out).mono ?_
                  rintro _ v8 ⟨rfl, hb8⟩
                  go_wp2
                  go_roundw
                  case rel => exact ⟨k + 1, by omega, by go_num, gr hb hb8⟩
                  case measure => simp [intOf]; omega
                · obtain rfl : k = n5 := by omega
                  go_wp2
                  go_ret
                  exact ⟨rfl, gr hbA hb⟩
end Go.Proofs.Ytcjjpkleipjibaa
