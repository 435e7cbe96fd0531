/-
  The walk of the law FnStacks. Conditions: codes of bytes.
-/
import Derived.Test.YtidcmdnhnnhnhaaFnHv
import Derived.Test.YtidcmdnhnnhnhaaDrHd
namespace Go.Proofs.Ytidcmdnhnnhnhaa
open Go.RowKit

theorem rBig_any (A : Option Addr) (n c : Nat) (w : World) :
    Calls Try.prog 48 #[.slice A n c] w fun e w' => e = .returned (.bool (decide (65536 < (n : Int)))) ∧ w = w' := by
  go_enter Try.func48, Try.ntmps48
  go_wp2
  go_ret
  exact ⟨rfl, rfl⟩
theorem big_of {H : Nat → HeapD} {n : Nat} (h : smallH H n) : ∀ i, i < n → (H i).n ≤ 1048576 := fun i hi => by have := h i hi; omega
set_option maxRecDepth 20000 in
set_option maxHeartbeats 8000000 in
theorem law_Stacks (A : Option Addr) (n c : Nat) (B : Nat → Int) (w : World) (h : CodeR w A n B) :
    Calls Try.prog 13 #[.slice A n c] w fun e w' => e = .returned (.bool true) ∧ Below w.heap.size w w' := by
  cases hbig : decide (65536 < (n : Int))
  rotate_left
  · go_enter Try.func13, Try.ntmps13
    go_wp2_with fail
    go_at_call 48
    refine (rBig_any _ _ _ _).mono ?_
    rintro _ _ ⟨rfl, rfl⟩
    rw [hbig]
    go_wp2
    go_ret
    exact ⟨rfl, Below.refl _ _⟩
  have hbA := Below.refl w.heap.size w
  have hsA := hbA.size
  go_enter Try.func13, Try.ntmps13
  go_wp2_with fail
  go_at_call 48
  refine (rBig_any _ _ _ _).mono ?_
  rintro _ _ ⟨rfl, rfl⟩
  rw [hbig]
  clear hbig
  go_wp2_with fail
  go_at_call 49
  refine (DrawRainOn_any _ _ _ _ _ h).mono ?_
  rintro _ w1 ⟨A1, n1, c1, H1, r, rfl, hn1, hl1, hH, hb⟩
  have hR := Hp.rd hH (Nat.le_refl _)
  replace hbA := hbA.trans (hb.mono (by omega))
  have hsA := hbA.size
  clear hH hb
  obtain ⟨N, G, X, ok, S, a, b, e1, e2, e3, e4, ⟨hN1, hsm⟩, hS1, hX0, hall⟩ := rain_law H1 n1 r hl1
  have E1 := hide e1
  have E2 := hide e2
  have E3 := hide e3
  have E4 := hide e4
  have HS1 := hide hS1
  have HX0 := hide hX0
  have HALL := hide hall
  clear e1 e2 e3 e4 hS1 hX0 hall
  have hbg1 := big_of hl1
  have hbg := big_of hsm
  go_wp2_with fail
  go_at_call 43
  refine (RainOn_w _ _ _ _ r _ (by omega) hbg1 hR E1.out E2.out E3.out E4.out).mono ?_
  rintro _ w2 ⟨A2, c2, rfl, hT, hb⟩
  replace hR := HpR.below hR hb
  replace hbA := gr hbA hb
  have hsA := hbA.size
  clear hb
  go_wp2_with fail
  go_at_call 42
  refine (spec_RainOn_w _ _ _ _ r _ (by omega) hbg1 hR E1.out E2.out E3.out E4.out).mono ?_
  rintro _ w3 ⟨A3, c3, rfl, hU, hb⟩
  replace hT := HpR.below hT hb
  replace hR := HpR.below hR hb
  replace hbA := gr hbA hb
  have hsA := hbA.size
  clear hb
  clear E1 E2 E3 E4
  go_wp2_with fail
  go_at_call 50
  refine (rHeaps_yes _ _ _ _ _ _ _ (by omega) hbg hT hU).mono ?_
  rintro _ w4 ⟨rfl, hb⟩
  replace hT := HpR.below hT hb
  replace hR := HpR.below hR hb
  replace hbA := gr hbA hb
  have hsA := hbA.size
  clear hb
  clear hU
  go_upto_if 73 with fail
  go_cut [0, 3, 5, 6, 7] (fun s l o x k wx => s = .slice A n c ∧ l = .slice A1 n1 c1 ∧ o = .slice A2 N c2 ∧ x = .int .i64 X ∧ k = .bool ok ∧ w4 = wx)
  case first =>
    go_wp2
    go_meet
    exact ⟨rfl, rfl, rfl, rfl, rfl, rfl⟩
  obtain ⟨rfl, rfl, rfl, rfl, rfl, rfl⟩ := hcut
  go_step
  go_step
  go_cut [0, 3, 5, 6, 7, 11] (fun s l o x k y wx => s = .slice A n c ∧ l = .slice A1 n1 c1 ∧ o = .slice A2 N c2 ∧ x = .int .i64 X ∧ k = .bool ok ∧ y = .int .i64 0 ∧ w4 = wx)
  case first =>
    go_wp2
    go_meet
    exact ⟨rfl, rfl, rfl, rfl, rfl, rfl, rfl⟩
  obtain ⟨rfl, rfl, rfl, rfl, rfl, rfl, rfl⟩ := hcut
  go_step
  go_step
  go_cut [0, 6, 11] (fun s x y wx => s = .slice A n c ∧ x = .int .i64 X ∧ y = .int .i64 X ∧ Below w.heap.size w wx)
  case first =>
    as_aux_lemma =>
      go_wp2
      go_loopw [11, 12, 13, 14, 15, 16] (fun y i _ _ _ _ wr => ∃ g : Nat, 1 ≤ g ∧ g ≤ 5 ∧ i = .int .i64 g ∧ y = .int .i64 (S g) ∧ (ok = false → g = 1) ∧ Below w4.heap.size w4 wr) (fun _ i _ _ _ _ _ => 6 - (intOf i).toNat)
      case atStart => exact ⟨1, Nat.le_refl _, by omega, rfl, by rw [HS1.out], fun _ => rfl, Below.refl _ _⟩
      case round =>
        obtain ⟨g, hg1, hg5, rfl, rfl, hgk, hb⟩ := hrel
        cases ok
        · obtain rfl : g = 1 := hgk rfl
          rw [HS1.out]
          clear HALL hgk
          go_wp2
          all_goals
            go_meet
            exact ⟨rfl, rfl, by first | rw [HX0.out rfl] | rw [HX0.out trivial], gr hbA hb⟩
        · obtain ⟨hS5, hst⟩ := HALL.out rfl
          have HST := hide hst
          have HS5 := hide hS5
          clear HALL hst hS5 hgk
          by_cases hlt : g ≤ 4
          · obtain ⟨t1, t2, t3, ⟨p1, p2⟩, ⟨p3, p4⟩, ⟨p5, p6⟩⟩ := HST.out g hg1 hlt
            have T1 := hide t1
            have T2 := hide t2
            have T3 := hide t3
            clear t1 t2 t3 HST HS5
            have hd : decide ((g : Int) ≤ 4) = true := decide_eq_true (by omega)
            have hd2 : decide (g ≤ 4) = true := decide_eq_true hlt
            generalize S g = s0 at *
            generalize a g = a0 at *
            generalize b g = b0 at *
            have hR2 := HpR.below hR hb
            have hT2 := HpR.below hT hb
            go_wp2_with fail
            go_at_call 33
            refine (TonsOf_any _ _ _ _ g _ (by omega) hbg1 hR2).mono ?_
            rintro _ w5 ⟨rfl, hb5⟩
            rw [T1.out]
            replace hT2 := HpR.below hT2 hb5
            go_wp2_with fail
            go_at_call 33
            refine (TonsOf_any _ _ _ _ g _ (by omega) hbg hT2).mono ?_
            rintro _ w6 ⟨rfl, hb6⟩
            rw [T2.out]
            have hb7 := gr (gr hb hb5) hb6
            clear hR2 hT2 hb5 hb6 hb T1 T2
            go_wp2
            go_roundw
            case rel => exact ⟨g + 1, by omega, by omega, by go_num, by rw [T3.out], (fun h => by cases h), hb7⟩
            case measure => simp [intOf]; omega
          · obtain rfl : g = 5 := by omega
            rw [HS5.out]
            clear HST HS5
            go_wp2
            go_meet
            exact ⟨rfl, rfl, rfl, gr hbA hb⟩
  case rest =>
    clear hR hT hbA HALL HX0 HS1 hsm
    obtain ⟨rfl, rfl, rfl, hbA⟩ := hcut
    as_aux_lemma =>
      have hsB := hbA.size
      go_wp2_with fail
      go_at_call 51
      refine (DrawCoverHeaps_any _ _ _ _ _ (h.below hbA)).mono ?_
      rintro _ v1 ⟨A4, n4, c4, H4, s, rfl, hn4, hl4, hH, hb⟩
      have hR := Hp.rd hH (Nat.le_refl _)
      replace hbA := hbA.trans (hb.mono (by omega))
      have hsA := hbA.size
      clear hH hb
      obtain ⟨N, G, ok, N2, G2, k2, e1, e2, e3, e4, e5, e6, ⟨hN, hsm⟩, ⟨hN2, hsm2⟩, hall⟩ := cover_law H4 n4 s hl4
      have E1 := hide e1
      have E2 := hide e2
      have E3 := hide e3
      have E4 := hide e4
      have E5 := hide e5
      have E6 := hide e6
      have HALL := hide hall
      clear e1 e2 e3 e4 e5 e6 hall
      have hbg4 := big_of hl4
      have hbg := big_of hsm
      have hbg2 := big_of hsm2
      go_wp2_with fail
      go_at_call 47
      refine (CoverHeaps_w _ _ _ _ s _ (by omega) hbg4 hR E1.out E2.out E3.out).mono ?_
      rintro _ v2 ⟨A5, c5, rfl, hT, hb⟩
      replace hR := HpR.below hR hb
      replace hbA := gr hbA hb
      have hsA := hbA.size
      clear hb
      go_wp2_with fail
      go_at_call 46
      refine (spec_CoverHeaps_w _ _ _ _ s _ (by omega) hbg4 hR E1.out E2.out E3.out).mono ?_
      rintro _ v3 ⟨A6, c6, rfl, hU, hb⟩
      replace hT := HpR.below hT hb
      replace hR := HpR.below hR hb
      replace hbA := gr hbA hb
      have hsA := hbA.size
      clear hb
      go_wp2_with fail
      go_at_call 50
      refine (rHeaps_yes _ _ _ _ _ _ _ (by omega) hbg hT hU).mono ?_
      rintro _ v4 ⟨rfl, hb⟩
      replace hR := HpR.below hR hb
      replace hbA := gr hbA hb
      have hsA := hbA.size
      clear hb
      clear hU hT E1 E2 E3
      go_wp2_with fail
      go_at_call 47
      refine (CoverHeaps_w _ _ _ _ 20 _ (by omega) hbg4 hR E4.out E5.out E6.out).mono ?_
      rintro _ v5 ⟨A7, c7, rfl, hT, hb⟩
      replace hR := HpR.below hR hb
      replace hbA := gr hbA hb
      have hsA := hbA.size
      clear hb
      clear E4 E5 E6
      go_upto_if 138 with fail
      go_cut [0, 17] (fun s l wx => s = .slice A n c ∧ l = .slice A4 n4 c4 ∧ Below v5.heap.size v5 wx)
      case first =>
        as_aux_lemma =>
          cases ok
          · go_wp2
            go_meet
            exact ⟨rfl, rfl, Below.refl _ _⟩
          · obtain ⟨rfl, f1, f2, f3, f4⟩ := HALL.out rfl
            obtain ⟨G3, hG3⟩ : ∃ G3, (rainOnR G2 N2 300).H = G3 := ⟨_, rfl⟩
            rw [hG3] at f2
            have F1 := hide f1
            have F2 := hide f2
            have F3 := hide f3
            have F4 := hide f4
            have HG3 := hide hG3
            clear f1 f2 f3 f4 hG3 HALL
            go_wp2_with fail
            go_at_call 43
            refine (RainOn_w _ _ _ _ 300 _ (by omega) hbg2 hT F1.out HG3.out F3.out F4.out).mono ?_
            rintro _ v6 ⟨A8, c8, rfl, hV, hb6⟩
            have hT6 := HpR.below hT hb6
            have hV6 : HpR v6 A8 N2 G2 := Hp.congr hV F2.out
            go_wp2_with fail
            go_at_call 50
            refine (rHeaps_yes _ _ _ _ _ _ _ (by omega) hbg2 hV6 hT6).mono ?_
            rintro _ v7 ⟨rfl, hb7⟩
            go_wp2
            go_meet
            exact ⟨rfl, rfl, gr hb6 hb7⟩
      case rest =>
        as_aux_lemma =>
          obtain ⟨rfl, rfl, hb⟩ := hcut
          replace hR := HpR.below hR hb
          replace hbA := gr hbA hb
          have hsA := hbA.size
          clear hb
          clear hT HALL hsm hsm2 hbg hbg2
          have hsC := hbA.size
          go_wp2_with fail
          go_at_call 52
          refine (DrawStackLayers_any _ _ _ _ _ (h.below hbA)).mono ?_
          rintro _ w1 ⟨A9, n9, c9, F9, rfl, hn9, hO, hb⟩
          have hF := hO.sl.rd (Nat.le_refl _)
          clear hO
          replace hR := HpR.below hR hb
          replace hbA := gr hbA hb
          have hsA := hbA.size
          clear hb
          obtain ⟨M, G, ok, e1, e2, e3, ⟨hM, hsm⟩, hhp, hsum, hall⟩ := stack_law2 F9 n9 hn9
          have E1 := hide e1
          have E2 := hide e2
          have E3 := hide e3
          have HHP := hide hhp
          have HSUM := hide hsum
          have HALL := hide hall
          clear e1 e2 e3 hhp hsum hall
          have hbg := big_of hsm
          go_wp2_with fail
          go_at_call 21
          refine (StackLayers_w _ _ _ _ _ (by omega) hF E1.out E2.out E3.out).mono ?_
          rintro _ w2 ⟨A10, c10, rfl, hT, hb⟩
          replace hF := Rd.below hF hb
          replace hR := HpR.below hR hb
          replace hbA := gr hbA hb
          have hsA := hbA.size
          clear hb
          go_wp2_with fail
          go_at_call 19
          refine (spec_StackLayers_w _ _ _ _ _ (by omega) hF E1.out E2.out E3.out).mono ?_
          rintro _ w3 ⟨A11, c11, rfl, hU, hb⟩
          replace hF := Rd.below hF hb
          replace hT := hT.rdT hb
          replace hR := HpR.below hR hb
          replace hbA := gr hbA hb
          have hsA := hbA.size
          clear hb
          clear E1 E2 E3
          go_wp2_with fail
          go_at_call 53
          refine (rTable_yes _ _ _ _ _ _ _ (by omega) hbg hT hU).mono ?_
          rintro _ w4 ⟨rfl, hb⟩
          replace hF := Rd.below hF hb
          replace hT := hT.rdT hb
          replace hR := HpR.below hR hb
          replace hbA := gr hbA hb
          have hsA := hbA.size
          clear hb
          clear hU
          obtain ⟨C, cc, hS, hL⟩ := hT
          have HL := hide hL
          have HBG := hide hbg
          clear hL hbg hsm
          go_wp2
          go_loopw [33, 34] (fun y i wr => ∃ k : Nat, k ≤ M ∧ i = .int .i64 k ∧ y = .int .i64 (sumI (fun i => tonsH (G i).n (G i).L) k) ∧ Below w4.heap.size w4 wr) (fun _ i _ => M - (intOf i).toNat)
          case atStart => exact ⟨0, Nat.zero_le _, rfl, rfl, Below.refl _ _⟩
          case round =>
            obtain ⟨k, hk, rfl, rfl, hb⟩ := hrel
            by_cases hlt : k < M
            · obtain ⟨b, off, rfl, -, hbw, hc⟩ := Rd.below hS hb (by omega)
              have c0 := hc k 0 hlt (by omega)
              simp only [Nat.add_zero, Nat.mul_one, tsC] at c0
              have rk := Rd.below (HL.out k hlt).1 hb
              have nk := HBG.out k hlt
              obtain ⟨k1, k2⟩ := HHP.out k hlt
              have K1 := hide k1
              obtain ⟨p1, p2⟩ := k2 (G k).n (Nat.le_refl _)
              have HB : Hid (∀ q, q ≤ (G k).n → 0 ≤ sumI (fun j => (G k).L j 0) q ∧ sumI (fun j => (G k).L j 0) q ≤ 1000000000000) := fun q hq => by have := k2 q hq; omega
              obtain ⟨s1, s2⟩ := HSUM.out k hk
              have HS := hide (show sumI (fun i => tonsH (G i).n (G i).L) (k + 1) = sumI (fun i => tonsH (G i).n (G i).L) k + sumI (fun j => (G k).L j 0) (G k).n from rfl)
              clear hc k1 k2
              generalize sumI (fun i => tonsH (G i).n (G i).L) k = s0 at s1 s2 HS ⊢
              go_wp2_with fail
              go_at_call 54
              refine (rSum_any _ _ _ _ _ nk rk HB).mono ?_
              rintro _ _ ⟨rfl, rfl⟩
              generalize sumI (fun j => (G k).L j 0) (G k).n = s3 at p1 p2 HS ⊢
              go_wp2_with fail
              go_at_call 17
              refine (IsHeap_any _ _ _ _ _ _ _ _ (by omega) rk).mono ?_
              rintro _ w6 ⟨rfl, hb6⟩
              rw [K1.out]
              go_wp2
              go_roundw
              case rel => exact ⟨k + 1, by omega, by go_num, by rw [HS.out], gr hb hb6⟩
              case measure => simp [intOf]; omega
            · obtain rfl : k = M := by omega
              have hF2 := Rd.below hF hb
              have hR2 := HpR.below hR hb
              have hbB := gr hbA hb
              clear hS HL HBG HHP HSUM hF hR hb hbA
              obtain ⟨x, T, hE⟩ : ∃ x T, highestR H4 n4 = (x, T) := ⟨_, _, rfl⟩
              have HE := hide hE
              clear hE
              cases ok
              · go_wp2_with fail
                go_at_call 35
                refine (HighestHeap_any _ _ _ _ _ (by omega) hbg4 hR2).mono ?_
                rintro _ w7 ⟨rfl, hb7⟩
                rw [HE.out]
                go_wp2_with fail
                go_at_call 34
                refine (spec_HighestHeap_any _ _ _ _ _ (by omega) hbg4 (HpR.below hR2 hb7)).mono ?_
                rintro _ w8 ⟨rfl, hb8⟩
                rw [HE.out]
                go_wp2
                go_ret
                exact ⟨rfl, gr (gr hbB hb7) hb8⟩
              · obtain ⟨q1, q2⟩ := HALL.out rfl
                have HB : Hid (∀ q, q ≤ n9 → 0 ≤ sumI (fun j => F9 j 0) q ∧ sumI (fun j => F9 j 0) q ≤ 1000000000000) := fun q hq => by have := q1 q hq; omega
                rw [q2]
                clear q1 q2 HALL
                go_wp2_with fail
                go_at_call 54
                refine (rSum_any _ _ _ _ _ (by omega) hF2 HB).mono ?_
                rintro _ _ ⟨rfl, rfl⟩
                generalize sumI (fun j => F9 j 0) n9 = s4
                go_wp2_with fail
                go_at_call 35
                refine (HighestHeap_any _ _ _ _ _ (by omega) hbg4 hR2).mono ?_
                rintro _ w7 ⟨rfl, hb7⟩
                rw [HE.out]
                go_wp2_with fail
                go_at_call 34
                refine (spec_HighestHeap_any _ _ _ _ _ (by omega) hbg4 (HpR.below hR2 hb7)).mono ?_
                rintro _ w8 ⟨rfl, hb8⟩
                rw [HE.out]
                go_wp2
                go_ret
                exact ⟨rfl, gr (gr hbB hb7) hb8⟩
end Go.Proofs.Ytidcmdnhnnhnhaa
