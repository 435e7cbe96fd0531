/-
  The walk of the law FnCrystals. Conditions: codes of bytes.
-/
import Derived.Test.YtnmpfojcmedpeaaDoorFnCv
namespace Go.Proofs.YtnmpfojcmedpeaaDoor
open Go.RowKit

theorem vBig_cry (A : Option Addr) (n c : Nat) (w : World) :
    Calls Tryd.prog 14 #[.slice A n c] w fun e w' => e = .returned (.bool (decide (65536 < (n : Int)))) ∧ w = w' := by
  go_enter Tryd.func14, Tryd.ntmps14
  go_wp2
  go_ret
  exact ⟨rfl, rfl⟩
set_option maxRecDepth 20000 in
set_option maxHeartbeats 8000000 in
theorem law_Crystals (A : Option Addr) (n c : Nat) (B : Nat → Int) (w : World) (h : CodeR w A n B) :
    Calls Tryd.prog 4 #[.slice A n c] w fun e w' => e = .returned (.bool true) ∧ Below w.heap.size w w' := by
  cases hbig : decide (65536 < (n : Int))
  rotate_left
  · go_enter Tryd.func4, Tryd.ntmps4
    go_wp2_with fail
    go_at_call 14
    refine (vBig_cry _ _ _ _).mono ?_
    rintro _ _ ⟨rfl, rfl⟩
    rw [hbig]
    go_wp2
    go_ret
    exact ⟨rfl, Below.refl _ _⟩
  have hbA := Below.refl w.heap.size w
  have hsA := hbA.size
  go_enter Tryd.func4, Tryd.ntmps4
  go_wp2_with fail
  go_at_call 14
  refine (vBig_cry _ _ _ _).mono ?_
  rintro _ _ ⟨rfl, rfl⟩
  rw [hbig]
  clear hbig
  go_wp2_with fail
  go_at_call 25
  refine (DrawFallOut_any _ _ _ _ _ h).mono ?_
  rintro _ w1 ⟨A1, n1, c1, S1, F1, x, B1, m1, d1, L1, rfl, hn1, hm1, HS1, hO, hQ, hb⟩
  go_upto_region 4 with fail
  have hX := Box2.new w1 27 (.int .i64 x) (.slice B1 m1 d1)
  have hK := Rd.alloc (hO.rd (Nat.le_refl _)) (.cells #[.int .i64 x, .slice B1 m1 d1] 27)
  have hL := Rd.alloc (hQ.rd (Nat.le_refl _)) (.cells #[.int .i64 x, .slice B1 m1 d1] 27)
  replace hbA := (hbA.trans (hb.mono (by omega))).alloc (by have := hb.size; omega) (.cells #[.int .i64 x, .slice B1 m1 d1] 27)
  clear hO hQ hb
  generalize w1.alloc (.cells #[.int .i64 x, .slice B1 m1 d1] 27) = w2 at hX hK hL hbA ⊢
  generalize w1.heap.size = g1 at hX ⊢
  obtain ⟨kX, p0, p1, -, -⟩ := hX
  obtain ⟨N, X, ok, Fs, Fg, h1, h2, h3, h4, h5, hN6, hall⟩ := fall_law S1 F1 n1 x m1 L1
  have H1 := hide h1
  have H2 := hide h2
  have H3 := hide h3
  have H4 := hide h4
  have H5 := hide h5
  have HA := hide hall
  clear h1 h2 h3 h4 h5 hall
  go_wp2_with fail
  go_at_call 26
  refine (FallOut_w _ _ _ _ _ _ _ _ _ _  _ (by omega) (by omega) HS1 hK hL H1.out H2.out H3.out H4.out H5.out).mono ?_
  rintro _ w3 ⟨A2, c2, A3, c3, rfl, hS, hG, hb⟩
  replace hK := Rd.below hK hb
  replace hL := Rd.below hL hb
  replace p0 := (Below.cell hb (p := ⟨g1, 0, none⟩) kX).trans p0
  replace p1 := (Below.cell hb (p := ⟨g1, 1, none⟩) kX).trans p1
  replace kX := Nat.lt_of_lt_of_le kX (Below.size hb)
  replace hbA := gr hbA hb
  clear hb
  go_upto_region 5 with fail
  have hY := Box2.new w3 27 (.int .i64 X) (.slice A2 N c2)
  have hb : Below w3.heap.size w3 (w3.alloc (.cells #[.int .i64 X, .slice A2 N c2] 27)) := (Below.refl _ _).alloc (Nat.le_refl _) _
  generalize w3.alloc (.cells #[.int .i64 X, .slice A2 N c2] 27) = w4 at hY hb ⊢
  replace hK := Rd.below hK hb
  replace hL := Rd.below hL hb
  replace p0 := (Below.cell hb (p := ⟨g1, 0, none⟩) kX).trans p0
  replace p1 := (Below.cell hb (p := ⟨g1, 1, none⟩) kX).trans p1
  replace kX := Nat.lt_of_lt_of_le kX (Below.size hb)
  replace hbA := gr hbA hb
  replace hS := Rd.below hS hb
  replace hG := Rd.below hG hb
  generalize w3.heap.size = g2 at hY hb ⊢
  clear hb
  obtain ⟨kY, q0, q1, -, -⟩ := hY
  go_wp2_with fail
  go_at_call 27
  refine (spec_FallOut_w _ _ _ _ _ _ _ _ _ _  _ (by omega) (by omega) HS1 hK hL H1.out H2.out H3.out H4.out H5.out).mono ?_
  rintro _ w5 ⟨A4, c4, A5, c5, rfl, hS2, hG2, hb⟩
  replace hK := Rd.below hK hb
  replace hL := Rd.below hL hb
  replace p0 := (Below.cell hb (p := ⟨g1, 0, none⟩) kX).trans p0
  replace p1 := (Below.cell hb (p := ⟨g1, 1, none⟩) kX).trans p1
  replace kX := Nat.lt_of_lt_of_le kX (Below.size hb)
  replace hbA := gr hbA hb
  replace hS := Rd.below hS hb
  replace hG := Rd.below hG hb
  replace q0 := (Below.cell hb (p := ⟨g2, 0, none⟩) kY).trans q0
  replace q1 := (Below.cell hb (p := ⟨g2, 1, none⟩) kY).trans q1
  replace kY := Nat.lt_of_lt_of_le kY (Below.size hb)
  clear hb
  go_upto_region 6 with fail
  have hZ := Box2.new w5 27 (.int .i64 X) (.slice A4 N c4)
  have hb : Below w5.heap.size w5 (w5.alloc (.cells #[.int .i64 X, .slice A4 N c4] 27)) := (Below.refl _ _).alloc (Nat.le_refl _) _
  generalize w5.alloc (.cells #[.int .i64 X, .slice A4 N c4] 27) = w6 at hZ hb ⊢
  replace hK := Rd.below hK hb
  replace hL := Rd.below hL hb
  replace p0 := (Below.cell hb (p := ⟨g1, 0, none⟩) kX).trans p0
  replace p1 := (Below.cell hb (p := ⟨g1, 1, none⟩) kX).trans p1
  replace kX := Nat.lt_of_lt_of_le kX (Below.size hb)
  replace hbA := gr hbA hb
  replace hS := Rd.below hS hb
  replace hG := Rd.below hG hb
  replace q0 := (Below.cell hb (p := ⟨g2, 0, none⟩) kY).trans q0
  replace q1 := (Below.cell hb (p := ⟨g2, 1, none⟩) kY).trans q1
  replace kY := Nat.lt_of_lt_of_le kY (Below.size hb)
  replace hS2 := Rd.below hS2 hb
  replace hG2 := Rd.below hG2 hb
  clear hb
  generalize w5.heap.size = g3 at hZ ⊢
  obtain ⟨kZ, r0, r1, -, -⟩ := hZ
  clear H1 H2 H3 H4 H5
  go_cut [90] (fun s wx => s = .bool false ∧ Below w6.heap.size w6 wx)
  case first =>
    as_aux_lemma =>
      clear HA
      have da0 := fun y : After w6 => y.cell p0 kX
      have da1 := fun y : After w6 => y.cell p1 kX
      have da2 := fun y : After w6 => y.cell q0 kY
      have da3 := fun y : After w6 => y.cell q1 kY
      have da4 := fun y : After w6 => y.cell r0 kZ
      have da5 := fun y : After w6 => y.cell r1 kZ
      clear p0 p1 q0 q1 r0 r1 kX kY kZ
      obtain ⟨lq, hlq⟩ : ∃ b, liqB S1 F1 n1 x m1 L1 = b := ⟨_, rfl⟩
      obtain ⟨kq, hkq⟩ : ∃ b, kindsB S1 F1 n1 = b := ⟨_, rfl⟩
      have HLQ := hide hlq
      have HKQ := hide hkq
      clear hlq hkq
      have e1 := fun W h h' => IsLiquor_any A1 n1 c1 S1 F1 x B1 m1 d1 L1 W (by omega) (by omega) HS1 h h'
      have e2 := fun W h h' => spec_IsLiquor_any A1 n1 c1 S1 F1 x B1 m1 d1 L1 W (by omega) (by omega) HS1 h h'
      have e3 := fun W h => AreKinds_any A1 n1 c1 S1 F1 W (by omega) HS1 h
      have e4 := fun W h => spec_AreKinds_any A1 n1 c1 S1 F1 W (by omega) HS1 h
      rw [HLQ.out] at e1 e2
      rw [HKQ.out] at e3 e4
      clear HLQ HKQ
      cases ok <;> cases lq <;> cases kq
      all_goals
        refine region_after (by kernel_rfl) (by kernel_rfl) ?_
        repeat (go_big_quiet_step ((first | (go_at_call 28; exact Calls.after (vLiquor_yes _ _ _ _ _ _ _ _ (by omega) (Rd.after hS _) (Rd.after hS2 _))) | (go_at_call 29; exact Calls.after (vInts_yes _ _ _ _ _ _ _ (by omega) (Rd.after hG _) (Rd.after hG2 _))) | (go_at_call 30; exact Calls.after (e1 _ (Rd.after hK _) (Rd.after hL _))) | (go_at_call 31; exact Calls.after (e2 _ (Rd.after hK _) (Rd.after hL _))) | (go_at_call 32; exact Calls.after (e3 _ (Rd.after hK _))) | (go_at_call 33; exact Calls.after (e4 _ (Rd.after hK _))))))
        refine wpQuiet_nil ?_
        rintro _ ⟨y, rfl⟩
        go_wp2_with fail
        go_meet
        exact ⟨rfl, y.h⟩
  case rest =>
    obtain ⟨rfl, hb⟩ := hcut
    replace hK := Rd.below hK hb
    replace hL := Rd.below hL hb
    replace p0 := (Below.cell hb (p := ⟨g1, 0, none⟩) kX).trans p0
    replace p1 := (Below.cell hb (p := ⟨g1, 1, none⟩) kX).trans p1
    replace kX := Nat.lt_of_lt_of_le kX (Below.size hb)
    replace hbA := gr hbA hb
    replace hS := Rd.below hS hb
    replace hG := Rd.below hG hb
    replace q0 := (Below.cell hb (p := ⟨g2, 0, none⟩) kY).trans q0
    replace q1 := (Below.cell hb (p := ⟨g2, 1, none⟩) kY).trans q1
    replace kY := Nat.lt_of_lt_of_le kY (Below.size hb)
    clear r0 r1 kZ hS2 hG2 hb
    go_upto_if 91 with fail
    go_cut [0] (fun s wx => s = .slice A n c ∧ Below w.heap.size w wx)
    case first =>
      as_aux_lemma =>
        cases ok
        · go_wp2
          go_meet
          exact ⟨rfl, hbA⟩
        · obtain ⟨e1, e2, h6, T, a, b, t0, tn, x0, x1, hma, hmb, hba, hst⟩ := HA.out rfl
          replace e1 := e1.symm
          subst e1
          subst e2
          have HST := hide hst
          have HTN := hide tn
          have HT0 := hide t0
          have HMA := hide hma
          have HMB := hide hmb
          have tq1 : decide (X < 0) = false := decide_eq_false (by omega)
          have tq2 : decide (a < b) = false := decide_eq_false (by omega)
          clear HA hst tn t0 hma hmb
          go_wp2
          go_loopw [11, 12] (fun v i wr => ∃ k : Nat, k ≤ m1 ∧ i = .int .i64 k ∧ v = .int .i64 (T k) ∧ Below wc.heap.size wc wr) (fun _ i _ => m1 - (intOf i).toNat)
          case atStart => exact ⟨0, by omega, rfl, by rw [HT0.out], Below.refl _ _⟩
          case round =>
            clear HT0
            obtain ⟨k, hk, rfl, rfl, hb⟩ := hrel
            by_cases hlt : k < m1
            · as_aux_lemma =>
                obtain ⟨⟨s1, s2⟩, ⟨b1, b2⟩, ⟨b3, b4⟩, ⟨b5, b6⟩, e3, ⟨e4, e5⟩, e6⟩ := HST.out k hlt
                have HE6 := hide e6
                obtain ⟨ba, oa, rfl, -, ha, hca⟩ := Rd.below hG hb (by omega)
                obtain ⟨bs, os, rfl, -, hbs, hcs⟩ := Rd.below hS hb (by omega)
                obtain ⟨bk, okk, rfl, -, hbk, hck⟩ := Rd.below hK hb (by omega)
                obtain ⟨bl, ol, rfl, -, hbl, hcl⟩ := Rd.below hL hb (by omega)
                have a0 := fun y : After wr => y.cell (hca k 0 hlt (by omega)) ha
                have a1 : ∀ y : After wr, y.w.cell? ⟨bk, okk + k * 3 + 1, none⟩ = some (.int .i64 (F1 k 1)) := fun y => y.cell (hck k 1 hlt (by omega)) hbk
                have a2 := fun y : After wr => y.cell (hcs k 0 hlt (by omega)) hbs
                have a3 : ∀ y : After wr, y.w.cell? ⟨bl, ol + k, none⟩ = some (.int .i64 (Fs k 0 + Fg k 0)) := fun y => by rw [e3]; exact (by simpa [ints] using y.cell (hcl k 0 hlt (by omega)) hbl)
                have q1' := (Below.cell hb (p := ⟨g2, 1, none⟩) kY).trans q1
                have kY' := Nat.lt_of_lt_of_le kY hb.size
                have p1' := (Below.cell hb (p := ⟨g1, 1, none⟩) kX).trans p1
                have kX' := Nat.lt_of_lt_of_le kX hb.size
                simp only [ints, Nat.mul_one, Nat.add_zero] at a0 a2
                have t1 : decide (Fg k 0 < 0) = false := decide_eq_false (by omega)
                clear hca hcs hck hcl e3 e6 HST HTN HMA HMB tq1 tq2 hK hL hS hG p0 p1 q0 q1 kX kY
                generalize T k = T0 at *
                generalize Fg k 0 = z at *
                generalize Fs k 0 = sa at *
                generalize F1 k 1 = t at *
                go_wp2
                refine region_after (by kernel_rfl) (by kernel_rfl) ?_
                repeat (go_big_quiet_step ((first | fail)))
                refine wpQuiet_nil ?_
                rintro _ ⟨y, rfl⟩
                go_wp2
                have c0 := fun u : After y.w => u.cell (a0 y) (Nat.lt_of_lt_of_le ha y.h.size)
                have c2 := fun u : After y.w => u.cell (a2 y) (Nat.lt_of_lt_of_le hbs y.h.size)
                have c3 := fun u : After y.w => u.cell (a3 y) (Nat.lt_of_lt_of_le hbl y.h.size)
                have c4 := fun u : After y.w => u.cell (y.cell q1' kY') (Nat.lt_of_lt_of_le kY' y.h.size)
                have c5 := fun u : After y.w => u.cell (y.cell p1' kX') (Nat.lt_of_lt_of_le kX' y.h.size)
                replace hb := gr hb y.h
                clear a0 a1 a2 a3 q1' p1' kX' kY'
                generalize y.w = W7 at *
                clear y
                refine region_after (by kernel_rfl) (by kernel_rfl) ?_
                repeat (go_big_quiet_step ((first | fail)))
                refine wpQuiet_nil ?_
                rintro _ ⟨u, rfl⟩
                go_wp2
                go_roundw
                case rel => exact ⟨k + 1, by omega, by go_num, by rw [HE6.out], gr hb u.h⟩
                case measure => simp [intOf]; omega
            · as_aux_lemma =>
                obtain rfl : k = m1 := by omega
                rw [HTN.out]
                replace hK := Rd.below hK hb
                replace hL := Rd.below hL hb
                replace p0 := (Below.cell hb (p := ⟨g1, 0, none⟩) kX).trans p0
                replace p1 := (Below.cell hb (p := ⟨g1, 1, none⟩) kX).trans p1
                replace kX := Nat.lt_of_lt_of_le kX (Below.size hb)
                replace hbA := gr hbA hb
                replace hS := Rd.below hS hb
                replace hG := Rd.below hG hb
                replace q0 := (Below.cell hb (p := ⟨g2, 0, none⟩) kY).trans q0
                replace q1 := (Below.cell hb (p := ⟨g2, 1, none⟩) kY).trans q1
                replace kY := Nat.lt_of_lt_of_le kY (Below.size hb)
                clear hb HST HTN
                go_wp2_with fail
                go_at_call 34
                refine (LiquorMass_w _ _ _ _ _ _ _ _ _ _ _ (by omega) (by omega) HS1 hK hL HMA.out).mono ?_
                rintro _ w7 ⟨rfl, hb⟩
                replace hK := Rd.below hK hb
                replace hL := Rd.below hL hb
                replace p0 := (Below.cell hb (p := ⟨g1, 0, none⟩) kX).trans p0
                replace p1 := (Below.cell hb (p := ⟨g1, 1, none⟩) kX).trans p1
                replace kX := Nat.lt_of_lt_of_le kX (Below.size hb)
                replace hbA := gr hbA hb
                replace hS := Rd.below hS hb
                replace hG := Rd.below hG hb
                replace q0 := (Below.cell hb (p := ⟨g2, 0, none⟩) kY).trans q0
                replace q1 := (Below.cell hb (p := ⟨g2, 1, none⟩) kY).trans q1
                replace kY := Nat.lt_of_lt_of_le kY (Below.size hb)
                clear hb
                go_wp2_with fail
                go_at_call 34
                refine (LiquorMass_w _ _ _ _ _ _ _ _ _ _ _ (by omega) (by omega) HS1 hK hS HMB.out).mono ?_
                rintro _ w8 ⟨rfl, hb⟩
                replace hK := Rd.below hK hb
                replace hL := Rd.below hL hb
                replace p0 := (Below.cell hb (p := ⟨g1, 0, none⟩) kX).trans p0
                replace p1 := (Below.cell hb (p := ⟨g1, 1, none⟩) kX).trans p1
                replace kX := Nat.lt_of_lt_of_le kX (Below.size hb)
                replace hbA := gr hbA hb
                replace hS := Rd.below hS hb
                replace hG := Rd.below hG hb
                replace q0 := (Below.cell hb (p := ⟨g2, 0, none⟩) kY).trans q0
                replace q1 := (Below.cell hb (p := ⟨g2, 1, none⟩) kY).trans q1
                replace kY := Nat.lt_of_lt_of_le kY (Below.size hb)
                clear hb
                go_wp2
                go_meet
                exact ⟨rfl, hbA⟩
    case rest =>
      as_aux_lemma =>
        clear hK hL p0 p1 kX q0 q1 kY hS hG hbA HA HS1
        obtain ⟨rfl, hbA⟩ := hcut
        have hsB := hbA.size
        go_wp2_with fail
        go_at_call 35
        refine (DrawAfterDrying_any _ _ _ _ _ (h.below hbA)).mono ?_
        rintro _ w1 ⟨A1, n1, c1, S1, F1, x, B1, m1, d1, L1, i, rfl, hn1, hm1, HS1, hO, hQ, hb⟩
        go_upto_region 21 with fail
        have hX := Box2.new w1 27 (.int .i64 x) (.slice B1 m1 d1)
        have hK := Rd.alloc (hO.rd (Nat.le_refl _)) (.cells #[.int .i64 x, .slice B1 m1 d1] 27)
        have hL := Rd.alloc (hQ.rd (Nat.le_refl _)) (.cells #[.int .i64 x, .slice B1 m1 d1] 27)
        replace hbA := (hbA.trans (hb.mono (by omega))).alloc (by have := hb.size; omega) (.cells #[.int .i64 x, .slice B1 m1 d1] 27)
        clear hO hQ hb
        generalize w1.alloc (.cells #[.int .i64 x, .slice B1 m1 d1] 27) = w2 at hX hK hL hbA ⊢
        generalize w1.heap.size = g4 at hX ⊢
        obtain ⟨kX, p0, p1, -, -⟩ := hX
        obtain ⟨N, X, ok, Fs, Fg, h1, h2, h3, h4, h5, hN6⟩ : ∃ N X ok Fs Fg, dryN S1 F1 n1 x m1 L1 i = N ∧ dryX S1 F1 n1 x m1 L1 i = X ∧ dryB S1 F1 n1 x m1 L1 i = ok ∧ fallS F1 L1 (x - i) = Fs ∧ fallG F1 L1 (x - i) = Fg ∧ N ≤ 6 := ⟨_, _, _, _, _, rfl, rfl, rfl, rfl, rfl, dryN_le⟩
        have H1 := hide h1
        have H2 := hide h2
        have H3 := hide h3
        have H4 := hide h4
        have H5 := hide h5
        clear h1 h2 h3 h4 h5
        go_wp2_with fail
        go_at_call 36
        refine (AfterDrying_w _ _ _ _ _ _ _ _ _ _ i _ (by omega) (by omega) HS1 hK hL H1.out H2.out H3.out H4.out H5.out).mono ?_
        rintro _ w3 ⟨A2, c2, A3, c3, rfl, hS, hG, hb⟩
        replace hK := Rd.below hK hb
        replace hL := Rd.below hL hb
        replace p0 := (Below.cell hb (p := ⟨g4, 0, none⟩) kX).trans p0
        replace p1 := (Below.cell hb (p := ⟨g4, 1, none⟩) kX).trans p1
        replace kX := Nat.lt_of_lt_of_le kX (Below.size hb)
        replace hbA := gr hbA hb
        clear hb
        go_upto_region 22 with fail
        have hY := Box2.new w3 27 (.int .i64 X) (.slice A2 N c2)
        have hb : Below w3.heap.size w3 (w3.alloc (.cells #[.int .i64 X, .slice A2 N c2] 27)) := (Below.refl _ _).alloc (Nat.le_refl _) _
        generalize w3.alloc (.cells #[.int .i64 X, .slice A2 N c2] 27) = w4 at hY hb ⊢
        replace hK := Rd.below hK hb
        replace hL := Rd.below hL hb
        replace p0 := (Below.cell hb (p := ⟨g4, 0, none⟩) kX).trans p0
        replace p1 := (Below.cell hb (p := ⟨g4, 1, none⟩) kX).trans p1
        replace kX := Nat.lt_of_lt_of_le kX (Below.size hb)
        replace hbA := gr hbA hb
        replace hS := Rd.below hS hb
        replace hG := Rd.below hG hb
        generalize w3.heap.size = g5 at hY hb ⊢
        clear hb
        obtain ⟨kY, q0, q1, -, -⟩ := hY
        go_wp2_with fail
        go_at_call 37
        refine (spec_AfterDrying_w _ _ _ _ _ _ _ _ _ _ i _ (by omega) (by omega) HS1 hK hL H1.out H2.out H3.out H4.out H5.out).mono ?_
        rintro _ w5 ⟨A4, c4, A5, c5, rfl, hS2, hG2, hb⟩
        replace hK := Rd.below hK hb
        replace hL := Rd.below hL hb
        replace p0 := (Below.cell hb (p := ⟨g4, 0, none⟩) kX).trans p0
        replace p1 := (Below.cell hb (p := ⟨g4, 1, none⟩) kX).trans p1
        replace kX := Nat.lt_of_lt_of_le kX (Below.size hb)
        replace hbA := gr hbA hb
        replace hS := Rd.below hS hb
        replace hG := Rd.below hG hb
        replace q0 := (Below.cell hb (p := ⟨g5, 0, none⟩) kY).trans q0
        replace q1 := (Below.cell hb (p := ⟨g5, 1, none⟩) kY).trans q1
        replace kY := Nat.lt_of_lt_of_le kY (Below.size hb)
        clear hb
        go_upto_region 23 with fail
        have hZ := Box2.new w5 27 (.int .i64 X) (.slice A4 N c4)
        have hb : Below w5.heap.size w5 (w5.alloc (.cells #[.int .i64 X, .slice A4 N c4] 27)) := (Below.refl _ _).alloc (Nat.le_refl _) _
        generalize w5.alloc (.cells #[.int .i64 X, .slice A4 N c4] 27) = w6 at hZ hb ⊢
        replace hK := Rd.below hK hb
        replace hL := Rd.below hL hb
        replace p0 := (Below.cell hb (p := ⟨g4, 0, none⟩) kX).trans p0
        replace p1 := (Below.cell hb (p := ⟨g4, 1, none⟩) kX).trans p1
        replace kX := Nat.lt_of_lt_of_le kX (Below.size hb)
        replace hbA := gr hbA hb
        replace hS := Rd.below hS hb
        replace hG := Rd.below hG hb
        replace q0 := (Below.cell hb (p := ⟨g5, 0, none⟩) kY).trans q0
        replace q1 := (Below.cell hb (p := ⟨g5, 1, none⟩) kY).trans q1
        replace kY := Nat.lt_of_lt_of_le kY (Below.size hb)
        replace hS2 := Rd.below hS2 hb
        replace hG2 := Rd.below hG2 hb
        clear hb
        generalize w5.heap.size = g6 at hZ ⊢
        obtain ⟨kZ, r0, r1, -, -⟩ := hZ
        clear H1 H2 H3 H4 H5
        go_wp2_with fail
        go_at_call 28
        refine (vLiquor_yes _ _ _ _ _ _ _ _ (by omega) hS hS2).mono ?_
        rintro _ w7 ⟨rfl, hb⟩
        replace hG := Rd.below hG hb
        replace hG2 := Rd.below hG2 hb
        replace hbA := gr hbA hb
        clear hK hL p0 p1 kX q0 q1 kY hS hS2 r0 r1 kZ HS1 hb
        go_wp2_with fail
        go_at_call 29
        refine (vInts_yes _ _ _ _ _ _ _ (by omega) hG hG2).mono ?_
        rintro _ w8 ⟨rfl, hb⟩
        replace hbA := gr hbA hb
        clear hG hG2 hb
        go_upto_region 25 with fail
        replace hsB := hbA.size
        go_wp2_with fail
        go_at_call 38
        refine (DrawIsFull_any _ _ _ _ _ (h.below hbA)).mono ?_
        rintro _ w1 ⟨A1, n1, c1, S1, F1, x, B1, m1, d1, L1, i, rfl, hn1, hm1, HS1, hO, hQ, hb⟩
        go_upto_region 26 with fail
        have hX := Box2.new w1 27 (.int .i64 x) (.slice B1 m1 d1)
        have hK := Rd.alloc (hO.rd (Nat.le_refl _)) (.cells #[.int .i64 x, .slice B1 m1 d1] 27)
        have hL := Rd.alloc (hQ.rd (Nat.le_refl _)) (.cells #[.int .i64 x, .slice B1 m1 d1] 27)
        replace hbA := (hbA.trans (hb.mono (by omega))).alloc (by have := hb.size; omega) (.cells #[.int .i64 x, .slice B1 m1 d1] 27)
        clear hO hQ hb
        generalize w1.alloc (.cells #[.int .i64 x, .slice B1 m1 d1] 27) = w2 at hX hK hL hbA ⊢
        generalize w1.heap.size = g7 at hX ⊢
        obtain ⟨kX, p0, p1, -, -⟩ := hX
        obtain ⟨r, T, hE⟩ : ∃ r T, isFullR S1 F1 n1 x m1 L1 i = (r, T) := ⟨_, _, rfl⟩
        have HE := hide hE
        clear hE
        go_wp2_with fail
        go_at_call 18
        refine (IsFull_w _ _ _ _ _ _ _ _ _ _ i _ (by omega) (by omega) HS1 hK hL HE.out).mono ?_
        rintro _ w3 ⟨rfl, hb⟩
        replace hK := Rd.below hK hb
        replace hL := Rd.below hL hb
        replace p0 := (Below.cell hb (p := ⟨g7, 0, none⟩) kX).trans p0
        replace p1 := (Below.cell hb (p := ⟨g7, 1, none⟩) kX).trans p1
        replace kX := Nat.lt_of_lt_of_le kX (Below.size hb)
        replace hbA := gr hbA hb
        clear hb
        go_wp2_with fail
        go_at_call 39
        refine (spec_IsFull_w _ _ _ _ _ _ _ _ _ _ i _ (by omega) (by omega) HS1 hK hL HE.out).mono ?_
        rintro _ w4 ⟨rfl, hb⟩
        replace hK := Rd.below hK hb
        replace hL := Rd.below hL hb
        replace p0 := (Below.cell hb (p := ⟨g7, 0, none⟩) kX).trans p0
        replace p1 := (Below.cell hb (p := ⟨g7, 1, none⟩) kX).trans p1
        replace kX := Nat.lt_of_lt_of_le kX (Below.size hb)
        replace hbA := gr hbA hb
        clear hb HE hK hL p0 p1 kX HS1
        go_upto_region 30 with fail
        replace hsB := hbA.size
        go_wp2_with fail
        go_at_call 40
        refine (DrawLiquorMass_any _ _ _ _ _ (h.below hbA)).mono ?_
        rintro _ w1 ⟨A1, n1, c1, S1, F1, x, B1, m1, d1, L1, rfl, hn1, hm1, HS1, hO, hQ, hb⟩
        go_upto_region 31 with fail
        have hX := Box2.new w1 27 (.int .i64 x) (.slice B1 m1 d1)
        have hK := Rd.alloc (hO.rd (Nat.le_refl _)) (.cells #[.int .i64 x, .slice B1 m1 d1] 27)
        have hL := Rd.alloc (hQ.rd (Nat.le_refl _)) (.cells #[.int .i64 x, .slice B1 m1 d1] 27)
        replace hbA := (hbA.trans (hb.mono (by omega))).alloc (by have := hb.size; omega) (.cells #[.int .i64 x, .slice B1 m1 d1] 27)
        clear hO hQ hb
        generalize w1.alloc (.cells #[.int .i64 x, .slice B1 m1 d1] 27) = w2 at hX hK hL hbA ⊢
        generalize w1.heap.size = g8 at hX ⊢
        obtain ⟨kX, p0, p1, -, -⟩ := hX
        obtain ⟨r, T, hE⟩ : ∃ r T, massR S1 F1 n1 x m1 L1 = (r, T) := ⟨_, _, rfl⟩
        have HE := hide hE
        clear hE
        go_wp2_with fail
        go_at_call 34
        refine (LiquorMass_w _ _ _ _ _ _ _ _ _ _ _ (by omega) (by omega) HS1 hK hL HE.out).mono ?_
        rintro _ w3 ⟨rfl, hb⟩
        replace hK := Rd.below hK hb
        replace hL := Rd.below hL hb
        replace p0 := (Below.cell hb (p := ⟨g8, 0, none⟩) kX).trans p0
        replace p1 := (Below.cell hb (p := ⟨g8, 1, none⟩) kX).trans p1
        replace kX := Nat.lt_of_lt_of_le kX (Below.size hb)
        replace hbA := gr hbA hb
        clear hb
        go_wp2_with fail
        go_at_call 41
        refine (spec_LiquorMass_w _ _ _ _ _ _ _ _ _ _ _ (by omega) (by omega) HS1 hK hL HE.out).mono ?_
        rintro _ w4 ⟨rfl, hb⟩
        replace hK := Rd.below hK hb
        replace hL := Rd.below hL hb
        replace p0 := (Below.cell hb (p := ⟨g8, 0, none⟩) kX).trans p0
        replace p1 := (Below.cell hb (p := ⟨g8, 1, none⟩) kX).trans p1
        replace kX := Nat.lt_of_lt_of_le kX (Below.size hb)
        replace hbA := gr hbA hb
        clear hb HE hK hL p0 p1 kX HS1
        go_wp2
        go_ret
        exact ⟨rfl, hbA⟩
end Go.Proofs.YtnmpfojcmedpeaaDoor
