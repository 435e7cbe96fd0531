/-
  The walk of the law FnDrying. Conditions: codes of bytes.
-/
import Derived.Test.YtnmpfojcmedpeaaDoorFnKv
namespace Go.Proofs.YtnmpfojcmedpeaaDoor
open Go.RowKit

theorem vBig_kin (A : Option Addr) (n c : Nat) (w : World) :
    Calls Tryd.prog 14 #[.slice A n c] w fun e w' => e = .returned (.bool (decide (65536 < (n : Int)))) ∧ w = w' := by
  go_enter Tryd.func14, Tryd.ntmps14
  go_wp2
  go_ret
  exact ⟨rfl, rfl⟩
set_option maxRecDepth 20000 in
set_option maxHeartbeats 8000000 in
theorem law_Drying (A : Option Addr) (n c : Nat) (B : Nat → Int) (w : World) (h : CodeR w A n B) :
    Calls Tryd.prog 3 #[.slice A n c] w fun e w' => e = .returned (.bool true) ∧ Below w.heap.size w w' := by
  cases hbig : decide (65536 < (n : Int))
  rotate_left
  · go_enter Tryd.func3, Tryd.ntmps3
    go_wp2_with fail
    go_at_call 14
    refine (vBig_kin _ _ _ _).mono ?_
    rintro _ _ ⟨rfl, rfl⟩
    rw [hbig]
    go_wp2
    go_ret
    exact ⟨rfl, Below.refl _ _⟩
  have hbA := Below.refl w.heap.size w
  have hsA := hbA.size
  go_enter Tryd.func3, Tryd.ntmps3
  go_wp2_with fail
  go_at_call 14
  refine (vBig_kin _ _ _ _).mono ?_
  rintro _ _ ⟨rfl, rfl⟩
  rw [hbig]
  clear hbig
  go_wp2_with fail
  go_at_call 15
  refine (DrawFirstToFall_any _ _ _ _ _ h).mono ?_
  rintro _ w1 ⟨A1, n1, c1, S1, F1, x, B1, m1, d1, L1, rfl, hn1, hm1, HS1, hO, hQ, hb⟩
  go_upto_region 4 with fail
  have hX := Box2.new w1 27 (.int .i64 x) (.slice B1 m1 d1)
  have hK := Rd.alloc (hO.rd (Nat.le_refl _)) (.cells #[.int .i64 x, .slice B1 m1 d1] 27)
  have hL := Rd.alloc (hQ.rd (Nat.le_refl _)) (.cells #[.int .i64 x, .slice B1 m1 d1] 27)
  replace hbA := (hbA.trans (hb.mono (by omega))).alloc (by have := hb.size; omega) (.cells #[.int .i64 x, .slice B1 m1 d1] 27)
  clear hO hQ hb
  generalize w1.alloc (.cells #[.int .i64 x, .slice B1 m1 d1] 27) = w2 at hX hK hL hbA ⊢
  generalize w1.heap.size = g1 at hX ⊢
  obtain ⟨kX, p0, p1, -, -⟩ := hX
  obtain ⟨a, v, T, hE, hall⟩ := first_law S1 F1 n1 x m1 L1
  have HE := hide hE
  have HA := hide hall
  clear hE hall
  go_wp2_with fail
  go_at_call 16
  refine (FirstToFall_w _ _ _ _ _ _ _ _ _ _ _ (by omega) (by omega) HS1 hK hL HE.out).mono ?_
  rintro _ w3 ⟨rfl, hb⟩
  replace hK := Rd.below hK hb
  replace hL := Rd.below hL hb
  replace p0 := (Below.cell hb (p := ⟨g1, 0, none⟩) kX).trans p0
  replace p1 := (Below.cell hb (p := ⟨g1, 1, none⟩) kX).trans p1
  replace kX := Nat.lt_of_lt_of_le kX hb.size
  replace hbA := gr hbA hb
  clear hb
  go_wp2_with fail
  go_at_call 17
  refine (spec_FirstToFall_w _ _ _ _ _ _ _ _ _ _ _ (by omega) (by omega) HS1 hK hL HE.out).mono ?_
  rintro _ w4 ⟨rfl, hb⟩
  replace hK := Rd.below hK hb
  replace hL := Rd.below hL hb
  replace p0 := (Below.cell hb (p := ⟨g1, 0, none⟩) kX).trans p0
  replace p1 := (Below.cell hb (p := ⟨g1, 1, none⟩) kX).trans p1
  replace kX := Nat.lt_of_lt_of_le kX hb.size
  replace hbA := gr hbA hb
  clear hb
  clear HE
  go_upto_if 75 with fail
  go_cut [0] (fun s wx => s = .slice A n c ∧ Below w.heap.size w wx)
  case first =>
    as_aux_lemma =>
      cases T
      · go_wp2
        go_meet
        exact ⟨rfl, hbA⟩
      · obtain ⟨h6, v0, v1, x1, hf, hi⟩ := HA.out rfl
        have HF := hide hf
        have HI := hide hi
        clear HA hf hi
        go_wp2_with fail
        go_at_call 18
        refine (IsFull_w _ _ _ _ _ _ _ _ _ _ _ _ (by omega) (by omega) HS1 hK hL HF.out).mono ?_
        rintro _ w5 ⟨rfl, hb⟩
        replace hK := Rd.below hK hb
        replace hL := Rd.below hL hb
        replace p0 := (Below.cell hb (p := ⟨g1, 0, none⟩) kX).trans p0
        replace p1 := (Below.cell hb (p := ⟨g1, 1, none⟩) kX).trans p1
        replace kX := Nat.lt_of_lt_of_le kX hb.size
        replace hbA := gr hbA hb
        clear hb
        clear HF
        go_wp2
        go_loopw [13, 14, 15] (fun i _ _ wr => ∃ k : Nat, k ≤ n1 ∧ i = .int .i64 k ∧ Below w5.heap.size w5 wr) (fun i _ _ _ => n1 - (intOf i).toNat)
        case atStart => exact ⟨0, by omega, rfl, Below.refl _ _⟩
        case round =>
          obtain ⟨k, hk, rfl, hb⟩ := hrel
          by_cases hlt : k < n1 ∧ 0 < v
          · obtain ⟨hlt, hv⟩ := hlt
            have HB := hide (HI.out hv k hlt)
            have q0 := (Below.cell hb (p := ⟨g1, 0, none⟩) kX).trans p0
            have q1 := (Below.cell hb (p := ⟨g1, 1, none⟩) kX).trans p1
            have q2 := Nat.lt_of_lt_of_le kX hb.size
            have e1 : decide ((k : Int) < (n1 : Int)) = true := decide_eq_true (by omega)
            have e2 : decide (0 < v) = true := decide_eq_true hv
            go_wp2_with fail
            go_at_call 18
            refine (IsFull_w _ _ _ _ _ _ _ _ _ _ _ _ (by omega) (by omega) HS1 (Rd.below hK hb) (Rd.below hL hb) HB.out).mono ?_
            rintro _ w6 ⟨rfl, hb6⟩
            clear q0 q1 q2 p0 p1 hK hL
            go_wp2
            go_roundw
            case rel => exact ⟨k + 1, by omega, by go_num, gr hb hb6⟩
            case measure => simp [intOf]; omega
          · clear p0 p1 hK hL HI
            by_cases hv : 0 < v
            · obtain rfl : k = n1 := by omega
              clear hlt
              go_wp2
              go_meet
              exact ⟨rfl, gr hbA hb⟩
            · have e2 : decide (0 < v) = false := decide_eq_false hv
              clear hlt
              by_cases hkn : k < n1
              · have e1 : decide ((k : Int) < (n1 : Int)) = true := decide_eq_true (by omega)
                go_wp2
                go_meet
                exact ⟨rfl, gr hbA hb⟩
              · have e1 : decide ((k : Int) < (n1 : Int)) = false := decide_eq_false (by omega)
                go_wp2
                go_meet
                exact ⟨rfl, gr hbA hb⟩
  case rest =>
    as_aux_lemma =>
      clear hK hL p0 p1 kX hbA HA HS1
      obtain ⟨rfl, hbA⟩ := hcut
      have hsB := hbA.size
      go_wp2_with fail
      go_at_call 19
      refine (DrawDryToKeep_any _ _ _ _ _ (h.below hbA)).mono ?_
      rintro _ w1 ⟨A1, n1, c1, S1, F1, x, B1, m1, d1, L1, i, rfl, hn1, hm1, HS1, hO, hQ, hb⟩
      go_upto_region 19 with fail
      have hX := Box2.new w1 27 (.int .i64 x) (.slice B1 m1 d1)
      have hK := Rd.alloc (hO.rd (Nat.le_refl _)) (.cells #[.int .i64 x, .slice B1 m1 d1] 27)
      have hL := Rd.alloc (hQ.rd (Nat.le_refl _)) (.cells #[.int .i64 x, .slice B1 m1 d1] 27)
      replace hbA := (hbA.trans (hb.mono (by omega))).alloc (by have := hb.size; omega) (.cells #[.int .i64 x, .slice B1 m1 d1] 27)
      clear hO hQ hb
      generalize w1.alloc (.cells #[.int .i64 x, .slice B1 m1 d1] 27) = w2 at hX hK hL hbA ⊢
      generalize w1.heap.size = g2 at hX ⊢
      obtain ⟨kX, p0, p1, -, -⟩ := hX
      obtain ⟨v, T, hE, hall⟩ := keep_law S1 F1 n1 x m1 L1 i
      have HE := hide hE
      have HA := hide hall
      clear hE hall
      go_wp2_with fail
      go_at_call 20
      refine (DryToKeep_w _ _ _ _ _ _ _ _ _ _ i _ (by omega) (by omega) HS1 hK hL HE.out).mono ?_
      rintro _ w3 ⟨rfl, hb⟩
      replace hK := Rd.below hK hb
      replace hL := Rd.below hL hb
      replace p0 := (Below.cell hb (p := ⟨g2, 0, none⟩) kX).trans p0
      replace p1 := (Below.cell hb (p := ⟨g2, 1, none⟩) kX).trans p1
      replace kX := Nat.lt_of_lt_of_le kX hb.size
      replace hbA := gr hbA hb
      clear hb
      go_wp2_with fail
      go_at_call 21
      refine (spec_DryToKeep_w _ _ _ _ _ _ _ _ _ _ i _ (by omega) (by omega) HS1 hK hL HE.out).mono ?_
      rintro _ w4 ⟨rfl, hb⟩
      replace hK := Rd.below hK hb
      replace hL := Rd.below hL hb
      replace p0 := (Below.cell hb (p := ⟨g2, 0, none⟩) kX).trans p0
      replace p1 := (Below.cell hb (p := ⟨g2, 1, none⟩) kX).trans p1
      replace kX := Nat.lt_of_lt_of_le kX hb.size
      replace hbA := gr hbA hb
      clear hb
      clear HE
      go_upto_if 152 with fail
      go_cut [0] (fun s wx => s = .slice A n c ∧ Below w.heap.size w wx)
      case first =>
        as_aux_lemma =>
          cases T
          · go_wp2
            go_meet
            exact ⟨rfl, hbA⟩
          · obtain ⟨v0, v1, x1, hf, hi⟩ := HA.out rfl
            have HF := hide hf
            have HI := hide hi
            clear HA hf hi
            go_wp2_with fail
            go_at_call 18
            refine (IsFull_w _ _ _ _ _ _ _ _ _ _ _ _ (by omega) (by omega) HS1 hK hL HF.out).mono ?_
            rintro _ w5 ⟨rfl, hb⟩
            replace hK := Rd.below hK hb
            replace hL := Rd.below hL hb
            replace p0 := (Below.cell hb (p := ⟨g2, 0, none⟩) kX).trans p0
            replace p1 := (Below.cell hb (p := ⟨g2, 1, none⟩) kX).trans p1
            replace kX := Nat.lt_of_lt_of_le kX hb.size
            replace hbA := gr hbA hb
            clear hb
            clear HF
            by_cases hv : v < x
            · have HB := hide (HI.out hv)
              have e1 : decide (v < x) = true := decide_eq_true hv
              go_wp2_with fail
              go_at_call 18
              refine (IsFull_w _ _ _ _ _ _ _ _ _ _ _ _ (by omega) (by omega) HS1 hK hL HB.out).mono ?_
              rintro _ w6 ⟨rfl, hb⟩
              replace hK := Rd.below hK hb
              replace hL := Rd.below hL hb
              replace p0 := (Below.cell hb (p := ⟨g2, 0, none⟩) kX).trans p0
              replace p1 := (Below.cell hb (p := ⟨g2, 1, none⟩) kX).trans p1
              replace kX := Nat.lt_of_lt_of_le kX hb.size
              replace hbA := gr hbA hb
              clear hb
              go_wp2
              go_meet
              exact ⟨rfl, hbA⟩
            · have e1 : decide (v < x) = false := decide_eq_false hv
              go_wp2
              go_meet
              exact ⟨rfl, hbA⟩
      case rest =>
        as_aux_lemma =>
          clear hK hL p0 p1 kX hbA HA HS1
          obtain ⟨rfl, hbA⟩ := hcut
          replace hsB := hbA.size
          go_wp2_with fail
          go_at_call 22
          refine (DrawPureBetween_any _ _ _ _ _ (h.below hbA)).mono ?_
          rintro _ w1 ⟨A1, n1, c1, S1, F1, x, B1, m1, d1, L1, i, rfl, hn1, hm1, HS1, hO, hQ, hb⟩
          go_upto_region 32 with fail
          have hX := Box2.new w1 27 (.int .i64 x) (.slice B1 m1 d1)
          have hK := Rd.alloc (hO.rd (Nat.le_refl _)) (.cells #[.int .i64 x, .slice B1 m1 d1] 27)
          have hL := Rd.alloc (hQ.rd (Nat.le_refl _)) (.cells #[.int .i64 x, .slice B1 m1 d1] 27)
          replace hbA := (hbA.trans (hb.mono (by omega))).alloc (by have := hb.size; omega) (.cells #[.int .i64 x, .slice B1 m1 d1] 27)
          clear hO hQ hb
          generalize w1.alloc (.cells #[.int .i64 x, .slice B1 m1 d1] 27) = w2 at hX hK hL hbA ⊢
          generalize w1.heap.size = g3 at hX ⊢
          obtain ⟨kX, p0, p1, -, -⟩ := hX
          obtain ⟨u, v, T, hE, hall⟩ := pure_law S1 F1 n1 x m1 L1 i
          have HE := hide hE
          have HA := hide hall
          clear hE hall
          go_wp2_with fail
          go_at_call 23
          refine (PureBetween_w _ _ _ _ _ _ _ _ _ _ i _ (by omega) (by omega) HS1 hK hL HE.out).mono ?_
          rintro _ w3 ⟨rfl, hb⟩
          replace hK := Rd.below hK hb
          replace hL := Rd.below hL hb
          replace p0 := (Below.cell hb (p := ⟨g3, 0, none⟩) kX).trans p0
          replace p1 := (Below.cell hb (p := ⟨g3, 1, none⟩) kX).trans p1
          replace kX := Nat.lt_of_lt_of_le kX hb.size
          replace hbA := gr hbA hb
          clear hb
          go_wp2_with fail
          go_at_call 24
          refine (spec_PureBetween_w _ _ _ _ _ _ _ _ _ _ i _ (by omega) (by omega) HS1 hK hL HE.out).mono ?_
          rintro _ w4 ⟨rfl, hb⟩
          replace hK := Rd.below hK hb
          replace hL := Rd.below hL hb
          replace p0 := (Below.cell hb (p := ⟨g3, 0, none⟩) kX).trans p0
          replace p1 := (Below.cell hb (p := ⟨g3, 1, none⟩) kX).trans p1
          replace kX := Nat.lt_of_lt_of_le kX hb.size
          replace hbA := gr hbA hb
          clear hb
          clear HE
          cases T
          · go_wp2
            go_loopw [36, 37, 38, 39, 40] (fun k _ _ _ _ wr => k = .int .i64 0 ∧ Below w.heap.size w wr) (fun _ _ _ _ _ _ => 0)
            case atStart => exact ⟨rfl, hbA⟩
            case round =>
              obtain ⟨rfl, hb⟩ := hrel
              by_cases h0 : 0 < n1
              · have hd : decide ((0 : Int) < (n1 : Int)) = true := decide_eq_true (by omega)
                go_wp2
                go_ret
                exact ⟨rfl, hb⟩
              · obtain rfl : n1 = 0 := by omega
                go_wp2
                go_ret
                exact ⟨rfl, hb⟩
          · obtain ⟨h6, u0, u1, v0, v1, x1, hi⟩ := HA.out rfl
            have HI := hide hi
            clear HA hi
            go_wp2
            go_loopw [36, 37, 38, 39, 40] (fun i _ _ _ _ wr => ∃ k : Nat, k ≤ n1 ∧ i = .int .i64 k ∧ Below w4.heap.size w4 wr) (fun i _ _ _ _ _ => n1 - (intOf i).toNat)
            case atStart => exact ⟨0, by omega, rfl, Below.refl _ _⟩
            case round =>
              obtain ⟨k, hk, rfl, hb⟩ := hrel
              by_cases hlt : k < n1
              · obtain ⟨hf1, hf2⟩ := HI.out k hlt
                cases hq : ((k : Int) == i)
                all_goals
                  rw [hq] at hf1 hf2
                  have HB := hide hf1
                  have HC := hide hf2
                  clear hf1 hf2
                  have q0 := (Below.cell hb (p := ⟨g3, 0, none⟩) kX).trans p0
                  have q1 := (Below.cell hb (p := ⟨g3, 1, none⟩) kX).trans p1
                  have q2 := Nat.lt_of_lt_of_le kX hb.size
                  go_wp2_with fail
                  go_at_call 18
                  refine (IsFull_w _ _ _ _ _ _ _ _ _ _ _ _ (by omega) (by omega) HS1 (Rd.below hK hb) (Rd.below hL hb) HB.out).mono ?_
                  rintro _ w6 ⟨rfl, hb6⟩
                  replace q0 := (Below.cell hb6 (p := ⟨g3, 0, none⟩) q2).trans q0
                  replace q1 := (Below.cell hb6 (p := ⟨g3, 1, none⟩) q2).trans q1
                  replace q2 := Nat.lt_of_lt_of_le q2 hb6.size
                  go_wp2_with fail
                  go_at_call 18
                  refine (IsFull_w _ _ _ _ _ _ _ _ _ _ _ _ (by omega) (by omega) HS1 (Rd.below (Rd.below hK hb) hb6) (Rd.below (Rd.below hL hb) hb6) HC.out).mono ?_
                  rintro _ w7 ⟨rfl, hb7⟩
                  clear q0 q1 q2 p0 p1 hK hL
                  go_wp2
                  go_roundw
                  case rel => exact ⟨k + 1, by omega, by go_num, gr hb (gr hb6 hb7)⟩
                  case measure => simp [intOf]; omega
              · obtain rfl : k = n1 := by omega
                clear p0 p1 hK hL HI
                go_wp2
                go_ret
                exact ⟨rfl, gr hbA hb⟩
end Go.Proofs.YtnmpfojcmedpeaaDoor
