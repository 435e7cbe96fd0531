/-
  The walk of the law FnSuns. Conditions: codes of bytes.
-/
import Derived.Test.YtajmebclmippeaaDrA
import Derived.Test.YtajmebclmippeaaSunM3
import Derived.Test.YtajmebclmippeaaSunH
namespace Go.Proofs.Ytajmebclmippeaa
open Go.RowKit

theorem vBig_any (A : Option Addr) (n c : Nat) (w : World) :
    Calls Try.prog 19 #[.slice A n c] w fun e w' => e = .returned (.bool (decide (65536 < (n : Int)))) ∧ w = w' := by
  go_enter Try.func19, Try.ntmps19
  go_wp2
  go_ret
  exact ⟨rfl, rfl⟩
set_option maxRecDepth 20000 in
set_option maxHeartbeats 4000000 in
theorem law_Suns (A : Option Addr) (n c : Nat) (B : Nat → Int) (w : World) (h : CodeR w A n B) :
    Calls Try.prog 4 #[.slice A n c] w fun e w' => e = .returned (.bool true) ∧ Below w.heap.size w w' := by
  cases hbig : decide (65536 < (n : Int))
  rotate_left
  · go_enter Try.func4, Try.ntmps4
    go_wp2_with fail
    go_at_call 19
    refine (vBig_any _ _ _ _).mono ?_
    rintro _ _ ⟨rfl, rfl⟩
    rw [hbig]
    go_wp2
    go_ret
    exact ⟨rfl, Below.refl _ _⟩
  have hbA := Below.refl w.heap.size w
  have hsA := hbA.size
  go_enter Try.func4, Try.ntmps4
  go_wp2_with fail
  go_at_call 19
  refine (vBig_any _ _ _ _).mono ?_
  rintro _ _ ⟨rfl, rfl⟩
  rw [hbig]
  clear hbig
  go_wp2_with fail
  go_at_call 20
  refine (DrawLossOn_any _ _ _ _ _ h).mono ?_
  rintro _ w1 ⟨A1, n1, c1, F1, x, y, a, d, rfl, hn1, hO, a0, a1, hb⟩
  go_upto_region 4 with fail
  have hX := Box2.new w1 32 (.int .i64 x) (.int .i64 y)
  have hR := Rd.alloc (hO.sl.rd (Nat.le_refl _)) (.cells #[.int .i64 x, .int .i64 y] 32)
  replace hbA := (hbA.trans (hb.mono (by omega))).alloc (by have := hb.size; omega) (.cells #[.int .i64 x, .int .i64 y] 32)
  clear hO hb
  generalize w1.alloc (.cells #[.int .i64 x, .int .i64 y] 32) = w2 at hX hR hbA ⊢
  generalize w1.heap.size = g1 at hX ⊢
  obtain ⟨kX, p0, p1, p2, p3⟩ := hX
  go_wp2_with fail
  go_at_call 21
  refine (LossOn_any _ _ _ _ x y a d _ (by omega) hR).mono ?_
  rintro _ w3 ⟨rfl, hb⟩
  replace hR := Rd.below hR hb
  replace p0 := (Below.cell hb (p := ⟨g1, 0, none⟩) kX).trans p0
  replace p1 := (Below.cell hb (p := ⟨g1, 1, none⟩) kX).trans p1
  replace kX := Nat.lt_of_lt_of_le kX hb.size
  replace hbA := gr hbA hb
  clear hb
  go_wp2_with fail
  go_at_call 22
  refine (spec_LossOn_any _ _ _ _ x y a d _ (by omega) hR).mono ?_
  rintro _ w4 ⟨rfl, hb⟩
  replace hR := Rd.below hR hb
  replace p0 := (Below.cell hb (p := ⟨g1, 0, none⟩) kX).trans p0
  replace p1 := (Below.cell hb (p := ⟨g1, 1, none⟩) kX).trans p1
  replace kX := Nat.lt_of_lt_of_le kX hb.size
  replace hbA := gr hbA hb
  clear hb
  go_wp2_with fail
  go_at_call 17
  refine (AreSuns_any _ _ _ _ _ (by omega) hR).mono ?_
  rintro _ w5 ⟨rfl, hb⟩
  replace hR := Rd.below hR hb
  replace p0 := (Below.cell hb (p := ⟨g1, 0, none⟩) kX).trans p0
  replace p1 := (Below.cell hb (p := ⟨g1, 1, none⟩) kX).trans p1
  replace kX := Nat.lt_of_lt_of_le kX hb.size
  replace hbA := gr hbA hb
  clear hb
  go_wp2_with fail
  go_at_call 15
  refine (spec_AreSuns_any _ _ _ _ _ (by omega) hR).mono ?_
  rintro _ w6 ⟨rfl, hb⟩
  replace hR := Rd.below hR hb
  replace p0 := (Below.cell hb (p := ⟨g1, 0, none⟩) kX).trans p0
  replace p1 := (Below.cell hb (p := ⟨g1, 1, none⟩) kX).trans p1
  replace kX := Nat.lt_of_lt_of_le kX hb.size
  replace hbA := gr hbA hb
  clear hb
  generalize hl : (lossOnR F1 n1 x y a d).1 = l
  generalize hok : (lossOnR F1 n1 x y a d).2 = ok
  have HL := hide hl
  have HO := hide hok
  clear hl hok
  go_upto_if 86 with fail
  go_cut [0] (fun s wx => s = .slice A n c ∧ Below w.heap.size w wx)
  case first =>
    cases ok
    · go_wp2
      go_meet
      exact ⟨rfl, hbA⟩
    · have HA := hide (loss_after HO.out)
      have HM := hide (fun h => loss_more HO.out h)
      obtain ⟨b0, b1, b2, b3⟩ := loss_bds HO.out
      rw [HL.out] at HA HM b2 b3
      go_wp2_with fail
      go_at_call 23
      refine (AfterSun_any _ _ _ _ x y a d d _ (by omega) hR).mono ?_
      rintro _ w7 ⟨rfl, hb⟩
      rw [HA.out]
      replace hR := Rd.below hR hb
      replace p0 := (Below.cell hb (p := ⟨g1, 0, none⟩) kX).trans p0
      replace p1 := (Below.cell hb (p := ⟨g1, 1, none⟩) kX).trans p1
      replace kX := Nat.lt_of_lt_of_le kX hb.size
      replace hbA := gr hbA hb
      clear hb
      by_cases ha : a < 100000
      rotate_left
      · have ha' : decide (a < 100000) = false := decide_eq_false ha
        go_wp2
        go_meet
        exact ⟨rfl, hbA.alloc hbA.size _⟩
      · obtain ⟨l2, HM2, hll⟩ := HM.out ha
        have HM3 := hide HM2
        clear HM2
        go_upto_region 10 with fail
        have hY := Box2.new w7 32 (.int .i64 (x - l)) (.int .i64 (y))
        have hb : Below w7.heap.size w7 (w7.alloc (.cells #[.int .i64 (x - l), .int .i64 (y)] 32)) := (Below.refl _ _).alloc (Nat.le_refl _) _
        generalize w7.alloc (.cells #[.int .i64 (x - l), .int .i64 (y)] 32) = w9 at hY hb ⊢
        replace hR := Rd.below hR hb
        replace p0 := (Below.cell hb (p := ⟨g1, 0, none⟩) kX).trans p0
        replace p1 := (Below.cell hb (p := ⟨g1, 1, none⟩) kX).trans p1
        replace kX := Nat.lt_of_lt_of_le kX hb.size
        replace hbA := gr hbA hb
        clear hb
        generalize w7.heap.size = g9 at hY ⊢
        obtain ⟨kY, q0, q1, -, -⟩ := hY
        go_wp2_with fail
        go_at_call 21
        refine (LossOn_any _ _ _ _ x y (a + 1) d _ (by omega) hR).mono ?_
        rintro _ w8 ⟨rfl, hb⟩
        rw [HM3.out]
        replace hR := Rd.below hR hb
        replace p0 := (Below.cell hb (p := ⟨g1, 0, none⟩) kX).trans p0
        replace p1 := (Below.cell hb (p := ⟨g1, 1, none⟩) kX).trans p1
        replace kX := Nat.lt_of_lt_of_le kX hb.size
        replace hbA := gr hbA hb
        clear hb
        have hll' : decide (l2 < l) = false := decide_eq_false (by omega)
        go_wp2
        go_meet
        exact ⟨rfl, hbA⟩
  case rest =>
    clear hR p0 p1 p2 p3 kX hbA HL HO a0 a1 hn1
    obtain ⟨rfl, hbA⟩ := hcut
    have hsA := hbA.size
    go_wp2_with fail
    go_at_call 24
    refine (DrawAfterSun_any _ _ _ _ _ (h.below hbA)).mono ?_
    rintro _ w1 ⟨A1, n1, c1, F1, x, y, a, d, f, rfl, hn1, hO, hb⟩
    go_upto_region 17 with fail
    have hX := Box2.new w1 32 (.int .i64 x) (.int .i64 y)
    have hR := Rd.alloc (hO.sl.rd (Nat.le_refl _)) (.cells #[.int .i64 x, .int .i64 y] 32)
    replace hbA := (hbA.trans (hb.mono (by omega))).alloc (by have := hb.size; omega) (.cells #[.int .i64 x, .int .i64 y] 32)
    clear hO hb
    generalize w1.alloc (.cells #[.int .i64 x, .int .i64 y] 32) = w2 at hX hR hbA ⊢
    generalize w1.heap.size = g2 at hX ⊢
    obtain ⟨kX, p0, p1, p2, p3⟩ := hX
    obtain ⟨X, Y, T, hE⟩ : ∃ X Y T, afterSunR F1 n1 x y a d f = (X, Y, T) := ⟨_, _, _, rfl⟩
    have HE := hide hE
    clear hE
    go_wp2_with fail
    go_at_call 23
    refine (AfterSun_any _ _ _ _ x y a d f _ (by omega) hR).mono ?_
    rintro _ w3 ⟨rfl, hb⟩
    rw [HE.out]
    replace hR := Rd.below hR hb
    replace p0 := (Below.cell hb (p := ⟨g2, 0, none⟩) kX).trans p0
    replace p1 := (Below.cell hb (p := ⟨g2, 1, none⟩) kX).trans p1
    replace kX := Nat.lt_of_lt_of_le kX hb.size
    replace hbA := gr hbA hb
    clear hb
    go_upto_region 18 with fail
    have hY := Box2.new w3 32 (.int .i64 (X)) (.int .i64 (Y))
    have hb : Below w3.heap.size w3 (w3.alloc (.cells #[.int .i64 (X), .int .i64 (Y)] 32)) := (Below.refl _ _).alloc (Nat.le_refl _) _
    generalize w3.alloc (.cells #[.int .i64 (X), .int .i64 (Y)] 32) = w4 at hY hb ⊢
    replace hR := Rd.below hR hb
    replace p0 := (Below.cell hb (p := ⟨g2, 0, none⟩) kX).trans p0
    replace p1 := (Below.cell hb (p := ⟨g2, 1, none⟩) kX).trans p1
    replace kX := Nat.lt_of_lt_of_le kX hb.size
    replace hbA := gr hbA hb
    clear hb
    generalize w3.heap.size = g3 at hY ⊢
    obtain ⟨kY, q0, q1, -, -⟩ := hY
    go_wp2_with fail
    go_at_call 25
    refine (spec_AfterSun_any _ _ _ _ x y a d f _ (by omega) hR).mono ?_
    rintro _ w5 ⟨rfl, hb⟩
    rw [HE.out]
    replace q0 := (Below.cell hb (p := ⟨g3, 0, none⟩) kY).trans q0
    replace q1 := (Below.cell hb (p := ⟨g3, 1, none⟩) kY).trans q1
    replace kY := Nat.lt_of_lt_of_le kY hb.size
    replace hR := Rd.below hR hb
    replace p0 := (Below.cell hb (p := ⟨g2, 0, none⟩) kX).trans p0
    replace p1 := (Below.cell hb (p := ⟨g2, 1, none⟩) kX).trans p1
    replace kX := Nat.lt_of_lt_of_le kX hb.size
    replace hbA := gr hbA hb
    clear hb
    go_upto_region 19 with fail
    have hY := Box2.new w5 32 (.int .i64 X) (.int .i64 Y)
    have hb : Below w5.heap.size w5 (w5.alloc (.cells #[.int .i64 X, .int .i64 Y] 32)) := (Below.refl _ _).alloc (Nat.le_refl _) _
    generalize w5.alloc (.cells #[.int .i64 X, .int .i64 Y] 32) = w6 at hY hb ⊢
    replace q0 := (Below.cell hb (p := ⟨g3, 0, none⟩) kY).trans q0
    replace q1 := (Below.cell hb (p := ⟨g3, 1, none⟩) kY).trans q1
    replace kY := Nat.lt_of_lt_of_le kY hb.size
    replace hR := Rd.below hR hb
    replace p0 := (Below.cell hb (p := ⟨g2, 0, none⟩) kX).trans p0
    replace p1 := (Below.cell hb (p := ⟨g2, 1, none⟩) kX).trans p1
    replace kX := Nat.lt_of_lt_of_le kX hb.size
    replace hbA := gr hbA hb
    clear hb
    generalize w5.heap.size = g4 at hY ⊢
    obtain ⟨kZ, z0, z1, -, -⟩ := hY
    go_upto_region 21 with fail
    clear hR p0 p1 p2 p3 kX q0 q1 kY z0 z1 kZ HE hn1
    replace hsA := hbA.size
    go_wp2_with fail
    go_at_call 26
    refine (DrawSmallestArea_any _ _ _ _ _ (h.below hbA)).mono ?_
    rintro _ w1 ⟨A1, n1, c1, F1, x, y, a, d, f, rfl, hn1, hO, hb⟩
    go_upto_region 22 with fail
    have hX := Box2.new w1 32 (.int .i64 x) (.int .i64 y)
    have hR := Rd.alloc (hO.sl.rd (Nat.le_refl _)) (.cells #[.int .i64 x, .int .i64 y] 32)
    replace hbA := (hbA.trans (hb.mono (by omega))).alloc (by have := hb.size; omega) (.cells #[.int .i64 x, .int .i64 y] 32)
    clear hO hb
    generalize w1.alloc (.cells #[.int .i64 x, .int .i64 y] 32) = w2 at hX hR hbA ⊢
    generalize w1.heap.size = g5 at hX ⊢
    obtain ⟨kX, p0, p1, p2, p3⟩ := hX
    obtain ⟨l, ok, hE⟩ : ∃ l ok, smallR F1 n1 x y a d f = (l, ok) := ⟨_, _, rfl⟩
    have HE := hide hE
    clear hE
    go_wp2_with fail
    go_at_call 27
    refine (SmallestArea_any _ _ _ _ x y a d f _ (by omega) hR).mono ?_
    rintro _ w3 ⟨rfl, hb⟩
    rw [HE.out]
    replace hR := Rd.below hR hb
    replace p0 := (Below.cell hb (p := ⟨g5, 0, none⟩) kX).trans p0
    replace p1 := (Below.cell hb (p := ⟨g5, 1, none⟩) kX).trans p1
    replace kX := Nat.lt_of_lt_of_le kX hb.size
    replace hbA := gr hbA hb
    clear hb
    go_wp2_with fail
    go_at_call 28
    refine (spec_SmallestArea_any _ _ _ _ x y a d f _ (by omega) hR).mono ?_
    rintro _ w4 ⟨rfl, hb⟩
    rw [HE.out]
    replace hR := Rd.below hR hb
    replace p0 := (Below.cell hb (p := ⟨g5, 0, none⟩) kX).trans p0
    replace p1 := (Below.cell hb (p := ⟨g5, 1, none⟩) kX).trans p1
    replace kX := Nat.lt_of_lt_of_le kX hb.size
    replace hbA := gr hbA hb
    clear hb
    go_upto_if 200 with fail
    go_cut [0] (fun s wx => s = .slice A n c ∧ Below w.heap.size w wx)
    case first =>
      cases ok
      · go_wp2
        go_meet
        exact ⟨rfl, hbA⟩
      · have hok : (smallR F1 n1 x y a d f).2 = true := by rw [HE.out]
        obtain ⟨s1, hs1, hs2⟩ := small_ok hok
        have hM := fun h => small_less hok h
        obtain ⟨l0, l1⟩ := small_bd hok
        simp only [HE.out] at hs1 hM l0 l1
        have HS := hide hs1
        have HM := hide hM
        clear hs1 hM hok
        have hd : decide (f < s1) = false := decide_eq_false (by omega)
        go_wp2_with fail
        go_at_call 23
        refine (AfterSun_any _ _ _ _ x y l a d _ (by omega) hR).mono ?_
        rintro _ w7 ⟨rfl, hb⟩
        rw [HS.out]
        replace hR := Rd.below hR hb
        replace p0 := (Below.cell hb (p := ⟨g5, 0, none⟩) kX).trans p0
        replace p1 := (Below.cell hb (p := ⟨g5, 1, none⟩) kX).trans p1
        replace kX := Nat.lt_of_lt_of_le kX hb.size
        replace hbA := gr hbA hb
        clear hb
        go_upto_region 28 with fail
        have hY := Box2.new w7 32 (.int .i64 (s1)) (.int .i64 (y))
        have hb : Below w7.heap.size w7 (w7.alloc (.cells #[.int .i64 (s1), .int .i64 (y)] 32)) := (Below.refl _ _).alloc (Nat.le_refl _) _
        generalize w7.alloc (.cells #[.int .i64 (s1), .int .i64 (y)] 32) = w8 at hY hb ⊢
        replace hR := Rd.below hR hb
        replace p0 := (Below.cell hb (p := ⟨g5, 0, none⟩) kX).trans p0
        replace p1 := (Below.cell hb (p := ⟨g5, 1, none⟩) kX).trans p1
        replace kX := Nat.lt_of_lt_of_le kX hb.size
        replace hbA := gr hbA hb
        clear hb
        generalize w7.heap.size = g6 at hY ⊢
        obtain ⟨kY, q0, q1, -, -⟩ := hY
        by_cases h1 : 1 < l
        rotate_left
        · have h1' : decide (1 < l) = false := decide_eq_false h1
          clear h1
          go_wp2
          go_meet
          exact ⟨rfl, hbA⟩
        · obtain ⟨s2, hs3, hs4⟩ := HM.out h1
          have HS2 := hide hs3
          clear hs3
          have hd2 : decide (s2 ≤ f) = false := decide_eq_false (by omega)
          go_wp2_with fail
          go_at_call 23
          refine (AfterSun_any _ _ _ _ x y (l - 1) a d _ (by omega) hR).mono ?_
          rintro _ w9 ⟨rfl, hb⟩
          rw [HS2.out]
          replace hR := Rd.below hR hb
          replace p0 := (Below.cell hb (p := ⟨g5, 0, none⟩) kX).trans p0
          replace p1 := (Below.cell hb (p := ⟨g5, 1, none⟩) kX).trans p1
          replace kX := Nat.lt_of_lt_of_le kX hb.size
          replace hbA := gr hbA hb
          clear hb
          go_upto_region 32 with fail
          have hY := Box2.new w9 32 (.int .i64 (s2)) (.int .i64 (y))
          have hb : Below w9.heap.size w9 (w9.alloc (.cells #[.int .i64 (s2), .int .i64 (y)] 32)) := (Below.refl _ _).alloc (Nat.le_refl _) _
          generalize w9.alloc (.cells #[.int .i64 (s2), .int .i64 (y)] 32) = w10 at hY hb ⊢
          replace hR := Rd.below hR hb
          replace p0 := (Below.cell hb (p := ⟨g5, 0, none⟩) kX).trans p0
          replace p1 := (Below.cell hb (p := ⟨g5, 1, none⟩) kX).trans p1
          replace kX := Nat.lt_of_lt_of_le kX hb.size
          replace hbA := gr hbA hb
          clear hb
          generalize w9.heap.size = g7 at hY ⊢
          obtain ⟨kY, q0, q1, -, -⟩ := hY
          go_wp2
          go_meet
          exact ⟨rfl, hbA⟩
    case rest =>
      clear hR p0 p1 p2 p3 kX hbA HE hn1
      obtain ⟨rfl, hbA⟩ := hcut
      replace hsA := hbA.size
      go_wp2_with fail
      go_at_call 29
      refine (DrawStrongOn_any _ _ _ _ _ (h.below hbA)).mono ?_
      rintro _ w1 ⟨A1, n1, c1, F1, x, y, a, d, f, rfl, hn1, hO, hb⟩
      go_upto_region 35 with fail
      have hX := Box2.new w1 32 (.int .i64 x) (.int .i64 y)
      have hR := Rd.alloc (hO.sl.rd (Nat.le_refl _)) (.cells #[.int .i64 x, .int .i64 y] 32)
      replace hbA := (hbA.trans (hb.mono (by omega))).alloc (by have := hb.size; omega) (.cells #[.int .i64 x, .int .i64 y] 32)
      clear hO hb
      generalize w1.alloc (.cells #[.int .i64 x, .int .i64 y] 32) = w2 at hX hR hbA ⊢
      generalize w1.heap.size = g8 at hX ⊢
      obtain ⟨kX, p0, p1, p2, p3⟩ := hX
      go_wp2_with fail
      go_at_call 30
      refine (StrongOn_any _ _ _ _ x y a d f _ (by omega) hR).mono ?_
      rintro _ w3 ⟨rfl, hb⟩
      replace hR := Rd.below hR hb
      replace p0 := (Below.cell hb (p := ⟨g8, 0, none⟩) kX).trans p0
      replace p1 := (Below.cell hb (p := ⟨g8, 1, none⟩) kX).trans p1
      replace kX := Nat.lt_of_lt_of_le kX hb.size
      replace hbA := gr hbA hb
      clear hb
      go_wp2_with fail
      go_at_call 31
      refine (spec_StrongOn_any _ _ _ _ x y a d f _ (by omega) hR).mono ?_
      rintro _ w4 ⟨rfl, hb⟩
      rw [strongOn_same]
      replace hR := Rd.below hR hb
      replace p0 := (Below.cell hb (p := ⟨g8, 0, none⟩) kX).trans p0
      replace p1 := (Below.cell hb (p := ⟨g8, 1, none⟩) kX).trans p1
      replace kX := Nat.lt_of_lt_of_le kX hb.size
      replace hbA := gr hbA hb
      clear hb
      go_wp2
      go_ret
      exact ⟨rfl, hbA⟩
end Go.Proofs.Ytajmebclmippeaa
