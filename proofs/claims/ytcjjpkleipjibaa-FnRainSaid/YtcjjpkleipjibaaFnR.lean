/-
  The walk of the law FnRain. Conditions: codes of bytes.
-/
import Derived.Test.YtcjjpkleipjibaaDrV
import Derived.Test.YtcjjpkleipjibaaRainL
import Derived.Test.YtcjjpkleipjibaaRainH
namespace Go.Proofs.Ytcjjpkleipjibaa
open Go.RowKit

theorem vBig_any (A : Option Addr) (n c : Nat) (w : World) :
    Calls Try.prog 44 #[.slice A n c] w fun e w' => e = .returned (.bool (decide (65536 < (n : Int)))) ∧ w = w' := by
  go_enter Try.func44, Try.ntmps44
  go_wp2
  go_ret
  exact ⟨rfl, rfl⟩
set_option maxRecDepth 20000 in
set_option maxHeartbeats 8000000 in
theorem law_Rain (A : Option Addr) (n c : Nat) (B : Nat → Int) (w : World) (h : CodeR w A n B) :
    Calls Try.prog 13 #[.slice A n c] w fun e w' => e = .returned (.bool true) ∧ Below w.heap.size w w' := by
  cases hbig : decide (65536 < (n : Int))
  rotate_left
  · go_enter Try.func13, Try.ntmps13
    go_wp2_with fail
    go_at_call 44
    refine (vBig_any _ _ _ _).mono ?_
    rintro _ _ ⟨rfl, rfl⟩
    rw [hbig]
    go_wp2
    go_ret
    exact ⟨rfl, Below.refl _ _⟩
  have hbA := Below.refl w.heap.size w
  have hsA := hbA.size
  go_enter Try.func13, Try.ntmps13
  go_wp2_with fail
  go_at_call 44
  refine (vBig_any _ _ _ _).mono ?_
  rintro _ _ ⟨rfl, rfl⟩
  rw [hbig]
  clear hbig
  go_wp2_with fail
  go_at_call 49
  refine (DrawAfterRain_any _ _ _ _ _ h).mono ?_
  rintro _ w1 ⟨A1, n1, c1, F1, x, y, a, cv, d, rfl, hn1, hO, hb⟩
  go_upto_region 4 with fail
  have hX := Box2.new w1 39 (.int .i64 x) (.int .i64 y)
  have hR := Rd.alloc (hO.sl.rd (Nat.le_refl _)) (.cells #[.int .i64 x, .int .i64 y] 39)
  replace hbA := (hbA.trans (hb.mono (by omega))).alloc (by have := hb.size; omega) (.cells #[.int .i64 x, .int .i64 y] 39)
  clear hO hb
  generalize w1.alloc (.cells #[.int .i64 x, .int .i64 y] 39) = w2 at hX hR hbA ⊢
  generalize w1.heap.size = g1 at hX ⊢
  obtain ⟨kX, p0, p1, p2, p3⟩ := hX
  obtain ⟨X, Y, T, hE⟩ : ∃ X Y T, afterRainR F1 n1 x y a cv d = (X, Y, T) := ⟨_, _, _, rfl⟩
  have HE := hide hE
  clear hE
  go_wp2_with fail
  go_at_call 29
  refine (AfterRain_any _ _ _ _ x y a cv d _ (by omega) hR).mono ?_
  rintro _ w3 ⟨rfl, hb⟩
  rw [HE.out]
  replace hR := Rd.below hR hb
  replace p0 := (Below.cell hb (p := ⟨g1, 0, none⟩) kX).trans p0
  replace p1 := (Below.cell hb (p := ⟨g1, 1, none⟩) kX).trans p1
  replace kX := Nat.lt_of_lt_of_le kX hb.size
  replace hbA := gr hbA hb
  clear hb
  go_upto_region 5 with fail
  have hY := Box2.new w3 39 (.int .i64 (X)) (.int .i64 (Y))
  have hb : Below w3.heap.size w3 (w3.alloc (.cells #[.int .i64 (X), .int .i64 (Y)] 39)) := (Below.refl _ _).alloc (Nat.le_refl _) _
  generalize w3.alloc (.cells #[.int .i64 (X), .int .i64 (Y)] 39) = w4 at hY hb ⊢
  replace hR := Rd.below hR hb
  replace p0 := (Below.cell hb (p := ⟨g1, 0, none⟩) kX).trans p0
  replace p1 := (Below.cell hb (p := ⟨g1, 1, none⟩) kX).trans p1
  replace kX := Nat.lt_of_lt_of_le kX hb.size
  replace hbA := gr hbA hb
  clear hb
  generalize w3.heap.size = g2 at hY ⊢
  obtain ⟨kY, q0, q1, -, -⟩ := hY
  go_wp2_with fail
  go_at_call 27
  refine (spec_AfterRain_any _ _ _ _ x y a cv d _ (by omega) hR).mono ?_
  rintro _ w5 ⟨rfl, hb⟩
  rw [HE.out]
  have hB := hb
  replace hR := Rd.below hR hb
  replace p0 := (Below.cell hb (p := ⟨g1, 0, none⟩) kX).trans p0
  replace p1 := (Below.cell hb (p := ⟨g1, 1, none⟩) kX).trans p1
  replace kX := Nat.lt_of_lt_of_le kX hb.size
  replace hbA := gr hbA hb
  clear hb
  replace q0 := (Below.cell hB (p := ⟨g2, 0, none⟩) kY).trans q0
  replace q1 := (Below.cell hB (p := ⟨g2, 1, none⟩) kY).trans q1
  replace kY := Nat.lt_of_lt_of_le kY hB.size
  clear hB
  go_upto_region 6 with fail
  have hZ := Box2.new w5 39 (.int .i64 X) (.int .i64 Y)
  have hb : Below w5.heap.size w5 (w5.alloc (.cells #[.int .i64 X, .int .i64 Y] 39)) := (Below.refl _ _).alloc (Nat.le_refl _) _
  generalize w5.alloc (.cells #[.int .i64 X, .int .i64 Y] 39) = w6 at hZ hb ⊢
  have hB := hb
  replace hR := Rd.below hR hb
  replace p0 := (Below.cell hb (p := ⟨g1, 0, none⟩) kX).trans p0
  replace p1 := (Below.cell hb (p := ⟨g1, 1, none⟩) kX).trans p1
  replace kX := Nat.lt_of_lt_of_le kX hb.size
  replace hbA := gr hbA hb
  clear hb
  replace q0 := (Below.cell hB (p := ⟨g2, 0, none⟩) kY).trans q0
  replace q1 := (Below.cell hB (p := ⟨g2, 1, none⟩) kY).trans q1
  replace kY := Nat.lt_of_lt_of_le kY hB.size
  clear hB
  generalize w5.heap.size = g3 at hZ ⊢
  obtain ⟨kZ, z0, z1, -, -⟩ := hZ
  go_wp2_with fail
  go_at_call 17
  refine (AreShowers_any _ _ _ _ _ (by omega) hR).mono ?_
  rintro _ w7 ⟨rfl, hb⟩
  have hB := hb
  replace hR := Rd.below hR hb
  replace p0 := (Below.cell hb (p := ⟨g1, 0, none⟩) kX).trans p0
  replace p1 := (Below.cell hb (p := ⟨g1, 1, none⟩) kX).trans p1
  replace kX := Nat.lt_of_lt_of_le kX hb.size
  replace hbA := gr hbA hb
  clear hb
  replace q0 := (Below.cell hB (p := ⟨g2, 0, none⟩) kY).trans q0
  replace q1 := (Below.cell hB (p := ⟨g2, 1, none⟩) kY).trans q1
  replace kY := Nat.lt_of_lt_of_le kY hB.size
  clear hB
  clear z0 z1 kZ
  go_wp2_with fail
  go_at_call 15
  refine (spec_AreShowers_any _ _ _ _ _ (by omega) hR).mono ?_
  rintro _ w8 ⟨rfl, hb⟩
  have hB := hb
  replace hR := Rd.below hR hb
  replace p0 := (Below.cell hb (p := ⟨g1, 0, none⟩) kX).trans p0
  replace p1 := (Below.cell hb (p := ⟨g1, 1, none⟩) kX).trans p1
  replace kX := Nat.lt_of_lt_of_le kX hb.size
  replace hbA := gr hbA hb
  clear hb
  replace q0 := (Below.cell hB (p := ⟨g2, 0, none⟩) kY).trans q0
  replace q1 := (Below.cell hB (p := ⟨g2, 1, none⟩) kY).trans q1
  replace kY := Nat.lt_of_lt_of_le kY hB.size
  clear hB
  go_upto_if 88 with fail
  go_cut [0] (fun s wx => s = .slice A n c ∧ Below w.heap.size w wx)
  case first =>
    as_aux_lemma =>
      cases T
      · go_wp2
        go_meet
        exact ⟨rfl, hbA⟩
      · have hok : (afterRainR F1 n1 x y a cv d).2.2 = true := by rw [HE.out]
        obtain ⟨kg, hr, k0, k1, hbr, ⟨cv0, cv1⟩, hw, he⟩ := rain_true hok
        obtain ⟨f0, f1, f2, f3⟩ := rain_facts k0 k1 cv0 cv1
        have hm := fun hc => rain_more hok hc
        have hXY : X = x + comes kg cv ∧ Y = y := by
          rw [HE.out] at he
          injection he with e1 e2
          injection e2 with e2 e3
          exact ⟨e1, e2⟩
        obtain ⟨hX, rfl⟩ := hXY
        have bx := (brineB_true hbr).1
        rw [HE.out] at hm
        have HR := hide hr
        have HM := hide hm
        generalize comes kg cv = cm at hX f0 f1 f2 f3
        have t1 : decide (X < x) = false := decide_eq_false (by omega)
        have t2 : decide (x + kg < X) = false := decide_eq_false (by omega)
        have F2 := hide (show cv = 0 → X = x + kg from fun e => by have := f2 e; omega)
        have F3 := hide (show cv = 100 → X = x from fun e => by have := f3 e; omega)
        clear hr hm he hw hbr hok hX f2 f3 f0 f1
        go_wp2_with fail
        go_at_call 24
        refine (RainOnArea_any _ _ _ _ a d _ (by omega) hR).mono ?_
        rintro _ w9 ⟨rfl, hb⟩
        rw [HR.out]
        have hB := hb
        replace hR := Rd.below hR hb
        replace p0 := (Below.cell hb (p := ⟨g1, 0, none⟩) kX).trans p0
        replace p1 := (Below.cell hb (p := ⟨g1, 1, none⟩) kX).trans p1
        replace kX := Nat.lt_of_lt_of_le kX hb.size
        replace hbA := gr hbA hb
        clear hb
        replace q0 := (Below.cell hB (p := ⟨g2, 0, none⟩) kY).trans q0
        replace q1 := (Below.cell hB (p := ⟨g2, 1, none⟩) kY).trans q1
        replace kY := Nat.lt_of_lt_of_le kY hB.size
        clear hB
        go_upto_region 10 with fail
        go_cut [144] (fun s wx => s = .bool false ∧ wx = w9)
        case first =>
          as_aux_lemma =>
            by_cases hc0 : cv = 0
            · have hX := F2.out hc0
              subst hc0 hX
              go_wp2
              go_meet
              exact ⟨rfl, rfl⟩
            · have e0 : (cv == 0) = false := by simpa using hc0
              by_cases hc1 : cv = 100
              · have hX := F3.out hc1
                subst hc1 hX
                clear hc0 e0
                go_wp2
                go_meet
                exact ⟨rfl, rfl⟩
              · have e1 : (cv == 100) = false := by simpa using hc1
                go_wp2
                go_meet
                exact ⟨rfl, rfl⟩
        case rest =>
          as_aux_lemma =>
            obtain ⟨rfl, rfl⟩ := hcut
            by_cases hc : cv < 100
            rotate_left
            · have hc' : decide (cv < 100) = false := decide_eq_false hc
              clear hc
              go_wp2
              go_meet
              exact ⟨rfl, hbA⟩
            · obtain ⟨v, hm1, hm2⟩ := HM.out hc
              have HM1 := hide (show afterRainR F1 n1 x Y a (cv + 1) d = (v, Y, true) from hm1)
              have t3 := decide_eq_false (show ¬ X < v by omega)
              have hc' : decide (cv < 100) = true := decide_eq_true hc
              clear hm1 hm2 hc F2 F3
              go_wp2_with fail
              go_at_call 29
              refine (AfterRain_any _ _ _ _ _ _ _ _ _ _ (by omega) hR).mono ?_
              rintro _ w10 ⟨rfl, hb⟩
              rw [HM1.out]
              have hB := hb
              replace hR := Rd.below hR hb
              replace p0 := (Below.cell hb (p := ⟨g1, 0, none⟩) kX).trans p0
              replace p1 := (Below.cell hb (p := ⟨g1, 1, none⟩) kX).trans p1
              replace kX := Nat.lt_of_lt_of_le kX hb.size
              replace hbA := gr hbA hb
              clear hb
              replace q0 := (Below.cell hB (p := ⟨g2, 0, none⟩) kY).trans q0
              replace q1 := (Below.cell hB (p := ⟨g2, 1, none⟩) kY).trans q1
              replace kY := Nat.lt_of_lt_of_le kY hB.size
              clear hB
              go_upto_region 14 with fail
              have hZ := Box2.new w10 39 (.int .i64 v) (.int .i64 Y)
              have hb : Below w10.heap.size w10 (w10.alloc (.cells #[.int .i64 v, .int .i64 Y] 39)) := (Below.refl _ _).alloc (Nat.le_refl _) _
              generalize w10.alloc (.cells #[.int .i64 v, .int .i64 Y] 39) = w11 at hZ hb ⊢
              have hB := hb
              replace hR := Rd.below hR hb
              replace p0 := (Below.cell hb (p := ⟨g1, 0, none⟩) kX).trans p0
              replace p1 := (Below.cell hb (p := ⟨g1, 1, none⟩) kX).trans p1
              replace kX := Nat.lt_of_lt_of_le kX hb.size
              replace hbA := gr hbA hb
              clear hb
              replace q0 := (Below.cell hB (p := ⟨g2, 0, none⟩) kY).trans q0
              replace q1 := (Below.cell hB (p := ⟨g2, 1, none⟩) kY).trans q1
              replace kY := Nat.lt_of_lt_of_le kY hB.size
              clear hB
              generalize w10.heap.size = g4 at hZ ⊢
              obtain ⟨kZ, z0, z1, -, -⟩ := hZ
              go_wp2
              go_meet
              exact ⟨rfl, hbA⟩
  case rest =>
    as_aux_lemma =>
      clear hR p0 p1 kX q0 q1 kY hbA HE hn1
      obtain ⟨rfl, hbA⟩ := hcut
      have hsA := hbA.size
      go_wp2_with fail
      go_at_call 50
      refine (DrawCoverNeeded_any _ _ _ _ _ (h.below hbA)).mono ?_
      rintro _ w1 ⟨A1, n1, c1, F1, x, y, a, d, f, rfl, hn1, hO, hb⟩
      go_upto_region 17 with fail
      have hX := Box2.new w1 39 (.int .i64 x) (.int .i64 y)
      have hR := Rd.alloc (hO.sl.rd (Nat.le_refl _)) (.cells #[.int .i64 x, .int .i64 y] 39)
      replace hbA := (hbA.trans (hb.mono (by omega))).alloc (by have := hb.size; omega) (.cells #[.int .i64 x, .int .i64 y] 39)
      clear hO hb
      generalize w1.alloc (.cells #[.int .i64 x, .int .i64 y] 39) = w2 at hX hR hbA ⊢
      generalize w1.heap.size = g5 at hX ⊢
      obtain ⟨kX, p0, p1, p2, p3⟩ := hX
      obtain ⟨l, ok, hE⟩ : ∃ l ok, coverR F1 n1 x y a d f = (l, ok) := ⟨_, _, rfl⟩
      have HE := hide hE
      clear hE
      go_wp2_with fail
      go_at_call 32
      refine (CoverNeeded_any _ _ _ _ x y a d f _ (by omega) hR).mono ?_
      rintro _ w3 ⟨rfl, hb⟩
      rw [HE.out]
      replace hR := Rd.below hR hb
      replace p0 := (Below.cell hb (p := ⟨g5, 0, none⟩) kX).trans p0
      replace p1 := (Below.cell hb (p := ⟨g5, 1, none⟩) kX).trans p1
      replace kX := Nat.lt_of_lt_of_le kX hb.size
      replace hbA := gr hbA hb
      clear hb
      go_wp2_with fail
      go_at_call 31
      refine (spec_CoverNeeded_any _ _ _ _ x y a d f _ (by omega) hR).mono ?_
      rintro _ w4 ⟨rfl, hb⟩
      rw [HE.out]
      replace hR := Rd.below hR hb
      replace p0 := (Below.cell hb (p := ⟨g5, 0, none⟩) kX).trans p0
      replace p1 := (Below.cell hb (p := ⟨g5, 1, none⟩) kX).trans p1
      replace kX := Nat.lt_of_lt_of_le kX hb.size
      replace hbA := gr hbA hb
      clear hb
      go_upto_if 200 with fail
      go_cut [0] (fun s wx => s = .slice A n c ∧ Below w.heap.size w wx)
      case first =>
        as_aux_lemma =>
          cases ok
          · go_wp2
            go_meet
            exact ⟨rfl, hbA⟩
          · have hok : (coverR F1 n1 x y a d f).2 = true := by rw [HE.out]
            obtain ⟨s1, sx, hs1, hs2⟩ := cover_ok hok
            have hM := fun h => cover_less hok h
            obtain ⟨l0, l1⟩ := cover_bd hok
            simp only [HE.out] at hs1 hM l0 l1
            have HS := hide hs1
            have HM := hide hM
            clear hs1 hM hok
            have hd : decide (f < s1) = false := decide_eq_false (by omega)
            go_wp2_with fail
            go_at_call 29
            refine (AfterRain_any _ _ _ _ x y a l d _ (by omega) hR).mono ?_
            rintro _ w7 ⟨rfl, hb⟩
            rw [HS.out]
            replace hR := Rd.below hR hb
            replace p0 := (Below.cell hb (p := ⟨g5, 0, none⟩) kX).trans p0
            replace p1 := (Below.cell hb (p := ⟨g5, 1, none⟩) kX).trans p1
            replace kX := Nat.lt_of_lt_of_le kX hb.size
            replace hbA := gr hbA hb
            clear hb
            go_upto_region 23 with fail
            have hY := Box2.new w7 39 (.int .i64 (s1)) (.int .i64 (sx))
            have hb : Below w7.heap.size w7 (w7.alloc (.cells #[.int .i64 (s1), .int .i64 (sx)] 39)) := (Below.refl _ _).alloc (Nat.le_refl _) _
            generalize w7.alloc (.cells #[.int .i64 (s1), .int .i64 (sx)] 39) = w8 at hY hb ⊢
            replace hR := Rd.below hR hb
            replace p0 := (Below.cell hb (p := ⟨g5, 0, none⟩) kX).trans p0
            replace p1 := (Below.cell hb (p := ⟨g5, 1, none⟩) kX).trans p1
            replace kX := Nat.lt_of_lt_of_le kX hb.size
            replace hbA := gr hbA hb
            clear hb
            generalize w7.heap.size = g6 at hY ⊢
            obtain ⟨kY, q0, q1, -, -⟩ := hY
            by_cases h1 : 0 < l
            rotate_left
            · have h1' : decide (0 < l) = false := decide_eq_false h1
              clear h1
              go_wp2
              go_meet
              exact ⟨rfl, hbA⟩
            · obtain ⟨v, sy, T2, hs3, hs4⟩ := HM.out h1
              have HS2 := hide hs3
              have HS4 := hide hs4
              clear hs3 hs4
              go_wp2_with fail
              go_at_call 29
              refine (AfterRain_any _ _ _ _ x y a (l - 1) d _ (by omega) hR).mono ?_
              rintro _ w9 ⟨rfl, hb⟩
              rw [HS2.out]
              replace hR := Rd.below hR hb
              replace p0 := (Below.cell hb (p := ⟨g5, 0, none⟩) kX).trans p0
              replace p1 := (Below.cell hb (p := ⟨g5, 1, none⟩) kX).trans p1
              replace kX := Nat.lt_of_lt_of_le kX hb.size
              replace hbA := gr hbA hb
              clear hb
              go_upto_region 27 with fail
              have hY := Box2.new w9 39 (.int .i64 (v)) (.int .i64 (sy))
              have hb : Below w9.heap.size w9 (w9.alloc (.cells #[.int .i64 (v), .int .i64 (sy)] 39)) := (Below.refl _ _).alloc (Nat.le_refl _) _
              generalize w9.alloc (.cells #[.int .i64 (v), .int .i64 (sy)] 39) = w10 at hY hb ⊢
              replace hR := Rd.below hR hb
              replace p0 := (Below.cell hb (p := ⟨g5, 0, none⟩) kX).trans p0
              replace p1 := (Below.cell hb (p := ⟨g5, 1, none⟩) kX).trans p1
              replace kX := Nat.lt_of_lt_of_le kX hb.size
              replace hbA := gr hbA hb
              clear hb
              generalize w9.heap.size = g7 at hY ⊢
              obtain ⟨kY, q0, q1, -, -⟩ := hY
              cases T2
              · go_wp2
                go_meet
                exact ⟨rfl, hbA⟩
              · have hd2 : decide (v ≤ f) = false := decide_eq_false (by have := HS4.out rfl; omega)
                go_wp2
                go_meet
                exact ⟨rfl, hbA⟩
      case rest =>
        as_aux_lemma =>
          clear hR p0 p1 p2 p3 kX hbA HE hn1
          obtain ⟨rfl, hbA⟩ := hcut
          replace hsA := hbA.size
          go_wp2_with fail
          go_at_call 51
          refine (DrawNetOn_any _ _ _ _ _ (h.below hbA)).mono ?_
          rintro _ w1 ⟨A1, n1, c1, F1, A2, n2, c2, F2, x, y, a, d, rfl, hn1, hn2, hO, hQ, hb⟩
          go_upto_region 30 with fail
          have hS := Rd.alloc (hQ.sl.rd (Nat.le_refl _)) (.cells #[.int .i64 x, .int .i64 y] 39)
          clear hQ
          have hX := Box2.new w1 39 (.int .i64 x) (.int .i64 y)
          have hR := Rd.alloc (hO.sl.rd (Nat.le_refl _)) (.cells #[.int .i64 x, .int .i64 y] 39)
          replace hbA := (hbA.trans (hb.mono (by omega))).alloc (by have := hb.size; omega) (.cells #[.int .i64 x, .int .i64 y] 39)
          clear hO hb
          generalize w1.alloc (.cells #[.int .i64 x, .int .i64 y] 39) = w2 at hX hR hS hbA ⊢
          generalize w1.heap.size = g8 at hX ⊢
          obtain ⟨kX, p0, p1, p2, p3⟩ := hX
          obtain ⟨X, Y, T, hE⟩ : ∃ X Y T, netOnR F1 n1 F2 n2 x y a d = (X, Y, T) := ⟨_, _, _, rfl⟩
          have HE := hide hE
          clear hE
          go_wp2_with fail
          go_at_call 42
          refine (NetOn_any _ _ _ _ _ _ _ _ x y a d _ (by omega) (by omega) hR hS).mono ?_
          rintro _ w3 ⟨rfl, hb⟩
          rw [HE.out]
          replace hS := Rd.below hS hb
          replace hR := Rd.below hR hb
          replace p0 := (Below.cell hb (p := ⟨g8, 0, none⟩) kX).trans p0
          replace p1 := (Below.cell hb (p := ⟨g8, 1, none⟩) kX).trans p1
          replace kX := Nat.lt_of_lt_of_le kX hb.size
          replace hbA := gr hbA hb
          clear hb
          go_upto_region 31 with fail
          replace hS := Rd.alloc hS (.cells #[.int .i64 X, .int .i64 Y] 39)
          have hY := Box2.new w3 39 (.int .i64 X) (.int .i64 Y)
          have hb : Below w3.heap.size w3 (w3.alloc (.cells #[.int .i64 X, .int .i64 Y] 39)) := (Below.refl _ _).alloc (Nat.le_refl _) _
          generalize w3.alloc (.cells #[.int .i64 X, .int .i64 Y] 39) = w4 at hY hS hb ⊢
          replace hR := Rd.below hR hb
          replace p0 := (Below.cell hb (p := ⟨g8, 0, none⟩) kX).trans p0
          replace p1 := (Below.cell hb (p := ⟨g8, 1, none⟩) kX).trans p1
          replace kX := Nat.lt_of_lt_of_le kX hb.size
          replace hbA := gr hbA hb
          clear hb
          generalize w3.heap.size = g9 at hY ⊢
          obtain ⟨kY, q0, q1, -, -⟩ := hY
          go_wp2_with fail
          go_at_call 40
          refine (spec_NetOn_any _ _ _ _ _ _ _ _ x y a d _ (by omega) (by omega) hR hS).mono ?_
          rintro _ w5 ⟨rfl, hb⟩
          rw [HE.out]
          clear hS
          have hB := hb
          replace hR := Rd.below hR hb
          replace p0 := (Below.cell hb (p := ⟨g8, 0, none⟩) kX).trans p0
          replace p1 := (Below.cell hb (p := ⟨g8, 1, none⟩) kX).trans p1
          replace kX := Nat.lt_of_lt_of_le kX hb.size
          replace hbA := gr hbA hb
          clear hb
          replace q0 := (Below.cell hB (p := ⟨g9, 0, none⟩) kY).trans q0
          replace q1 := (Below.cell hB (p := ⟨g9, 1, none⟩) kY).trans q1
          replace kY := Nat.lt_of_lt_of_le kY hB.size
          clear hB
          go_upto_region 32 with fail
          have hZ := Box2.new w5 39 (.int .i64 X) (.int .i64 Y)
          have hb : Below w5.heap.size w5 (w5.alloc (.cells #[.int .i64 X, .int .i64 Y] 39)) := (Below.refl _ _).alloc (Nat.le_refl _) _
          generalize w5.alloc (.cells #[.int .i64 X, .int .i64 Y] 39) = w6 at hZ hb ⊢
          have hB := hb
          replace hR := Rd.below hR hb
          replace p0 := (Below.cell hb (p := ⟨g8, 0, none⟩) kX).trans p0
          replace p1 := (Below.cell hb (p := ⟨g8, 1, none⟩) kX).trans p1
          replace kX := Nat.lt_of_lt_of_le kX hb.size
          replace hbA := gr hbA hb
          clear hb
          replace q0 := (Below.cell hB (p := ⟨g9, 0, none⟩) kY).trans q0
          replace q1 := (Below.cell hB (p := ⟨g9, 1, none⟩) kY).trans q1
          replace kY := Nat.lt_of_lt_of_le kY hB.size
          clear hB
          generalize w5.heap.size = g10 at hZ ⊢
          obtain ⟨kZ, z0, z1, -, -⟩ := hZ
          go_upto_region 34 with fail
          clear hR p0 p1 kX q0 q1 kY z0 z1 kZ HE hn1 hn2
          replace hsA := hbA.size
          go_wp2_with fail
          go_at_call 52
          refine (DrawRainOnArea_any _ _ _ _ _ (h.below hbA)).mono ?_
          rintro _ w1 ⟨A1, n1, c1, F1, a, d, rfl, hn1, hO, hb⟩
          have hR := hO.sl.rd (Nat.le_refl _)
          replace hbA := hbA.trans (hb.mono (by omega))
          go_wp2_with fail
          go_at_call 24
          refine (RainOnArea_any _ _ _ _ a d _ (by omega) hR).mono ?_
          rintro _ w3 ⟨rfl, hb3⟩
          go_wp2_with fail
          go_at_call 23
          refine (spec_RainOnArea_any _ _ _ _ a d _ (by omega) (Rd.below hR hb3)).mono ?_
          rintro _ w4 ⟨rfl, hb4⟩
          go_wp2
          go_ret
          exact ⟨rfl, gr (gr hbA hb3) hb4⟩
end Go.Proofs.Ytcjjpkleipjibaa
