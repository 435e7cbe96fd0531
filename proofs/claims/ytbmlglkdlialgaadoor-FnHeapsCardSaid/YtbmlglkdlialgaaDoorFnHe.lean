/-
  The walk of the law FnHeaps. Conditions: codes of bytes; the library's table as the text lays it.
-/
import Derived.Test.YtbmlglkdlialgaaDoorFnHw
import Derived.Test.YtbmlglkdlialgaaDoorDrHf
namespace Go.Proofs.YtbmlglkdlialgaaDoor
open Go.RowKit

set_option maxRecDepth 20000 in
set_option maxHeartbeats 8000000 in
theorem law_Heaps (A : Option Addr) (n c : Nat) (B : Nat → Int) (w : World) (hT : Tab w.heap.size w) (h : CodeR w A n B) :
    Calls Tryd.prog 4 #[.slice A n c] w fun e w' => e = .returned (.bool true) ∧ Below w.heap.size w w' := by
  have HTB := hide hT
  clear hT
  cases hbig : decide (65536 < (n : Int))
  rotate_left
  · go_enter Tryd.func4, Tryd.ntmps4
    go_wp2_with fail
    go_at_call 10
    refine (rBig_any _ _ _ _).mono ?_
    rintro _ _ ⟨rfl, rfl⟩
    rw [hbig]
    go_wp2
    go_ret
    exact ⟨rfl, Below.refl _ _⟩
  have hbA := Below.refl w.heap.size w
  have hsA := hbA.size
  go_enter Tryd.func4, Tryd.ntmps4
  go_wp2_with fail
  go_at_call 10
  refine (rBig_any _ _ _ _).mono ?_
  rintro _ _ ⟨rfl, rfl⟩
  rw [hbig]
  clear hbig
  go_wp2_with fail
  go_at_call 11
  refine (DrawPutLayer_any _ _ _ _ _ h).mono ?_
  rintro _ w1 ⟨A1, n1, c1, H1, r, s, t, rfl, hn1, hl1, hH, hb⟩
  have hR := Hp.rd hH (Nat.le_refl _)
  replace hbA := hbA.trans (hb.mono (by omega))
  have hsA := hbA.size
  clear hH hb
  obtain ⟨N, G, ok, K, x, e1, e2, e3, ⟨hN1, hsm⟩, hall⟩ := put_law7 H1 n1 r s t hl1
  have E1 := hide e1
  have E2 := hide e2
  have E3 := hide e3
  have HALL := hide hall
  clear e1 e2 e3 hall
  have hbg1 := big_of hl1
  have hbg := big_of1 hsm
  go_wp2_with fail
  go_at_call 12
  refine (PutLayer_w _ _ _ _ r s t _ (by omega) hbg1 hR E1.out E2.out E3.out).mono ?_
  rintro _ w2 ⟨A2, c2, rfl, hT, hb⟩
  replace hR := HpR.below hR hb
  replace hbA := gr hbA hb
  have hsA := hbA.size
  clear hb
  go_wp2_with fail
  go_at_call 13
  refine (spec_PutLayer_w _ _ _ _ r s t _ (by omega) hbg1 hR E1.out E2.out E3.out).mono ?_
  rintro _ w3 ⟨A3, c3, rfl, hU, hb⟩
  replace hT := HpR.below hT hb
  replace hR := HpR.below hR hb
  replace hbA := gr hbA hb
  have hsA := hbA.size
  clear hb
  clear E1 E2 E3
  go_wp2_with fail
  go_at_call 14
  refine (rHeaps_yes _ _ _ _ _ _ _ (by omega) hbg hT hU).mono ?_
  rintro _ w4 ⟨rfl, hb⟩
  replace hT := HpR.below hT hb
  replace hR := HpR.below hR hb
  replace hbA := gr hbA hb
  have hsA := hbA.size
  clear hb
  clear hU
  go_upto_if 78 with fail
  go_cut [0] (fun s wx => s = .slice A n c ∧ Below w4.heap.size w4 wx)
  case first =>
    as_aux_lemma =>
      cases ok
      · go_wp2
        go_meet
        exact ⟨rfl, Below.refl _ _⟩
      · obtain ⟨q1, q2, q3, q4, q5, q6, q7, ⟨x0, x1⟩, t0, t1⟩ := HALL.out rfl
        have Q1 := hide q1
        have Q2 := hide q2
        have Q3 := hide q3
        have Q4 := hide q4
        have Q5 := hide q5
        have Q6 := hide q6
        have Q7 := hide q7
        clear q1 q2 q3 q4 q5 q6 q7 HALL
        go_wp2_with fail
        go_at_call 15
        refine (TonsOf_any _ _ _ _ s _ (by omega) hbg1 hR).mono ?_
        rintro _ w5 ⟨rfl, hb5⟩
        rw [Q1.out]
        have hT5 := HpR.below hT hb5
        go_wp2_with fail
        go_at_call 15
        refine (TonsOf_any _ _ _ _ s _ (by omega) hbg hT5).mono ?_
        rintro _ w6 ⟨rfl, hb6⟩
        rw [Q2.out]
        have hT6 := HpR.below hT5 hb6
        clear hT5
        go_wp2_with fail
        go_at_call 16
        refine (TakeTons_w _ _ _ _ r t _ (by omega) hbg hT6 Q3.out Q4.out Q5.out).mono ?_
        rintro _ w7 ⟨A7, c7, rfl, hK, hb7⟩
        have hT7 := HpR.below hT6 hb7
        have hR7 := HpR.below (HpR.below (HpR.below hR hb5) hb6) hb7
        have hK7 : HpR w7 A7 n1 H1 := Hp.same hK Q6.out
        clear hT6 hK
        go_wp2_with fail
        go_at_call 14
        refine (rHeaps_yes _ _ _ _ _ _ _ (by omega) hbg1 hK7 hR7).mono ?_
        rintro _ w8 ⟨rfl, hb8⟩
        go_wp2_with fail
        go_at_call 17
        refine (AreHeaps_any _ _ _ _ _ (by omega) hbg (HpR.below hT7 hb8)).mono ?_
        rintro _ w9 ⟨rfl, hb9⟩
        rw [Q7.out]
        go_wp2
        go_meet
        exact ⟨rfl, gr (gr (gr (gr hb5 hb6) hb7) hb8) hb9⟩
  case rest =>
    obtain ⟨rfl, hb⟩ := hcut
    replace hR := HpR.below hR hb
    replace hbA := gr hbA hb
    have hsA := hbA.size
    clear hb
    clear hR hT HALL hsm hbg hbg1
    as_aux_lemma =>
      have hsB := hbA.size
      go_wp2_with fail
      go_at_call 18
      refine (DrawHeapFor_any _ _ _ _ _ (h.below hbA)).mono ?_
      rintro _ v1 ⟨A4, n4, c4, H4, s4, t4, rfl, hn4, hl4, hH, hb⟩
      have hR := Hp.rd hH (Nat.le_refl _)
      replace hbA := hbA.trans (hb.mono (by omega))
      have hsA := hbA.size
      clear hH hb
      obtain ⟨v, f, N4, G4, ok4, e0, e1, e2, e3, hall⟩ := for_law7 H4 n4 s4 t4
      have E0 := hide e0
      have E1 := hide e1
      have E2 := hide e2
      have E3 := hide e3
      have HALL := hide hall
      clear e0 e1 e2 e3 hall
      have hbg4 := big_of hl4
      go_wp2_with fail
      go_at_call 19
      refine (HeapFor_any _ _ _ _ s4 t4 _ (by omega) hbg4 hR).mono ?_
      rintro _ v2 ⟨rfl, hb⟩
      rw [E0.out]
      replace hR := HpR.below hR hb
      replace hbA := gr hbA hb
      have hsA := hbA.size
      clear hb
      go_wp2_with fail
      go_at_call 20
      refine (spec_HeapFor_any _ _ _ _ s4 t4 _ (by omega) hbg4 hR).mono ?_
      rintro _ v3 ⟨rfl, hb⟩
      rw [E0.out]
      replace hR := HpR.below hR hb
      replace hbA := gr hbA hb
      have hsA := hbA.size
      clear hb
      go_wp2_with fail
      go_at_call 12
      refine (PutLayer_w _ _ _ _ v s4 t4 _ (by omega) hbg4 hR E1.out E2.out E3.out).mono ?_
      rintro _ v4 ⟨A5, c5, rfl, hV, hb⟩
      replace hR := HpR.below hR hb
      replace hbA := gr hbA hb
      have hsA := hbA.size
      clear hb
      clear hV E0 E1 E2 E3 hR
      go_upto_region 20 with fail
      go_cut [0, 166] (fun s b wx => s = .slice A n c ∧ b = .bool false ∧ v4 = wx)
      case first =>
        as_aux_lemma =>
          cases f
          · go_wp2
            go_meet
            exact ⟨rfl, rfl, rfl⟩
          · obtain rfl := HALL.out rfl
            go_wp2
            go_meet
            exact ⟨rfl, rfl, rfl⟩
      case rest =>
        obtain ⟨rfl, rfl, rfl⟩ := hcut
        clear HALL hbg4 hl4
        as_aux_lemma =>
          have hsC := hbA.size
          go_wp2_with fail
          go_at_call 21
          refine (DrawTakeTons_any _ _ _ _ _ (h.below hbA)).mono ?_
          rintro _ u1 ⟨A6, n6, c6, H6, r6, t6, rfl, hn6, hl6, hH, hb⟩
          have hR := Hp.rd hH (Nat.le_refl _)
          replace hbA := hbA.trans (hb.mono (by omega))
          have hsA := hbA.size
          clear hH hb
          obtain ⟨N6, G6, ok6, e1, e2, e3, ⟨hN6, hsm⟩, hall⟩ := take_law7 H6 n6 r6 t6 hl6
          have E1 := hide e1
          have E2 := hide e2
          have E3 := hide e3
          have HALL := hide hall
          clear e1 e2 e3 hall
          have hbg6 := big_of hl6
          have hbg := big_of hsm
          go_wp2_with fail
          go_at_call 16
          refine (TakeTons_w _ _ _ _ r6 t6 _ (by omega) hbg6 hR E1.out E2.out E3.out).mono ?_
          rintro _ u2 ⟨A7, c7, rfl, hT, hb⟩
          replace hR := HpR.below hR hb
          replace hbA := gr hbA hb
          have hsA := hbA.size
          clear hb
          go_wp2_with fail
          go_at_call 22
          refine (spec_TakeTons_w _ _ _ _ r6 t6 _ (by omega) hbg6 hR E1.out E2.out E3.out).mono ?_
          rintro _ u3 ⟨A8, c8, rfl, hU, hb⟩
          replace hT := HpR.below hT hb
          replace hR := HpR.below hR hb
          replace hbA := gr hbA hb
          have hsA := hbA.size
          clear hb
          clear E1 E2 E3
          go_upto_region 25 with fail
          go_cut [0, 203] (fun s b wx => s = .slice A n c ∧ b = .bool false ∧ Below u3.heap.size u3 wx)
          case first =>
            as_aux_lemma =>
              cases ok6
              · go_wp2_with fail
                go_at_call 14
                refine (rHeaps_yes _ _ _ _ _ _ _ (by omega) hbg hT hU).mono ?_
                rintro _ u4 ⟨rfl, hb4⟩
                go_wp2
                go_meet
                exact ⟨rfl, rfl, hb4⟩
              · have HAK := hide (HALL.out rfl)
                clear HALL
                go_wp2_with fail
                go_at_call 14
                refine (rHeaps_yes _ _ _ _ _ _ _ (by omega) hbg hT hU).mono ?_
                rintro _ u4 ⟨rfl, hb4⟩
                go_wp2_with fail
                go_at_call 17
                refine (AreHeaps_any _ _ _ _ _ (by omega) hbg (HpR.below hT hb4)).mono ?_
                rintro _ u5 ⟨rfl, hb5⟩
                rw [HAK.out]
                go_wp2
                go_meet
                exact ⟨rfl, rfl, gr hb4 hb5⟩
          case rest =>
            obtain ⟨rfl, rfl, hb⟩ := hcut
            replace hR := HpR.below hR hb
            replace hbA := gr hbA hb
            have hsA := hbA.size
            clear hb
            clear hR hT hU HALL hsm hbg hbg6
            as_aux_lemma =>
              have hsD := hbA.size
              go_wp2_with fail
              go_at_call 23
              refine (DrawTonsOf_any _ _ _ _ _ (h.below hbA)).mono ?_
              rintro _ y1 ⟨A9, n9, c9, H9, r9, rfl, hn9, hl9, hH, hb⟩
              have hR := Hp.rd hH (Nat.le_refl _)
              replace hbA := hbA.trans (hb.mono (by omega))
              have hsA := hbA.size
              clear hH hb
              obtain ⟨x9, f9, hE⟩ : ∃ x f, tonsOfR H9 n9 r9 = (x, f) := ⟨_, _, rfl⟩
              have HE := hide hE
              clear hE
              have hbg9 := big_of hl9
              go_wp2_with fail
              go_at_call 15
              refine (TonsOf_any _ _ _ _ r9 _ (by omega) hbg9 hR).mono ?_
              rintro _ y2 ⟨rfl, hb⟩
              rw [HE.out]
              replace hR := HpR.below hR hb
              replace hbA := gr hbA hb
              have hsA := hbA.size
              clear hb
              go_wp2_with fail
              go_at_call 24
              refine (spec_TonsOf_any _ _ _ _ r9 _ (by omega) hbg9 hR).mono ?_
              rintro _ y3 ⟨rfl, hb⟩
              rw [HE.out]
              replace hR := HpR.below hR hb
              replace hbA := gr hbA hb
              have hsA := hbA.size
              clear hb
              clear hR HE hbg9 hl9
              go_wp2_with fail
              go_at_call 25
              refine (DrawHeapText_any _ _ _ _ _ (h.below hbA)).mono ?_
              rintro _ y4 ⟨id, g, A5, n5, c5, L5, cv, rfl, hn5, hO, hb⟩
              have hL := hO.mono (Nat.zero_le _) (Nat.le_refl _)
              replace hbA := gr hbA hb
              clear hO hb
              go_upto_region 31 with fail
              have hX := Box4.new y4 28 (.int .i64 id) (.int .i64 g) (.slice A5 n5 c5) (.bool cv)
              have hb : Below y4.heap.size y4 (y4.alloc (.cells #[.int .i64 id, .int .i64 g, .slice A5 n5 c5, .bool cv] 28)) := (Below.refl _ _).alloc (Nat.le_refl _) _
              generalize y4.alloc (.cells #[.int .i64 id, .int .i64 g, .slice A5 n5 c5, .bool cv] 28) = y5 at hX hb ⊢
              generalize y4.heap.size = gB at hX ⊢
              replace hL := Rd.below hL hb
              replace hbA := gr hbA hb
              clear hb
              obtain ⟨S, f5, hE, hE2⟩ := text_law7 id g n5 L5 cv
              have HE := hide hE
              have HE2 := hide hE2
              clear hE hE2
              have hX5 := hX
              obtain ⟨-, x0, x1, x2, x3, -, -, -, -⟩ := hX5
              go_wp2_with fail
              go_at_call 8
              refine (HeapText_any _ _ _ _ _ w.heap.size _ _ _ (by omega) hbA.size (HTB.out.on hbA) hL).mono ?_
              rintro _ y6 ⟨rfl, hb⟩
              rw [HE.out]
              clear x0 x1 x2 x3
              replace hX := hX.below hb
              replace hL := Rd.below hL hb
              replace hbA := gr hbA hb
              clear hb
              have hX5 := hX
              obtain ⟨-, x0, x1, x2, x3, -, -, -, -⟩ := hX5
              go_wp2_with fail
              go_at_call 6
              refine (spec_HeapText_any _ _ _ _ _ _ _ _ (by omega) hL).mono ?_
              rintro _ y7 ⟨rfl, hb⟩
              rw [HE.out]
              clear x0 x1 x2 x3
              replace hX := hX.below hb
              replace hL := Rd.below hL hb
              replace hbA := gr hbA hb
              clear hb HE
              have hX5 := hX
              obtain ⟨-, x0, x1, x2, x3, -, -, -, -⟩ := hX5
              go_wp2_with fail
              go_at_call 26
              refine (IsHeap_any _ _ _ _ _ _ _ _ (by omega) hL).mono ?_
              rintro _ y8 ⟨rfl, hb⟩
              rw [HE2.out]
              replace hbA := gr hbA hb
              clear x0 x1 x2 x3 hX hL hb HE2
              go_wp2
              go_ret
              exact ⟨rfl, hbA⟩
end Go.Proofs.YtbmlglkdlialgaaDoor
