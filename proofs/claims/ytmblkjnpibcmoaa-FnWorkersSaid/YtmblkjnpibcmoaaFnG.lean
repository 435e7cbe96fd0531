/-
  The walk of the law FnGangs. Conditions: codes of bytes.
-/
import Derived.Test.YtmblkjnpibcmoaaFnGv
namespace Go.Proofs.Ytmblkjnpibcmoaa
open Go.RowKit

theorem rBig_any (A : Option Addr) (n c : Nat) (w : World) :
    Calls Try.prog 11 #[.slice A n c] w fun e w' => e = .returned (.bool (decide (65536 < (n : Int)))) ∧ w = w' := by
  go_enter Try.func11, Try.ntmps11
  go_wp2
  go_ret
  exact ⟨rfl, rfl⟩
set_option maxRecDepth 20000 in
set_option maxHeartbeats 8000000 in
theorem law_Gangs (A : Option Addr) (n c : Nat) (B : Nat → Int) (w : World) (h : CodeR w A n B) :
    Calls Try.prog 4 #[.slice A n c] w fun e w' => e = .returned (.bool true) ∧ Below w.heap.size w w' := by
  cases hbig : decide (65536 < (n : Int))
  rotate_left
  · go_enter Try.func4, Try.ntmps4
    go_wp2_with fail
    go_at_call 11
    refine (rBig_any _ _ _ _).mono ?_
    rintro _ _ ⟨rfl, rfl⟩
    rw [hbig]
    go_wp2
    go_ret
    exact ⟨rfl, Below.refl _ _⟩
  have hbA := Below.refl w.heap.size w
  have hsA := hbA.size
  go_enter Try.func4, Try.ntmps4
  go_wp2_with fail
  go_at_call 11
  refine (rBig_any _ _ _ _).mono ?_
  rintro _ _ ⟨rfl, rfl⟩
  rw [hbig]
  clear hbig
  go_wp2_with fail
  go_at_call 12
  refine (DrawRakedWeek_any _ _ _ _ _ h).mono ?_
  rintro _ w1 ⟨A1, n1, c1, F1, C1, g, rfl, hn1, hO, hb⟩
  have hR := hO.sl.rd (Nat.le_refl _)
  replace hbA := hbA.trans (hb.mono (by omega))
  clear hO hb
  obtain ⟨N, M, ok, T, I, h1, h2, h3, h4, h5, hN7, hM7, hall⟩ := week_law F1 C1 n1 g
  have H1 := hide h1
  have H2 := hide h2
  have H3 := hide h3
  have H4 := hide h4
  have H5 := hide h5
  have HA := hide hall
  clear h1 h2 h3 h4 h5 hall
  go_wp2_with fail
  go_at_call 13
  refine (RakedWeek_w _ _ _ _ _ g _ (by omega) hR H1.out H3.out H4.out).mono ?_
  rintro _ w2 ⟨A2, c2, rfl, hS, hb⟩
  replace hR := Rd.below hR hb
  replace hbA := gr hbA hb
  clear hb
  go_wp2_with fail
  go_at_call 14
  refine (spec_RakedWeek_w _ _ _ _ _ g _ (by omega) hR H1.out H3.out H4.out).mono ?_
  rintro _ w3 ⟨A3, c3, rfl, hU, hb⟩
  replace hS := Rd.below hS hb
  replace hR := Rd.below hR hb
  replace hbA := gr hbA hb
  clear hb
  go_upto_region 6 with fail
  go_cut [80] (fun s wx => s = .bool false ∧ Below w3.heap.size w3 wx)
  case first =>
    as_aux_lemma =>
      clear hR hbA
      cases ok
      · go_wp2_with fail
        go_at_call 15
        refine (rInts_yes _ _ _ _ _ _ _ (by omega) hS hU).mono ?_
        rintro _ w4 ⟨rfl, hb⟩
        go_wp2
        go_meet
        exact ⟨rfl, hb⟩
      · obtain ⟨rfl, -⟩ := HA.out rfl
        clear HA
        go_wp2_with fail
        go_at_call 15
        refine (rInts_yes _ _ _ _ _ _ _ (by omega) hS hU).mono ?_
        rintro _ w4 ⟨rfl, hb⟩
        go_wp2
        go_meet
        exact ⟨rfl, hb⟩
  case rest =>
    obtain ⟨rfl, hb⟩ := hcut
    replace hS := Rd.below hS hb
    replace hR := Rd.below hR hb
    replace hbA := gr hbA hb
    clear hb
    clear hU
    go_wp2_with fail
    go_at_call 16
    refine (IdleDays_w _ _ _ _ _ g _ (by omega) hR H2.out H3.out H5.out).mono ?_
    rintro _ w5 ⟨A4, c4, rfl, hI, hb⟩
    replace hS := Rd.below hS hb
    replace hR := Rd.below hR hb
    replace hbA := gr hbA hb
    clear hb
    go_wp2_with fail
    go_at_call 17
    refine (spec_IdleDays_w _ _ _ _ _ g _ (by omega) hR H2.out H3.out H5.out).mono ?_
    rintro _ w6 ⟨A5, c5, rfl, hJ, hb⟩
    replace hS := Rd.below hS hb
    replace hI := Rd.below hI hb
    replace hR := Rd.below hR hb
    replace hbA := gr hbA hb
    clear hb
    clear H1 H2 H3 H4 H5
    go_wp2_with fail
    go_at_call 15
    refine (rInts_yes _ _ _ _ _ _ _ (by omega) hI hJ).mono ?_
    rintro _ w7 ⟨rfl, hb⟩
    replace hS := Rd.below hS hb
    replace hI := Rd.below hI hb
    replace hR := Rd.below hR hb
    replace hbA := gr hbA hb
    clear hb
    clear hJ
    go_upto_if 106 with fail
    go_cut [0] (fun s wx => s = .slice A n c ∧ w7 = wx)
    case first =>
      go_wp2
      go_meet
      exact ⟨rfl, rfl⟩
    obtain ⟨rfl, rfl⟩ := hcut
    go_step
    go_step
    go_cut [0] (fun s wx => s = .slice A n c ∧ Below w.heap.size w wx)
    case first =>
      as_aux_lemma =>
        cases ok
        · clear HA hR hS hI
          go_wp2
          go_loopw [13, 14, 15] (fun i _ _ wr => i = .int .i64 0 ∧ Below w.heap.size w wr) (fun _ _ _ _ => 0)
          case atStart => exact ⟨rfl, hbA⟩
          case round =>
            obtain ⟨rfl, hb⟩ := hrel
            go_wp2
            go_meet
            exact ⟨rfl, hb⟩
        · obtain ⟨rfl, hd⟩ := HA.out rfl
          have HD := hide hd
          clear HA hd
          go_wp2
          go_loopw [13, 14, 15] (fun i _ _ wr => ∃ k : Nat, k ≤ 7 ∧ i = .int .i64 k ∧ Below w7.heap.size w7 wr) (fun i _ _ _ => 7 - (intOf i).toNat)
          case atStart => exact ⟨0, by omega, rfl, Below.refl _ _⟩
          case round =>
            obtain ⟨k, hk, rfl, hb⟩ := hrel
            by_cases hlt : k < 7
            · obtain ⟨hr, hh⟩ := HD.out k hlt
              have HR1 := hide hr
              have HH := hide hh
              clear hr hh HD
              have hd7 : decide ((k : Int) < 7) = true := decide_eq_true (by omega)
              go_wp2_with fail
              go_at_call 18
              refine (RakedOn_w _ _ _ _ _ g (k : Int) _ (by omega) (Rd.below hR hb) HR1.out).mono ?_
              rintro _ w8 ⟨rfl, hb8⟩
              replace hb := gr hb hb8
              clear hb8
              obtain ⟨bs, off, rfl, -, hbs, hcl⟩ := Rd.below hS hb (by omega)
              have a0 := hcl k 0 hlt (by omega)
              simp only [Nat.add_zero, Nat.mul_one, ints] at a0
              clear hcl HR1 hS hR
              generalize T k 0 = x at *
              go_wp2_with fail
              go_at_call 19
              refine (rHas_any _ _ _ _ (k : Int) _ (by omega) (Rd.below hI hb)).mono ?_
              rintro _ w9 ⟨rfl, hb9⟩
              rw [HH.out]
              clear HH
              go_wp2
              go_roundw
              case rel => exact ⟨k + 1, by omega, by go_num, gr hb hb9⟩
              case measure => simp [intOf]; omega
            · obtain rfl : k = 7 := by omega
              clear HD hR hS hI
              go_wp2
              go_meet
              exact ⟨rfl, gr hbA hb⟩
    case rest =>
      as_aux_lemma =>
        clear hR hS hI hbA HA
        obtain ⟨rfl, hbA⟩ := hcut
        have hsB := hbA.size
        go_wp2_with fail
        go_at_call 20
        refine (DrawChangeFree_any _ _ _ _ _ (h.below hbA)).mono ?_
        rintro _ w1 ⟨A1, n1, c1, F1, C1, id, rfl, hn1, hO, hb⟩
        have hR := hO.sl.rd (Nat.le_refl _)
        replace hbA := hbA.trans (hb.mono (by omega))
        clear hO hb
        obtain ⟨fr, mo, T, S, hE, s0, hF, hall⟩ := change_law F1 C1 n1 id
        have HE := hide hE
        have HF := hide hF
        have HA := hide hall
        have HS0 := hide s0
        clear hE hF hall s0
        go_wp2_with fail
        go_at_call 21
        refine (ChangeFree_w _ _ _ _ _ id _ (by omega) hR HE.out).mono ?_
        rintro _ w2 ⟨rfl, hb⟩
        replace hR := Rd.below hR hb
        replace hbA := gr hbA hb
        clear hb
        go_wp2_with fail
        go_at_call 22
        refine (spec_ChangeFree_w _ _ _ _ _ id _ (by omega) hR HE.out).mono ?_
        rintro _ w3 ⟨rfl, hb⟩
        replace hR := Rd.below hR hb
        replace hbA := gr hbA hb
        clear hb
        clear HE
        go_upto_if 170 with fail
        go_cut [0] (fun s wx => s = .slice A n c ∧ w3 = wx)
        case first =>
          go_wp2
          go_meet
          exact ⟨rfl, rfl⟩
        obtain ⟨rfl, rfl⟩ := hcut
        go_step
        go_step
        go_cut [24] (fun s wx => s = .int .i64 0 ∧ w3 = wx)
        case first =>
          go_wp2
          go_meet
          exact ⟨rfl, rfl⟩
        obtain ⟨rfl, rfl⟩ := hcut
        go_step
        go_step
        go_cut [24] (fun s wx => (∃ z : Int, s = .int .i64 z ∧ z ≤ mo) ∧ Below w.heap.size w wx)
        case first =>
          as_aux_lemma =>
            cases T
            · obtain rfl := HF.out rfl
              clear HA HF hR
              go_wp2
              go_loopw [24, 25, 26, 27] (fun s i _ _ wr => s = .int .i64 0 ∧ i = .int .i64 1 ∧ Below w.heap.size w wr) (fun _ _ _ _ _ => 0)
              case atStart => exact ⟨rfl, rfl, hbA⟩
              case round =>
                obtain ⟨rfl, rfl, hb⟩ := hrel
                go_wp2
                go_meet
                exact ⟨⟨0, rfl, Int.le_refl _⟩, hb⟩
            · obtain ⟨hn12, h5, hst⟩ := HA.out rfl
              have HST := hide hst
              clear HA HF hst
              go_wp2
              go_loopw [24, 25, 26, 27] (fun s i _ _ wr => ∃ q : Nat, q ≤ 5 ∧ i = .int .i64 ((q + 1 : Nat) : Int) ∧ s = .int .i64 (S q) ∧ Below w3.heap.size w3 wr) (fun _ i _ _ _ => 6 - (intOf i).toNat)
              case atStart => exact ⟨0, by omega, rfl, by rw [HS0.out], Below.refl _ _⟩
              case round =>
                obtain ⟨q, hq, rfl, rfl, hb⟩ := hrel
                by_cases hlt : q < 5
                · obtain ⟨e1, e2, ⟨s1, s2⟩, ⟨x1, x2⟩, e3⟩ := HST.out q hlt
                  have HX1 := hide e1
                  have HX2 := hide e2
                  have HX3 := hide e3
                  have hd5 : decide (((q + 1 : Nat) : Int) ≤ 5) = true := decide_eq_true (by omega)
                  have hg5 : q + 1 ≤ 5 := by omega
                  have HW := hide (show worksB F1 n1 = true from (by have := e2; simp only [weekOk, Bool.and_eq_true] at this; exact this.1))
                  clear e1 e2 e3 HST
                  generalize q + 1 = gq at *
                  have HB := hide (show ∀ r, r ≤ 7 → 0 ≤ sumI (fun j => weekT F1 C1 n1 (gq : Int) j 0) r ∧ sumI (fun j => weekT F1 C1 n1 (gq : Int) j 0) r ≤ 1000000000000 from fun r hr => by have := week_bd C1 HW.out (gq : Int) r hr; exact ⟨this.1, by have := this.2; show sumI (dayG F1 C1 n1 (gq : Int)) r ≤ _; omega⟩)
                  have HZ := hide (show sumI (fun j => weekT F1 C1 n1 (gq : Int) j 0) 7 = weekV F1 C1 n1 (gq : Int) from rfl)
                  go_wp2_with fail
                  go_at_call 13
                  refine (RakedWeek_w _ _ _ _ _ (gq : Int) _ (by omega) (Rd.below hR hb) HX1.out HX2.out rfl).mono ?_
                  rintro _ w4 ⟨A6, c6, rfl, hV, hb4⟩
                  replace hb := gr hb hb4
                  clear hb4
                  go_wp2_with fail
                  go_at_call 23
                  refine (rSum_any _ _ _ _ _ (by omega) hV HB).mono ?_
                  rintro _ w5 ⟨rfl, hb5⟩
                  rw [HZ.out]
                  clear HZ HB hV HX1 HX2 hR
                  generalize weekV F1 C1 n1 (gq : Int) = x at *
                  generalize S q = S0 at *
                  go_wp2
                  go_roundw
                  case rel => exact ⟨gq, hg5, by go_num, by rw [HX3.out], gr hb hb5⟩
                  case measure => simp [intOf]; omega
                · obtain rfl : q = 5 := by omega
                  clear HST hR
                  generalize S 5 = S5 at *
                  go_wp2
                  go_meet
                  exact ⟨⟨_, rfl, h5⟩, gr hbA hb⟩
        case rest =>
          as_aux_lemma =>
            clear hR hbA HF HA
            obtain ⟨⟨z, rfl, hz⟩, hbA⟩ := hcut
            have hz' : decide (mo < z) = false := decide_eq_false (by omega)
            clear hz
            replace hsB := hbA.size
            go_upto_region 33 with fail
            clear hz'
            go_wp2_with fail
            go_at_call 24
            refine (DrawDaysToRake_any _ _ _ _ _ (h.below hbA)).mono ?_
            rintro _ w1 ⟨A1, n1, c1, F1, C1, g, d, l, rfl, hn1, hO, hb⟩
            have hR := hO.sl.rd (Nat.le_refl _)
            replace hbA := hbA.trans (hb.mono (by omega))
            clear hO hb
            obtain ⟨v, T, hE, hall⟩ := days_law F1 C1 n1 g d l
            have HE := hide hE
            have HA := hide hall
            clear hE hall
            go_wp2_with fail
            go_at_call 25
            refine (DaysToRake_w _ _ _ _ _ g d l _ (by omega) hR HE.out).mono ?_
            rintro _ w2 ⟨rfl, hb⟩
            replace hR := Rd.below hR hb
            replace hbA := gr hbA hb
            clear hb
            go_wp2_with fail
            go_at_call 26
            refine (spec_DaysToRake_w _ _ _ _ _ g d l _ (by omega) hR HE.out).mono ?_
            rintro _ w3 ⟨rfl, hb⟩
            replace hR := Rd.below hR hb
            replace hbA := gr hbA hb
            clear hb
            clear HE
            go_upto_if 224 with fail
            go_cut [0] (fun s wx => s = .slice A n c ∧ Below w.heap.size w wx)
            case first =>
              as_aux_lemma =>
                cases T
                · go_wp2
                  go_meet
                  exact ⟨rfl, hbA⟩
                · obtain ⟨r, hr, r1, r2⟩ := HA.out rfl
                  have HR1 := hide hr
                  have t1 : decide (r < 1) = false := decide_eq_false (by omega)
                  have t2 : decide (v < d) = false := decide_eq_false (by omega)
                  clear HA hr
                  go_wp2_with fail
                  go_at_call 18
                  refine (RakedOn_w _ _ _ _ _ g v _ (by omega) hR HR1.out).mono ?_
                  rintro _ w4 ⟨rfl, hb⟩
                  replace hR := Rd.below hR hb
                  replace hbA := gr hbA hb
                  clear hb
                  go_wp2
                  go_meet
                  exact ⟨rfl, hbA⟩
            case rest =>
              as_aux_lemma =>
                clear hR hbA HA
                obtain ⟨rfl, hbA⟩ := hcut
                replace hsB := hbA.size
                go_wp2_with fail
                go_at_call 27
                refine (DrawRakedOn_any _ _ _ _ _ (h.below hbA)).mono ?_
                rintro _ w1 ⟨A1, n1, c1, F1, C1, g, d, rfl, hn1, hO, hb⟩
                have hR := hO.sl.rd (Nat.le_refl _)
                replace hbA := hbA.trans (hb.mono (by omega))
                clear hO hb
                obtain ⟨r, T, hE⟩ : ∃ r T, rakedOnR F1 C1 n1 g d = (r, T) := ⟨_, _, rfl⟩
                have HE := hide hE
                clear hE
                go_wp2_with fail
                go_at_call 18
                refine (RakedOn_w _ _ _ _ _ g d _ (by omega) hR HE.out).mono ?_
                rintro _ w2 ⟨rfl, hb⟩
                replace hR := Rd.below hR hb
                replace hbA := gr hbA hb
                clear hb
                go_wp2_with fail
                go_at_call 28
                refine (spec_RakedOn_w _ _ _ _ _ g d _ (by omega) hR HE.out).mono ?_
                rintro _ w3 ⟨rfl, hb⟩
                replace hR := Rd.below hR hb
                replace hbA := gr hbA hb
                clear hb
                go_wp2
                go_ret
                exact ⟨rfl, hbA⟩
end Go.Proofs.Ytmblkjnpibcmoaa
