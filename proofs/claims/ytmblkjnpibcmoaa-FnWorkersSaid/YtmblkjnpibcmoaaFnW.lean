/-
  The walk of the law FnWorkers. Conditions: codes of bytes.
-/
import Derived.Test.YtmblkjnpibcmoaaFnWv
import Derived.Test.YtmblkjnpibcmoaaFnG
namespace Go.Proofs.Ytmblkjnpibcmoaa
open Go.RowKit

theorem sizes_law' (F : Nat → Nat → Int) (n : Nat) : ∃ (N : Nat) (ok : Bool) (T : Nat → Nat → Int), sizeN F n = N ∧ worksB F n = ok ∧ sizeT F n = T ∧ N ≤ 6 ∧
    (ok = true → N = 6 ∧ sumI (fun j => T j 0) 6 = n ∧ ∀ k, k ≤ 6 → 0 ≤ sumI (fun j => T j 0) k ∧ sumI (fun j => T j 0) k ≤ 1000000000000) :=
  ⟨_, _, _, rfl, rfl, rfl, by unfold sizeN; split <;> omega, fun h => ⟨by simp [sizeN, h], sizes_law F n h⟩⟩
set_option maxRecDepth 20000 in
set_option maxHeartbeats 8000000 in
theorem law_Workers (A : Option Addr) (n c : Nat) (B : Nat → Int) (w : World) (h : CodeR w A n B) :
    Calls Try.prog 5 #[.slice A n c] w fun e w' => e = .returned (.bool true) ∧ Below w.heap.size w w' := by
  cases hbig : decide (65536 < (n : Int))
  rotate_left
  · go_enter Try.func5, Try.ntmps5
    go_wp2_with fail
    go_at_call 11
    refine (rBig_any _ _ _ _).mono ?_
    rintro _ _ ⟨rfl, rfl⟩
    rw [hbig]
    go_wp2
    go_ret
    exact ⟨rfl, Below.refl _ _⟩
  have hbA := Below.refl w.heap.size w
  have hsA := hbA.size
  go_enter Try.func5, Try.ntmps5
  go_wp2_with fail
  go_at_call 11
  refine (rBig_any _ _ _ _).mono ?_
  rintro _ _ ⟨rfl, rfl⟩
  rw [hbig]
  clear hbig
  go_wp2_with fail
  go_at_call 29
  refine (DrawSpareWorkers_any _ _ _ _ _ h).mono ?_
  rintro _ w1 ⟨A1, n1, c1, F1, C1, g, d, rfl, hn1, hO, hb⟩
  have hR := hO.sl.rd (Nat.le_refl _)
  replace hbA := hbA.trans (hb.mono (by omega))
  clear hO hb
  obtain ⟨N, ok, T, h1, h2, h3, hNn, hall⟩ := spare_law F1 C1 n1 g d
  have H1 := hide h1
  have H2 := hide h2
  have H3 := hide h3
  have HA := hide hall
  clear h1 h2 h3 hall
  go_wp2_with fail
  go_at_call 30
  refine (SpareWorkers_w _ _ _ _ _ g d _ (by omega) hR H1.out H2.out H3.out).mono ?_
  rintro _ w2 ⟨A2, c2, rfl, hS, hb⟩
  replace hR := Rd.below hR hb
  replace hbA := gr hbA hb
  clear hb
  go_wp2_with fail
  go_at_call 31
  refine (spec_SpareWorkers_w _ _ _ _ _ g d _ (by omega) hR H1.out H2.out H3.out).mono ?_
  rintro _ w3 ⟨A3, c3, rfl, hU, hb⟩
  replace hS := Rd.below hS hb
  replace hR := Rd.below hR hb
  replace hbA := gr hbA hb
  clear hb
  clear H1 H2 H3
  go_upto_region 6 with fail
  go_cut [65] (fun s wx => s = .bool false ∧ Below w3.heap.size w3 wx)
  case first =>
    as_aux_lemma =>
      clear hR hbA HA
      cases ok
      all_goals
        go_wp2_with fail
        go_at_call 15
        refine (rInts_yes _ _ _ _ _ _ _ (by omega) hS hU).mono ?_
        rintro _ w4 ⟨rfl, hb⟩
        go_wp2
        go_meet
        exact ⟨rfl, hb⟩
  case rest =>
    obtain ⟨rfl, hb⟩ := hcut
    replace hS := Rd.below hS hb
    replace hR := Rd.below hR hb
    replace hbA := gr hbA hb
    clear hb
    clear hU
    go_upto_if 65 with fail
    go_cut [0] (fun s wx => s = .slice A n c ∧ Below w.heap.size w wx ∧ Rd wx A1 n1 5 (wkC F1 C1) ∧ Rd wx A2 N 1 (ints T))
    case first =>
      go_wp2
      go_meet
      exact ⟨rfl, hbA, hR, hS⟩
    obtain ⟨rfl, hbA', hR', hS'⟩ := hcut
    clear hbA hR hS
    go_step
    go_step
    go_cut [0] (fun s wx => s = .slice A n c ∧ Below w.heap.size w wx)
    case first =>
      as_aux_lemma =>
        go_wp2
        go_loopw [10, 11, 12, 13, 14] (fun i _ _ _ _ wr => ∃ k : Nat, k ≤ N ∧ i = .int .i64 k ∧ Rd wr A1 n1 5 (wkC F1 C1) ∧ Rd wr A2 N 1 (ints T) ∧ Below w.heap.size w wr) (fun i _ _ _ _ _ => N - (intOf i).toNat)
        case atStart => exact ⟨0, by omega, rfl, hR', hS', hbA'⟩
        case round =>
          clear hR' hS' hbA'
          obtain ⟨k, hk, rfl, hR, hS, hb⟩ := hrel
          by_cases hlt : k < N
          · obtain ⟨G, r, p1, p2, p3, p4, p5⟩ := HA.out k hlt
            have P1 := hide p1
            have P2 := hide p2
            have P3 := hide p3
            have P4 := hide p4
            have t1 : decide (r < 1) = false := decide_eq_false (by omega)
            clear p1 p2 p3 p4 HA
            obtain ⟨bs, off, rfl, -, hbs, hcl⟩ := Rd.below hS (Below.refl _ _) (by omega)
            have a0 := hcl k 0 hlt (by omega)
            simp only [Nat.add_zero, Nat.mul_one, ints] at a0
            clear hcl
            have HX := hide (show T k 0 = T k 0 from rfl)
            generalize hx : T k 0 = x at a0 P1 P2 P3
            clear hx HX
            go_wp2_with fail
            go_at_call 32
            refine (PutInGang_w _ _ _ _ _ x 0 _ (by omega) hR P1.out P2.out P3.out).mono ?_
            rintro _ w5 ⟨A5, c5, rfl, hV, hb5⟩
            go_wp2_with fail
            go_at_call 18
            refine (RakedOn_w _ _ _ _ _ g d _ (by omega) hV P4.out).mono ?_
            rintro _ w6 ⟨rfl, hb6⟩
            go_wp2
            go_roundw
            case rel => exact ⟨k + 1, by omega, by go_num, Rd.below (Rd.below hR hb5) hb6, Rd.below (Rd.below hS hb5) hb6, gr (gr hb hb5) hb6⟩
            case measure => simp [intOf]; omega
          · obtain rfl : k = N := by omega
            clear HA hR hS
            go_wp2
            go_meet
            exact ⟨rfl, hb⟩
    case rest =>
      as_aux_lemma =>
        clear hR' hS' HA hbA'
        obtain ⟨rfl, hbA⟩ := hcut
        have hsB := hbA.size
        go_wp2_with fail
        go_at_call 33
        refine (DrawGangSizes_any _ _ _ _ _ (h.below hbA)).mono ?_
        rintro _ w1 ⟨A1, n1, c1, F1, C1, rfl, hn1, hO, hb⟩
        have hR := hO.sl.rd (Nat.le_refl _)
        replace hbA := hbA.trans (hb.mono (by omega))
        clear hO hb
        obtain ⟨N, ok, T, h1, h2, h3, hNn, hall⟩ := sizes_law' F1 n1
        obtain ⟨v, T', hE, hT, hv⟩ := even_law F1 C1 n1
        rw [h2] at hT
        subst hT
        have H1 := hide h1
        have H2 := hide h2
        have H3 := hide h3
        have HA := hide hall
        have HE := hide hE
        clear h1 h2 h3 hall hE
        go_wp2_with fail
        go_at_call 34
        refine (GangSizes_w _ _ _ _ _ _ (by omega) hR H1.out H2.out H3.out).mono ?_
        rintro _ w2 ⟨A2, c2, rfl, hS, hb⟩
        replace hR := Rd.below hR hb
        replace hbA := gr hbA hb
        clear hb
        go_wp2_with fail
        go_at_call 35
        refine (spec_GangSizes_w _ _ _ _ _ _ (by omega) hR H1.out H2.out H3.out).mono ?_
        rintro _ w3 ⟨A3, c3, rfl, hU, hb⟩
        replace hS := Rd.below hS hb
        replace hR := Rd.below hR hb
        replace hbA := gr hbA hb
        clear hb
        clear H1 H2 H3
        go_upto_region 18 with fail
        go_cut [128] (fun s wx => s = .bool false ∧ Below w3.heap.size w3 wx)
        case first =>
          as_aux_lemma =>
            clear hR hbA HE
            cases T'
            · clear HA
              go_wp2_with fail
              go_at_call 15
              refine (rInts_yes _ _ _ _ _ _ _ (by omega) hS hU).mono ?_
              rintro _ w4 ⟨rfl, hb⟩
              go_wp2
              go_meet
              exact ⟨rfl, hb⟩
            · obtain ⟨rfl, hsum, hbd⟩ := HA.out rfl
              have HSN := hide hsum
              have HB := hide hbd
              clear HA hsum hbd
              go_wp2_with fail
              go_at_call 15
              refine (rInts_yes _ _ _ _ _ _ _ (by omega) hS hU).mono ?_
              rintro _ w4 ⟨rfl, hb⟩
              go_wp2_with fail
              go_at_call 23
              refine (rSum_any _ _ _ _ _ (by omega) (Rd.below hS hb) HB).mono ?_
              rintro _ w5 ⟨rfl, hb5⟩
              rw [HSN.out]
              go_wp2
              go_meet
              exact ⟨rfl, gr hb hb5⟩
        case rest =>
          obtain ⟨rfl, hb⟩ := hcut
          replace hR := Rd.below hR hb
          replace hbA := gr hbA hb
          clear hb
          clear hU hS HA
          go_wp2_with fail
          go_at_call 9
          refine (EvenGangs_w _ _ _ _ _ _ (by omega) hR HE.out).mono ?_
          rintro _ w5 ⟨rfl, hb⟩
          replace hR := Rd.below hR hb
          replace hbA := gr hbA hb
          clear hb
          go_wp2_with fail
          go_at_call 7
          refine (spec_EvenGangs_w _ _ _ _ _ _ (by omega) hR HE.out).mono ?_
          rintro _ w6 ⟨rfl, hb⟩
          replace hR := Rd.below hR hb
          replace hbA := gr hbA hb
          clear hb
          clear HE
          have t1 : decide (v < 0) = false := decide_eq_false (by omega)
          go_upto_if 155 with fail
          go_cut [0] (fun s wx => s = .slice A n c ∧ Below w.heap.size w wx)
          case first =>
            as_aux_lemma =>
              go_wp2
              go_meet
              exact ⟨rfl, hbA⟩
          case rest =>
            as_aux_lemma =>
              clear hR hbA t1
              obtain ⟨rfl, hbA⟩ := hcut
              replace hsB := hbA.size
              go_wp2_with fail
              go_at_call 36
              refine (DrawPutInGang_any _ _ _ _ _ (h.below hbA)).mono ?_
              rintro _ w1 ⟨A1, n1, c1, F1, C1, id, g, rfl, hn1, hO, hb⟩
              have hR := hO.sl.rd (Nat.le_refl _)
              replace hbA := hbA.trans (hb.mono (by omega))
              clear hO hb
              obtain ⟨N, ok, G, h1, h2, h3, hNn, hall⟩ := back_law F1 n1 id g
              have H1 := hide h1
              have H2 := hide h2
              have H3 := hide h3
              have HA := hide hall
              clear h1 h2 h3 hall
              go_wp2_with fail
              go_at_call 32
              refine (PutInGang_w _ _ _ _ _ id g _ (by omega) hR H1.out H2.out H3.out).mono ?_
              rintro _ w2 ⟨A2, c2, rfl, hS, hb⟩
              replace hR := Rd.below hR hb
              replace hbA := gr hbA hb
              clear hb
              go_wp2_with fail
              go_at_call 37
              refine (spec_PutInGang_w _ _ _ _ _ id g _ (by omega) hR H1.out H2.out H3.out).mono ?_
              rintro _ w3 ⟨A3, c3, rfl, hU, hb⟩
              replace hS := Rd.below hS hb
              replace hR := Rd.below hR hb
              replace hbA := gr hbA hb
              clear hb
              clear H1 H2 H3
              go_upto_region 27 with fail
              go_cut [184] (fun s wx => s = .bool false ∧ Below w3.heap.size w3 wx)
              case first =>
                as_aux_lemma =>
                  clear hR hbA HA
                  cases ok
                  all_goals
                    go_wp2_with fail
                    go_at_call 38
                    refine (rWorkers_yes _ _ _ _ _ _ _ _ (by omega) hS hU).mono ?_
                    rintro _ w4 ⟨rfl, hb⟩
                    go_wp2
                    go_meet
                    exact ⟨rfl, hb⟩
              case rest =>
                obtain ⟨rfl, hb⟩ := hcut
                replace hS := Rd.below hS hb
                replace hR := Rd.below hR hb
                replace hbA := gr hbA hb
                clear hb
                clear hU
                go_upto_if 184 with fail
                go_cut [0] (fun s wx => s = .slice A n c ∧ Below w.heap.size w wx ∧ Rd wx A1 n1 5 (wkC F1 C1) ∧ Rd wx A2 N 5 (wkC G C1))
                case first =>
                  go_wp2
                  go_meet
                  exact ⟨rfl, hbA, hR, hS⟩
                obtain ⟨rfl, hbA', hR', hS'⟩ := hcut
                clear hbA hR hS
                go_step
                go_step
                go_cut [0] (fun s wx => s = .slice A n c ∧ Below w.heap.size w wx ∧ Rd wx A1 n1 5 (wkC F1 C1))
                case first =>
                  as_aux_lemma =>
                    cases ok
                    · clear HA hS'
                      go_wp2
                      go_loopw [31, 32, 33] (fun i _ _ wr => i = .int .i64 0 ∧ Below w.heap.size w wr ∧ Rd wr A1 n1 5 (wkC F1 C1)) (fun _ _ _ _ => 0)
                      case atStart => exact ⟨rfl, hbA', hR'⟩
                      case round =>
                        obtain ⟨rfl, hb, hR⟩ := hrel
                        clear hR'
                        go_wp2
                        all_goals
                          go_meet
                          exact ⟨rfl, hb, hR⟩
                    · obtain ⟨rfl, -, hall⟩ := HA.out rfl
                      have HB := hide hall
                      clear HA hall
                      go_wp2
                      go_loopw [31, 32, 33] (fun i _ _ wr => ∃ k : Nat, k ≤ N ∧ i = .int .i64 k ∧ Below w.heap.size w wr ∧ Rd wr A1 N 5 (wkC F1 C1) ∧ Rd wr A2 N 5 (wkC G C1)) (fun i _ _ _ => N - (intOf i).toNat)
                      case atStart => exact ⟨0, by omega, rfl, hbA', hR', hS'⟩
                      case round =>
                        clear hR' hS' hbA'
                        obtain ⟨k, hk, rfl, hb, hR, hS⟩ := hrel
                        by_cases hlt : k < N
                        · obtain ⟨bs, off, rfl, hbs, hcl⟩ := wk_at hR (Below.refl _ _) (by omega)
                          obtain ⟨a0, a1, -, -, -⟩ := hcl k hlt
                          clear hcl
                          cases hid : (F1 k 0 == id)
                          · clear a1 HB
                            go_wp2
                            go_roundw
                            case rel => exact ⟨k + 1, by omega, by go_num, hb, hR, hS⟩
                            case measure => simp [intOf]; omega
                          · obtain ⟨p1, p2, p3⟩ := HB.out k hlt (by simpa using hid)
                            have P1 := hide p1
                            have P2 := hide p2
                            have P3 := hide p3
                            clear p1 p2 p3 HB
                            generalize F1 k 0 = x0 at a0 hid
                            generalize F1 k 1 = x1 at a1 P1 P2 P3
                            go_upto_region 33 with fail
                            clear a0 hid
                            go_wp2_with fail
                            go_at_call 32
                            refine (PutInGang_w _ _ _ _ _ id x1 _ (by omega) hS P1.out P2.out P3.out).mono ?_
                            rintro _ w5 ⟨A5, c5, rfl, hV, hb5⟩
                            replace hR := Rd.below hR hb5
                            go_wp2_with fail
                            go_at_call 38
                            refine (rWorkers_yes _ _ _ _ _ _ _ _ (by omega) hV hR).mono ?_
                            rintro _ w6 ⟨rfl, hb6⟩
                            go_wp2
                            go_roundw
                            case rel => exact ⟨k + 1, by omega, by go_num, gr (gr hb hb5) hb6, Rd.below hR hb6, Rd.below (Rd.below hS hb5) hb6⟩
                            case measure => simp [intOf]; omega
                        · obtain rfl : k = N := by omega
                          clear HB hS
                          go_wp2
                          go_meet
                          exact ⟨rfl, hb, hR⟩
                case rest =>
                  as_aux_lemma =>
                    clear hR' hS' HA hbA'
                    obtain ⟨rfl, hbA, hR⟩ := hcut
                    replace hsB := hbA.size
                    go_wp2_with fail
                    go_at_call 39
                    refine (DrawIsWorker_any _ _ _ _ _ (h.below hbA)).mono ?_
                    rintro _ w4 ⟨⟨q0, q1, q2, q3, q4⟩, rfl, hb⟩
                    simp only
                    replace hR := Rd.below hR hb
                    replace hbA := gr hbA hb
                    clear hb
                    go_upto_region 37 with fail
                    have hX := BoxW.new w4 54 (q0, q1, q2, q3, q4)
                    have hRx := Rd.alloc hR (.cells #[.int .i64 q0, .int .i64 q1, .int .i64 q2, .bool q3, .int .i64 q4] 54)
                    replace hbA := hbA.alloc hbA.size (.cells #[.int .i64 q0, .int .i64 q1, .int .i64 q2, .bool q3, .int .i64 q4] 54)
                    simp only at hX
                    generalize w4.alloc (.cells #[.int .i64 q0, .int .i64 q1, .int .i64 q2, .bool q3, .int .i64 q4] 54) = W5 at hX hRx hbA ⊢
                    obtain ⟨x0, x1, x2, x3, x4, x5, -⟩ := hX
                    simp only at x1 x2 x3 x4 x5
                    generalize w4.heap.size = gb at x0 x1 x2 x3 x4 x5 ⊢
                    clear hR
                    have a1 := fun x : After W5 => x.cell x1 x0
                    have a2 := fun x : After W5 => x.cell x2 x0
                    have a3 := fun x : After W5 => x.cell x3 x0
                    have a4 := fun x : After W5 => x.cell x4 x0
                    have a5 := fun x : After W5 => x.cell x5 x0
                    have hR := fun x : After W5 => hRx.after x
                    clear x1 x2 x3 x4 x5 hRx
                    cases hy : workerB q0 q1 q2 q4
                    all_goals cases hz : worksB F1 n1
                    all_goals
                      refine region_after (by kernel_rfl) (by kernel_rfl) ?_
                      repeat (go_big_quiet_step ((first | (go_at_call 40; exact Calls.after (IsWorker_any _ _ _ _ _ _)) | (go_at_call 41; exact Calls.after (spec_IsWorker_any _ _ _ _ _ _)) | (go_at_call 42; exact Calls.after (AreWorkers_any _ _ _ _ _ _ (by omega) (hR _))) | (go_at_call 43; exact Calls.after (spec_AreWorkers_any _ _ _ _ _ _ (by omega) (hR _))))))
                      refine wpQuiet_nil ?_
                      rintro _ ⟨x, rfl⟩
                      go_wp2
                      go_ret
                      exact ⟨rfl, gr hbA x.h⟩
end Go.Proofs.Ytmblkjnpibcmoaa
