/-
  The program's PutSun. Conditions: lengths up to 2^20.
-/
import Derived.Test.YtajmebclmippeaaPsD
import Derived.Test.YtajmebclmippeaaPsG
namespace Go.Proofs.Ytajmebclmippeaa
open Go.RowKit

theorem ins_put (F : Nat → Nat → Int) (n : Nat) (t x : Int) : rowL (insR (ints (cutS F n t)) (putAt F n t) (newR t x)) (n - putE F n t + 1) 2 = rowL (ints (putS F n t x)) (putL F n t) 2 := by
  have h1 := putE_le F n t
  have h2 := putAt_le F n t
  rw [show n - putE F n t + 1 = putL F n t by unfold putL; omega]
  refine rowL_congr fun r j _ hj => ?_
  simp only [insR, ints, newR, put_ins]
  by_cases a : r < putAt F n t
  · rw [if_pos a, if_pos a]
  · rw [if_neg a, if_neg a]
    by_cases b : r = putAt F n t
    · rw [if_pos b, if_pos b]
      split <;> rfl
    · rw [if_neg b, if_neg b]
set_option maxRecDepth 20000 in
set_option maxHeartbeats 4000000 in
theorem PutSun_any (A : Option Addr) (n c : Nat) (F : Nat → Nat → Int) (t x : Int) (w : World) (hn : n ≤ 1048576) (h : Rd w A n 2 (ints F)) :
    Calls Try.prog 42 #[.slice A n c, .agg #[.int .i64 t, .int .i64 x]] w (RowP w (fun A' c' => .tuple #[.slice A' (putSunN F n t x) c', .bool (putSunOk F n t x)]) (putSunN F n t x) 2 (ints (putS F n t x))) := by
  have hb0 : Below w.heap.size w (w.alloc (.cells #[.int .i64 t, .int .i64 x] 55)) := (Below.refl _ _).alloc (Nat.le_refl _) _
  have h0 := Rd.below h hb0
  cases h1 : sunsB F n
  · have HO := hide (show putSunOk F n t x = false by simp [putSunOk, h1])
    rw [show putSunN F n t x = 0 by simp [putSunN, HO.out], HO.out]
    go_enter Try.func42, Try.ntmps42
    go_wp2_with fail
    go_at_call 17
    refine (AreSuns_any _ _ _ _ _ hn h0).mono ?_
    rintro _ w1 ⟨rfl, hb1⟩
    rw [h1]
    go_wp2
    refine bodyPost_ret (v := .tuple #[.slice none 0 0, .bool false]) (by simp only [results, Try.results42]; go_simp) rfl ⟨_, _, rfl, Ow.nil _ _ _ _ _ _, gr hb0 hb1⟩
  · have HV := hide h1
    go_enter Try.func42, Try.ntmps42
    go_wp2_with fail
    go_at_call 17
    refine (AreSuns_any _ _ _ _ _ hn h0).mono ?_
    rintro _ w1 ⟨rfl, hb1⟩
    rw [h1]
    have hz : w.heap.size < w1.heap.size := by have := hb1.size; simp at this; omega
    have hc0 : w1.cell? ⟨w.heap.size, 0, none⟩ = some (.int .i64 t) := (hb1.cell (p := ⟨w.heap.size, 0, none⟩) (by simp)).trans (by rw [World.cell?_alloc_new]; rfl)
    have hc1 : w1.cell? ⟨w.heap.size, 1, none⟩ = some (.int .i64 x) := (hb1.cell (p := ⟨w.heap.size, 1, none⟩) (by simp)).trans (by rw [World.cell?_alloc_new]; rfl)
    have hbA := gr hb0 hb1
    have hA := Rd.below h0 hb1
    clear h h0 hb0 hb1 h1
    go_wp2_with fail
    go_at_call 84
    refine (cloneS_any _ _ _ _ _ hn hA).mono ?_
    rintro _ w2 ⟨v2, rfl, ho2, hb2⟩
    clear hA
    have hz2 := hb2.size
    have hc2 := (hb2.cell (p := ⟨w.heap.size, 0, none⟩) hz).trans hc0
    have hc12 := (hb2.cell (p := ⟨w.heap.size, 1, none⟩) hz).trans hc1
    go_wp2_with fail
    go_at_call 83
    refine (delS_any w1.heap.size n w.heap.size _ F t _ HV hz2 hz ho2 hc2).mono ?_
    rintro _ w3 ⟨v3, rfl, ho3, hb3⟩
    have hz3 := hb3.size
    have hc3 := (hb3.cell (p := ⟨w.heap.size, 0, none⟩) hz).trans hc2
    have hc13 := (hb3.cell (p := ⟨w.heap.size, 1, none⟩) hz).trans hc12
    have hbB := gr hbA (hb2.mono (Nat.le_refl _) |>.trans hb3)
    clear ho2 hb2 hb3 hc2 hc12 hc0 hc1 hbA
    obtain ⟨N, hN⟩ : ∃ N, n - putE F n t = N := ⟨_, rfl⟩
    obtain ⟨P0, hP⟩ : ∃ P0, putAt F n t = P0 := ⟨_, rfl⟩
    obtain ⟨a1, a2⟩ := cut_at (t := t) HV.out
    have hpe := putE_le F n t
    have hpa := putAt_le F n t
    have HIP := hide (ins_put F n t x)
    have HPL := hide (show putL F n t = N + 1 by unfold putL; omega)
    rw [hN, hP] at a2 HIP
    rw [hN] at ho3
    rw [hP] at a1
    have hPN : P0 ≤ N := by omega
    have hN20 : N ≤ 1048575 := by have := (sunsB_at HV.out).1; omega
    have HA1 := hide a1
    have HA2 := hide a2
    clear a1 a2 hpe hpa hP hN
    obtain ⟨G3, cc, rfl, hncc, hG3⟩ := own_form ho3
    have hO3 := own_ow ho3
    go_wp2
    go_loopw [7] (fun i wr => ∃ k : Nat, k ≤ P0 ∧ i = .int .i64 k ∧ Below w3.heap.size w3 wr) (fun i _ => P0 + 1 - (intOf i).toNat)
    case atStart => exact ⟨0, Nat.zero_le _, rfl, Below.refl _ _⟩
    case round =>
      obtain ⟨k, hk, rfl, hb⟩ := hrel
      have hzr := hb.size
      have q0 := fun y : After wr => y.cell ((hb.cell (p := ⟨w.heap.size, 0, none⟩) (by show w.heap.size < _; omega)).trans hc3) (by show w.heap.size < _; omega)
      by_cases hkP : k < P0
      · obtain ⟨b, off, rfl, -, hbw, hcc⟩ := Rd.below (hO3.sl.rd (Nat.le_refl _)) hb (by omega)
        have c0 := fun y : After wr => y.cell (hcc k 0 (by omega) (by omega)) hbw
        simp only [Nat.add_zero, ints] at c0
        have hd0 := HA1.out k hkP
        have hkN : decide ((k : Int) < N) = true := decide_eq_true (by omega)
        have hkN2 : decide (k < N) = true := decide_eq_true (by omega)
        have hkN3 : k < N := by omega
        have hd : decide (cutS F n t k 0 < t) = true := decide_eq_true hd0
        generalize cutS F n t k 0 = z at c0 hd
        clear hcc hd0
        go_wp2_with fail
        refine region_after (by kernel_rfl) (by kernel_rfl) ?_
        repeat (go_big_quiet_step ((first | fail)))
        refine wpQuiet_nil ?_
        rintro _ ⟨y, rfl⟩
        go_wp2
        go_roundw
        case rel => exact ⟨k + 1, by omega, by go_num, gr hb y.h⟩
        case measure => simp [intOf]; omega
      · obtain rfl : k = P0 := by omega
        clear HA1
        by_cases hkN : k < N
        · obtain ⟨b, off, rfl, -, hbw, hcc⟩ := Rd.below (hO3.sl.rd (Nat.le_refl _)) hb (by omega)
          have c0 := fun y : After wr => y.cell (hcc k 0 (by omega) (by omega)) hbw
          simp only [Nat.add_zero, ints] at c0
          have hd0 := HA2.out hkN
          have hkN1 : decide ((k : Int) < N) = true := decide_eq_true (by omega)
          have hkN2 : decide (k < N) = true := decide_eq_true (by omega)
          have hd : decide (cutS F n t k 0 < t) = false := decide_eq_false (by omega)
          generalize cutS F n t k 0 = z at c0 hd
          clear hcc hd0
          go_wp2_with fail
          refine region_after (by kernel_rfl) (by kernel_rfl) ?_
          repeat (go_big_quiet_step ((first | fail)))
          refine wpQuiet_nil ?_
          rintro _ ⟨y, rfl⟩
          have hbY := gr hb y.h
          have hoY := own_below ho3 hbY
          have hcY := (hbY.cell (p := ⟨w.heap.size, 0, none⟩) (by show w.heap.size < _; omega)).trans hc3
          have hcY1 := (hbY.cell (p := ⟨w.heap.size, 1, none⟩) (by show w.heap.size < _; omega)).trans hc13
          have hbZ := gr hbB hbY
          have hzY := hbY.size
          clear q0
          generalize y.w = W at *
          clear y hbY
          go_wp2_with fail
          go_at_call 86
          have hvn : ∀ q, Value.ownBlock (.slice (some ⟨b, off, none⟩) N cc) = some q → q < W.heap.size := fun q hq => (hoY.lt q hq).2
          refine (insS_any w1.heap.size N W.heap.size k _ _ t x _ (by omega) (by omega) (by simp; omega) (hoY.alloc _) (heap_alloc_new W _) (by simp) (fun e => by have := hvn _ e; omega)).mono ?_
          rintro _ w5 ⟨v5, rfl, ho5, hb5⟩
          rw [HIP.out, HPL.out] at ho5
          have hbV := (hbZ.alloc hbZ.size (.cells #[.int .i64 t, .int .i64 x] 55)).trans (hb5.mono (by omega))
          have hz5 : w1.heap.size ≤ w5.heap.size := by have := hb5.size; simp at this; omega
          clear hb5 hvn hoY hcY hcY1
          obtain ⟨A5, c5, rfl, -⟩ := own_form ho5
          have hO5 := own_ow ho5
          have hsV := hbV.size
          go_wp2_with fail
          go_at_call 17
          refine (AreSuns_any _ _ _ _ _ (by omega) (hO5.sl.rd (Nat.le_refl _))).mono ?_
          rintro _ w6 ⟨rfl, hb6⟩
          cases hq : sunsB (putS F n t x) (N + 1)
          · have HK := hide (show putSunOk F n t x = false by simp [putSunOk, HPL.out, hq])
            have HN := hide (show putSunN F n t x = 0 by simp [putSunN, HK.out])
            go_wp2
            refine bodyPost_ret (v := .tuple #[.slice none 0 0, .bool false]) (by simp only [results, Try.results42]; go_simp) rfl ⟨none, 0, by rw [HK.out, HN.out], by rw [HN.out]; exact Ow.nil _ _ _ _ _ _, gr hbV hb6⟩
          · have HK := hide (show putSunOk F n t x = true by simp [putSunOk, HPL.out, hq, HV.out])
            have HN := hide (show putSunN F n t x = N + 1 by simp [putSunN, HK.out, HPL.out])
            have hO6 := hO5.below hb6 (Nat.le_refl _)
            have hz6 := hb6.size
            go_wp2
            refine bodyPost_ret (v := .tuple #[.slice A5 (N + 1) c5, .bool true]) (by simp only [results, Try.results42]; go_simp) rfl ⟨A5, c5, by rw [HK.out, HN.out], by rw [HN.out]; exact hO6.mono (by omega) hz6, gr hbV hb6⟩
        · have hkN1 : decide ((k : Int) < N) = false := decide_eq_false (by omega)
          have hkN2 : decide (k < N) = false := decide_eq_false (by omega)
          go_wp2_with fail
          refine region_after (by kernel_rfl) (by kernel_rfl) ?_
          repeat (go_big_quiet_step ((first | fail)))
          refine wpQuiet_nil ?_
          rintro _ ⟨y, rfl⟩
          have hbY := gr hb y.h
          have hoY := own_below ho3 hbY
          have hcY := (hbY.cell (p := ⟨w.heap.size, 0, none⟩) (by show w.heap.size < _; omega)).trans hc3
          have hcY1 := (hbY.cell (p := ⟨w.heap.size, 1, none⟩) (by show w.heap.size < _; omega)).trans hc13
          have hbZ := gr hbB hbY
          have hzY := hbY.size
          clear q0
          generalize y.w = W at *
          clear y hbY
          go_wp2_with fail
          go_at_call 86
          have hvn : ∀ q, Value.ownBlock (.slice G3 N cc) = some q → q < W.heap.size := fun q hq => (hoY.lt q hq).2
          refine (insS_any w1.heap.size N W.heap.size k _ _ t x _ (by omega) (by omega) (by simp; omega) (hoY.alloc _) (heap_alloc_new W _) (by simp) (fun e => by have := hvn _ e; omega)).mono ?_
          rintro _ w5 ⟨v5, rfl, ho5, hb5⟩
          rw [HIP.out, HPL.out] at ho5
          have hbV := (hbZ.alloc hbZ.size (.cells #[.int .i64 t, .int .i64 x] 55)).trans (hb5.mono (by omega))
          have hz5 : w1.heap.size ≤ w5.heap.size := by have := hb5.size; simp at this; omega
          clear hb5 hvn hoY hcY hcY1
          obtain ⟨A5, c5, rfl, -⟩ := own_form ho5
          have hO5 := own_ow ho5
          have hsV := hbV.size
          go_wp2_with fail
          go_at_call 17
          refine (AreSuns_any _ _ _ _ _ (by omega) (hO5.sl.rd (Nat.le_refl _))).mono ?_
          rintro _ w6 ⟨rfl, hb6⟩
          cases hq : sunsB (putS F n t x) (N + 1)
          · have HK := hide (show putSunOk F n t x = false by simp [putSunOk, HPL.out, hq])
            have HN := hide (show putSunN F n t x = 0 by simp [putSunN, HK.out])
            go_wp2
            refine bodyPost_ret (v := .tuple #[.slice none 0 0, .bool false]) (by simp only [results, Try.results42]; go_simp) rfl ⟨none, 0, by rw [HK.out, HN.out], by rw [HN.out]; exact Ow.nil _ _ _ _ _ _, gr hbV hb6⟩
          · have HK := hide (show putSunOk F n t x = true by simp [putSunOk, HPL.out, hq, HV.out])
            have HN := hide (show putSunN F n t x = N + 1 by simp [putSunN, HK.out, HPL.out])
            have hO6 := hO5.below hb6 (Nat.le_refl _)
            have hz6 := hb6.size
            go_wp2
            refine bodyPost_ret (v := .tuple #[.slice A5 (N + 1) c5, .bool true]) (by simp only [results, Try.results42]; go_simp) rfl ⟨A5, c5, by rw [HK.out, HN.out], by rw [HN.out]; exact hO6.mono (by omega) hz6, gr hbV hb6⟩
end Go.Proofs.Ytajmebclmippeaa
