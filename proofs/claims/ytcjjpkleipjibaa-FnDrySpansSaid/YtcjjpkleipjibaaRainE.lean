/-
  Contracts: a brine after the rain of a day, of the program and of the reference. Conditions: lengths up to 2^20.
-/
import Derived.Test.YtcjjpkleipjibaaRainD
import Derived.Test.YtcjjpkleipjibaaSunB
namespace Go.Proofs.Ytcjjpkleipjibaa
open Go.RowKit

theorem ceilDiv_any (a b : Int) (w : World) (h1 : 0 ≤ a) (h2 : a ≤ 1000000000000000) (h3 : 1 ≤ b) (h4 : b ≤ 1000000000) :
    Calls Try.prog 89 #[.int .i64 a, .int .i64 b] w fun e w' => e = .returned (.int .i64 ((a + b - 1) / b)) ∧ w = w' := by
  go_enter Try.func89, Try.ntmps89
  go_wp2
  go_ret
  exact ⟨rfl, rfl⟩
theorem l9Comes_any (k c : Int) (w : World) (hk : 0 ≤ k) (hk2 : k ≤ 20000000) (hc : 0 ≤ c) (hc2 : c ≤ 100) :
    Calls Try.prog 67 #[.int .i64 k, .int .i64 c] w fun e w' => e = .returned (.int .i64 (comes k c)) ∧ w = w' := by
  obtain ⟨⟨b1, b2⟩, b3, b4⟩ := comes_bd hk hk2 hc hc2
  have HV := hide (show comes k c = k - (k * c + 99) / 100 from rfl)
  go_enter Try.func67, Try.ntmps67
  go_wp2
  go_ret
  exact ⟨ret_int HV.out.symm, rfl⟩

theorem rained_any (x y k c : Int) (w : World) (hb : brineB x y = true) (hk : 0 ≤ k) (hk2 : k ≤ 20000000) (hc : 0 ≤ c) (hc2 : c ≤ 100) :
    Calls Try.prog 69 #[.agg #[.int .i64 x, .int .i64 y], .int .i64 k, .int .i64 c] w fun e w' => e = .returned (.agg #[.int .i64 (x + comes k c), .int .i64 y]) ∧ Below w.heap.size w w' := by
  obtain ⟨⟨x1, x2⟩, y1, y2⟩ := brineB_true hb
  obtain ⟨⟨b1, b2⟩, b3, b4⟩ := comes_bd hk hk2 hc hc2
  have HV := hide (show x + comes k c = x + k - (k * c + 100 - 1) / 100 by unfold comes; omega)
  clear hb
  go_enter Try.func69, Try.ntmps69
  go_wp2
  have hb_w1 : Below w.heap.size w ((w.alloc (.cells #[.int .i64 x, .int .i64 y] 39)).alloc (.cells #[.int .i64 0, .int .i64 0] 39)) := ((Below.refl _ _).alloc (Nat.le_refl _) _).alloc (by simp) _
  have gc1_w1 : World.cell? ((w.alloc (.cells #[.int .i64 x, .int .i64 y] 39)).alloc (.cells #[.int .i64 0, .int .i64 0] 39)) ⟨w.heap.size, 0, none⟩ = some (.int .i64 x) := by go_simp
  have gc2_w1 : World.cell? ((w.alloc (.cells #[.int .i64 x, .int .i64 y] 39)).alloc (.cells #[.int .i64 0, .int .i64 0] 39)) ⟨w.heap.size, 1, none⟩ = some (.int .i64 y) := by go_simp
  have gc3_w1 : World.cell? ((w.alloc (.cells #[.int .i64 x, .int .i64 y] 39)).alloc (.cells #[.int .i64 0, .int .i64 0] 39)) ⟨w.heap.size + 1, 0, none⟩ = some (.int .i64 0) := by go_simp
  have gc4_w1 : World.cell? ((w.alloc (.cells #[.int .i64 x, .int .i64 y] 39)).alloc (.cells #[.int .i64 0, .int .i64 0] 39)) ⟨w.heap.size + 1, 1, none⟩ = some (.int .i64 0) := by go_simp
  have gf5_w1 : World.frozen? ((w.alloc (.cells #[.int .i64 x, .int .i64 y] 39)).alloc (.cells #[.int .i64 0, .int .i64 0] 39)) ⟨w.heap.size + 1, 0, none⟩ = false := by go_simp
  have gf6_w1 : World.frozen? ((w.alloc (.cells #[.int .i64 x, .int .i64 y] 39)).alloc (.cells #[.int .i64 0, .int .i64 0] 39)) ⟨w.heap.size + 1, 1, none⟩ = false := by go_simp
  have hz_w1 : w.heap.size + 1 < (World.heap ((w.alloc (.cells #[.int .i64 x, .int .i64 y] 39)).alloc (.cells #[.int .i64 0, .int .i64 0] 39))).size := by simp
  generalize (w.alloc (.cells #[.int .i64 x, .int .i64 y] 39)).alloc (.cells #[.int .i64 0, .int .i64 0] 39) = w1 at hb_w1 gc1_w1 gc2_w1 gc3_w1 gc4_w1 gf5_w1 gf6_w1 hz_w1 ⊢
  have hca := acell w1
  have hz2 : w.heap.size < w1.heap.size := by omega
  refine region_after_tail 12 (by kernel_rfl) (by kernel_rfl) ?_
  simp only [List.take_succ_cons, List.take_zero, List.drop_succ_cons, List.drop_zero]
  repeat (go_big_quiet_step ((first | (go_at_call 89; exact Calls.after_same (ceilDiv_any _ _ _ b1 (by omega) (by omega) (by omega))))))
  refine wpQuiet_nil ?_
  rintro _ ⟨z, rfl⟩
  go_wp2
  have HW := gr hb_w1 z.h
  refine bodyPost_ret (v := .agg #[.int .i64 (x + comes k c), .int .i64 y]) ?_ rfl ⟨rfl, ?_⟩
  · rw [HV.out]
    simp only [results, Try.results69]
    go_simp
  · exact (HW.setCell (p := ⟨w.heap.size + 1, 0, none⟩) (by simp) _).setCell (p := ⟨w.heap.size + 1, 1, none⟩) (by simp) _

set_option maxHeartbeats 1000000 in
theorem AfterRain_any (A : Option Addr) (n c : Nat) (F : Nat → Nat → Int) (x y area cover day : Int) (w : World) (hn : n ≤ 1048576) (h : Rd w A n 2 (ints F)) :
    Calls Try.prog 29 #[.slice A n c, .agg #[.int .i64 x, .int .i64 y], .int .i64 area, .int .i64 cover, .int .i64 day] w fun e w' =>
      e = .returned (.tuple #[.agg #[.int .i64 (afterRainR F n x y area cover day).1, .int .i64 (afterRainR F n x y area cover day).2.1], .bool (afterRainR F n x y area cover day).2.2]) ∧ Below w.heap.size w w' := by
  have h' : Rd ((w.alloc (.cells #[.int .i64 x, .int .i64 y] 39)).alloc (.cells #[.int .i64 0, .int .i64 0] 39)) A n 2 (ints F) := Rd.alloc (Rd.alloc h _) _
  have HU := hide (show afterRainR F n x y area cover day = if (rainOnAreaR F n area day).2 && brineB x y && inB cover 0 100 && brineB (x + comes (rainOnAreaR F n area day).1 cover) y then (x + comes (rainOnAreaR F n area day).1 cover, y, true) else (0, 0, false) from rfl)
  have HK := hide (rainOnAreaR_bd F n area day)
  generalize afterRainR F n x y area cover day = R at HU ⊢
  cases h1 : (rainOnAreaR F n area day).2
  · obtain rfl : R = (0, 0, false) := by rw [HU.out, h1]; rfl
    go_enter Try.func29, Try.ntmps29
    go_wp2_with fail
    go_at_call 24
    refine (RainOnArea_any _ _ _ _ _ _ _ hn h').mono ?_
    rintro _ w1 ⟨rfl, hb1⟩
    have hz1 : w.heap.size + 1 < w1.heap.size := by have := hb1.size; simp at this; omega
    have hy1 : w.heap.size < w1.heap.size := by omega
    have hc1 := bcell hb1
    go_wp2
    have HW : Below w.heap.size w w1 := gr (((Below.refl _ _).alloc (Nat.le_refl _) _).alloc (by simp) _) hb1
    refine bodyPost_ret (v := .tuple #[.agg #[.int .i64 0, .int .i64 0], .bool false]) (by simp only [results, Try.results29]; go_simp) rfl ⟨rfl, ?_⟩
    (repeat' (first | exact Below.refl _ _ | assumption | refine Below.drew ?_ | refine Below.alloc ?_ (by first | omega | exact Below.size (by assumption) | (simp; done) | (simp; omega)) _ | refine Below.setCell ?_ (by first | omega | exact Below.size (by assumption) | (simp; done) | (simp; omega)) _))
  · cases h2 : brineB x y
    · obtain rfl : R = (0, 0, false) := by rw [HU.out, h2]; simp
      go_enter Try.func29, Try.ntmps29
      go_wp2_with fail
      go_at_call 24
      refine (RainOnArea_any _ _ _ _ _ _ _ hn h').mono ?_
      rintro _ w1 ⟨rfl, hb1⟩
      have hz1 : w.heap.size + 1 < w1.heap.size := by have := hb1.size; simp at this; omega
      have hy1 : w.heap.size < w1.heap.size := by omega
      have hc1 := bcell hb1
      go_wp2_with fail
      go_at_call 68
      refine (IsBrine_any _ _ _).mono ?_
      rintro _ w2 ⟨rfl, hb2⟩
      have hz2 : w.heap.size + 1 < w2.heap.size := by have := hb2.size; omega
      have hy2 : w.heap.size < w2.heap.size := by omega
      have hc2 := bcell hb2
      go_wp2
      have HW : Below w.heap.size w w2 := gr (gr (((Below.refl _ _).alloc (Nat.le_refl _) _).alloc (by simp) _) hb1) hb2
      refine bodyPost_ret (v := .tuple #[.agg #[.int .i64 0, .int .i64 0], .bool false]) (by simp only [results, Try.results29]; go_simp) rfl ⟨rfl, ?_⟩
      (repeat' (first | exact Below.refl _ _ | assumption | refine Below.drew ?_ | refine Below.alloc ?_ (by first | omega | exact Below.size (by assumption) | (simp; done) | (simp; omega)) _ | refine Below.setCell ?_ (by first | omega | exact Below.size (by assumption) | (simp; done) | (simp; omega)) _))
    · cases h3 : inB cover 0 100
      · obtain rfl : R = (0, 0, false) := by rw [HU.out, h3]; simp
        go_enter Try.func29, Try.ntmps29
        go_wp2_with fail
        go_at_call 24
        refine (RainOnArea_any _ _ _ _ _ _ _ hn h').mono ?_
        rintro _ w1 ⟨rfl, hb1⟩
        have hz1 : w.heap.size + 1 < w1.heap.size := by have := hb1.size; simp at this; omega
        have hy1 : w.heap.size < w1.heap.size := by omega
        have hc1 := bcell hb1
        go_wp2_with fail
        go_at_call 68
        refine (IsBrine_any _ _ _).mono ?_
        rintro _ w2 ⟨rfl, hb2⟩
        have hz2 : w.heap.size + 1 < w2.heap.size := by have := hb2.size; omega
        have hy2 : w.heap.size < w2.heap.size := by omega
        have hc2 := bcell hb2
        go_wp2_with (first | (go_at_call 56; refine (within_any _ _ _ _).mono ?_; rintro _ _ ⟨rfl, rfl⟩))
        have HW : Below w.heap.size w w2 := gr (gr (((Below.refl _ _).alloc (Nat.le_refl _) _).alloc (by simp) _) hb1) hb2
        refine bodyPost_ret (v := .tuple #[.agg #[.int .i64 0, .int .i64 0], .bool false]) (by simp only [results, Try.results29]; go_simp) rfl ⟨rfl, ?_⟩
        (repeat' (first | exact Below.refl _ _ | assumption | refine Below.drew ?_ | refine Below.alloc ?_ (by first | omega | exact Below.size (by assumption) | (simp; done) | (simp; omega)) _ | refine Below.setCell ?_ (by first | omega | exact Below.size (by assumption) | (simp; done) | (simp; omega)) _))
      · have hcv := inB_true h3
        cases h4 : brineB (x + comes (rainOnAreaR F n area day).1 cover) y
        · obtain rfl : R = (0, 0, false) := by rw [HU.out, h4]; simp
          go_enter Try.func29, Try.ntmps29
          go_wp2_with fail
          go_at_call 24
          refine (RainOnArea_any _ _ _ _ _ _ _ hn h').mono ?_
          rintro _ w1 ⟨rfl, hb1⟩
          have hz1 : w.heap.size + 1 < w1.heap.size := by have := hb1.size; simp at this; omega
          have hy1 : w.heap.size < w1.heap.size := by omega
          have hc1 := bcell hb1
          go_wp2_with fail
          go_at_call 68
          refine (IsBrine_any _ _ _).mono ?_
          rintro _ w2 ⟨rfl, hb2⟩
          have hz2 : w.heap.size + 1 < w2.heap.size := by have := hb2.size; omega
          have hy2 : w.heap.size < w2.heap.size := by omega
          have hc2 := bcell hb2
          go_wp2_with fail
          go_at_call 56
          refine (within_any _ _ _ _).mono ?_
          rintro _ _ ⟨rfl, rfl⟩
          go_wp2_with fail
          go_at_call 69
          refine (rained_any _ _ _ _ _ h2 HK.out.1 HK.out.2 hcv.1 hcv.2).mono ?_
          rintro _ w3 ⟨rfl, hb3⟩
          have hz3 : w.heap.size + 1 < w3.heap.size := by have := hb3.size; omega
          have hy3 : w.heap.size < w3.heap.size := by omega
          have hc3 := bcell hb3
          go_wp2_with fail
          go_at_call 68
          refine (IsBrine_any _ _ _).mono ?_
          rintro _ w4 ⟨rfl, hb4⟩
          have hz4 : w.heap.size + 1 < w4.heap.size := by have := hb4.size; simp at this; omega
          have hy4 : w.heap.size < w4.heap.size := by omega
          have hz5 : w3.heap.size < w4.heap.size := by have := hb4.size; simp at this; omega
          have hc4 := bcell hb4
          go_wp2
          have HW : Below w.heap.size w w4 := gr ((gr (gr (gr (((Below.refl _ _).alloc (Nat.le_refl _) _).alloc (by simp) _) hb1) hb2) hb3).alloc (by omega) _) hb4
          have hw4 := HW.size
          refine bodyPost_ret (v := .tuple #[.agg #[.int .i64 0, .int .i64 0], .bool false]) (by simp only [results, Try.results29]; go_simp) rfl ⟨rfl, ?_⟩
          (repeat' (first | exact Below.refl _ _ | assumption | refine Below.drew ?_ | refine Below.alloc ?_ (by first | omega | exact Below.size (by assumption) | (simp; done) | (simp; omega)) _ | refine Below.setCell ?_ (by first | omega | exact Below.size (by assumption) | (simp; done) | (simp; omega)) _))
        · obtain rfl : R = (x + comes (rainOnAreaR F n area day).1 cover, y, true) := by rw [HU.out, h1, h2, h3, h4]; rfl
          go_enter Try.func29, Try.ntmps29
          go_wp2_with fail
          go_at_call 24
          refine (RainOnArea_any _ _ _ _ _ _ _ hn h').mono ?_
          rintro _ w1 ⟨rfl, hb1⟩
          have hz1 : w.heap.size + 1 < w1.heap.size := by have := hb1.size; simp at this; omega
          have hy1 : w.heap.size < w1.heap.size := by omega
          have hc1 := bcell hb1
          go_wp2_with fail
          go_at_call 68
          refine (IsBrine_any _ _ _).mono ?_
          rintro _ w2 ⟨rfl, hb2⟩
          have hz2 : w.heap.size + 1 < w2.heap.size := by have := hb2.size; omega
          have hy2 : w.heap.size < w2.heap.size := by omega
          have hc2 := bcell hb2
          go_wp2_with fail
          go_at_call 56
          refine (within_any _ _ _ _).mono ?_
          rintro _ _ ⟨rfl, rfl⟩
          go_wp2_with fail
          go_at_call 69
          refine (rained_any _ _ _ _ _ h2 HK.out.1 HK.out.2 hcv.1 hcv.2).mono ?_
          rintro _ w3 ⟨rfl, hb3⟩
          have hz3 : w.heap.size + 1 < w3.heap.size := by have := hb3.size; omega
          have hy3 : w.heap.size < w3.heap.size := by omega
          have hc3 := bcell hb3
          go_wp2_with fail
          go_at_call 68
          refine (IsBrine_any _ _ _).mono ?_
          rintro _ w4 ⟨rfl, hb4⟩
          have hz4 : w.heap.size + 1 < w4.heap.size := by have := hb4.size; simp at this; omega
          have hy4 : w.heap.size < w4.heap.size := by omega
          have hz5 : w3.heap.size < w4.heap.size := by have := hb4.size; simp at this; omega
          have hc4 := bcell hb4
          go_wp2
          have HW : Below w.heap.size w w4 := gr ((gr (gr (gr (((Below.refl _ _).alloc (Nat.le_refl _) _).alloc (by simp) _) hb1) hb2) hb3).alloc (by omega) _) hb4
          have hw4 := HW.size
          refine bodyPost_ret (v := .tuple #[.agg #[.int .i64 (x + comes (rainOnAreaR F n area day).1 cover), .int .i64 y], .bool true]) (by simp only [results, Try.results29]; go_simp) rfl ⟨rfl, ?_⟩
          (repeat' (first | exact Below.refl _ _ | assumption | refine Below.drew ?_ | refine Below.alloc ?_ (by first | omega | exact Below.size (by assumption) | (simp; done) | (simp; omega)) _ | refine Below.setCell ?_ (by first | omega | exact Below.size (by assumption) | (simp; done) | (simp; omega)) _))
end Go.Proofs.Ytcjjpkleipjibaa
