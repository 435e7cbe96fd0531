/-
  Contracts: a brine after the rain of a day, of the reference. Conditions: lengths up to 2^20.
-/
import Derived.Test.YtcjjpkleipjibaaRainE
namespace Go.Proofs.Ytcjjpkleipjibaa
open Go.RowKit
attribute [local go_sem ↓] Go.wp_at_zero Go.wp_at_succ

set_option maxHeartbeats 1000000 in
theorem spec_AfterRain_any (A : Option Addr) (n c : Nat) (F : Nat → Nat → Int) (x y area cover day : Int) (w : World) (hn : n ≤ 1048576) (h : Rd w A n 2 (ints F)) :
    Calls Try.prog 27 #[.slice A n c, .agg #[.int .i64 x, .int .i64 y], .int .i64 area, .int .i64 cover, .int .i64 day] w fun e w' =>
      e = .returned (.tuple #[.agg #[.int .i64 (afterRainR F n x y area cover day).1, .int .i64 (afterRainR F n x y area cover day).2.1], .bool (afterRainR F n x y area cover day).2.2]) ∧ Below w.heap.size w w' := by
  have h' : Rd ((w.alloc (.cells #[.int .i64 x, .int .i64 y] 39)).alloc (.cells #[.int .i64 0, .int .i64 0] 39)) A n 2 (ints F) := Rd.alloc (Rd.alloc h _) _
  have HU := hide (show afterRainR F n x y area cover day = if (rainOnAreaR F n area day).2 && brineB x y && inB cover 0 100 && brineB (x + comes (rainOnAreaR F n area day).1 cover) y then (x + comes (rainOnAreaR F n area day).1 cover, y, true) else (0, 0, false) from rfl)
  have HK := hide (rainOnAreaR_bd F n area day)
  generalize afterRainR F n x y area cover day = R at HU ⊢
  cases h1 : (rainOnAreaR F n area day).2
  · obtain rfl : R = (0, 0, false) := by rw [HU.out, h1]; rfl
    go_enter Try.func27, Try.ntmps27
    go_wp2_with fail
    go_at_call 23
    refine (spec_RainOnArea_any _ _ _ _ _ _ _ hn h').mono ?_
    rintro _ w1 ⟨rfl, hb1⟩
    have hz1 : w.heap.size + 1 < w1.heap.size := by have := hb1.size; simp at this; omega
    have hy1 : w.heap.size < w1.heap.size := by omega
    have hc1 := bcell hb1
    go_wp2
    have HW : Below w.heap.size w w1 := gr (((Below.refl _ _).alloc (Nat.le_refl _) _).alloc (by simp) _) hb1
    refine bodyPost_ret (v := .tuple #[.agg #[.int .i64 0, .int .i64 0], .bool false]) (by simp only [results, Try.results27]; go_simp) rfl ⟨rfl, ?_⟩
    (repeat' (first | exact Below.refl _ _ | assumption | refine Below.drew ?_ | refine Below.alloc ?_ (by first | omega | exact Below.size (by assumption) | (simp; done) | (simp; omega)) _ | refine Below.setCell ?_ (by first | omega | exact Below.size (by assumption) | (simp; done) | (simp; omega)) _))
  · cases h2 : brineB x y
    · obtain rfl : R = (0, 0, false) := by rw [HU.out, h2]; simp
      go_enter Try.func27, Try.ntmps27
      go_wp2_with fail
      go_at_call 23
      refine (spec_RainOnArea_any _ _ _ _ _ _ _ hn h').mono ?_
      rintro _ w1 ⟨rfl, hb1⟩
      have hz1 : w.heap.size + 1 < w1.heap.size := by have := hb1.size; simp at this; omega
      have hy1 : w.heap.size < w1.heap.size := by omega
      have hc1 := bcell hb1
      go_wp2_with fail
      go_at_call 66
      refine (l2Brine_any _ _ _).mono ?_
      rintro _ w2 ⟨rfl, hb2⟩
      have hz2 : w.heap.size + 1 < w2.heap.size := by have := hb2.size; omega
      have hy2 : w.heap.size < w2.heap.size := by omega
      have hc2 := bcell hb2
      go_wp2
      have HW : Below w.heap.size w w2 := gr (gr (((Below.refl _ _).alloc (Nat.le_refl _) _).alloc (by simp) _) hb1) hb2
      refine bodyPost_ret (v := .tuple #[.agg #[.int .i64 0, .int .i64 0], .bool false]) (by simp only [results, Try.results27]; go_simp) rfl ⟨rfl, ?_⟩
      (repeat' (first | exact Below.refl _ _ | assumption | refine Below.drew ?_ | refine Below.alloc ?_ (by first | omega | exact Below.size (by assumption) | (simp; done) | (simp; omega)) _ | refine Below.setCell ?_ (by first | omega | exact Below.size (by assumption) | (simp; done) | (simp; omega)) _))
    · cases h3 : inB cover 0 100
      · obtain rfl : R = (0, 0, false) := by rw [HU.out, h3]; simp
        go_enter Try.func27, Try.ntmps27
        go_wp2_with fail
        go_at_call 23
        refine (spec_RainOnArea_any _ _ _ _ _ _ _ hn h').mono ?_
        rintro _ w1 ⟨rfl, hb1⟩
        have hz1 : w.heap.size + 1 < w1.heap.size := by have := hb1.size; simp at this; omega
        have hy1 : w.heap.size < w1.heap.size := by omega
        have hc1 := bcell hb1
        go_wp2_with fail
        go_at_call 66
        refine (l2Brine_any _ _ _).mono ?_
        rintro _ w2 ⟨rfl, hb2⟩
        have hz2 : w.heap.size + 1 < w2.heap.size := by have := hb2.size; omega
        have hy2 : w.heap.size < w2.heap.size := by omega
        have hc2 := bcell hb2
        go_wp2_with (first | (go_at_call 60; refine (l1In_any _ _ _ _).mono ?_; rintro _ _ ⟨rfl, rfl⟩))
        have HW : Below w.heap.size w w2 := gr (gr (((Below.refl _ _).alloc (Nat.le_refl _) _).alloc (by simp) _) hb1) hb2
        refine bodyPost_ret (v := .tuple #[.agg #[.int .i64 0, .int .i64 0], .bool false]) (by simp only [results, Try.results27]; go_simp) rfl ⟨rfl, ?_⟩
        (repeat' (first | exact Below.refl _ _ | assumption | refine Below.drew ?_ | refine Below.alloc ?_ (by first | omega | exact Below.size (by assumption) | (simp; done) | (simp; omega)) _ | refine Below.setCell ?_ (by first | omega | exact Below.size (by assumption) | (simp; done) | (simp; omega)) _))
      · have hcv := inB_true h3
        cases h4 : brineB (x + comes (rainOnAreaR F n area day).1 cover) y
        · obtain rfl : R = (0, 0, false) := by rw [HU.out, h4]; simp
          go_enter Try.func27, Try.ntmps27
          go_wp2_with fail
          go_at_call 23
          refine (spec_RainOnArea_any _ _ _ _ _ _ _ hn h').mono ?_
          rintro _ w1 ⟨rfl, hb1⟩
          have hz1 : w.heap.size + 1 < w1.heap.size := by have := hb1.size; simp at this; omega
          have hy1 : w.heap.size < w1.heap.size := by omega
          have hc1 := bcell hb1
          go_wp2_with fail
          go_at_call 66
          refine (l2Brine_any _ _ _).mono ?_
          rintro _ w2 ⟨rfl, hb2⟩
          have hz2 : w.heap.size + 1 < w2.heap.size := by have := hb2.size; omega
          have hy2 : w.heap.size < w2.heap.size := by omega
          have hc2 := bcell hb2
          go_wp2_with fail
          go_at_call 60
          refine (l1In_any _ _ _ _).mono ?_
          rintro _ _ ⟨rfl, rfl⟩
          obtain ⟨⟨v1, v2⟩, v3, v4⟩ := comes_bd HK.out.1 HK.out.2 hcv.1 hcv.2
          have v5 := HK.out.2
          obtain ⟨⟨x1, x2⟩, y1, y2⟩ := brineB_true h2
          go_wp2_with fail
          have q0 : w2.cell? ⟨w.heap.size, 0, none⟩ = some (.int .i64 x) := by go_simp
          have q1 : w2.cell? ⟨w.heap.size, 1, none⟩ = some (.int .i64 y) := by go_simp
          have q2 : w2.cell? ⟨w.heap.size + 1, 0, none⟩ = some (.int .i64 0) := by go_simp
          have q3 : w2.cell? ⟨w.heap.size + 1, 1, none⟩ = some (.int .i64 0) := by go_simp
          have q4 : w2.frozen? ⟨w.heap.size + 1, 0, none⟩ = false := by go_simp
          have q5 : w2.frozen? ⟨w.heap.size + 1, 1, none⟩ = false := by go_simp
          clear hc1 hc2
          have hwr : IntKind.i64.wrap (x + comes (rainOnAreaR F n area day).1 cover) = x + comes (rainOnAreaR F n area day).1 cover := IntWalk.i64_in _ (by omega)
          have n0 := World.new_ne w2 _ q0
          have n1 := World.new_ne w2 _ q1
          go_region_held3 (fun w' => w'.cell? ⟨w.heap.size, 0, none⟩ = some (.int .i64 x) ∧ w'.cell? ⟨w.heap.size, 1, none⟩ = some (.int .i64 y)) (go_keep) (first | (go_at_call 67; refine (l9Comes_any _ _ _ HK.out.1 HK.out.2 hcv.1 hcv.2).mono ?_; rintro _ _ ⟨rfl, rfl⟩))
          clear hwr
          all_goals
            go_wp2_with fail
            go_at_call 66
            refine (l2Brine_any _ _ _).mono ?_
            rintro _ w4 ⟨rfl, hb4⟩
            have hz4 : w.heap.size + 1 < w4.heap.size := by have := hb4.size; simp at this; omega
            have hy4 : w.heap.size < w4.heap.size := by omega
            have hz5 : w2.heap.size < w4.heap.size := by have := hb4.size; simp at this; omega
            have hc4 := bcell hb4
            go_wp2
            have HW : Below w.heap.size w w4 := gr ((gr (gr (((Below.refl _ _).alloc (Nat.le_refl _) _).alloc (by simp) _) hb1) hb2).alloc (by omega) _).drew hb4
            have hw4 := HW.size
            refine bodyPost_ret (v := .tuple #[.agg #[.int .i64 0, .int .i64 0], .bool false]) (by simp only [results, Try.results27]; go_simp) rfl ⟨rfl, ?_⟩
            (repeat' (first | exact Below.refl _ _ | assumption | refine Below.drew ?_ | refine Below.alloc ?_ (by first | omega | exact Below.size (by assumption) | (simp; done) | (simp; omega)) _ | refine Below.setCell ?_ (by first | omega | exact Below.size (by assumption) | (simp; done) | (simp; omega)) _))
        · obtain rfl : R = (x + comes (rainOnAreaR F n area day).1 cover, y, true) := by rw [HU.out, h1, h2, h3, h4]; rfl
          go_enter Try.func27, Try.ntmps27
          go_wp2_with fail
          go_at_call 23
          refine (spec_RainOnArea_any _ _ _ _ _ _ _ hn h').mono ?_
          rintro _ w1 ⟨rfl, hb1⟩
          have hz1 : w.heap.size + 1 < w1.heap.size := by have := hb1.size; simp at this; omega
          have hy1 : w.heap.size < w1.heap.size := by omega
          have hc1 := bcell hb1
          go_wp2_with fail
          go_at_call 66
          refine (l2Brine_any _ _ _).mono ?_
          rintro _ w2 ⟨rfl, hb2⟩
          have hz2 : w.heap.size + 1 < w2.heap.size := by have := hb2.size; omega
          have hy2 : w.heap.size < w2.heap.size := by omega
          have hc2 := bcell hb2
          go_wp2_with fail
          go_at_call 60
          refine (l1In_any _ _ _ _).mono ?_
          rintro _ _ ⟨rfl, rfl⟩
          obtain ⟨⟨v1, v2⟩, v3, v4⟩ := comes_bd HK.out.1 HK.out.2 hcv.1 hcv.2
          have v5 := HK.out.2
          obtain ⟨⟨x1, x2⟩, y1, y2⟩ := brineB_true h2
          go_wp2_with fail
          have q0 : w2.cell? ⟨w.heap.size, 0, none⟩ = some (.int .i64 x) := by go_simp
          have q1 : w2.cell? ⟨w.heap.size, 1, none⟩ = some (.int .i64 y) := by go_simp
          have q2 : w2.cell? ⟨w.heap.size + 1, 0, none⟩ = some (.int .i64 0) := by go_simp
          have q3 : w2.cell? ⟨w.heap.size + 1, 1, none⟩ = some (.int .i64 0) := by go_simp
          have q4 : w2.frozen? ⟨w.heap.size + 1, 0, none⟩ = false := by go_simp
          have q5 : w2.frozen? ⟨w.heap.size + 1, 1, none⟩ = false := by go_simp
          clear hc1 hc2
          have hwr : IntKind.i64.wrap (x + comes (rainOnAreaR F n area day).1 cover) = x + comes (rainOnAreaR F n area day).1 cover := IntWalk.i64_in _ (by omega)
          have n0 := World.new_ne w2 _ q0
          have n1 := World.new_ne w2 _ q1
          go_region_held3 (fun w' => w'.cell? ⟨w.heap.size, 0, none⟩ = some (.int .i64 x) ∧ w'.cell? ⟨w.heap.size, 1, none⟩ = some (.int .i64 y)) (go_keep) (first | (go_at_call 67; refine (l9Comes_any _ _ _ HK.out.1 HK.out.2 hcv.1 hcv.2).mono ?_; rintro _ _ ⟨rfl, rfl⟩))
          clear hwr
          all_goals
            go_wp2_with fail
            go_at_call 66
            refine (l2Brine_any _ _ _).mono ?_
            rintro _ w4 ⟨rfl, hb4⟩
            have hz4 : w.heap.size + 1 < w4.heap.size := by have := hb4.size; simp at this; omega
            have hy4 : w.heap.size < w4.heap.size := by omega
            have hz5 : w2.heap.size < w4.heap.size := by have := hb4.size; simp at this; omega
            have hc4 := bcell hb4
            go_wp2
            have HW : Below w.heap.size w w4 := gr ((gr (gr (((Below.refl _ _).alloc (Nat.le_refl _) _).alloc (by simp) _) hb1) hb2).alloc (by omega) _).drew hb4
            have hw4 := HW.size
            refine bodyPost_ret (v := .tuple #[.agg #[.int .i64 (x + comes (rainOnAreaR F n area day).1 cover), .int .i64 y], .bool true]) (by simp only [results, Try.results27]; go_simp) rfl ⟨rfl, ?_⟩
            (repeat' (first | exact Below.refl _ _ | assumption | refine Below.drew ?_ | refine Below.alloc ?_ (by first | omega | exact Below.size (by assumption) | (simp; done) | (simp; omega)) _ | refine Below.setCell ?_ (by first | omega | exact Below.size (by assumption) | (simp; done) | (simp; omega)) _))
end Go.Proofs.Ytcjjpkleipjibaa
