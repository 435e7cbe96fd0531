/-
  Contracts: the brine after sun and rain of a day, of the program and of the reference. Conditions: lengths up to 2^20.
-/
import Derived.Test.YtcjjpkleipjibaaRainG
namespace Go.Proofs.Ytcjjpkleipjibaa
open Go.RowKit

set_option maxRecDepth 20000 in
set_option maxHeartbeats 2000000 in
theorem NetOn_any (A : Option Addr) (n c : Nat) (F : Nat → Nat → Int) (A' : Option Addr) (m c' : Nat) (G : Nat → Nat → Int) (x y area day : Int) (w : World) (hn : n ≤ 1048576) (hm : m ≤ 1048576) (hRa : Rd w A n 2 (ints F)) (hSu : Rd w A' m 2 (ints G)) :
    Calls Try.prog 42 #[.slice A n c, .slice A' m c', .agg #[.int .i64 x, .int .i64 y], .int .i64 area, .int .i64 day] w fun e w' =>
      e = .returned (.tuple #[.agg #[.int .i64 (netOnR F n G m x y area day).1, .int .i64 (netOnR F n G m x y area day).2.1], .bool (netOnR F n G m x y area day).2.2]) ∧ Below w.heap.size w w' := by
  have hb0 : Below w.heap.size w ((w.alloc (.cells #[.int .i64 x, .int .i64 y] 39)).alloc (.cells #[.int .i64 0, .int .i64 0] 39)) := ((Below.refl _ _).alloc (Nat.le_refl _) _).alloc (by simp) _
  have hR' := Rd.below hRa hb0
  have hS' := Rd.below hSu hb0
  have HU := hide (show netOnR F n G m x y area day = if showsB F n && inB area 1 100000 && sunsB G m && brineB x y && inB day 0 4000 && brineB (x - lossV x y area (onV G day m) + onV F day n * area / 1000) y
    then (x - lossV x y area (onV G day m) + onV F day n * area / 1000, y, true) else (0, 0, false) from rfl)
  cases h1 : sunsB G m
  · have HR := hide (show netOnR F n G m x y area day = (0, 0, false) by rw [HU.out, h1]; simp)
    generalize netOnR F n G m x y area day = R at HR ⊢
    obtain rfl : R = (0, 0, false) := HR.out
    go_enter Try.func42, Try.ntmps42
    go_wp2_with fail
    go_at_call 77
    refine (AreSuns_any _ _ _ _ _ hm hS').mono ?_
    rintro _ w1 ⟨rfl, hb1⟩
    have hz1 : w.heap.size + 1 < w1.heap.size := by have := hb1.size; simp at this; omega
    have hy1 : w.heap.size < w1.heap.size := by omega
    have hc1 := bcell hb1
    have HW1 := gr hb0 hb1
    go_wp2
    refine bodyPost_ret (v := .tuple #[.agg #[.int .i64 0, .int .i64 0], .bool false]) (by simp only [results, Try.results42]; go_simp) rfl ⟨rfl, ?_⟩
    (repeat' (first | exact Below.refl _ _ | assumption | refine Below.drew ?_ | refine Below.alloc ?_ (by first | omega | exact Below.size (by assumption) | (simp; done) | (simp; omega)) _ | refine Below.setCell ?_ (by first | omega | exact Below.size (by assumption) | (simp; done) | (simp; omega)) _))
  cases h2 : brineB x y
  · have HR := hide (show netOnR F n G m x y area day = (0, 0, false) by rw [HU.out, h2]; simp)
    generalize netOnR F n G m x y area day = R at HR ⊢
    obtain rfl : R = (0, 0, false) := HR.out
    go_enter Try.func42, Try.ntmps42
    go_wp2_with fail
    go_at_call 77
    refine (AreSuns_any _ _ _ _ _ hm hS').mono ?_
    rintro _ w1 ⟨rfl, hb1⟩
    have hz1 : w.heap.size + 1 < w1.heap.size := by have := hb1.size; simp at this; omega
    have hy1 : w.heap.size < w1.heap.size := by omega
    have hc1 := bcell hb1
    have HW1 := gr hb0 hb1
    go_wp2_with fail
    go_at_call 68
    refine (IsBrine_any _ _ _).mono ?_
    rintro _ w2 ⟨rfl, hb2⟩
    have hz2 : w.heap.size + 1 < w2.heap.size := by have := hb2.size; omega
    have hy2 : w.heap.size < w2.heap.size := by omega
    have hc2 := bcell hb2
    have HW2 := gr HW1 hb2
    go_wp2
    refine bodyPost_ret (v := .tuple #[.agg #[.int .i64 0, .int .i64 0], .bool false]) (by simp only [results, Try.results42]; go_simp) rfl ⟨rfl, ?_⟩
    (repeat' (first | exact Below.refl _ _ | assumption | refine Below.drew ?_ | refine Below.alloc ?_ (by first | omega | exact Below.size (by assumption) | (simp; done) | (simp; omega)) _ | refine Below.setCell ?_ (by first | omega | exact Below.size (by assumption) | (simp; done) | (simp; omega)) _))
  cases h3 : inB area 1 100000
  · have HR := hide (show netOnR F n G m x y area day = (0, 0, false) by rw [HU.out, h3]; simp)
    generalize netOnR F n G m x y area day = R at HR ⊢
    obtain rfl : R = (0, 0, false) := HR.out
    go_enter Try.func42, Try.ntmps42
    go_wp2_with fail
    go_at_call 77
    refine (AreSuns_any _ _ _ _ _ hm hS').mono ?_
    rintro _ w1 ⟨rfl, hb1⟩
    have hz1 : w.heap.size + 1 < w1.heap.size := by have := hb1.size; simp at this; omega
    have hy1 : w.heap.size < w1.heap.size := by omega
    have hc1 := bcell hb1
    have HW1 := gr hb0 hb1
    go_wp2_with fail
    go_at_call 68
    refine (IsBrine_any _ _ _).mono ?_
    rintro _ w2 ⟨rfl, hb2⟩
    have hz2 : w.heap.size + 1 < w2.heap.size := by have := hb2.size; omega
    have hy2 : w.heap.size < w2.heap.size := by omega
    have hc2 := bcell hb2
    have HW2 := gr HW1 hb2
    go_wp2_with (first | (go_at_call 61; refine (isArea_any _ _).mono ?_; rintro _ _ ⟨rfl, rfl⟩))
    refine bodyPost_ret (v := .tuple #[.agg #[.int .i64 0, .int .i64 0], .bool false]) (by simp only [results, Try.results42]; go_simp) rfl ⟨rfl, ?_⟩
    (repeat' (first | exact Below.refl _ _ | assumption | refine Below.drew ?_ | refine Below.alloc ?_ (by first | omega | exact Below.size (by assumption) | (simp; done) | (simp; omega)) _ | refine Below.setCell ?_ (by first | omega | exact Below.size (by assumption) | (simp; done) | (simp; omega)) _))
  cases h4 : inB day 0 4000
  · have HR := hide (show netOnR F n G m x y area day = (0, 0, false) by rw [HU.out, h4]; simp)
    generalize netOnR F n G m x y area day = R at HR ⊢
    obtain rfl : R = (0, 0, false) := HR.out
    go_enter Try.func42, Try.ntmps42
    go_wp2_with fail
    go_at_call 77
    refine (AreSuns_any _ _ _ _ _ hm hS').mono ?_
    rintro _ w1 ⟨rfl, hb1⟩
    have hz1 : w.heap.size + 1 < w1.heap.size := by have := hb1.size; simp at this; omega
    have hy1 : w.heap.size < w1.heap.size := by omega
    have hc1 := bcell hb1
    have HW1 := gr hb0 hb1
    go_wp2_with fail
    go_at_call 68
    refine (IsBrine_any _ _ _).mono ?_
    rintro _ w2 ⟨rfl, hb2⟩
    have hz2 : w.heap.size + 1 < w2.heap.size := by have := hb2.size; omega
    have hy2 : w.heap.size < w2.heap.size := by omega
    have hc2 := bcell hb2
    have HW2 := gr HW1 hb2
    go_wp2_with (first | (go_at_call 61; refine (isArea_any _ _).mono ?_; rintro _ _ ⟨rfl, rfl⟩) | (go_at_call 55; refine (isDay_any _ _).mono ?_; rintro _ _ ⟨rfl, rfl⟩))
    refine bodyPost_ret (v := .tuple #[.agg #[.int .i64 0, .int .i64 0], .bool false]) (by simp only [results, Try.results42]; go_simp) rfl ⟨rfl, ?_⟩
    (repeat' (first | exact Below.refl _ _ | assumption | refine Below.drew ?_ | refine Below.alloc ?_ (by first | omega | exact Below.size (by assumption) | (simp; done) | (simp; omega)) _ | refine Below.setCell ?_ (by first | omega | exact Below.size (by assumption) | (simp; done) | (simp; omega)) _))
  have ho := onV_sun (day := day) h1
  have ha := inB_true h3
  have hl := lossV_bd h2 ha.1 ha.2 ho.1 ho.2
  have b := brineB_true h2
  have hlb : brineB (x - lossV x y area (onV G day m)) y = true := by unfold brineB; rw [inB_of (by omega) (by omega), inB_of b.2.1 b.2.2]; rfl
  have HR := hide (netOn_impl (F := F) (n := n) h1 h2 h3 h4 hlb)
  generalize netOnR F n G m x y area day = R at HR ⊢
  clear HU
  have h2' := hide h2
  go_enter Try.func42, Try.ntmps42
  go_wp2_with fail
  go_at_call 77
  refine (AreSuns_any _ _ _ _ _ hm hS').mono ?_
  rintro _ w1 ⟨rfl, hb1⟩
  have hz1 : w.heap.size + 1 < w1.heap.size := by have := hb1.size; simp at this; omega
  have hy1 : w.heap.size < w1.heap.size := by omega
  have hc1 := bcell hb1
  have HW1 := gr hb0 hb1
  go_wp2_with fail
  go_at_call 68
  refine (IsBrine_any _ _ _).mono ?_
  rintro _ w2 ⟨rfl, hb2⟩
  have hz2 : w.heap.size + 1 < w2.heap.size := by have := hb2.size; omega
  have hy2 : w.heap.size < w2.heap.size := by omega
  have hc2 := bcell hb2
  have HW2 := gr HW1 hb2
  have hS2 := Rd.below hS' (gr hb1 hb2)
  have hR2 := Rd.below hR' (gr hb1 hb2)
  have o1 := (((box2_new w 39 (.int .i64 x) (.int .i64 y)).alloc (by simp) (.cells #[.int .i64 0, .int .i64 0] 39)).below hb1 (by simp)).below hb2 (by omega)
  have o2 := box2_new (w.alloc (.cells #[.int .i64 x, .int .i64 y] 39)) 39 (.int .i64 0) (.int .i64 0)
  rw [World.size_alloc] at o2
  replace o2 := (o2.below hb1 (by simp)).below hb2 (by omega)
  go_wp2_with fail
  go_at_call 61
  refine (isArea_any _ _).mono ?_
  rintro _ _ ⟨rfl, rfl⟩
  go_wp2_with fail
  go_at_call 55
  refine (isDay_any _ _).mono ?_
  rintro _ _ ⟨rfl, rfl⟩
  go_wp2
  clear hc1 hc2 hb1 hb2 HW1 hR' hS' hb0 h2
  obtain ⟨b0, b1, b2, b3⟩ := box2 o1
  have hca := acell w2
  refine region_after_tail 10 (by kernel_rfl) (by kernel_rfl) ?_
  simp only [List.take_succ_cons, List.take_zero, List.drop_succ_cons, List.drop_zero]
  repeat (go_big_quiet_step ((first | (go_at_call 79; exact Calls.after (sunOn_any _ _ _ _ _ _ hm (Rd.after hS2 _))) | (go_at_call 78; exact Calls.after (loss_any _ _ _ _ _ h2'.out ha.1 ha.2 ho.1 ho.2)))))
  refine wpQuiet_nil ?_
  rintro _ ⟨z, rfl⟩
  have hsz := z.h.size
  have p1 := box2_set0 (o1.below z.h (by omega)) (.int .i64 (x - lossV x y area (onV G day m)))
  have p2 := (o2.below z.h (by omega)).agr (w' := z.w.setCell ⟨w.heap.size, 0, none⟩ (.int .i64 (x - lossV x y area (onV G day m)))) fun i h1 h2 => Below.heap_setCell _ _ _ _ (by simp; omega)
  have HW3 : Below w.heap.size w (z.w.setCell ⟨w.heap.size, 0, none⟩ (.int .i64 (x - lossV x y area (onV G day m)))) := (gr HW2 z.h).setCell (p := ⟨w.heap.size, 0, none⟩) (Nat.le_refl _) _
  have hs3 : w.heap.size + 1 < (z.w.setCell ⟨w.heap.size, 0, none⟩ (.int .i64 (x - lossV x y area (onV G day m)))).heap.size := by simp; omega
  have hR3 := Rd.below hRa HW3
  go_wp2_with fail
  generalize z.w.setCell ⟨w.heap.size, 0, none⟩ (.int .i64 (x - lossV x y area (onV G day m))) = w3 at p1 p2 HW3 hs3 hR3 ⊢
  clear hca b0 b1 b2 b3 hsz hz1 hy1
  have hs3' : w.heap.size < w3.heap.size := by omega
  obtain ⟨b0, b1, b2, b3⟩ := box2 p1
  go_wp2_with fail
  go_at_call 29
  refine (AfterRain_any _ _ _ _ _ _ _ _ _ _ hn hR3).mono ?_
  rintro _ w4 ⟨rfl, hb4⟩
  rw [HR.out]
  have hs4 := hb4.size
  clear b0 b1 b2 b3
  obtain ⟨b0, b1, b2, b3⟩ := box2 (p2.below hb4 (by omega))
  have HW4 := gr HW3 hb4
  go_wp2
  refine bodyPost_ret (v := .tuple #[.agg #[.int .i64 R.1, .int .i64 R.2.1], .bool R.2.2]) (by simp only [results, Try.results42]; go_simp) rfl ⟨rfl, ?_⟩
  (repeat' (first | exact Below.refl _ _ | assumption | refine Below.drew ?_ | refine Below.alloc ?_ (by first | omega | exact Below.size (by assumption) | (simp; done) | (simp; omega)) _ | refine Below.setCell ?_ (by first | omega | exact Below.size (by assumption) | (simp; done) | (simp; omega)) _))

set_option maxRecDepth 20000 in
set_option maxHeartbeats 2000000 in
theorem spec_NetOn_any (A : Option Addr) (n c : Nat) (F : Nat → Nat → Int) (A' : Option Addr) (m c' : Nat) (G : Nat → Nat → Int) (x y area day : Int) (w : World) (hn : n ≤ 1048576) (hm : m ≤ 1048576) (hRa : Rd w A n 2 (ints F)) (hSu : Rd w A' m 2 (ints G)) :
    Calls Try.prog 40 #[.slice A n c, .slice A' m c', .agg #[.int .i64 x, .int .i64 y], .int .i64 area, .int .i64 day] w fun e w' =>
      e = .returned (.tuple #[.agg #[.int .i64 (netOnR F n G m x y area day).1, .int .i64 (netOnR F n G m x y area day).2.1], .bool (netOnR F n G m x y area day).2.2]) ∧ Below w.heap.size w w' := by
  have hb0 : Below w.heap.size w ((w.alloc (.cells #[.int .i64 x, .int .i64 y] 39)).alloc (.cells #[.int .i64 0, .int .i64 0] 39)) := ((Below.refl _ _).alloc (Nat.le_refl _) _).alloc (by simp) _
  have hR' := Rd.below hRa hb0
  have hS' := Rd.below hSu hb0
  have HU := hide (show netOnR F n G m x y area day = if showsB F n && inB area 1 100000 && sunsB G m && brineB x y && inB day 0 4000 && brineB (x - lossV x y area (onV G day m) + onV F day n * area / 1000) y
    then (x - lossV x y area (onV G day m) + onV F day n * area / 1000, y, true) else (0, 0, false) from rfl)
  cases h1 : (showsB F n && inB area 1 100000)
  · have HR := hide (show netOnR F n G m x y area day = (0, 0, false) by rw [HU.out]; first | (rw [h1]; simp; done) | (rw [h1]; rfl))
    generalize netOnR F n G m x y area day = R at HR ⊢
    obtain rfl : R = (0, 0, false) := HR.out
    go_enter Try.func40, Try.ntmps40
    go_wp2_with fail
    go_at_call 58
    refine (l9Area_any _ _ _ _ _ _ hn hR').mono ?_
    rintro _ w1 ⟨rfl, hb1⟩
    have hz1 : w.heap.size + 1 < w1.heap.size := by have := hb1.size; simp at this; omega
    have hy1 : w.heap.size < w1.heap.size := by omega
    have hc1 := bcell hb1
    have HW1 := gr hb0 hb1
    have hS1 := Rd.below hS' hb1
    go_wp2
    refine bodyPost_ret (v := .tuple #[.agg #[.int .i64 0, .int .i64 0], .bool false]) (by simp only [results, Try.results40]; go_simp) rfl ⟨rfl, ?_⟩
    (repeat' (first | exact Below.refl _ _ | assumption | refine Below.drew ?_ | refine Below.alloc ?_ (by first | omega | exact Below.size (by assumption) | (simp; done) | (simp; omega)) _ | refine Below.setCell ?_ (by first | omega | exact Below.size (by assumption) | (simp; done) | (simp; omega)) _))
  cases h2 : sunsB G m
  · have HR := hide (show netOnR F n G m x y area day = (0, 0, false) by rw [HU.out]; first | (rw [h2]; simp; done) | (rw [h2]; rfl))
    generalize netOnR F n G m x y area day = R at HR ⊢
    obtain rfl : R = (0, 0, false) := HR.out
    go_enter Try.func40, Try.ntmps40
    go_wp2_with fail
    go_at_call 58
    refine (l9Area_any _ _ _ _ _ _ hn hR').mono ?_
    rintro _ w1 ⟨rfl, hb1⟩
    have hz1 : w.heap.size + 1 < w1.heap.size := by have := hb1.size; simp at this; omega
    have hy1 : w.heap.size < w1.heap.size := by omega
    have hc1 := bcell hb1
    have HW1 := gr hb0 hb1
    have hS1 := Rd.below hS' hb1
    go_wp2_with fail
    go_at_call 73
    refine (l6Good_any _ _ _ _ _ hm hS1).mono ?_
    rintro _ w2 ⟨rfl, hb2⟩
    have hz2 : w.heap.size + 1 < w2.heap.size := by have := hb2.size; omega
    have hy2 : w.heap.size < w2.heap.size := by omega
    have hc2 := bcell hb2
    have HW2 := gr HW1 hb2
    go_wp2
    refine bodyPost_ret (v := .tuple #[.agg #[.int .i64 0, .int .i64 0], .bool false]) (by simp only [results, Try.results40]; go_simp) rfl ⟨rfl, ?_⟩
    (repeat' (first | exact Below.refl _ _ | assumption | refine Below.drew ?_ | refine Below.alloc ?_ (by first | omega | exact Below.size (by assumption) | (simp; done) | (simp; omega)) _ | refine Below.setCell ?_ (by first | omega | exact Below.size (by assumption) | (simp; done) | (simp; omega)) _))
  cases h3 : brineB x y
  · have HR := hide (show netOnR F n G m x y area day = (0, 0, false) by rw [HU.out]; first | (rw [h3]; simp; done) | (rw [h3]; rfl))
    generalize netOnR F n G m x y area day = R at HR ⊢
    obtain rfl : R = (0, 0, false) := HR.out
    go_enter Try.func40, Try.ntmps40
    go_wp2_with fail
    go_at_call 58
    refine (l9Area_any _ _ _ _ _ _ hn hR').mono ?_
    rintro _ w1 ⟨rfl, hb1⟩
    have hz1 : w.heap.size + 1 < w1.heap.size := by have := hb1.size; simp at this; omega
    have hy1 : w.heap.size < w1.heap.size := by omega
    have hc1 := bcell hb1
    have HW1 := gr hb0 hb1
    have hS1 := Rd.below hS' hb1
    go_wp2_with fail
    go_at_call 73
    refine (l6Good_any _ _ _ _ _ hm hS1).mono ?_
    rintro _ w2 ⟨rfl, hb2⟩
    have hz2 : w.heap.size + 1 < w2.heap.size := by have := hb2.size; omega
    have hy2 : w.heap.size < w2.heap.size := by omega
    have hc2 := bcell hb2
    have HW2 := gr HW1 hb2
    go_wp2_with fail
    go_at_call 66
    refine (l2Brine_any _ _ _).mono ?_
    rintro _ w3 ⟨rfl, hb3⟩
    have hz3 : w.heap.size + 1 < w3.heap.size := by have := hb3.size; omega
    have hy3 : w.heap.size < w3.heap.size := by omega
    have hc3 := bcell hb3
    have HW3 := gr HW2 hb3
    go_wp2
    refine bodyPost_ret (v := .tuple #[.agg #[.int .i64 0, .int .i64 0], .bool false]) (by simp only [results, Try.results40]; go_simp) rfl ⟨rfl, ?_⟩
    (repeat' (first | exact Below.refl _ _ | assumption | refine Below.drew ?_ | refine Below.alloc ?_ (by first | omega | exact Below.size (by assumption) | (simp; done) | (simp; omega)) _ | refine Below.setCell ?_ (by first | omega | exact Below.size (by assumption) | (simp; done) | (simp; omega)) _))
  cases h4 : inB day 0 4000
  · have HR := hide (show netOnR F n G m x y area day = (0, 0, false) by rw [HU.out]; first | (rw [h4]; simp; done) | (rw [h4]; rfl))
    generalize netOnR F n G m x y area day = R at HR ⊢
    obtain rfl : R = (0, 0, false) := HR.out
    go_enter Try.func40, Try.ntmps40
    go_wp2_with fail
    go_at_call 58
    refine (l9Area_any _ _ _ _ _ _ hn hR').mono ?_
    rintro _ w1 ⟨rfl, hb1⟩
    have hz1 : w.heap.size + 1 < w1.heap.size := by have := hb1.size; simp at this; omega
    have hy1 : w.heap.size < w1.heap.size := by omega
    have hc1 := bcell hb1
    have HW1 := gr hb0 hb1
    have hS1 := Rd.below hS' hb1
    go_wp2_with fail
    go_at_call 73
    refine (l6Good_any _ _ _ _ _ hm hS1).mono ?_
    rintro _ w2 ⟨rfl, hb2⟩
    have hz2 : w.heap.size + 1 < w2.heap.size := by have := hb2.size; omega
    have hy2 : w.heap.size < w2.heap.size := by omega
    have hc2 := bcell hb2
    have HW2 := gr HW1 hb2
    go_wp2_with fail
    go_at_call 66
    refine (l2Brine_any _ _ _).mono ?_
    rintro _ w3 ⟨rfl, hb3⟩
    have hz3 : w.heap.size + 1 < w3.heap.size := by have := hb3.size; omega
    have hy3 : w.heap.size < w3.heap.size := by omega
    have hc3 := bcell hb3
    have HW3 := gr HW2 hb3
    go_wp2_with (first | (go_at_call 59; refine (l2Day_any _ _).mono ?_; rintro _ _ ⟨rfl, rfl⟩))
    refine bodyPost_ret (v := .tuple #[.agg #[.int .i64 0, .int .i64 0], .bool false]) (by simp only [results, Try.results40]; go_simp) rfl ⟨rfl, ?_⟩
    (repeat' (first | exact Below.refl _ _ | assumption | refine Below.drew ?_ | refine Below.alloc ?_ (by first | omega | exact Below.size (by assumption) | (simp; done) | (simp; omega)) _ | refine Below.setCell ?_ (by first | omega | exact Below.size (by assumption) | (simp; done) | (simp; omega)) _))
  have h11 : showsB F n = true := by simp only [Bool.and_eq_true] at h1; exact h1.1
  have h12 : inB area 1 100000 = true := by simp only [Bool.and_eq_true] at h1; exact h1.2
  have ho := onV_sun (day := day) h2
  have ha := inB_true h12
  have hl := lossV_bd h3 ha.1 ha.2 ho.1 ho.2
  have b := brineB_true h3
  have hk := onV_bound (F := F) (day := day) (n := n) (b := 200000) (by omega) (fun i hi => by have := ((showsB_at h11).2 i hi).2.1; omega)
  have k1 : 0 ≤ onV F day n * area := Int.mul_nonneg hk.1 (by omega)
  have k2 : onV F day n * area ≤ 200000 * 100000 := Int.mul_le_mul hk.2 ha.2 (by omega) (by omega)
  have HR : Hid (netOnR F n G m x y area day = if brineB (x - lossV x y area (onV G day m) + onV F day n * area / 1000) y then (x - lossV x y area (onV G day m) + onV F day n * area / 1000, y, true) else (0, 0, false)) := by
    unfold Hid; rw [HU.out, h11, h12, h2, h3, h4]; rfl
  generalize netOnR F n G m x y area day = R at HR ⊢
  have h3' := hide h3
  clear HU h11 h12
  go_enter Try.func40, Try.ntmps40
  go_wp2_with fail
  go_at_call 58
  refine (l9Area_any _ _ _ _ _ _ hn hR').mono ?_
  rintro _ w1 ⟨rfl, hb1⟩
  have hz1 : w.heap.size + 1 < w1.heap.size := by have := hb1.size; simp at this; omega
  have hy1 : w.heap.size < w1.heap.size := by omega
  have hc1 := bcell hb1
  have HW1 := gr hb0 hb1
  have hS1 := Rd.below hS' hb1
  go_wp2_with fail
  go_at_call 73
  refine (l6Good_any _ _ _ _ _ hm hS1).mono ?_
  rintro _ w2 ⟨rfl, hb2⟩
  have hz2 : w.heap.size + 1 < w2.heap.size := by have := hb2.size; omega
  have hy2 : w.heap.size < w2.heap.size := by omega
  have hc2 := bcell hb2
  have HW2 := gr HW1 hb2
  go_wp2_with fail
  go_at_call 66
  refine (l2Brine_any _ _ _).mono ?_
  rintro _ w3 ⟨rfl, hb3⟩
  have hz3 : w.heap.size + 1 < w3.heap.size := by have := hb3.size; omega
  have hy3 : w.heap.size < w3.heap.size := by omega
  have hc3 := bcell hb3
  have HW3 := gr HW2 hb3
  have hS2 := Rd.below hS' (gr hb1 (gr hb2 hb3))
  have hR2 := Rd.below hR' (gr hb1 (gr hb2 hb3))
  have o1 := ((((box2_new w 39 (.int .i64 x) (.int .i64 y)).alloc (by simp) (.cells #[.int .i64 0, .int .i64 0] 39)).below hb1 (by simp)).below hb2 (by omega)).below hb3 (by omega)
  have o2 := box2_new (w.alloc (.cells #[.int .i64 x, .int .i64 y] 39)) 39 (.int .i64 0) (.int .i64 0)
  rw [World.size_alloc] at o2
  replace o2 := ((o2.below hb1 (by simp)).below hb2 (by omega)).below hb3 (by omega)
  go_wp2_with fail
  go_at_call 59
  refine (l2Day_any _ _).mono ?_
  rintro _ _ ⟨rfl, rfl⟩
  go_wp2
  clear hc1 hc2 hc3 hb1 hb2 hb3 HW1 HW2 hR' hS' hS1 hb0 h3 h1
  obtain ⟨b0, b1, b2, b3⟩ := box2 o1
  have hca := acell w3
  refine region_after (by kernel_rfl) (by kernel_rfl) ?_
  repeat (go_big_quiet_step ((first | (go_at_call 75; exact Calls.after (l6On_any _ _ _ _ _ _ hm (Rd.after hS2 _))) | (go_at_call 74; exact Calls.after (l6Loss_any _ _ _ _ _ h3'.out ha.1 ha.2 ho.1 ho.2)) | (go_at_call 62; exact Calls.after (l9On_any _ _ _ _ _ _ hn (Rd.after hR2 _))))))
  refine wpQuiet_nil ?_
  rintro _ ⟨z, rfl⟩
  have hsz := z.h.size
  have p1 := o1.below z.h (by omega)
  have p2 := o2.below z.h (by omega)
  have HW4 := gr HW3 z.h
  have hz4 : w.heap.size + 1 < z.w.heap.size := by omega
  have hy4 : w.heap.size < z.w.heap.size := by omega
  generalize z.w = w4 at p1 p2 HW4 hz4 hy4 ⊢
  clear hca b0 b1 b2 b3 hsz hz1 hy1 hz2 hy2 hz3 hy3 o1 o2 hS2 hR2 z
  generalize x - lossV x y area (onV G day m) + onV F day n * area / 1000 = W at HR ⊢
  cases h5 : brineB W y
  · obtain rfl : R = (0, 0, false) := by rw [HR.out, h5]; rfl
    obtain ⟨b0, b1, b2, b3⟩ := box2 p1
    obtain ⟨r0, r1, r2, r3⟩ := box2 p2
    go_wp2_with fail
    go_at_call 66
    refine (l2Brine_any _ _ _).mono ?_
    rintro _ w5 ⟨rfl, hb5⟩
    have hz5 : w.heap.size + 1 < w5.heap.size := by have := hb5.size; simp at this; omega
    have hq5 : w4.heap.size < w5.heap.size := by have := hb5.size; simp at this; omega
    have hc5 := bcell hb5
    have HW5 := gr (HW4.alloc HW4.size _) hb5
    go_wp2
    refine bodyPost_ret (v := .tuple #[.agg #[.int .i64 0, .int .i64 0], .bool false]) (by simp only [results, Try.results40]; go_simp) rfl ⟨rfl, ?_⟩
    (repeat' (first | exact Below.refl _ _ | assumption | refine Below.drew ?_ | refine Below.alloc ?_ (by first | omega | exact Below.size (by assumption) | (simp; done) | (simp; omega)) _ | refine Below.setCell ?_ (by first | omega | exact Below.size (by assumption) | (simp; done) | (simp; omega)) _))
  · obtain rfl : R = (W, y, true) := by rw [HR.out, h5]; rfl
    obtain ⟨b0, b1, b2, b3⟩ := box2 p1
    obtain ⟨r0, r1, r2, r3⟩ := box2 p2
    go_wp2_with fail
    go_at_call 66
    refine (l2Brine_any _ _ _).mono ?_
    rintro _ w5 ⟨rfl, hb5⟩
    have hz5 : w.heap.size + 1 < w5.heap.size := by have := hb5.size; simp at this; omega
    have hq5 : w4.heap.size < w5.heap.size := by have := hb5.size; simp at this; omega
    have hc5 := bcell hb5
    have HW5 := gr (HW4.alloc HW4.size _) hb5
    go_wp2
    refine bodyPost_ret (v := .tuple #[.agg #[.int .i64 W, .int .i64 y], .bool true]) (by simp only [results, Try.results40]; go_simp) rfl ⟨rfl, ?_⟩
    (repeat' (first | exact Below.refl _ _ | assumption | refine Below.drew ?_ | refine Below.alloc ?_ (by first | omega | exact Below.size (by assumption) | (simp; done) | (simp; omega)) _ | refine Below.setCell ?_ (by first | omega | exact Below.size (by assumption) | (simp; done) | (simp; omega)) _))
end Go.Proofs.Ytcjjpkleipjibaa
