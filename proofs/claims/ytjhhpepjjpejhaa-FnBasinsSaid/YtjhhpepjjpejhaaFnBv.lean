/-
  Contracts for the law FnBasins: IsStronger, and the contracts on series with named results. Conditions: lengths up to 2^20, valid brines.
-/
import Derived.Test.YtjhhpepjjpejhaaSerL
import Derived.Test.YtjhhpepjjpejhaaSerB
import Derived.Test.YtjhhpepjjpejhaaSerC
import Derived.Test.YtjhhpepjjpejhaaSerD
import Derived.Test.YtjhhpepjjpejhaaSerV
import Derived.Test.YtjhhpepjjpejhaaOrdC
import Derived.Test.YtjhhpepjjpejhaaOrdD
import Derived.Test.YtjhhpepjjpejhaaDrY
import Derived.Test.YtjhhpepjjpejhaaCuB
namespace Go.Proofs.Ytjhhpepjjpejhaa
open Go.RowKit

set_option maxHeartbeats 2000000 in
theorem IsStronger_any (x y p q : Int) (w : World) (h1 : brineB x y = true) (h2 : brineB p q = true) :
    Calls Try.prog 31 #[.agg #[.int .i64 x, .int .i64 y], .agg #[.int .i64 p, .int .i64 q]] w fun e w' => e = .returned (.tuple #[.bool (strongerR x y p q).1, .bool (strongerR x y p q).2]) ∧ Below w.heap.size w w' := by
  obtain ⟨⟨x0, x1⟩, y0, y1⟩ := brineB_true h1
  obtain ⟨⟨u0, u1⟩, v0, v1⟩ := brineB_true h2
  have H1 := hide h1
  have H2 := hide h2
  clear h1 h2
  go_enter Try.func31, Try.ntmps31
  go_upto_region 1 with fail
  have hX := (Box2.new w 47 (.int .i64 x) (.int .i64 y)).alloc (.cells #[.int .i64 p, .int .i64 q] 47)
  have hY := Box2.new (w.alloc (.cells #[.int .i64 x, .int .i64 y] 47)) 47 (.int .i64 p) (.int .i64 q)
  have hbA : Below w.heap.size w ((w.alloc (.cells #[.int .i64 x, .int .i64 y] 47)).alloc (.cells #[.int .i64 p, .int .i64 q] 47)) := ((Below.refl _ _).alloc (Nat.le_refl _) _).alloc (by simp) _
  have hs1 : (w.alloc (.cells #[.int .i64 x, .int .i64 y] 47)).heap.size = w.heap.size + 1 := by simp
  rw [hs1] at hY
  clear hs1
  generalize (w.alloc (.cells #[.int .i64 x, .int .i64 y] 47)).alloc (.cells #[.int .i64 p, .int .i64 q] 47) = W at hX hY hbA ⊢
  obtain ⟨kX, p0, p1, -, -⟩ := hX
  obtain ⟨kY, q0, q1, -, -⟩ := hY
  go_wp2_with fail
  go_at_call 41
  refine (IsBrine_any _ _ _).mono ?_
  rintro _ w1 ⟨rfl, hb⟩
  rw [H1.out]
  replace p0 := (Below.cell hb (p := ⟨w.heap.size, 0, none⟩) kX).trans p0
  replace p1 := (Below.cell hb (p := ⟨w.heap.size, 1, none⟩) kX).trans p1
  replace q0 := (Below.cell hb (p := ⟨w.heap.size + 1, 0, none⟩) kY).trans q0
  replace q1 := (Below.cell hb (p := ⟨w.heap.size + 1, 1, none⟩) kY).trans q1
  replace kX := Nat.lt_of_lt_of_le kX (Below.size hb)
  replace kY := Nat.lt_of_lt_of_le kY (Below.size hb)
  replace hbA := gr hbA hb
  clear hb
  go_wp2_with fail
  go_at_call 41
  refine (IsBrine_any _ _ _).mono ?_
  rintro _ w2 ⟨rfl, hb⟩
  rw [H2.out]
  replace p0 := (Below.cell hb (p := ⟨w.heap.size, 0, none⟩) kX).trans p0
  replace p1 := (Below.cell hb (p := ⟨w.heap.size, 1, none⟩) kX).trans p1
  replace q0 := (Below.cell hb (p := ⟨w.heap.size + 1, 0, none⟩) kY).trans q0
  replace q1 := (Below.cell hb (p := ⟨w.heap.size + 1, 1, none⟩) kY).trans q1
  replace kX := Nat.lt_of_lt_of_le kX (Below.size hb)
  replace kY := Nat.lt_of_lt_of_le kY (Below.size hb)
  replace hbA := gr hbA hb
  clear hb
  by_cases hm1 : x + y = 0
  · have HR := hide (show strongerR x y p q = (false, false) by simp [strongerR, hm1])
    have hd : ((x + y) == 0) = true := by simpa using hm1
    clear hm1
    go_wp2_with fail
    go_at_call 45
    refine (mass_any _ _ _ (by omega) (by omega) (by omega) (by omega)).mono ?_
    rintro _ w3 ⟨rfl, hb⟩
    replace p0 := (Below.cell hb (p := ⟨w.heap.size, 0, none⟩) kX).trans p0
    replace p1 := (Below.cell hb (p := ⟨w.heap.size, 1, none⟩) kX).trans p1
    replace q0 := (Below.cell hb (p := ⟨w.heap.size + 1, 0, none⟩) kY).trans q0
    replace q1 := (Below.cell hb (p := ⟨w.heap.size + 1, 1, none⟩) kY).trans q1
    replace kX := Nat.lt_of_lt_of_le kX (Below.size hb)
    replace kY := Nat.lt_of_lt_of_le kY (Below.size hb)
    replace hbA := gr hbA hb
    clear hb
    go_wp2
    go_ret2
    exact ⟨by rw [HR.out]; rfl, hbA⟩
  · have hd : ((x + y) == 0) = false := by simpa using hm1
    go_wp2_with fail
    go_at_call 45
    refine (mass_any _ _ _ (by omega) (by omega) (by omega) (by omega)).mono ?_
    rintro _ w3 ⟨rfl, hb⟩
    replace p0 := (Below.cell hb (p := ⟨w.heap.size, 0, none⟩) kX).trans p0
    replace p1 := (Below.cell hb (p := ⟨w.heap.size, 1, none⟩) kX).trans p1
    replace q0 := (Below.cell hb (p := ⟨w.heap.size + 1, 0, none⟩) kY).trans q0
    replace q1 := (Below.cell hb (p := ⟨w.heap.size + 1, 1, none⟩) kY).trans q1
    replace kX := Nat.lt_of_lt_of_le kX (Below.size hb)
    replace kY := Nat.lt_of_lt_of_le kY (Below.size hb)
    replace hbA := gr hbA hb
    clear hb
    by_cases hm2 : p + q = 0
    · have HR := hide (show strongerR x y p q = (false, false) by simp [strongerR, hm2])
      have hd2 : ((p + q) == 0) = true := by simpa using hm2
      clear hm1 hm2
      go_wp2_with fail
      go_at_call 45
      refine (mass_any _ _ _ (by omega) (by omega) (by omega) (by omega)).mono ?_
      rintro _ w4 ⟨rfl, hb⟩
      replace p0 := (Below.cell hb (p := ⟨w.heap.size, 0, none⟩) kX).trans p0
      replace p1 := (Below.cell hb (p := ⟨w.heap.size, 1, none⟩) kX).trans p1
      replace q0 := (Below.cell hb (p := ⟨w.heap.size + 1, 0, none⟩) kY).trans q0
      replace q1 := (Below.cell hb (p := ⟨w.heap.size + 1, 1, none⟩) kY).trans q1
      replace kX := Nat.lt_of_lt_of_le kX (Below.size hb)
      replace kY := Nat.lt_of_lt_of_le kY (Below.size hb)
      replace hbA := gr hbA hb
      clear hb
      go_wp2
      go_ret2
      exact ⟨by rw [HR.out]; rfl, hbA⟩
    · have HR := hide (show strongerR x y p q = (decide (q * (x + y) < y * (p + q)), true) by simp [strongerR, hm1, hm2])
      have hd2 : ((p + q) == 0) = false := by simpa using hm2
      clear hm1 hm2
      go_wp2_with fail
      go_at_call 45
      refine (mass_any _ _ _ (by omega) (by omega) (by omega) (by omega)).mono ?_
      rintro _ w4 ⟨rfl, hb⟩
      replace p0 := (Below.cell hb (p := ⟨w.heap.size, 0, none⟩) kX).trans p0
      replace p1 := (Below.cell hb (p := ⟨w.heap.size, 1, none⟩) kX).trans p1
      replace q0 := (Below.cell hb (p := ⟨w.heap.size + 1, 0, none⟩) kY).trans q0
      replace q1 := (Below.cell hb (p := ⟨w.heap.size + 1, 1, none⟩) kY).trans q1
      replace kX := Nat.lt_of_lt_of_le kX (Below.size hb)
      replace kY := Nat.lt_of_lt_of_le kY (Below.size hb)
      replace hbA := gr hbA hb
      clear hb
      obtain ⟨b1, b2⟩ := mul_bd y0 y1 (show 0 ≤ p + q by omega) (show p + q ≤ 2000000 by omega)
      obtain ⟨b3, b4⟩ := mul_bd v0 v1 (show 0 ≤ x + y by omega) (show x + y ≤ 2000000 by omega)
      have d0 := fun z : After w4 => z.cell p0 kX
      have d1 := fun z : After w4 => z.cell p1 kX
      have d2 := fun z : After w4 => z.cell q0 kY
      have d3 := fun z : After w4 => z.cell q1 kY
      clear p0 p1 q0 q1
      go_wp2
      refine region_after (by kernel_rfl) (by kernel_rfl) ?_
      repeat (go_big_quiet_step ((first | (go_at_call 45; exact Calls.after (mass_any _ _ _ (by assumption) (by omega) (by assumption) (by omega))))))
      refine wpQuiet_nil ?_
      rintro _ ⟨z, rfl⟩
      go_wp2
      go_ret2
      exact ⟨by rw [HR.out]; rfl, gr hbA z.h⟩
theorem IsStronger_w (x y p q : Int) (w : World) {s o : Bool} (h1 : brineB x y = true) (h2 : brineB p q = true) (hE : strongerR x y p q = (s, o)) :
    Calls Try.prog 31 #[.agg #[.int .i64 x, .int .i64 y], .agg #[.int .i64 p, .int .i64 q]] w fun e w' => e = .returned (.tuple #[.bool s, .bool o]) ∧ Below w.heap.size w w' := by
  have := IsStronger_any x y p q w h1 h2
  rw [hE] at this
  exact this
theorem StrongestBasin_w (A : Option Addr) (n c : Nat) (F : Nat → Nat → Int) (w : World) {x : Int} {T : Bool} (hn : n ≤ 1048576) (h : Rd w A n 3 (ints F)) (hE : strongestR F n = (x, T)) :
    Calls Try.prog 15 #[.slice A n c] w fun e w' => e = .returned (.tuple #[.int .i64 x, .bool T]) ∧ Below w.heap.size w w' := by
  have := StrongestBasin_any A n c F w hn h
  rw [hE] at this
  exact this
theorem spec_StrongestBasin_w (A : Option Addr) (n c : Nat) (F : Nat → Nat → Int) (w : World) {x : Int} {T : Bool} (hn : n ≤ 1048576) (h : Rd w A n 3 (ints F)) (hE : strongestR F n = (x, T)) :
    Calls Try.prog 14 #[.slice A n c] w fun e w' => e = .returned (.tuple #[.int .i64 x, .bool T]) ∧ Below w.heap.size w w' := by
  have := spec_StrongestBasin_any A n c F w hn h
  rw [hE] at this
  exact this
theorem IsRising_w (A : Option Addr) (n c : Nat) (F : Nat → Nat → Int) (w : World) {x T : Bool} (hn : n ≤ 1048576) (h : Rd w A n 3 (ints F)) (hE : risingR F n = (x, T)) :
    Calls Try.prog 17 #[.slice A n c] w fun e w' => e = .returned (.tuple #[.bool x, .bool T]) ∧ Below w.heap.size w w' := by
  have := IsRising_any A n c F w hn h
  rw [hE] at this
  exact this
theorem spec_IsRising_w (A : Option Addr) (n c : Nat) (F : Nat → Nat → Int) (w : World) {x T : Bool} (hn : n ≤ 1048576) (h : Rd w A n 3 (ints F)) (hE : risingR F n = (x, T)) :
    Calls Try.prog 16 #[.slice A n c] w fun e w' => e = .returned (.tuple #[.bool x, .bool T]) ∧ Below w.heap.size w w' := by
  have := spec_IsRising_any A n c F w hn h
  rw [hE] at this
  exact this
theorem SunOnSeries_w (A : Option Addr) (n c : Nat) (F : Nat → Nat → Int) (rate : Int) (w : World) {N : Nat} {g : Int} {ok : Bool} {G : Nat → Nat → Int} (hn : n ≤ 1048576) (h : Rd w A n 3 (ints F)) (h1 : sunSerN F n rate = N) (h2 : sunSerG F n rate = g) (h3 : sunSerB F n rate = ok) (h4 : sunT F rate = G) :
    Calls Try.prog 19 #[.slice A n c, .int .i64 rate] w fun e w' => ∃ A' c', e = .returned (.tuple #[.slice A' N c', .int .i64 g, .bool ok]) ∧ Rd w' A' N 3 (ints G) ∧ Below w.heap.size w w' :=
  (SunOnSeries_any A n c F rate w hn h).mono fun e w' ⟨A', c', he, hO, hb⟩ => by
    subst h1 h2 h3 h4
    exact ⟨A', c', he, hO.sl.rd (Nat.le_refl _), hb⟩
theorem spec_SunOnSeries_w (A : Option Addr) (n c : Nat) (F : Nat → Nat → Int) (rate : Int) (w : World) {N : Nat} {g : Int} {ok : Bool} {G : Nat → Nat → Int} (hn : n ≤ 1048576) (h : Rd w A n 3 (ints F)) (h1 : sunSerN F n rate = N) (h2 : sunSerG F n rate = g) (h3 : sunSerB F n rate = ok) (h4 : sunT F rate = G) :
    Calls Try.prog 18 #[.slice A n c, .int .i64 rate] w fun e w' => ∃ A' c', e = .returned (.tuple #[.slice A' N c', .int .i64 g, .bool ok]) ∧ Rd w' A' N 3 (ints G) ∧ Below w.heap.size w w' :=
  (spec_SunOnSeries_any A n c F rate w hn h).mono fun e w' ⟨A', c', he, hO, hb⟩ => by
    subst h1 h2 h3 h4
    exact ⟨A', c', he, hO.sl.rd (Nat.le_refl _), hb⟩
theorem DepthOrder_w (A : Option Addr) (n c : Nat) (F : Nat → Nat → Int) (w : World) {N : Nat} {ok : Bool} {G : Nat → Nat → Int} (hn : n ≤ 1048576) (h : Rd w A n 3 (ints F)) (h1 : ordLen F n = N) (h3 : seriesB F n = ok) (h4 : ordI F n = G) :
    Calls Try.prog 23 #[.slice A n c] w fun e w' => ∃ A' c', e = .returned (.tuple #[.slice A' N c', .bool ok]) ∧ Rd w' A' N 1 (ints G) ∧ Below w.heap.size w w' :=
  (DepthOrder_any A n c F w hn h).mono fun e w' ⟨A', c', he, hO, hb⟩ => by
    subst h1 h3 h4
    exact ⟨A', c', he, hO.sl.rd (Nat.le_refl _), hb⟩
theorem spec_DepthOrder_w (A : Option Addr) (n c : Nat) (F : Nat → Nat → Int) (w : World) {N : Nat} {ok : Bool} {G : Nat → Nat → Int} (hn : n ≤ 1048576) (h : Rd w A n 3 (ints F)) (h1 : ordLen F n = N) (h3 : seriesB F n = ok) (h4 : ordI F n = G) :
    Calls Try.prog 22 #[.slice A n c] w fun e w' => ∃ A' c', e = .returned (.tuple #[.slice A' N c', .bool ok]) ∧ Rd w' A' N 1 (ints G) ∧ Below w.heap.size w w' :=
  (spec_DepthOrder_any A n c F w hn h).mono fun e w' ⟨A', c', he, hO, hb⟩ => by
    subst h1 h3 h4
    exact ⟨A', c', he, hO.sl.rd (Nat.le_refl _), hb⟩
end Go.Proofs.Ytjhhpepjjpejhaa
