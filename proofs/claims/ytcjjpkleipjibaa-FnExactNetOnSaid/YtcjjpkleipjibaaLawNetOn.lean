/-
  The law FnExactNetOn: for all arguments the program's NetOn returns what the reference's returns. Conditions: none.
-/
import Derived.Test.YtcjjpkleipjibaaRainH
import Derived.Test.YtcjjpkleipjibaaShow
import Derived.Test.YtcjjpkleipjibaaSunT
import Derived.Test.YtcjjpkleipjibaaOpen
import Derived.Test.YtcjjpkleipjibaaLaid
namespace Go.Proofs.Ytcjjpkleipjibaa
open Go.ChangeShapes Go.WideShapes Go.ChangeAt Go.RowKit
attribute [local go_sem ↓] Go.wp_at_zero Go.wp_at_succ

set_option maxRecDepth 20000 in
set_option maxHeartbeats 4000000 in
theorem law_NetOn (a0 : Option Addr) (l0 c0 : Nat) (F0 : Nat → Nat → Int) (a1 : Option Addr) (l1 c1 : Nat) (F1 : Nat → Nat → Int) (x y : Int) (z3 : Int) (z4 : Int) (w : World) (hm0 : l0 ≤ maxLen) (w0 : Rd w a0 l0 2 (ints F0)) (hm1 : l1 ≤ maxLen) (w1 : Rd w a1 l1 2 (ints F1)) :
    Calls Try.prog 11 #[.slice a0 l0 c0, .slice a1 l1 c1, .agg #[.int .i64 x, .int .i64 y], .int .i64 z3, .int .i64 z4] w fun e w' => e = .returned (.bool true) ∧ Below w.heap.size w w' := by
  have hn0 : l0 ≤ 9223372036854775807 := by simpa [maxLen] using hm0
  have hn1 : l1 ≤ 9223372036854775807 := by simpa [maxLen] using hm1
  clear hm0 hm1
  by_cases hbig0 : (l0 : Int) ≤ 1048576
  rotate_left
  · have hsz0 : szR (1048576) l0 = -1 := by unfold szR; rw [if_pos (by omega)]
    go_enter Try.func11, Try.ntmps11
    go_wp2_with fail
    go_at_call 14
    refine (szShowerS_any _ _ _ _ _ hn0 (by omega) (by omega)).mono ?_
    rintro _ _ ⟨rfl, rfl⟩
    go_wp2
    go_ret
    exact ⟨rfl, (by (repeat' (first | exact Below.refl _ _ | assumption | refine Below.drew ?_ | refine Below.alloc ?_ (by first | omega | exact Below.size (by assumption) | (simp; done) | (simp; omega)) _ | refine Below.setCell ?_ (by first | omega | exact Below.size (by assumption) | (simp; done) | (simp; omega)) _)))⟩
  have hsz0 : szR (1048576) l0 = 1048576 - l0 := by unfold szR; rw [if_neg (by omega)]
  by_cases hbig1 : (l1 : Int) ≤ 1048576 - l0
  rotate_left
  · have hsz1 : szR (1048576 - l0) l1 = -1 := by unfold szR; rw [if_pos (by omega)]
    go_enter Try.func11, Try.ntmps11
    go_wp2_with fail
    go_at_call 14
    refine (szShowerS_any _ _ _ _ _ hn0 (by omega) (by omega)).mono ?_
    rintro _ _ ⟨rfl, rfl⟩
    go_wp2_with fail
    go_at_call 39
    refine (szSunS_any _ _ _ _ _ hn1 (by omega) (by omega)).mono ?_
    rintro _ _ ⟨rfl, rfl⟩
    go_wp2
    go_ret
    exact ⟨rfl, (by (repeat' (first | exact Below.refl _ _ | assumption | refine Below.drew ?_ | refine Below.alloc ?_ (by first | omega | exact Below.size (by assumption) | (simp; done) | (simp; omega)) _ | refine Below.setCell ?_ (by first | omega | exact Below.size (by assumption) | (simp; done) | (simp; omega)) _)))⟩
  have hsz1 : szR (1048576 - l0) l1 = 1048576 - l0 - l1 := by unfold szR; rw [if_neg (by omega)]
  have hnn0 : l0 ≤ 1048576 := by omega
  have hnn1 : l1 ≤ 1048576 := by omega
  go_enter Try.func11, Try.ntmps11
  go_wp2_with fail
  go_at_call 14
  refine (szShowerS_any _ _ _ _ _ hn0 (by omega) (by omega)).mono ?_
  rintro _ _ ⟨rfl, rfl⟩
  go_wp2_with fail
  go_at_call 39
  refine (szSunS_any _ _ _ _ _ hn1 (by omega) (by omega)).mono ?_
  rintro _ _ ⟨rfl, rfl⟩
  go_upto_region 8 with fail
  have hb_W : Below w.heap.size w (w.alloc (.cells #[.int .i64 x, .int .i64 y] 38)) := (Below.refl _ _).alloc (Nat.le_refl _) _
  have gc1 : World.cell? (w.alloc (.cells #[.int .i64 x, .int .i64 y] 38)) ⟨w.heap.size, 0, none⟩ = some (.int .i64 x) := by go_simp
  have gc2 : World.cell? (w.alloc (.cells #[.int .i64 x, .int .i64 y] 38)) ⟨w.heap.size, 1, none⟩ = some (.int .i64 y) := by go_simp
  have hz_W : w.heap.size < (w.alloc (.cells #[.int .i64 x, .int .i64 y] 38)).heap.size := by simp
  generalize w.alloc (.cells #[.int .i64 x, .int .i64 y] 38) = W at hb_W gc1 gc2 hz_W ⊢
  replace w0 := Rd.below w0 hb_W
  replace w1 := Rd.below w1 hb_W
  have ha0 : ∀ w', Below W.heap.size W w' → w'.cell? ⟨w.heap.size, 0, none⟩ = some (.int .i64 x) := fun w' hb => (hb.cell (by exact hz_W)).trans gc1
  have ha1 : ∀ w', Below W.heap.size W w' → w'.cell? ⟨w.heap.size, 1, none⟩ = some (.int .i64 y) := fun w' hb => (hb.cell (by exact hz_W)).trans gc2
  clear gc1 gc2
  go_cut [12, 13] (fun s t wx => ∃ e : Nat, s = .pointer (some ⟨e, 0, none⟩) ∧ t = .bool (netOnR F0 l0 F1 l1 x y z3 z4).2.2 ∧ Below W.heap.size W wx ∧ W.heap.size ≤ e ∧ e < wx.heap.size ∧
     wx.cell? ⟨e, 0, none⟩ = some (.int .i64 (netOnR F0 l0 F1 l1 x y z3 z4).1) ∧ wx.cell? ⟨e, 1, none⟩ = some (.int .i64 (netOnR F0 l0 F1 l1 x y z3 z4).2.1))
  case first =>
    go_region_held3 (fun w' => Below W.heap.size W w') ((repeat' (first | exact Below.refl _ _ | assumption | refine Below.drew ?_ | refine Below.alloc ?_ (by first | omega | exact Below.size (by assumption) | (simp; done) | (simp; omega)) _ | refine Below.setCell ?_ (by first | omega | exact Below.size (by assumption) | (simp; done) | (simp; omega)) _))) (first | (go_at_call 16; refine (toShowerS_any _ _ _ _ _ hnn0 (Rd.below w0 (by assumption))).mono ?_; rintro _ v1 ⟨g1, rfl, o1, hb1⟩; have B1 := gr (by assumption : Below W.heap.size W _) hb1; have s1 := hb1.size; (try simp at s1); have q1 := bcell hb1; (try have t1W : W.heap.size < v1.heap.size := by omega); have r0_1 := Sl.rd o1.sl (Nat.le_refl _); clear o1) | (go_at_call 41; refine (toSunS_any _ _ _ _ _ hnn1 (Rd.below w1 (by assumption))).mono ?_; rintro _ v2 ⟨g2, rfl, o2, hb2⟩; have B2 := gr (by assumption : Below W.heap.size W _) hb2; have s2 := hb2.size; (try simp at s2); have q2 := bcell hb2; (try have t2W : W.heap.size < v2.heap.size := by omega); (try have t2v1 : v1.heap.size < v2.heap.size := by omega); have r0_2 := Rd.below (by first | exact r0_1 | exact Rd.alloc r0_1 _) hb2; clear r0_1; have r1_2 := Sl.rd o2.sl (Nat.le_refl _); clear o2) | (go_at_call 28; refine (toBrine_any _ _ _).mono ?_; rintro _ v3 ⟨rfl, hb3⟩; have B3 := gr (by assumption : Below W.heap.size W _) hb3; have s3 := hb3.size; (try simp at s3); have q3 := bcell hb3; (try have t3W : W.heap.size < v3.heap.size := by omega); (try have t3v1 : v1.heap.size < v3.heap.size := by omega); (try have t3v2 : v2.heap.size < v3.heap.size := by omega); have r0_3 := Rd.below (by first | exact r0_2 | exact Rd.alloc r0_2 _) hb3; clear r0_2; have r1_3 := Rd.below (by first | exact r1_2 | exact Rd.alloc r1_2 _) hb3; clear r1_2) | (go_at_call 40; refine (spec_NetOn_any _ _ _ _ _ _ _ _ _ _ _ _ _ hnn0 hnn1 (by first | exact r0_3 | exact Rd.alloc r0_3 _) (by first | exact r1_3 | exact Rd.alloc r1_3 _)).mono ?_; rintro _ v4 ⟨rfl, hb4⟩; have B4 := gr (by assumption : Below W.heap.size W _) hb4; have s4 := hb4.size; (try simp at s4); have q4 := bcell hb4; (try have t4W : W.heap.size < v4.heap.size := by omega); (try have t4v1 : v1.heap.size < v4.heap.size := by omega); (try have t4v2 : v2.heap.size < v4.heap.size := by omega); (try have t4v3 : v3.heap.size < v4.heap.size := by omega)))
    all_goals
      go_wp2_with fail
      go_meet
      refine ⟨_, rfl, rfl, (by (repeat' (first | exact Below.refl _ _ | assumption | refine Below.drew ?_ | refine Below.alloc ?_ (by first | omega | exact Below.size (by assumption) | (simp; done) | (simp; omega)) _ | refine Below.setCell ?_ (by first | omega | exact Below.size (by assumption) | (simp; done) | (simp; omega)) _))), ?_, ?_, ?_, ?_⟩
      · omega
      · simp <;> omega
      · go_simp
      · go_simp
  case rest =>
    obtain ⟨e1, rfl, rfl, hbA, hle, hlt, k0, k1⟩ := hcut
    have hzc : w.heap.size < wc.heap.size := Nat.lt_of_lt_of_le hz_W hbA.size
    have c0 := ha0 _ hbA
    have c1 := ha1 _ hbA
    replace w0 := Rd.below w0 hbA
    replace w1 := Rd.below w1 hbA
    replace hbA := gr hb_W hbA
    clear ha0 ha1 hb_W hz_W
    go_wp2_with fail
    go_at_call 16
    refine (toShowerS_any _ _ _ _ _ hnn0 w0).mono ?_
    rintro _ v101 ⟨gx0, rfl, ox0, hb101⟩
    replace c0 := (hb101.cell (p := ⟨w.heap.size, 0, none⟩) hzc).trans c0
    replace c1 := (hb101.cell (p := ⟨w.heap.size, 1, none⟩) hzc).trans c1
    replace hzc := Nat.lt_of_lt_of_le hzc hb101.size
    replace k0 := (hb101.cell (p := ⟨e1, 0, none⟩) hlt).trans k0
    replace k1 := (hb101.cell (p := ⟨e1, 1, none⟩) hlt).trans k1
    replace hlt := Nat.lt_of_lt_of_le hlt hb101.size
    replace w0 := Rd.below w0 hb101
    replace w1 := Rd.below w1 hb101
    replace hbA := gr hbA hb101
    have rx0 := Sl.rd ox0.sl (Nat.le_refl _)
    clear ox0
    go_wp2_with fail
    go_at_call 41
    refine (toSunS_any _ _ _ _ _ hnn1 w1).mono ?_
    rintro _ v102 ⟨gx1, rfl, ox1, hb102⟩
    replace c0 := (hb102.cell (p := ⟨w.heap.size, 0, none⟩) hzc).trans c0
    replace c1 := (hb102.cell (p := ⟨w.heap.size, 1, none⟩) hzc).trans c1
    replace hzc := Nat.lt_of_lt_of_le hzc hb102.size
    replace k0 := (hb102.cell (p := ⟨e1, 0, none⟩) hlt).trans k0
    replace k1 := (hb102.cell (p := ⟨e1, 1, none⟩) hlt).trans k1
    replace hlt := Nat.lt_of_lt_of_le hlt hb102.size
    replace w0 := Rd.below w0 hb102
    replace w1 := Rd.below w1 hb102
    replace rx0 := Rd.below rx0 hb102
    replace hbA := gr hbA hb102
    have rx1 := Sl.rd ox1.sl (Nat.le_refl _)
    clear ox1
    go_wp2_with fail
    go_at_call 28
    refine (toBrine_any _ _ _).mono ?_
    rintro _ v103 ⟨rfl, hb103⟩
    replace c0 := (hb103.cell (p := ⟨w.heap.size, 0, none⟩) hzc).trans c0
    replace c1 := (hb103.cell (p := ⟨w.heap.size, 1, none⟩) hzc).trans c1
    replace hzc := Nat.lt_of_lt_of_le hzc hb103.size
    replace k0 := (hb103.cell (p := ⟨e1, 0, none⟩) hlt).trans k0
    replace k1 := (hb103.cell (p := ⟨e1, 1, none⟩) hlt).trans k1
    replace hlt := Nat.lt_of_lt_of_le hlt hb103.size
    replace w0 := Rd.below w0 hb103
    replace w1 := Rd.below w1 hb103
    replace rx0 := Rd.below rx0 hb103
    replace rx1 := Rd.below rx1 hb103
    replace hbA := gr hbA hb103
    go_wp2_with fail
    go_at_call 42
    refine (NetOn_any _ _ _ _ _ _ _ _ _ _ _ _ _ hnn0 hnn1 rx0 rx1).mono ?_
    rintro _ v104 ⟨rfl, hb104⟩
    replace c0 := (hb104.cell (p := ⟨w.heap.size, 0, none⟩) hzc).trans c0
    replace c1 := (hb104.cell (p := ⟨w.heap.size, 1, none⟩) hzc).trans c1
    replace hzc := Nat.lt_of_lt_of_le hzc hb104.size
    replace k0 := (hb104.cell (p := ⟨e1, 0, none⟩) hlt).trans k0
    replace k1 := (hb104.cell (p := ⟨e1, 1, none⟩) hlt).trans k1
    replace hlt := Nat.lt_of_lt_of_le hlt hb104.size
    replace w0 := Rd.below w0 hb104
    replace w1 := Rd.below w1 hb104
    replace rx0 := Rd.below rx0 hb104
    replace rx1 := Rd.below rx1 hb104
    replace hbA := gr hbA hb104
    have hal : Below v104.heap.size v104 (v104.alloc (.cells #[.int .i64 (netOnR F0 l0 F1 l1 x y z3 z4).1, .int .i64 (netOnR F0 l0 F1 l1 x y z3 z4).2.1] 39)) := (Below.refl _ _).alloc (Nat.le_refl _) _
    replace c0 := (hal.cell (p := ⟨w.heap.size, 0, none⟩) hzc).trans c0
    replace c1 := (hal.cell (p := ⟨w.heap.size, 1, none⟩) hzc).trans c1
    replace hzc := Nat.lt_of_lt_of_le hzc hal.size
    replace k0 := (hal.cell (p := ⟨e1, 0, none⟩) hlt).trans k0
    replace k1 := (hal.cell (p := ⟨e1, 1, none⟩) hlt).trans k1
    replace hlt := Nat.lt_of_lt_of_le hlt hal.size
    replace w0 := Rd.below w0 hal
    replace w1 := Rd.below w1 hal
    replace rx0 := Rd.below rx0 hal
    replace rx1 := Rd.below rx1 hal
    replace hbA := gr hbA hal
    go_wp2_with fail
    go_at_call 30
    refine (eqBrine_yes _ _ _).mono ?_
    rintro _ v105 ⟨rfl, hb105⟩
    replace c0 := (hb105.cell (p := ⟨w.heap.size, 0, none⟩) hzc).trans c0
    replace c1 := (hb105.cell (p := ⟨w.heap.size, 1, none⟩) hzc).trans c1
    replace hzc := Nat.lt_of_lt_of_le hzc hb105.size
    replace k0 := (hb105.cell (p := ⟨e1, 0, none⟩) hlt).trans k0
    replace k1 := (hb105.cell (p := ⟨e1, 1, none⟩) hlt).trans k1
    replace hlt := Nat.lt_of_lt_of_le hlt hb105.size
    replace w0 := Rd.below w0 hb105
    replace w1 := Rd.below w1 hb105
    replace rx0 := Rd.below rx0 hb105
    replace rx1 := Rd.below rx1 hb105
    replace hbA := gr hbA hb105
    go_wp2_with fail
    go_at_call 16
    refine (toShowerS_any _ _ _ _ _ hnn0 w0).mono ?_
    rintro _ v106 ⟨gy0, rfl, oy0, hb106⟩
    replace c0 := (hb106.cell (p := ⟨w.heap.size, 0, none⟩) hzc).trans c0
    replace c1 := (hb106.cell (p := ⟨w.heap.size, 1, none⟩) hzc).trans c1
    replace hzc := Nat.lt_of_lt_of_le hzc hb106.size
    replace k0 := (hb106.cell (p := ⟨e1, 0, none⟩) hlt).trans k0
    replace k1 := (hb106.cell (p := ⟨e1, 1, none⟩) hlt).trans k1
    replace hlt := Nat.lt_of_lt_of_le hlt hb106.size
    replace w0 := Rd.below w0 hb106
    replace w1 := Rd.below w1 hb106
    replace rx0 := Rd.below rx0 hb106
    replace rx1 := Rd.below rx1 hb106
    replace hbA := gr hbA hb106
    have ry0 := Sl.rd oy0.sl (Nat.le_refl _)
    clear oy0
    go_wp2_with fail
    go_at_call 18
    refine (eqShowerS_yes _ _ _ _ _ _ _ hnn0 rx0 ry0).mono ?_
    rintro _ v107 ⟨rfl, hb107⟩
    replace c0 := (hb107.cell (p := ⟨w.heap.size, 0, none⟩) hzc).trans c0
    replace c1 := (hb107.cell (p := ⟨w.heap.size, 1, none⟩) hzc).trans c1
    replace hzc := Nat.lt_of_lt_of_le hzc hb107.size
    replace k0 := (hb107.cell (p := ⟨e1, 0, none⟩) hlt).trans k0
    replace k1 := (hb107.cell (p := ⟨e1, 1, none⟩) hlt).trans k1
    replace hlt := Nat.lt_of_lt_of_le hlt hb107.size
    replace w0 := Rd.below w0 hb107
    replace w1 := Rd.below w1 hb107
    replace rx0 := Rd.below rx0 hb107
    replace rx1 := Rd.below rx1 hb107
    replace hbA := gr hbA hb107
    go_wp2_with fail
    go_at_call 41
    refine (toSunS_any _ _ _ _ _ hnn1 w1).mono ?_
    rintro _ v108 ⟨gy1, rfl, oy1, hb108⟩
    replace c0 := (hb108.cell (p := ⟨w.heap.size, 0, none⟩) hzc).trans c0
    replace c1 := (hb108.cell (p := ⟨w.heap.size, 1, none⟩) hzc).trans c1
    replace hzc := Nat.lt_of_lt_of_le hzc hb108.size
    replace k0 := (hb108.cell (p := ⟨e1, 0, none⟩) hlt).trans k0
    replace k1 := (hb108.cell (p := ⟨e1, 1, none⟩) hlt).trans k1
    replace hlt := Nat.lt_of_lt_of_le hlt hb108.size
    replace w0 := Rd.below w0 hb108
    replace w1 := Rd.below w1 hb108
    replace rx0 := Rd.below rx0 hb108
    replace rx1 := Rd.below rx1 hb108
    replace hbA := gr hbA hb108
    have ry1 := Sl.rd oy1.sl (Nat.le_refl _)
    clear oy1
    go_wp2_with fail
    go_at_call 43
    refine (eqSunS_yes _ _ _ _ _ _ _ hnn1 rx1 ry1).mono ?_
    rintro _ v109 ⟨rfl, hb109⟩
    replace c0 := (hb109.cell (p := ⟨w.heap.size, 0, none⟩) hzc).trans c0
    replace c1 := (hb109.cell (p := ⟨w.heap.size, 1, none⟩) hzc).trans c1
    replace hzc := Nat.lt_of_lt_of_le hzc hb109.size
    replace k0 := (hb109.cell (p := ⟨e1, 0, none⟩) hlt).trans k0
    replace k1 := (hb109.cell (p := ⟨e1, 1, none⟩) hlt).trans k1
    replace hlt := Nat.lt_of_lt_of_le hlt hb109.size
    replace w0 := Rd.below w0 hb109
    replace w1 := Rd.below w1 hb109
    replace rx0 := Rd.below rx0 hb109
    replace rx1 := Rd.below rx1 hb109
    replace hbA := gr hbA hb109
    go_wp2
    go_ret
    exact ⟨rfl, hbA⟩

namespace fnExactNetOn
set_option maxRecDepth 100000 in
theorem lifted (os : Os) (started : os.Started) (H : Type) (enc : TypeId × Value → H) :
    ReturnsInHanded {} Try.checked os 11 .any (Rows.fnExactNetOnSpec.pre6 enc Try.prog Try.f11 Rows.fnExactNetOnRow.domain false) (Rows.fnExactNetOnSpec.post enc Try.prog Try.f11 false true false false) := by
  refine returnsInHanded_of_change (C := Try.checked) own started (by kernel_rfl) Try.func11
    (ChangeSpec.witness6 (enc := enc) (C := Try.checked) false ⟨#[], #[.slice none 0 0, .slice none 0 0, .agg #[.int .i64 0, .int .i64 0], .int .i64 0, .int .i64 0], []⟩ 8 (by kernel_rfl) (by kernel_rfl) (by kernel_rfl) (by kernel_rfl)) ?_
  intro W base args ds gs before hval0 hW hcnd _
  have hval : ∀ (j : Nat) t v, Try.f11.params[j]? = some t → args[j]? = some v → Value.okWide Try.prog W .any base t v := hval0
  have hW' := hW
  obtain ⟨p, q, hA0, hV, rfl, hfz, hnd⟩ := hW
  have hA : DataW.TrodAll enc Try.prog W 0 (fun _ => true) true Try.f11.params.toList args.toList ds p := hA0
  rw [Try.params11] at hA hval
  obtain ⟨v0, vs0, d0, ds0, p0, q0, hargs, rfl, rfl, h0, r0⟩ := trodAll_cons hA
  obtain ⟨v1, vs1, d1, ds1, p1, q1, rfl, rfl, rfl, h1, r1⟩ := trodAll_cons r0
  obtain ⟨v2, vs2, d2, ds2, p2, q2, rfl, rfl, rfl, h2, r2⟩ := trodAll_cons r1
  obtain ⟨v3, vs3, d3, ds3, p3, q3, rfl, rfl, rfl, h3, r3⟩ := trodAll_cons r2
  obtain ⟨v4, vs4, d4, ds4, p4, q4, rfl, rfl, rfl, h4, r4⟩ := trodAll_cons r3
  obtain ⟨rfl, rfl, rfl⟩ := trodAll_nil r4
  obtain rfl : args = #[v0, v1, v2, v3, v4] := by cases args; simp_all
  obtain ⟨rfl, rfl⟩ := trodVars_none hV
  have k0 := h0
  have lt0 : ∀ x ∈ p0, x.block < W.heap.size := by obtain ⟨m, hm⟩ := k0; exact DataW.trod_lt m _ _ _ hm
  obtain ⟨a0, l0, c0, rfl⟩ := okWide_slice Try.underlying22 (hval 0 22 v0 rfl rfl)
  obtain ⟨hl0, F0, w0⟩ : l0 ≤ maxLen ∧ ∃ F, Rd W a0 l0 2 (ints F) := by
    obtain ⟨fuel, hf⟩ := h0
    obtain ⟨hl, F, hF, hp⟩ := rows_of_trod (sz := 2) Try.underlying22 (by kernel_rfl) (by decide) (fun cs => ∃ l : List Int, cs = l.map (Value.int .i64)) (fun n cs y hy hl => ints_of_struct2 Try.underlying74 (by kernel_rfl) Try.underlying3 Try.underlying3 hy hl) (by simpa [Value.cells] using hf)
    exact ⟨hl, ints_of_rows hF hp⟩
  have k1 := h1
  have lt1 : ∀ x ∈ p1, x.block < W.heap.size := by obtain ⟨m, hm⟩ := k1; exact DataW.trod_lt m _ _ _ hm
  obtain ⟨a1, l1, c1, rfl⟩ := okWide_slice Try.underlying52 (hval 1 52 v1 rfl rfl)
  obtain ⟨hl1, F1, w1⟩ : l1 ≤ maxLen ∧ ∃ F, Rd W a1 l1 2 (ints F) := by
    obtain ⟨fuel, hf⟩ := h1
    obtain ⟨hl, F, hF, hp⟩ := rows_of_trod (sz := 2) Try.underlying52 (by kernel_rfl) (by decide) (fun cs => ∃ l : List Int, cs = l.map (Value.int .i64)) (fun n cs y hy hl => ints_of_struct2 Try.underlying92 (by kernel_rfl) Try.underlying3 Try.underlying3 hy hl) (by simpa [Value.cells] using hf)
    exact ⟨hl, ints_of_rows hF hp⟩
  have k2 := h2
  have lt2 : ∀ x ∈ p2, x.block < W.heap.size := by obtain ⟨m, hm⟩ := k2; exact DataW.trod_lt m _ _ _ hm
  obtain ⟨x2, y2, rfl⟩ : ∃ x y : Int, v2 = .agg #[.int .i64 x, .int .i64 y] := by
    obtain ⟨c0, c1, y0, y1, m, rfl, -, -, hy0, hy1⟩ := Joins.open_agg2 Try.underlying38 (by kernel_rfl) (by kernel_rfl) (hval 2 38 v2 rfl rfl) h2
    obtain ⟨x, e0, -, -⟩ := DataW.trod_int Try.underlying3 hy0
    obtain ⟨y, e1, -, -⟩ := DataW.trod_int Try.underlying3 hy1
    simp at e0 e1
    exact ⟨x, y, by rw [e0, e1]⟩
  have k3 := h3
  have lt3 : ∀ x ∈ p3, x.block < W.heap.size := by obtain ⟨m, hm⟩ := k3; exact DataW.trod_lt m _ _ _ hm
  obtain ⟨z3, rfl, rfl, rfl, -⟩ := open_int Try.underlying3 (hval 3 3 v3 rfl rfl) h3
  have k4 := h4
  have lt4 : ∀ x ∈ p4, x.block < W.heap.size := by obtain ⟨m, hm⟩ := k4; exact DataW.trod_lt m _ _ _ hm
  obtain ⟨z4, rfl, rfl, rfl, -⟩ := open_int Try.underlying3 (hval 4 3 v4 rfl rfl) h4
  clear hA0 hval0
  refine (law_NetOn a0 l0 c0 F0 a1 l1 c1 F1 x2 y2 z3 z4 W hl0 w0 hl1 w1).mono fun e W' ⟨he, bel⟩ => ?_
  subst he
  exact ⟨_, rfl, _, _, _, [], _, [], hW', trodAll_mk1 (shut_bool Try.underlying4 _), (trodAll_cons_mk (Below.trod laidOut (by kernel_rfl) (of_decide_eq_true (by kernel_rfl)) k0 bel lt0) (trodAll_cons_mk (Below.trod laidOut (by kernel_rfl) (of_decide_eq_true (by kernel_rfl)) k1 bel lt1) (trodAll_cons_mk (Below.trod laidOut (by kernel_rfl) (of_decide_eq_true (by kernel_rfl)) k2 bel lt2) (trodAll_cons_mk (Below.trod laidOut (by kernel_rfl) (of_decide_eq_true (by kernel_rfl)) k3 bel lt3) (trodAll_cons_mk (Below.trod laidOut (by kernel_rfl) (of_decide_eq_true (by kernel_rfl)) k4 bel lt4) trodAll_mk0))))), rfl, bel.frame _, fun h => by cases h⟩

theorem over : Rows.fnExactNetOnRow.holds Try.pinned (OpenSpec.ofChange Rows.fnExactNetOnSpec) :=
  OpenClaim.holds_of_wide 11 Try.f11 rfl rfl rfl rfl rfl rfl rfl ⟨rfl, rfl, rfl, rfl, rfl⟩ rfl rfl rfl rfl rfl (by kernel_rfl) Try.func11 (by kernel_rfl)
    (of_decide_eq_true (by kernel_rfl)) (by unfold Func.isWrapper; first | (rw [if_pos (by decide +kernel)]; kernel_rfl) | (rw [if_neg (by decide +kernel)]; exact ⟨rfl, rfl⟩))
    (fun os started H enc _ => lifted os started H enc)

theorem proved : Rows.FnExactNetOnSaid := over
end fnExactNetOn
#print axioms fnExactNetOn.proved
end Go.Proofs.Ytcjjpkleipjibaa
