/-
  The law FnExactAfterRain: for all arguments the program's AfterRain returns what the reference's returns. Conditions: none.
-/
import Derived.Test.YtcjjpkleipjibaaRainF
import Derived.Test.YtcjjpkleipjibaaShow
import Derived.Test.YtcjjpkleipjibaaOpen
import Derived.Test.YtcjjpkleipjibaaLaid
namespace Go.Proofs.Ytcjjpkleipjibaa
open Go.ChangeShapes Go.WideShapes Go.ChangeAt Go.RowKit
attribute [local go_sem ↓] Go.wp_at_zero Go.wp_at_succ

set_option maxHeartbeats 4000000 in
theorem law_AfterRain (a0 : Option Addr) (l0 c0 : Nat) (F0 : Nat → Nat → Int) (x1 y1 z2 z3 z4 : Int) (w : World) (hm0 : l0 ≤ maxLen) (w0 : Rd w a0 l0 2 (ints F0)) :
    Calls Try.prog 8 #[.slice a0 l0 c0, .agg #[.int .i64 x1, .int .i64 y1], .int .i64 z2, .int .i64 z3, .int .i64 z4] w fun e w' => e = .returned (.bool true) ∧ Below w.heap.size w w' := by
  have hn0 : l0 ≤ 9223372036854775807 := by simpa [maxLen] using hm0
  clear hm0
  by_cases hbig : (l0 : Int) ≤ 1048576
  rotate_left
  · have hsz : szR 1048576 l0 = -1 := by unfold szR; rw [if_pos (by omega)]
    go_enter Try.func8, Try.ntmps8
    go_wp2_with fail
    go_at_call 14
    refine (szShowerS_any _ _ _ _ _ hn0 (by omega) (by omega)).mono ?_
    rintro _ _ ⟨rfl, rfl⟩
    go_wp2
    go_ret
    exact ⟨rfl, (by (repeat' (first | exact Below.refl _ _ | assumption | refine Below.drew ?_ | refine Below.alloc ?_ (by first | omega | (simp; done) | (simp; omega)) _ | refine Below.setCell ?_ (by first | omega | (simp; done) | (simp; omega)) _)))⟩
  have hsz : szR 1048576 l0 = 1048576 - l0 := by unfold szR; rw [if_neg (by omega)]
  have hnn : l0 ≤ 1048576 := by omega
  go_enter Try.func8, Try.ntmps8
  go_wp2_with fail
  go_at_call 14
  refine (szShowerS_any _ _ _ _ _ hn0 (by omega) (by omega)).mono ?_
  rintro _ _ ⟨rfl, rfl⟩
  go_wp2_with fail
  go_upto_region 5 with fail
  have hb_W : Below w.heap.size w (w.alloc (.cells #[.int .i64 x1, .int .i64 y1] 38)) := (Below.refl _ _).alloc (Nat.le_refl _) _
  have gc1_W : World.cell? (w.alloc (.cells #[.int .i64 x1, .int .i64 y1] 38)) ⟨w.heap.size, 0, none⟩ = some (.int .i64 x1) := by go_simp
  have gc2_W : World.cell? (w.alloc (.cells #[.int .i64 x1, .int .i64 y1] 38)) ⟨w.heap.size, 1, none⟩ = some (.int .i64 y1) := by go_simp
  have hz_W : w.heap.size < (World.heap (w.alloc (.cells #[.int .i64 x1, .int .i64 y1] 38))).size := by simp
  generalize w.alloc (.cells #[.int .i64 x1, .int .i64 y1] 38) = W at hb_W gc1_W gc2_W hz_W ⊢
  replace w0 := Rd.below w0 hb_W
  have ha0 : ∀ w', Below W.heap.size W w' → w'.cell? ⟨w.heap.size, 0, none⟩ = some (.int .i64 x1) := fun w' hb => (hb.cell (by exact hz_W)).trans gc1_W
  have ha1 : ∀ w', Below W.heap.size W w' → w'.cell? ⟨w.heap.size, 1, none⟩ = some (.int .i64 y1) := fun w' hb => (hb.cell (by exact hz_W)).trans gc2_W
  clear gc1_W gc2_W
  go_cut [12, 13] (fun s t wx => ∃ e : Nat, s = .pointer (some ⟨e, 0, none⟩) ∧ t = .bool (afterRainR F0 l0 x1 y1 z2 z3 z4).2.2 ∧ Below W.heap.size W wx ∧ W.heap.size ≤ e ∧ e < wx.heap.size ∧
     wx.cell? ⟨e, 0, none⟩ = some (.int .i64 (afterRainR F0 l0 x1 y1 z2 z3 z4).1) ∧ wx.cell? ⟨e, 1, none⟩ = some (.int .i64 (afterRainR F0 l0 x1 y1 z2 z3 z4).2.1))
  case first =>
    go_region_held3 (fun w' => Below W.heap.size W w') ((repeat' (first | exact Below.refl _ _ | assumption | refine Below.drew ?_ | refine Below.alloc ?_ (by first | omega | (simp; done) | (simp; omega)) _ | refine Below.setCell ?_ (by first | omega | (simp; done) | (simp; omega)) _)))
      (first | (go_at_call 16; refine (toShowerS_any _ _ _ _ _ hnn (Rd.below w0 (by assumption))).mono ?_; rintro _ w1 ⟨g1, rfl, o1, hb1⟩; have B1 := gr (by assumption : Below W.heap.size W _) hb1; have s1 := hb1.size; (try simp at s1); have q1 := bcell hb1; (try have t1 : W.heap.size < w1.heap.size := by omega); have r1 := Sl.rd o1.sl (Nat.le_refl _); clear o1) | (go_at_call 28; refine (toBrine_any _ _ _).mono ?_; rintro _ w2 ⟨rfl, hb2⟩; have B2 := gr (by assumption : Below W.heap.size W _) hb2; have s2 := hb2.size; (try simp at s2); have q2 := bcell hb2; (try have t2a : W.heap.size < w2.heap.size := by omega); (try have t2b : w1.heap.size < w2.heap.size := by omega); have r2 := Rd.below (by first | exact r1 | exact Rd.alloc r1 _) hb2; clear r1) | (go_at_call 27; refine (spec_AfterRain_any _ _ _ _ _ _ _ _ _ _ hnn (by first | exact r2 | exact Rd.alloc r2 _)).mono ?_; rintro _ w3 ⟨rfl, hb3⟩; have B3 := gr (by assumption : Below W.heap.size W _) hb3; have s3 := hb3.size; (try simp at s3); have q3 := bcell hb3; (try have t3a : W.heap.size < w3.heap.size := by omega); (try have t3b : w1.heap.size < w3.heap.size := by omega); (try have t3c : w2.heap.size < w3.heap.size := by omega)))
    all_goals
      go_wp2_with fail
      go_meet
      refine ⟨_, rfl, rfl, (by (repeat' (first | exact Below.refl _ _ | assumption | refine Below.drew ?_ | refine Below.alloc ?_ (by first | omega | (simp; done) | (simp; omega)) _ | refine Below.setCell ?_ (by first | omega | (simp; done) | (simp; omega)) _))), ?_, ?_, ?_, ?_⟩
      · omega
      · simp <;> omega
      · go_simp
      · go_simp
  case rest =>
    obtain ⟨e1, rfl, rfl, hbA, hle, hlt, k0, k1⟩ := hcut
    have c0 := (hbA.cell (p := ⟨w.heap.size, 0, none⟩) hz_W).trans (ha0 W (Below.refl _ _))
    have c1 := (hbA.cell (p := ⟨w.heap.size, 1, none⟩) hz_W).trans (ha1 W (Below.refl _ _))
    have hzc : w.heap.size < wc.heap.size := Nat.lt_of_lt_of_le hz_W hbA.size
    replace w0 := Rd.below w0 hbA
    replace hbA := gr hb_W hbA
    clear ha0 ha1 hb_W hle
    go_wp2_with fail
    go_at_call 16
    refine (toShowerS_any _ _ _ _ _ hnn w0).mono ?_
    rintro _ V ⟨gx, rfl, ox, hbx⟩
    replace w0 := Rd.below w0 hbx
    have rx := Sl.rd ox.sl (Nat.le_refl _)
    clear ox
    have d0 := (hbx.cell (p := ⟨w.heap.size, 0, none⟩) hzc).trans c0
    have d1 := (hbx.cell (p := ⟨w.heap.size, 1, none⟩) hzc).trans c1
    have m0 := (hbx.cell (p := ⟨e1, 0, none⟩) hlt).trans k0
    have m1 := (hbx.cell (p := ⟨e1, 1, none⟩) hlt).trans k1
    have hzV : w.heap.size < V.heap.size := Nat.lt_of_lt_of_le hzc hbx.size
    have hltV : e1 < V.heap.size := Nat.lt_of_lt_of_le hlt hbx.size
    replace hbA := gr hbA hbx
    clear c0 c1 k0 k1 hbx hzc hlt hz_W
    go_wp2_with fail
    go_at_call 28
    refine (toBrine_any _ _ _).mono ?_
    rintro _ v2 ⟨rfl, hb2⟩
    replace m0 := (hb2.cell (p := ⟨e1, 0, none⟩) hltV).trans m0
    replace m1 := (hb2.cell (p := ⟨e1, 1, none⟩) hltV).trans m1
    have hlt2 := Nat.lt_of_lt_of_le hltV hb2.size
    replace w0 := Rd.below w0 hb2
    replace rx := Rd.below rx hb2
    go_wp2_with fail
    go_at_call 29
    refine (AfterRain_any _ _ _ _ _ _ _ _ _ _ hnn rx).mono ?_
    rintro _ v3 ⟨rfl, hb3⟩
    replace m0 := (hb3.cell (p := ⟨e1, 0, none⟩) hlt2).trans m0
    replace m1 := (hb3.cell (p := ⟨e1, 1, none⟩) hlt2).trans m1
    have hlt3 := Nat.lt_of_lt_of_le hlt2 hb3.size
    replace w0 := Rd.alloc (Rd.below w0 hb3)
    replace rx := Rd.alloc (Rd.below rx hb3)
    go_wp2_with fail
    go_at_call 30
    refine (eqBrine_yes _ _ _).mono ?_
    rintro _ w5 ⟨rfl, hb5⟩
    replace w0 := Rd.below (w0 _) hb5
    replace rx := Rd.below (rx _) hb5
    go_wp2_with fail
    go_at_call 16
    refine (toShowerS_any _ _ _ _ _ hnn w0).mono ?_
    rintro _ w6 ⟨g6, rfl, o6, hb6⟩
    replace rx := Rd.below rx hb6
    have r6 := Sl.rd o6.sl (Nat.le_refl _)
    go_wp2_with fail
    go_at_call 18
    refine (eqShowerS_yes _ _ _ _ _ _ _ hnn rx r6).mono ?_
    rintro _ w7 ⟨rfl, hb7⟩
    go_wp2
    go_ret
    exact ⟨rfl, gr ((gr hbA (gr hb2 hb3)).alloc (Below.size (gr hbA (gr hb2 hb3))) _) (gr hb5 (gr hb6 hb7))⟩

namespace fnExactAfterRain
set_option maxRecDepth 100000 in
theorem lifted (os : Os) (started : os.Started) (H : Type) (enc : TypeId × Value → H) :
    ReturnsInHanded {} Try.checked os 8 .any (Rows.fnExactAfterRainSpec.pre6 enc Try.prog Try.f8 Rows.fnExactAfterRainRow.domain false) (Rows.fnExactAfterRainSpec.post enc Try.prog Try.f8 false true false false) := by
  refine returnsInHanded_of_change (C := Try.checked) own started (by kernel_rfl) Try.func8
    (ChangeSpec.witness6 (enc := enc) (C := Try.checked) false ⟨#[], #[.slice none 0 0, .agg #[.int .i64 0, .int .i64 0], .int .i64 0, .int .i64 0, .int .i64 0], []⟩ 8 (by kernel_rfl) (by kernel_rfl) (by kernel_rfl) (by kernel_rfl)) ?_
  intro W base args ds gs before hval0 hW hcnd _
  have hval : ∀ (j : Nat) t v, Try.f8.params[j]? = some t → args[j]? = some v → Value.okWide Try.prog W .any base t v := hval0
  have hW' := hW
  obtain ⟨p, q, hA0, hV, rfl, hfz, hnd⟩ := hW
  have hA : DataW.TrodAll enc Try.prog W 0 (fun _ => true) true Try.f8.params.toList args.toList ds p := hA0
  rw [Try.params8] at hA hval
  obtain ⟨v0, vs0, d0, ds0, p0, q0, hargs, rfl, rfl, h0, r0⟩ := trodAll_cons hA
  obtain ⟨v1, vs1, d1, ds1, p1, q1, rfl, rfl, rfl, h1, r1⟩ := trodAll_cons r0
  obtain ⟨v2, vs2, d2, ds2, p2, q2, rfl, rfl, rfl, h2, r2⟩ := trodAll_cons r1
  obtain ⟨v3, vs3, d3, ds3, p3, q3, rfl, rfl, rfl, h3, r3⟩ := trodAll_cons r2
  obtain ⟨v4, vs4, d4, ds4, p4, q4, rfl, rfl, rfl, h4, r4⟩ := trodAll_cons r3
  obtain ⟨rfl, rfl, rfl⟩ := trodAll_nil r4
  obtain rfl : args = #[v0, v1, v2, v3, v4] := by cases args; simp_all
  obtain ⟨rfl, rfl⟩ := trodVars_none hV
  have k0 := h0
  have lt0 : ∀ x ∈ p0, x.block < W.heap.size := by obtain ⟨m, hm⟩ := k0; exact DataW.trod_lt m _ _ _ hm
  obtain ⟨a0, l0, c0, rfl⟩ := okWide_slice Try.underlying22 (hval 0 22 v0 rfl rfl)
  obtain ⟨hl0, F0, w0⟩ : l0 ≤ maxLen ∧ ∃ F, Rd W a0 l0 2 (ints F) := by
    obtain ⟨fuel, hf⟩ := h0
    obtain ⟨hl, F, hF, hp⟩ := rows_of_trod (sz := 2) Try.underlying22 (by kernel_rfl) (by decide) (fun cs => ∃ l : List Int, cs = l.map (Value.int .i64)) (fun n cs y hy hl => ints_of_struct2 Try.underlying74 (by kernel_rfl) Try.underlying3 Try.underlying3 hy hl) (by simpa [Value.cells] using hf)
    exact ⟨hl, ints_of_rows hF hp⟩
  have k1 := h1
  have lt1 : ∀ x ∈ p1, x.block < W.heap.size := by obtain ⟨m, hm⟩ := k1; exact DataW.trod_lt m _ _ _ hm
  obtain ⟨x1, y1, rfl⟩ : ∃ x y : Int, v1 = .agg #[.int .i64 x, .int .i64 y] := by
    obtain ⟨c0, c1, y0, y1, m, rfl, -, -, hy0, hy1⟩ := Joins.open_agg2 Try.underlying38 (by kernel_rfl) (by kernel_rfl) (hval 1 38 v1 rfl rfl) h1
    obtain ⟨x, e0, -, -⟩ := DataW.trod_int Try.underlying3 hy0
    obtain ⟨y, e1, -, -⟩ := DataW.trod_int Try.underlying3 hy1
    simp at e0 e1
    exact ⟨x, y, by rw [e0, e1]⟩
  have k2 := h2
  have lt2 : ∀ x ∈ p2, x.block < W.heap.size := by obtain ⟨m, hm⟩ := k2; exact DataW.trod_lt m _ _ _ hm
  obtain ⟨z2, rfl, rfl, rfl, -⟩ := open_int Try.underlying3 (hval 2 3 v2 rfl rfl) h2
  have k3 := h3
  have lt3 : ∀ x ∈ p3, x.block < W.heap.size := by obtain ⟨m, hm⟩ := k3; exact DataW.trod_lt m _ _ _ hm
  obtain ⟨z3, rfl, rfl, rfl, -⟩ := open_int Try.underlying3 (hval 3 3 v3 rfl rfl) h3
  have k4 := h4
  have lt4 : ∀ x ∈ p4, x.block < W.heap.size := by obtain ⟨m, hm⟩ := k4; exact DataW.trod_lt m _ _ _ hm
  obtain ⟨z4, rfl, rfl, rfl, -⟩ := open_int Try.underlying3 (hval 4 3 v4 rfl rfl) h4
  clear hA0 hval0
  refine (law_AfterRain a0 l0 c0 F0 x1 y1 z2 z3 z4 W hl0 w0).mono fun e W' ⟨he, bel⟩ => ?_
  subst he
  exact ⟨_, rfl, _, _, _, [], _, [], hW', trodAll_mk1 (shut_bool Try.underlying4 _), (trodAll_cons_mk (Below.trod laidOut (by kernel_rfl) (of_decide_eq_true (by kernel_rfl)) k0 bel lt0) (trodAll_cons_mk (Below.trod laidOut (by kernel_rfl) (of_decide_eq_true (by kernel_rfl)) k1 bel lt1) (trodAll_cons_mk (Below.trod laidOut (by kernel_rfl) (of_decide_eq_true (by kernel_rfl)) k2 bel lt2) (trodAll_cons_mk (Below.trod laidOut (by kernel_rfl) (of_decide_eq_true (by kernel_rfl)) k3 bel lt3) (trodAll_cons_mk (Below.trod laidOut (by kernel_rfl) (of_decide_eq_true (by kernel_rfl)) k4 bel lt4) trodAll_mk0))))), rfl, bel.frame _, fun h => by cases h⟩

theorem over : Rows.fnExactAfterRainRow.holds Try.pinned (OpenSpec.ofChange Rows.fnExactAfterRainSpec) :=
  OpenClaim.holds_of_wide 8 Try.f8 rfl rfl rfl rfl rfl rfl rfl ⟨rfl, rfl, rfl, rfl, rfl⟩ rfl rfl rfl rfl rfl (by kernel_rfl) Try.func8 (by kernel_rfl)
    (of_decide_eq_true (by kernel_rfl)) (by unfold Func.isWrapper; first | (rw [if_pos (by decide +kernel)]; kernel_rfl) | (rw [if_neg (by decide +kernel)]; exact ⟨rfl, rfl⟩))
    (fun os started H enc _ => lifted os started H enc)

theorem proved : Rows.FnExactAfterRainSaid := over
end fnExactAfterRain
#print axioms fnExactAfterRain.proved
end Go.Proofs.Ytcjjpkleipjibaa
