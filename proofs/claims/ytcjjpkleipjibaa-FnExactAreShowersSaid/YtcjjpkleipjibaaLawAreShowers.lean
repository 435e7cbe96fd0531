/-
  The law FnExactAreShowers: for all arguments the program's AreShowers returns what the reference's returns. Conditions: none.
-/
import Derived.Test.YtcjjpkleipjibaaRainB
import Derived.Test.YtcjjpkleipjibaaShow
import Derived.Test.YtcjjpkleipjibaaOpen
import Derived.Test.YtcjjpkleipjibaaRows
namespace Go.Proofs.Ytcjjpkleipjibaa
open Go.ChangeShapes Go.WideShapes Go.ChangeAt Go.RowKit

set_option maxHeartbeats 1000000 in
theorem law_AreShowers (A : Option Addr) (n c : Nat) (F : Nat → Nat → Int) (w : World) (hm : n ≤ maxLen) (h : Rd w A n 2 (ints F)) :
    Calls Try.prog 3 #[.slice A n c] w fun e w' => e = .returned (.bool true) ∧ Below w.heap.size w w' := by
  have hn : n ≤ 9223372036854775807 := by simpa [maxLen] using hm
  clear hm
  by_cases hbig : n ≤ 1048576
  · have hsz : szR 1048576 n = 1048576 - n := by unfold szR; rw [if_neg (by omega)]
    go_enter Try.func3, Try.ntmps3
    go_wp2_with fail
    go_at_call 14
    refine (szShowerS_any _ _ _ _ _ hn (by omega) (by omega)).mono ?_
    rintro _ _ ⟨rfl, rfl⟩
    go_wp2_with fail
    go_at_call 16
    refine (toShowerS_any _ _ _ _ _ hbig h).mono ?_
    rintro _ w1 ⟨g1, rfl, ho1, hb1⟩
    have hr1 := ho1.sl.rd (Nat.le_refl _)
    have h1 := Rd.below h hb1
    go_wp2_with fail
    go_at_call 15
    refine (spec_AreShowers_any _ _ _ _ _ hbig hr1).mono ?_
    rintro _ w2 ⟨rfl, hb2⟩
    have h2 := Rd.below h1 hb2
    go_wp2_with fail
    go_at_call 16
    refine (toShowerS_any _ _ _ _ _ hbig h2).mono ?_
    rintro _ w3 ⟨g3, rfl, ho3, hb3⟩
    have hr3 := ho3.sl.rd (Nat.le_refl _)
    have h3 := Rd.below h2 hb3
    go_wp2_with fail
    go_at_call 17
    refine (AreShowers_any _ _ _ _ _ hbig hr3).mono ?_
    rintro _ w4 ⟨rfl, hb4⟩
    have hr4 := Rd.below hr3 hb4
    have h4 := Rd.below h3 hb4
    go_wp2_with fail
    go_at_call 16
    refine (toShowerS_any _ _ _ _ _ hbig h4).mono ?_
    rintro _ w5 ⟨g5, rfl, ho5, hb5⟩
    have hr5 := ho5.sl.rd (Nat.le_refl _)
    have hr45 := Rd.below hr4 hb5
    go_wp2_with fail
    go_at_call 18
    refine (eqShowerS_yes _ _ _ _ _ _ _ hbig hr45 hr5).mono ?_
    rintro _ w6 ⟨rfl, hb6⟩
    go_wp2
    go_ret
    exact ⟨rfl, gr hb1 (gr hb2 (gr hb3 (gr hb4 (gr hb5 hb6))))⟩
  · have hsz : szR 1048576 n = -1 := by unfold szR; rw [if_pos (by omega)]
    go_enter Try.func3, Try.ntmps3
    go_wp2_with fail
    go_at_call 14
    refine (szShowerS_any _ _ _ _ _ hn (by omega) (by omega)).mono ?_
    rintro _ _ ⟨rfl, rfl⟩
    go_wp2
    go_ret
    exact ⟨rfl, Below.refl _ _⟩

namespace fnExactAreShowers
theorem own : ownKnob Try.prog.godebug = none := by kernel_rfl
theorem laidOut : laidOutB Try.prog = true := by kernel_rfl

set_option maxRecDepth 100000 in
theorem lifted (os : Os) (started : os.Started) (H : Type) (enc : TypeId × Value → H) :
    ReturnsInHanded {} Try.checked os 3 .any (Rows.fnExactAreShowersSpec.pre6 enc Try.prog Try.f3 Rows.fnExactAreShowersRow.domain false) (Rows.fnExactAreShowersSpec.post enc Try.prog Try.f3 false true false false) := by
  refine returnsInHanded_of_change (C := Try.checked) own started (by kernel_rfl) Try.func3
    (ChangeSpec.witness6 (enc := enc) (C := Try.checked) false ⟨#[], #[.slice none 0 0], []⟩ 8 (by kernel_rfl) (by kernel_rfl) (by kernel_rfl) (by kernel_rfl)) ?_
  intro W base args ds gs before hval0 hW hcnd _
  have hval : ∀ (j : Nat) t v, Try.f3.params[j]? = some t → args[j]? = some v → Value.okWide Try.prog W .any base t v := hval0
  have hW' := hW
  obtain ⟨p, q, hA0, hV, rfl, hfz, hnd⟩ := hW
  have hA : DataW.TrodAll enc Try.prog W 0 (fun _ => true) true Try.f3.params.toList args.toList ds p := hA0
  rw [Try.params3] at hA hval
  obtain ⟨v0, vs0, d0, ds0, p0, q0, hargs, rfl, rfl, h0, r0⟩ := trodAll_cons hA
  obtain ⟨rfl, rfl, rfl⟩ := trodAll_nil r0
  obtain rfl : args = #[v0] := by cases args; simp_all
  obtain ⟨rfl, rfl⟩ := trodVars_none hV
  have k0 := h0
  have lt0 : ∀ x ∈ p0, x.block < W.heap.size := by obtain ⟨m, hm⟩ := k0; exact DataW.trod_lt m _ _ _ hm
  obtain ⟨a0, l0, c0, rfl⟩ := okWide_slice Try.underlying22 (hval 0 22 v0 rfl rfl)
  obtain ⟨hl0, F0, w0⟩ : l0 ≤ maxLen ∧ ∃ F, Rd W a0 l0 2 (ints F) := by
    obtain ⟨fuel, hf⟩ := h0
    obtain ⟨hl, F, hF, hp⟩ := rows_of_trod (sz := 2) Try.underlying22 (by kernel_rfl) (by decide) (fun cs => ∃ l : List Int, cs = l.map (Value.int .i64)) (fun n cs y hy hl => ints_of_struct2 Try.underlying74 (by kernel_rfl) Try.underlying3 Try.underlying3 hy hl) (by simpa [Value.cells] using hf)
    exact ⟨hl, ints_of_rows hF hp⟩
  clear hA0 hval0
  refine (law_AreShowers a0 l0 c0 F0 W hl0 w0).mono fun e W' ⟨he, bel⟩ => ?_
  subst he
  exact ⟨_, rfl, _, _, _, [], _, [], hW', trodAll_mk1 (shut_bool Try.underlying4 _), (trodAll_cons_mk (Below.trod laidOut (by kernel_rfl) (of_decide_eq_true (by kernel_rfl)) k0 bel lt0) trodAll_mk0), rfl, bel.frame _, fun h => by cases h⟩

theorem over : Rows.fnExactAreShowersRow.holds Try.pinned (OpenSpec.ofChange Rows.fnExactAreShowersSpec) :=
  OpenClaim.holds_of_wide 3 Try.f3 rfl rfl rfl rfl rfl rfl rfl ⟨rfl, rfl, rfl, rfl, rfl⟩ rfl rfl rfl rfl rfl (by kernel_rfl) Try.func3 (by kernel_rfl)
    (of_decide_eq_true (by kernel_rfl)) (by unfold Func.isWrapper; first | (rw [if_pos (by decide +kernel)]; kernel_rfl) | (rw [if_neg (by decide +kernel)]; exact ⟨rfl, rfl⟩))
    (fun os started H enc _ => lifted os started H enc)

theorem proved : Rows.FnExactAreShowersSaid := over
end fnExactAreShowers
#print axioms fnExactAreShowers.proved
end Go.Proofs.Ytcjjpkleipjibaa
