/-
  The law FnExactEvenGangs: for all arguments the program's EvenGangs returns what the reference's returns. Conditions: none.
-/
import Derived.Test.YtmblkjnpibcmoaaWkD
import Derived.Test.YtmblkjnpibcmoaaWkT
import Derived.Test.YtmblkjnpibcmoaaWkO
import Derived.Test.YtmblkjnpibcmoaaOpen
import Derived.Test.YtmblkjnpibcmoaaLaid
namespace Go.Proofs.Ytmblkjnpibcmoaa
open Go.ChangeShapes Go.WideShapes Go.ChangeAt Go.RowKit
attribute [local go_sem ↓] Go.wp_at_zero Go.wp_at_succ

set_option maxHeartbeats 4000000 in
theorem law_EvenGangs (a0 : Option Addr) (l0 c0 : Nat) (F0 : WkG) (w : World) (hm0 : l0 ≤ maxLen) (w0 : Rd w a0 l0 5 (wkD F0)) :
    Calls Try.prog 3 #[.slice a0 l0 c0] w fun e w' => e = .returned (.bool true) ∧ Below w.heap.size w w' := by
  have hn0 : l0 ≤ 9223372036854775807 := by simpa [maxLen] using hm0
  clear hm0
  by_cases hbig0 : (l0 : Int) ≤ 1048576
  rotate_left
  · have hsz0 : szR (1048576) l0 = -1 := by unfold szR; rw [if_pos (by omega)]
    go_enter Try.func3, Try.ntmps3
    go_wp2_with fail
    go_at_call 6
    refine (szWorkerS_any _ _ _ _ _ hn0 (by omega) (by omega)).mono ?_
    rintro _ _ ⟨rfl, rfl⟩
    go_wp2
    go_ret
    exact ⟨rfl, Below.refl _ _⟩
  have hsz0 : szR (1048576) l0 = 1048576 - l0 := by unfold szR; rw [if_neg (by omega)]
  have hnn0 : l0 ≤ 1048576 := by omega
  go_enter Try.func3, Try.ntmps3
  go_wp2_with fail
  go_at_call 6
  refine (szWorkerS_any _ _ _ _ _ hn0 (by omega) (by omega)).mono ?_
  rintro _ _ ⟨rfl, rfl⟩
  go_wp2_with fail
  go_at_call 8
  refine (toWorkerS_any _ _ _ _ _ hnn0 w0).mono ?_
  rintro _ wd1 ⟨gs0, rfl, os0, hb1⟩
  replace w0 := Rd.below w0 hb1
  have rs0 := os0.sl.rd (Nat.le_refl _)
  clear os0
  go_wp2_with fail
  go_at_call 7
  refine (spec_EvenGangs_any _ _ _ F0.1 F0.2 _ hnn0 rs0).mono ?_
  rintro _ wd2 ⟨rfl, hb2⟩
  replace w0 := Rd.below w0 hb2
  replace rs0 := Rd.below rs0 hb2
  clear rs0
  go_wp2_with fail
  go_at_call 8
  refine (toWorkerS_any _ _ _ _ _ hnn0 w0).mono ?_
  rintro _ wd3 ⟨gi0, rfl, oi0, hb3⟩
  replace w0 := Rd.below w0 hb3
  have ri0 := oi0.sl.rd (Nat.le_refl _)
  clear oi0
  go_wp2_with fail
  go_at_call 9
  refine (EvenGangs_any _ _ _ F0.1 F0.2 _ hnn0 ri0).mono ?_
  rintro _ wd4 ⟨rfl, hb4⟩
  replace w0 := Rd.below w0 hb4
  replace ri0 := Rd.below ri0 hb4
  go_wp2_with fail
  go_at_call 8
  refine (toWorkerS_any _ _ _ _ _ hnn0 w0).mono ?_
  rintro _ wd5 ⟨ge0, rfl, oe0, hb5⟩
  replace w0 := Rd.below w0 hb5
  replace ri0 := Rd.below ri0 hb5
  have re0 := oe0.sl.rd (Nat.le_refl _)
  clear oe0
  go_wp2_with fail
  go_at_call 10
  refine (eqWorkerS_yes _ _ _ _ _ _ _ hnn0 ri0 re0).mono ?_
  rintro _ wd6 ⟨rfl, hb6⟩
  replace w0 := Rd.below w0 hb6
  replace ri0 := Rd.below ri0 hb6
  replace re0 := Rd.below re0 hb6
  go_wp2
  go_ret
  exact ⟨rfl, gr hb1 (gr hb2 (gr hb3 (gr hb4 (gr hb5 (hb6)))))⟩

namespace fnExactEvenGangs
set_option maxRecDepth 100000 in
theorem lifted (os : Os) (started : os.Started) (H : Type) (enc : TypeId × Value → H) :
    ReturnsInHanded {} Try.checked os 3 .any (Rows.fnExactEvenGangsSpec.pre6 enc Try.prog Try.f3 Rows.fnExactEvenGangsRow.domain false) (Rows.fnExactEvenGangsSpec.post enc Try.prog Try.f3 false true false false) := by
  refine returnsInHanded_of_change (C := Try.checked) own started (by kernel_rfl) Try.func3
    (ChangeSpec.witness6 (enc := enc) (C := Try.checked) false ⟨#[], #[.slice none 0 0], []⟩ 8 (by kernel_rfl) (by kernel_rfl) (by kernel_rfl) (by kernel_rfl)) ?_
  intro W base args ds gs before hval0 hW hcnd _
  have hval : ∀ (j : Nat) t v, Try.f3.params[j]? = some t → args[j]? = some v → Value.okWide Try.prog W .any base t v := hval0
  have hW' := hW
  obtain ⟨p, q, hA0, hV, rfl, hfz, hnd⟩ := hW
  have hA : DataW.TrodAll enc Try.prog W 0 (fun _ => true) true Try.f3.params.toList args.toList ds p := hA0
  rw [Try.params3] at hA hval
  obtain ⟨v0, vs0, d0, ds0, p0, q0, hargs, rfl, rfl, h0, r0⟩ := trodAll_cons hA
  obtain ⟨rfl, rfl, rfl⟩ := trodAll_nil r0
  obtain rfl : args = #[v0] := by cases args; simp_all
  obtain ⟨rfl, rfl⟩ := trodVars_none hV
  have k0 := h0
  have lt0 : ∀ x ∈ p0, x.block < W.heap.size := by obtain ⟨m, hm⟩ := k0; exact DataW.trod_lt m _ _ _ hm
  obtain ⟨a0, l0, c0, rfl⟩ := okWide_slice Try.underlying22 (hval 0 22 v0 rfl rfl)
  obtain ⟨hl0, F0, w0⟩ : l0 ≤ maxLen ∧ ∃ G, Rd W a0 l0 5 (wkD G) := by
    obtain ⟨fuel, hf⟩ := h0
    obtain ⟨hl, F, hF, hp⟩ := rows_of_trod (sz := 5) Try.underlying22 (by kernel_rfl) (by decide) workCs (fun n cs y hy hl => worker_of_struct Try.underlying61 (by kernel_rfl) Try.underlying3 Try.underlying3 Try.underlying3 Try.underlying4 Try.underlying3 hy hl) (by simpa [Value.cells] using hf)
    exact ⟨hl, works_of_rows hF hp⟩
  clear hA0 hval0
  refine (law_EvenGangs a0 l0 c0 F0 W hl0 w0).mono fun e W' ⟨he, bel⟩ => ?_
  subst he
  exact ⟨_, rfl, _, _, _, [], _, [], hW', trodAll_mk1 (shut_bool Try.underlying4 _), (trodAll_cons_mk (Below.trod laidOut (by kernel_rfl) (of_decide_eq_true (by kernel_rfl)) k0 bel lt0) trodAll_mk0), rfl, bel.frame _, fun h => by cases h⟩

theorem over : Rows.fnExactEvenGangsRow.holds Try.pinned (OpenSpec.ofChange Rows.fnExactEvenGangsSpec) :=
  OpenClaim.holds_of_wide 3 Try.f3 rfl rfl rfl rfl rfl rfl rfl ⟨rfl, rfl, rfl, rfl, rfl⟩ rfl rfl rfl rfl rfl (by kernel_rfl) Try.func3 (by kernel_rfl)
    (of_decide_eq_true (by kernel_rfl)) (by unfold Func.isWrapper; first | (rw [if_pos (by decide +kernel)]; kernel_rfl) | (rw [if_neg (by decide +kernel)]; exact ⟨rfl, rfl⟩))
    (fun os started H enc _ => lifted os started H enc)

theorem proved : Rows.FnExactEvenGangsSaid := over
end fnExactEvenGangs
#print axioms fnExactEvenGangs.proved
end Go.Proofs.Ytmblkjnpibcmoaa
