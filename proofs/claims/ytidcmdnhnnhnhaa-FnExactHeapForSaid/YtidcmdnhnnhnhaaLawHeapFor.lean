/-
  The law FnExactHeapFor: for all arguments the program's HeapFor returns what the reference's returns. Conditions: none.
-/
import Derived.Test.YtidcmdnhnnhnhaaHpF
import Derived.Test.YtidcmdnhnnhnhaaHpU
import Derived.Test.YtidcmdnhnnhnhaaHpO
import Derived.Test.YtidcmdnhnnhnhaaOpen
import Derived.Test.YtidcmdnhnnhnhaaLaid
namespace Go.Proofs.Ytidcmdnhnnhnhaa
open Go.ChangeShapes Go.WideShapes Go.ChangeAt Go.RowKit
attribute [local go_sem ↓] Go.wp_at_zero Go.wp_at_succ

set_option maxHeartbeats 4000000 in
theorem law_HeapFor (a0 : Option Addr) (l0 c0 : Nat) (H0 : Nat → HeapD) (z1 : Int) (z2 : Int) (w : World) (hm0 : l0 ≤ maxLen) (w0 : HpR w a0 l0 H0) :
    Calls Try.prog 8 #[.slice a0 l0 c0, .int .i64 z1, .int .i64 z2] w fun e w' => e = .returned (.bool true) ∧ Below w.heap.size w w' := by
  have hn0 : l0 ≤ 9223372036854775807 := by simpa [maxLen] using hm0
  clear hm0
  go_enter Try.func8, Try.ntmps8
  go_wp2_with fail
  go_at_call 27
  refine (szHeapS_any _ _ _ _ _ hn0 w0).mono ?_
  rintro _ wd0 ⟨r, rfl, HR, hb0⟩
  have hbA := hb0
  replace w0 := HpR.below w0 hb0
  rcases HR.out with hr | ⟨hr, hnn, hln⟩
  · have hd : decide (r < 0) = true := by simpa using hr
    go_wp2
    go_ret
    exact ⟨rfl, hbA⟩
  have hd : decide (r < 0) = false := by simp; omega
  clear HR hb0 hr
  go_wp2_with fail
  go_at_call 29
  refine (toHeapS_any _ _ _ _ _ hnn hln w0).mono ?_
  rintro _ wd1 ⟨gs, rfl, os, hb1⟩
  replace w0 := HpR.below w0 hb1
  replace hbA := gr hbA hb1
  clear hb1
  have rs := Hp.rd (HpO.sl os) (Nat.le_refl _)
  clear os
  go_wp2_with fail
  go_at_call 36
  refine (spec_HeapFor_any _ _ _ _ _ _ _ hnn hln rs).mono ?_
  rintro _ wd2 ⟨rfl, hb2⟩
  replace w0 := HpR.below w0 hb2
  replace rs := HpR.below rs hb2
  replace hbA := gr hbA hb2
  clear hb2
  clear rs
  go_wp2_with fail
  go_at_call 29
  refine (toHeapS_any _ _ _ _ _ hnn hln w0).mono ?_
  rintro _ wd3 ⟨gi, rfl, oi, hb3⟩
  replace w0 := HpR.below w0 hb3
  replace hbA := gr hbA hb3
  clear hb3
  have ri := Hp.rd (HpO.sl oi) (Nat.le_refl _)
  clear oi
  go_wp2_with fail
  go_at_call 37
  refine (HeapFor_any _ _ _ _ _ _ _ hnn hln ri).mono ?_
  rintro _ wd4 ⟨rfl, hb4⟩
  replace w0 := HpR.below w0 hb4
  replace ri := HpR.below ri hb4
  replace hbA := gr hbA hb4
  clear hb4
  go_wp2_with fail
  go_at_call 29
  refine (toHeapS_any _ _ _ _ _ hnn hln w0).mono ?_
  rintro _ wd5 ⟨ge, rfl, oe, hb5⟩
  replace w0 := HpR.below w0 hb5
  replace ri := HpR.below ri hb5
  replace hbA := gr hbA hb5
  clear hb5
  have re := Hp.rd (HpO.sl oe) (Nat.le_refl _)
  clear oe
  go_wp2_with fail
  go_at_call 31
  refine (eqHeapS_yes _ _ _ _ _ _ _ hnn hln ri re).mono ?_
  rintro _ wd6 ⟨rfl, hb6⟩
  replace w0 := HpR.below w0 hb6
  replace ri := HpR.below ri hb6
  replace re := HpR.below re hb6
  replace hbA := gr hbA hb6
  clear hb6
  go_wp2
  go_ret
  exact ⟨rfl, hbA⟩

namespace fnExactHeapFor
set_option maxRecDepth 100000 in
theorem lifted (os : Os) (started : os.Started) (H : Type) (enc : TypeId × Value → H) :
    ReturnsInHanded {} Try.checked os 8 .any (Rows.fnExactHeapForSpec.pre6 enc Try.prog Try.f8 Rows.fnExactHeapForRow.domain false) (Rows.fnExactHeapForSpec.post enc Try.prog Try.f8 false true false false) := by
  refine returnsInHanded_of_change (C := Try.checked) own started (by kernel_rfl) Try.func8
    (ChangeSpec.witness6 (enc := enc) (C := Try.checked) false ⟨#[], #[.slice none 0 0, .int .i64 0, .int .i64 0], []⟩ 8 (by kernel_rfl) (by kernel_rfl) (by kernel_rfl) (by kernel_rfl)) ?_
  intro W base args ds gs before hval0 hW hcnd _
  have hval : ∀ (j : Nat) t v, Try.f8.params[j]? = some t → args[j]? = some v → Value.okWide Try.prog W .any base t v := hval0
  have hW' := hW
  obtain ⟨p, q, hA0, hV, rfl, hfz, hnd⟩ := hW
  have hA : DataW.TrodAll enc Try.prog W 0 (fun _ => true) true Try.f8.params.toList args.toList ds p := hA0
  rw [Try.params8] at hA hval
  obtain ⟨v0, vs0, d0, ds0, p0, q0, hargs, rfl, rfl, h0, r0⟩ := trodAll_cons hA
  obtain ⟨v1, vs1, d1, ds1, p1, q1, rfl, rfl, rfl, h1, r1⟩ := trodAll_cons r0
  obtain ⟨v2, vs2, d2, ds2, p2, q2, rfl, rfl, rfl, h2, r2⟩ := trodAll_cons r1
  obtain ⟨rfl, rfl, rfl⟩ := trodAll_nil r2
  obtain rfl : args = #[v0, v1, v2] := by cases args; simp_all
  obtain ⟨rfl, rfl⟩ := trodVars_none hV
  have k0 := h0
  have lt0 : ∀ x ∈ p0, x.block < W.heap.size := by obtain ⟨m, hm⟩ := k0; exact DataW.trod_lt m _ _ _ hm
  obtain ⟨a0, l0, c0, rfl⟩ := okWide_slice Try.underlying40 (hval 0 40 v0 rfl rfl)
  obtain ⟨hl0, H0, w0⟩ : l0 ≤ maxLen ∧ ∃ H, HpR W a0 l0 H := by
    obtain ⟨fuel, hf⟩ := h0
    obtain ⟨hl, F, hF, hp⟩ := rows_of_trod (sz := 4) Try.underlying40 (by kernel_rfl) (by decide) (heapCs W) (fun n cs y hy hl => heap_of_struct Try.underlying24 (by kernel_rfl) Try.underlying3 Try.underlying3 Try.underlying22 Try.underlying4 Try.underlying3 (by kernel_rfl) hy hl) (by simpa [Value.cells] using hf)
    exact ⟨hl, heaps_of_rows hF hp⟩
  have k1 := h1
  have lt1 : ∀ x ∈ p1, x.block < W.heap.size := by obtain ⟨m, hm⟩ := k1; exact DataW.trod_lt m _ _ _ hm
  obtain ⟨z1, rfl, rfl, rfl, -⟩ := open_int Try.underlying3 (hval 1 3 v1 rfl rfl) h1
  have k2 := h2
  have lt2 : ∀ x ∈ p2, x.block < W.heap.size := by obtain ⟨m, hm⟩ := k2; exact DataW.trod_lt m _ _ _ hm
  obtain ⟨z2, rfl, rfl, rfl, -⟩ := open_int Try.underlying3 (hval 2 3 v2 rfl rfl) h2
  clear hA0 hval0
  refine (law_HeapFor a0 l0 c0 H0 z1 z2 W hl0 w0).mono fun e W' ⟨he, bel⟩ => ?_
  subst he
  exact ⟨_, rfl, _, _, _, [], _, [], hW', trodAll_mk1 (shut_bool Try.underlying4 _), (trodAll_cons_mk (Below.trod laidOut (by kernel_rfl) (of_decide_eq_true (by kernel_rfl)) k0 bel lt0) (trodAll_cons_mk (Below.trod laidOut (by kernel_rfl) (of_decide_eq_true (by kernel_rfl)) k1 bel lt1) (trodAll_cons_mk (Below.trod laidOut (by kernel_rfl) (of_decide_eq_true (by kernel_rfl)) k2 bel lt2) trodAll_mk0))), rfl, bel.frame _, fun h => by cases h⟩

theorem over : Rows.fnExactHeapForRow.holds Try.pinned (OpenSpec.ofChange Rows.fnExactHeapForSpec) :=
  OpenClaim.holds_of_wide 8 Try.f8 rfl rfl rfl rfl rfl rfl rfl ⟨rfl, rfl, rfl, rfl, rfl⟩ rfl rfl rfl rfl rfl (by kernel_rfl) Try.func8 (by kernel_rfl)
    (of_decide_eq_true (by kernel_rfl)) (by unfold Func.isWrapper; first | (rw [if_pos (by decide +kernel)]; kernel_rfl) | (rw [if_neg (by decide +kernel)]; exact ⟨rfl, rfl⟩))
    (fun os started H enc _ => lifted os started H enc)

theorem proved : Rows.FnExactHeapForSaid := over
end fnExactHeapFor
#print axioms fnExactHeapFor.proved
end Go.Proofs.Ytidcmdnhnnhnhaa
