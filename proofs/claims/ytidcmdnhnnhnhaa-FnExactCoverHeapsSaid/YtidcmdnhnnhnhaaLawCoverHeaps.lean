/-
  The law FnExactCoverHeaps: for all arguments the program's CoverHeaps returns what the reference's returns. Conditions: none.
-/
import Derived.Test.YtidcmdnhnnhnhaaCvE
import Derived.Test.YtidcmdnhnnhnhaaCvF
import Derived.Test.YtidcmdnhnnhnhaaHpL
import Derived.Test.YtidcmdnhnnhnhaaHpO
import Derived.Test.YtidcmdnhnnhnhaaOpen
import Derived.Test.YtidcmdnhnnhnhaaLaid
namespace Go.Proofs.Ytidcmdnhnnhnhaa
open Go.ChangeShapes Go.WideShapes Go.ChangeAt Go.RowKit
attribute [local go_sem ↓] Go.wp_at_zero Go.wp_at_succ

theorem coverR_bd (H : Nat → HeapD) (n : Nat) (s : Int) (hn : n ≤ 1048576) (hl : ∀ i, i < n → (H i).n ≤ 1048576) : (coverR H n s).n ≤ 1048576 ∧ ∀ i, i < (coverR H n s).n → ((coverR H n s).H i).n ≤ 1048576 := by
  unfold coverR
  split
  · exact ⟨hn, fun i hi => hl i hi⟩
  · exact ⟨Nat.zero_le _, fun i hi => absurd hi (Nat.not_lt_zero _)⟩

set_option maxRecDepth 20000 in
set_option maxHeartbeats 4000000 in
theorem law_CoverHeaps (a0 : Option Addr) (l0 c0 : Nat) (H0 : Nat → HeapD) (z1 : Int) (w : World) (hm0 : l0 ≤ maxLen) (w0 : HpR w a0 l0 H0) :
    Calls Try.prog 12 #[.slice a0 l0 c0, .int .i64 z1] w fun e w' => e = .returned (.bool true) ∧ Below w.heap.size w w' := by
  have hn0 : l0 ≤ 9223372036854775807 := by simpa [maxLen] using hm0
  clear hm0
  go_enter Try.func12, Try.ntmps12
  go_wp2_with fail
  go_at_call 27
  refine (szHeapS_any _ _ _ _ _ hn0 w0).mono ?_
  rintro _ wd0 ⟨r, rfl, HR, hb0⟩
  have hbA := hb0
  replace w0 := HpR.below w0 hb0
  rcases HR.out with hr | ⟨hr, hnn, hln⟩
  · have hd : decide (r < 0) = true := by simpa using hr
    go_wp2
    go_ret
    exact ⟨rfl, hbA⟩
  have hd : decide (r < 0) = false := by simp; omega
  clear HR hb0 hr
  obtain ⟨hnR, hlR⟩ : (coverR H0 l0 z1).n ≤ 1048576 ∧ ∀ i, i < (coverR H0 l0 z1).n → ((coverR H0 l0 z1).H i).n ≤ 1048576 := coverR_bd _ _ _ hnn hln
  have hkx : decide (mkK 1 H0 l0 < 0) = false := decide_eq_false (by have := mkK_bd (k0 := 1) hln l0 (Nat.le_refl _); omega)
  have hky : decide (mkK 1 (coverR H0 l0 z1).H (coverR H0 l0 z1).n < 0) = false := decide_eq_false (by have := mkK_bd (k0 := 1) hlR _ (Nat.le_refl _); omega)
  have hsA := hbA.size
  go_wp2_with fail
  go_at_call 29
  refine (toHeapS_any _ _ _ _ _ hnn hln (Hp.mono w0 (Nat.zero_le _) (by omega))).mono ?_
  rintro _ wd1 ⟨gs, rfl, s, hb1⟩
  have hs1 := hb1.size
  replace w0 := w0.agr (Below.agr hb1 (by omega))
  replace hbA := hbA.trans (hb1.mono (by omega))
  clear hb1
  go_wp2_with fail
  go_at_call 46
  refine (spec_CoverHeaps_any _ _ _ _ z1 _ hnn hln (Hp.mono (HpO.sl s) (Nat.zero_le _) (by omega))).mono ?_
  rintro _ wd2 ⟨Arw, crw, rfl, rw, hb2⟩
  have hs2 := hb2.size
  replace w0 := w0.agr (Below.agr hb2 (by omega))
  replace s := s.agr (Below.agr hb2 (by omega))
  replace hbA := hbA.trans (hb2.mono (by omega))
  clear hb2
  clear s
  go_wp2_with fail
  go_at_call 29
  refine (toHeapS_any _ _ _ _ _ hnn hln (Hp.mono w0 (Nat.zero_le _) (by omega))).mono ?_
  rintro _ wd3 ⟨gi, rfl, i, hb3⟩
  have hs3 := hb3.size
  replace w0 := w0.agr (Below.agr hb3 (by omega))
  replace rw := rw.agr (Below.agr hb3 (by omega))
  replace hbA := hbA.trans (hb3.mono (by omega))
  clear hb3
  go_wp2_with fail
  go_at_call 47
  refine (CoverHeaps_any _ _ _ _ z1 _ hnn hln (Hp.mono (HpO.sl i) (Nat.zero_le _) (by omega))).mono ?_
  rintro _ wd4 ⟨Arg, crg, rfl, rg, hb4⟩
  have hs4 := hb4.size
  replace w0 := w0.agr (Below.agr hb4 (by omega))
  replace rw := rw.agr (Below.agr hb4 (by omega))
  replace i := i.agr (Below.agr hb4 (by omega))
  replace hbA := hbA.trans (hb4.mono (by omega))
  clear hb4
  go_wp2_with fail
  go_at_call 31
  refine (eqHeapS_yes _ _ _ _ _ _ _ hnR hlR (Hp.mono (HpO.sl rg) (Nat.zero_le _) (by omega)) (Hp.mono (HpO.sl rw) (Nat.zero_le _) (by omega))).mono ?_
  rintro _ wd5 ⟨rfl, hb5⟩
  have hs5 := hb5.size
  replace w0 := w0.agr (Below.agr hb5 (by omega))
  replace rw := rw.agr (Below.agr hb5 (by omega))
  replace i := i.agr (Below.agr hb5 (by omega))
  replace rg := rg.agr (Below.agr hb5 (by omega))
  replace hbA := hbA.trans (hb5.mono (by omega))
  clear hb5
  go_wp2_with fail
  go_at_call 29
  refine (toHeapS_any _ _ _ _ _ hnn hln (Hp.mono w0 (Nat.zero_le _) (by omega))).mono ?_
  rintro _ wd6 ⟨ge, rfl, e, hb6⟩
  have hs6 := hb6.size
  replace w0 := w0.agr (Below.agr hb6 (by omega))
  replace rw := rw.agr (Below.agr hb6 (by omega))
  replace i := i.agr (Below.agr hb6 (by omega))
  replace rg := rg.agr (Below.agr hb6 (by omega))
  replace hbA := hbA.trans (hb6.mono (by omega))
  clear hb6
  go_wp2_with fail
  go_at_call 31
  refine (eqHeapS_yes _ _ _ _ _ _ _ hnn hln (Hp.mono (HpO.sl i) (Nat.zero_le _) (by omega)) (Hp.mono (HpO.sl e) (Nat.zero_le _) (by omega))).mono ?_
  rintro _ wd7 ⟨rfl, hb7⟩
  have hs7 := hb7.size
  replace w0 := w0.agr (Below.agr hb7 (by omega))
  replace rw := rw.agr (Below.agr hb7 (by omega))
  replace i := i.agr (Below.agr hb7 (by omega))
  replace rg := rg.agr (Below.agr hb7 (by omega))
  replace e := e.agr (Below.agr hb7 (by omega))
  replace hbA := hbA.trans (hb7.mono (by omega))
  clear hb7
  clear e
  go_wp2_with fail
  go_at_call 40
  refine (markHeapS_any _ _ _ _ _ _ _ hnn hln (by omega) i).mono ?_
  rintro _ wd8 ⟨rfl, ht8, -⟩
  clear i
  have hs8 := ht8.size
  replace w0 := w0.agr (Tch.agr ht8 (by omega) (by omega))
  replace rw := rw.agr (Tch.agr ht8 (by omega) (by omega))
  replace rg := rg.agr (Tch.agr ht8 (by omega) (by omega))
  replace hbA := hbA.trans (ht8.below (by omega) (by omega))
  clear ht8
  go_wp2_with fail
  go_at_call 31
  refine (eqHeapS_yes _ _ _ _ _ _ _ hnR hlR (Hp.mono (HpO.sl rg) (Nat.zero_le _) (by omega)) (Hp.mono (HpO.sl rw) (Nat.zero_le _) (by omega))).mono ?_
  rintro _ wd9 ⟨rfl, hb9⟩
  have hs9 := hb9.size
  replace w0 := w0.agr (Below.agr hb9 (by omega))
  replace rw := rw.agr (Below.agr hb9 (by omega))
  replace rg := rg.agr (Below.agr hb9 (by omega))
  replace hbA := hbA.trans (hb9.mono (by omega))
  clear hb9
  go_wp2_with fail
  go_at_call 40
  refine (markHeapS_any _ _ _ _ _ _ _ hnR hlR (by omega) rg).mono ?_
  rintro _ wd10 ⟨rfl, ht10, rgm⟩
  clear rg
  have hs10 := ht10.size
  replace w0 := w0.agr (Tch.agr ht10 (by omega) (by omega))
  replace rw := rw.agr (Tch.agr ht10 (by omega) (by omega))
  replace hbA := hbA.trans (ht10.below (by omega) (by omega))
  clear ht10
  go_wp2_with fail
  go_at_call 41
  refine (heldHeapS_any _ _ _ _ _ hnR hlR (Hp.mono (HpO.sl rgm) (Nat.zero_le _) (by omega))).mono ?_
  rintro _ _ ⟨rfl, rfl⟩
  go_wp2_with fail
  go_at_call 29
  refine (toHeapS_any _ _ _ _ _ hnn hln (Hp.mono w0 (Nat.zero_le _) (by omega))).mono ?_
  rintro _ wd11 ⟨gt, rfl, t, hb11⟩
  have hs11 := hb11.size
  replace w0 := w0.agr (Below.agr hb11 (by omega))
  replace rw := rw.agr (Below.agr hb11 (by omega))
  replace rgm := rgm.agr (Below.agr hb11 (by omega))
  replace hbA := hbA.trans (hb11.mono (by omega))
  clear hb11
  go_wp2_with fail
  go_at_call 47
  refine (CoverHeaps_any _ _ _ _ z1 _ hnn hln (Hp.mono (HpO.sl t) (Nat.zero_le _) (by omega))).mono ?_
  rintro _ wd12 ⟨Arh, crh, rfl, rh, hb12⟩
  have hs12 := hb12.size
  replace w0 := w0.agr (Below.agr hb12 (by omega))
  replace rw := rw.agr (Below.agr hb12 (by omega))
  replace rgm := rgm.agr (Below.agr hb12 (by omega))
  replace t := t.agr (Below.agr hb12 (by omega))
  replace hbA := hbA.trans (hb12.mono (by omega))
  clear hb12
  clear t
  go_wp2_with fail
  go_at_call 31
  refine (eqHeapS_yes _ _ _ _ _ _ _ hnR hlR (Hp.mono (HpO.sl rh) (Nat.zero_le _) (by omega)) (Hp.mono (HpO.sl rw) (Nat.zero_le _) (by omega))).mono ?_
  rintro _ wd13 ⟨rfl, hb13⟩
  have hs13 := hb13.size
  replace w0 := w0.agr (Below.agr hb13 (by omega))
  replace rw := rw.agr (Below.agr hb13 (by omega))
  replace rgm := rgm.agr (Below.agr hb13 (by omega))
  replace rh := rh.agr (Below.agr hb13 (by omega))
  replace hbA := hbA.trans (hb13.mono (by omega))
  clear hb13
  clear rh rw
  go_wp2_with fail
  go_at_call 41
  refine (heldHeapS_any _ _ _ _ _ hnR hlR (Hp.mono (HpO.sl rgm) (Nat.zero_le _) (by omega))).mono ?_
  rintro _ _ ⟨rfl, rfl⟩
  go_wp2
  go_ret
  exact ⟨rfl, hbA⟩

namespace fnExactCoverHeaps
set_option maxRecDepth 100000 in
theorem lifted (os : Os) (started : os.Started) (H : Type) (enc : TypeId × Value → H) :
    ReturnsInHanded {} Try.checked os 12 .any (Rows.fnExactCoverHeapsSpec.pre6 enc Try.prog Try.f12 Rows.fnExactCoverHeapsRow.domain false) (Rows.fnExactCoverHeapsSpec.post enc Try.prog Try.f12 false true false false) := by
  refine returnsInHanded_of_change (C := Try.checked) own started (by kernel_rfl) Try.func12
    (ChangeSpec.witness6 (enc := enc) (C := Try.checked) false ⟨#[], #[.slice none 0 0, .int .i64 0], []⟩ 8 (by kernel_rfl) (by kernel_rfl) (by kernel_rfl) (by kernel_rfl)) ?_
  intro W base args ds gs before hval0 hW hcnd _
  have hval : ∀ (j : Nat) t v, Try.f12.params[j]? = some t → args[j]? = some v → Value.okWide Try.prog W .any base t v := hval0
  have hW' := hW
  obtain ⟨p, q, hA0, hV, rfl, hfz, hnd⟩ := hW
  have hA : DataW.TrodAll enc Try.prog W 0 (fun _ => true) true Try.f12.params.toList args.toList ds p := hA0
  rw [Try.params12] at hA hval
  obtain ⟨v0, vs0, d0, ds0, p0, q0, hargs, rfl, rfl, h0, r0⟩ := trodAll_cons hA
  obtain ⟨v1, vs1, d1, ds1, p1, q1, rfl, rfl, rfl, h1, r1⟩ := trodAll_cons r0
  obtain ⟨rfl, rfl, rfl⟩ := trodAll_nil r1
  obtain rfl : args = #[v0, v1] := by cases args; simp_all
  obtain ⟨rfl, rfl⟩ := trodVars_none hV
  have k0 := h0
  have lt0 : ∀ x ∈ p0, x.block < W.heap.size := by obtain ⟨m, hm⟩ := k0; exact DataW.trod_lt m _ _ _ hm
  obtain ⟨a0, l0, c0, rfl⟩ := okWide_slice Try.underlying40 (hval 0 40 v0 rfl rfl)
  obtain ⟨hl0, H0, w0⟩ : l0 ≤ maxLen ∧ ∃ H, HpR W a0 l0 H := by
    obtain ⟨fuel, hf⟩ := h0
    obtain ⟨hl, F, hF, hp⟩ := rows_of_trod (sz := 4) Try.underlying40 (by kernel_rfl) (by decide) (heapCs W) (fun n cs y hy hl => heap_of_struct Try.underlying24 (by kernel_rfl) Try.underlying3 Try.underlying3 Try.underlying22 Try.underlying4 Try.underlying3 (by kernel_rfl) hy hl) (by simpa [Value.cells] using hf)
    exact ⟨hl, heaps_of_rows hF hp⟩
  have k1 := h1
  have lt1 : ∀ x ∈ p1, x.block < W.heap.size := by obtain ⟨m, hm⟩ := k1; exact DataW.trod_lt m _ _ _ hm
  obtain ⟨z1, rfl, rfl, rfl, -⟩ := open_int Try.underlying3 (hval 1 3 v1 rfl rfl) h1
  clear hA0 hval0
  refine (law_CoverHeaps a0 l0 c0 H0 z1 W hl0 w0).mono fun e W' ⟨he, bel⟩ => ?_
  subst he
  exact ⟨_, rfl, _, _, _, [], _, [], hW', trodAll_mk1 (shut_bool Try.underlying4 _), (trodAll_cons_mk (Below.trod laidOut (by kernel_rfl) (of_decide_eq_true (by kernel_rfl)) k0 bel lt0) (trodAll_cons_mk (Below.trod laidOut (by kernel_rfl) (of_decide_eq_true (by kernel_rfl)) k1 bel lt1) trodAll_mk0)), rfl, bel.frame _, fun h => by cases h⟩

theorem over : Rows.fnExactCoverHeapsRow.holds Try.pinned (OpenSpec.ofChange Rows.fnExactCoverHeapsSpec) :=
  OpenClaim.holds_of_wide 12 Try.f12 rfl rfl rfl rfl rfl rfl rfl ⟨rfl, rfl, rfl, rfl, rfl⟩ rfl rfl rfl rfl rfl (by kernel_rfl) Try.func12 (by kernel_rfl)
    (of_decide_eq_true (by kernel_rfl)) (by unfold Func.isWrapper; first | (rw [if_pos (by decide +kernel)]; kernel_rfl) | (rw [if_neg (by decide +kernel)]; exact ⟨rfl, rfl⟩))
    (fun os started H enc _ => lifted os started H enc)

theorem proved : Rows.FnExactCoverHeapsSaid := over
end fnExactCoverHeaps
#print axioms fnExactCoverHeaps.proved
end Go.Proofs.Ytidcmdnhnnhnhaa
