/-
  The law FnExactStackLayers: for all arguments the program's StackLayers returns what the reference's returns. Conditions: none.
-/
import Derived.Test.YtidcmdnhnnhnhaaStC
import Derived.Test.YtidcmdnhnnhnhaaStD
import Derived.Test.YtidcmdnhnnhnhaaOpen
import Derived.Test.YtidcmdnhnnhnhaaLaid
namespace Go.Proofs.Ytidcmdnhnnhnhaa
open Go.ChangeShapes Go.WideShapes Go.ChangeAt Go.RowKit
attribute [local go_sem ↓] Go.wp_at_zero Go.wp_at_succ

theorem stackR_bd (F : Nat → Nat → Int) (n : Nat) (hn : n ≤ 1048576) : (stackR F n).m ≤ 1048576 ∧ ∀ i, i < (stackR F n).m → ((stackR F n).H i).n ≤ 1048576 := by
  unfold stackR
  split
  · have h := stk_ok F n
    refine ⟨by have := h.le; show (stk F n).m ≤ _; omega, fun i hi => ?_⟩
    have := h.n i hi
    show ((stk F n).H i).n ≤ _
    omega
  · exact ⟨Nat.zero_le _, fun i hi => absurd hi (Nat.not_lt_zero _)⟩

set_option maxRecDepth 20000 in
set_option maxHeartbeats 4000000 in
theorem law_StackLayers (a0 : Option Addr) (l0 c0 : Nat) (F0 : Nat → Nat → Int) (w : World) (hm0 : l0 ≤ maxLen) (w0 : Rd w a0 l0 1 (ints F0)) :
    Calls Try.prog 4 #[.slice a0 l0 c0] w fun e w' => e = .returned (.bool true) ∧ Below w.heap.size w w' := by
  have hn0 : l0 ≤ 9223372036854775807 := by simpa [maxLen] using hm0
  clear hm0
  by_cases hbig : (l0 : Int) ≤ 1048576
  rotate_left
  · have hd : decide (1048576 < (l0 : Int)) = true := decide_eq_true (by omega)
    clear hbig w0
    go_enter Try.func4, Try.ntmps4
    go_wp2
    go_ret
    exact ⟨rfl, Below.refl _ _⟩
  have hd : decide (1048576 < (l0 : Int)) = false := decide_eq_false (by omega)
  have hnn : l0 ≤ 1048576 := by omega
  clear hbig
  obtain ⟨hnR, hlR⟩ : (stackR F0 l0).m ≤ 1048576 ∧ ∀ i, i < (stackR F0 l0).m → ((stackR F0 l0).H i).n ≤ 1048576 := stackR_bd _ _ hnn
  have hkx : decide ((1 : Int) + (l0 : Int) < 0) = false := decide_eq_false (by omega)
  have hky : decide (mkS 1 (stackR F0 l0).H (stackR F0 l0).m < 0) = false := decide_eq_false (by have := mkS_bd (k0 := 1) hlR _ (Nat.le_refl _); omega)
  have hbA := Below.refl w.heap.size w
  go_enter Try.func4, Try.ntmps4
  have hsA := hbA.size
  go_wp2_with fail
  go_at_call 20
  refine (toIntS_any _ _ _ _ _ hnn (Sl.mono w0 (Nat.zero_le _) (by omega))).mono ?_
  rintro _ wd1 ⟨gs, rfl, s, hb1⟩
  have hs1 := hb1.size
  replace w0 := w0.agr (Below.agr hb1 (by omega))
  replace hbA := hbA.trans (hb1.mono (by omega))
  clear hb1
  go_wp2_with fail
  go_at_call 19
  refine ((spec_StackLayers_any _ _ _ _ _ hnn (Sl.mono (Ow.sl s) (Nat.zero_le _) (by omega))).mono fun _ _ h => h.q).mono ?_
  rintro _ wd2 ⟨Arw, crw, rfl, rw, hb2⟩
  have hs2 := hb2.size
  replace w0 := w0.agr (Below.agr hb2 (by omega))
  replace s := s.agr (Below.agr hb2 (by omega))
  replace hbA := hbA.trans (hb2.mono (by omega))
  clear hb2
  clear s
  go_wp2_with fail
  go_at_call 20
  refine (toIntS_any _ _ _ _ _ hnn (Sl.mono w0 (Nat.zero_le _) (by omega))).mono ?_
  rintro _ wd3 ⟨gi, rfl, i, hb3⟩
  have hs3 := hb3.size
  replace w0 := w0.agr (Below.agr hb3 (by omega))
  replace rw := rw.agr (Below.agr hb3 (by omega))
  replace hbA := hbA.trans (hb3.mono (by omega))
  clear hb3
  go_wp2_with fail
  go_at_call 21
  refine ((StackLayers_any _ _ _ _ _ hnn (Sl.mono (Ow.sl i) (Nat.zero_le _) (by omega))).mono fun _ _ h => h.q).mono ?_
  rintro _ wd4 ⟨Arg, crg, rfl, rg, hb4⟩
  have hs4 := hb4.size
  replace w0 := w0.agr (Below.agr hb4 (by omega))
  replace rw := rw.agr (Below.agr hb4 (by omega))
  replace i := i.agr (Below.agr hb4 (by omega))
  replace hbA := hbA.trans (hb4.mono (by omega))
  clear hb4
  go_wp2_with fail
  go_at_call 22
  refine (eqIntSS_yes _ _ _ _ _ _ _ hnR hlR (Ts.mono (TsO.sl rg) (Nat.zero_le _) (by omega)) (Ts.mono (TsO.sl rw) (Nat.zero_le _) (by omega))).mono ?_
  rintro _ wd5 ⟨rfl, hb5⟩
  have hs5 := hb5.size
  replace w0 := w0.agr (Below.agr hb5 (by omega))
  replace rw := rw.agr (Below.agr hb5 (by omega))
  replace i := i.agr (Below.agr hb5 (by omega))
  replace rg := rg.agr (Below.agr hb5 (by omega))
  replace hbA := hbA.trans (hb5.mono (by omega))
  clear hb5
  go_wp2_with fail
  go_at_call 20
  refine (toIntS_any _ _ _ _ _ hnn (Sl.mono w0 (Nat.zero_le _) (by omega))).mono ?_
  rintro _ wd6 ⟨ge, rfl, e, hb6⟩
  have hs6 := hb6.size
  replace w0 := w0.agr (Below.agr hb6 (by omega))
  replace rw := rw.agr (Below.agr hb6 (by omega))
  replace i := i.agr (Below.agr hb6 (by omega))
  replace rg := rg.agr (Below.agr hb6 (by omega))
  replace hbA := hbA.trans (hb6.mono (by omega))
  clear hb6
  go_wp2_with fail
  go_at_call 23
  refine (eqIntS_yes _ _ _ _ _ _ _ hnn (Sl.mono (Ow.sl i) (Nat.zero_le _) (by omega)) (Sl.mono (Ow.sl e) (Nat.zero_le _) (by omega))).mono ?_
  rintro _ wd7 ⟨rfl, hb7⟩
  have hs7 := hb7.size
  replace w0 := w0.agr (Below.agr hb7 (by omega))
  replace rw := rw.agr (Below.agr hb7 (by omega))
  replace i := i.agr (Below.agr hb7 (by omega))
  replace rg := rg.agr (Below.agr hb7 (by omega))
  replace e := e.agr (Below.agr hb7 (by omega))
  replace hbA := hbA.trans (hb7.mono (by omega))
  clear hb7
  clear e
  go_wp2_with fail
  go_at_call 24
  refine (markIntS_any _ _ _ _ _ 1 _ _ hnn (by omega) (by omega) (by omega) i).mono ?_
  rintro _ wd8 ⟨rfl, ht8, -⟩
  clear i
  have hs8 := ht8.size
  replace w0 := w0.agr (Tch.agr ht8 (by omega) (by omega))
  replace rw := rw.agr (Tch.agr ht8 (by omega) (by omega))
  replace rg := rg.agr (Tch.agr ht8 (by omega) (by omega))
  replace hbA := hbA.trans (ht8.below (by omega) (by omega))
  clear ht8
  go_wp2_with fail
  go_at_call 22
  refine (eqIntSS_yes _ _ _ _ _ _ _ hnR hlR (Ts.mono (TsO.sl rg) (Nat.zero_le _) (by omega)) (Ts.mono (TsO.sl rw) (Nat.zero_le _) (by omega))).mono ?_
  rintro _ wd9 ⟨rfl, hb9⟩
  have hs9 := hb9.size
  replace w0 := w0.agr (Below.agr hb9 (by omega))
  replace rw := rw.agr (Below.agr hb9 (by omega))
  replace rg := rg.agr (Below.agr hb9 (by omega))
  replace hbA := hbA.trans (hb9.mono (by omega))
  clear hb9
  go_wp2_with fail
  go_at_call 25
  refine (markIntSS_any _ _ _ _ _ _ _ hnR hlR (by omega) rg).mono ?_
  rintro _ wd10 ⟨rfl, ht10, rgm⟩
  clear rg
  have hs10 := ht10.size
  replace w0 := w0.agr (Tch.agr ht10 (by omega) (by omega))
  replace rw := rw.agr (Tch.agr ht10 (by omega) (by omega))
  replace hbA := hbA.trans (ht10.below (by omega) (by omega))
  clear ht10
  go_wp2_with fail
  go_at_call 26
  refine (heldIntSS_any _ _ _ _ _ hnR hlR (Ts.mono (TsO.sl rgm) (Nat.zero_le _) (by omega))).mono ?_
  rintro _ _ ⟨rfl, rfl⟩
  go_wp2_with fail
  go_at_call 20
  refine (toIntS_any _ _ _ _ _ hnn (Sl.mono w0 (Nat.zero_le _) (by omega))).mono ?_
  rintro _ wd11 ⟨gt, rfl, t, hb11⟩
  have hs11 := hb11.size
  replace w0 := w0.agr (Below.agr hb11 (by omega))
  replace rw := rw.agr (Below.agr hb11 (by omega))
  replace rgm := rgm.agr (Below.agr hb11 (by omega))
  replace hbA := hbA.trans (hb11.mono (by omega))
  clear hb11
  go_wp2_with fail
  go_at_call 21
  refine ((StackLayers_any _ _ _ _ _ hnn (Sl.mono (Ow.sl t) (Nat.zero_le _) (by omega))).mono fun _ _ h => h.q).mono ?_
  rintro _ wd12 ⟨Arh, crh, rfl, rh, hb12⟩
  have hs12 := hb12.size
  replace w0 := w0.agr (Below.agr hb12 (by omega))
  replace rw := rw.agr (Below.agr hb12 (by omega))
  replace rgm := rgm.agr (Below.agr hb12 (by omega))
  replace t := t.agr (Below.agr hb12 (by omega))
  replace hbA := hbA.trans (hb12.mono (by omega))
  clear hb12
  clear t
  go_wp2_with fail
  go_at_call 22
  refine (eqIntSS_yes _ _ _ _ _ _ _ hnR hlR (Ts.mono (TsO.sl rh) (Nat.zero_le _) (by omega)) (Ts.mono (TsO.sl rw) (Nat.zero_le _) (by omega))).mono ?_
  rintro _ wd13 ⟨rfl, hb13⟩
  have hs13 := hb13.size
  replace w0 := w0.agr (Below.agr hb13 (by omega))
  replace rw := rw.agr (Below.agr hb13 (by omega))
  replace rgm := rgm.agr (Below.agr hb13 (by omega))
  replace rh := rh.agr (Below.agr hb13 (by omega))
  replace hbA := hbA.trans (hb13.mono (by omega))
  clear hb13
  clear rh rw
  go_wp2_with fail
  go_at_call 26
  refine (heldIntSS_any _ _ _ _ _ hnR hlR (Ts.mono (TsO.sl rgm) (Nat.zero_le _) (by omega))).mono ?_
  rintro _ _ ⟨rfl, rfl⟩
  go_wp2
  go_ret
  exact ⟨rfl, hbA⟩

namespace fnExactStackLayers
set_option maxRecDepth 100000 in
theorem lifted (os : Os) (started : os.Started) (H : Type) (enc : TypeId × Value → H) :
    ReturnsInHanded {} Try.checked os 4 .any (Rows.fnExactStackLayersSpec.pre6 enc Try.prog Try.f4 Rows.fnExactStackLayersRow.domain false) (Rows.fnExactStackLayersSpec.post enc Try.prog Try.f4 false true false false) := by
  refine returnsInHanded_of_change (C := Try.checked) own started (by kernel_rfl) Try.func4
    (ChangeSpec.witness6 (enc := enc) (C := Try.checked) false ⟨#[], #[.slice none 0 0], []⟩ 8 (by kernel_rfl) (by kernel_rfl) (by kernel_rfl) (by kernel_rfl)) ?_
  intro W base args ds gs before hval0 hW hcnd _
  have hval : ∀ (j : Nat) t v, Try.f4.params[j]? = some t → args[j]? = some v → Value.okWide Try.prog W .any base t v := hval0
  have hW' := hW
  obtain ⟨p, q, hA0, hV, rfl, hfz, hnd⟩ := hW
  have hA : DataW.TrodAll enc Try.prog W 0 (fun _ => true) true Try.f4.params.toList args.toList ds p := hA0
  rw [Try.params4] at hA hval
  obtain ⟨v0, vs0, d0, ds0, p0, q0, hargs, rfl, rfl, h0, r0⟩ := trodAll_cons hA
  obtain ⟨rfl, rfl, rfl⟩ := trodAll_nil r0
  obtain rfl : args = #[v0] := by cases args; simp_all
  obtain ⟨rfl, rfl⟩ := trodVars_none hV
  have k0 := h0
  have lt0 : ∀ x ∈ p0, x.block < W.heap.size := by obtain ⟨m, hm⟩ := k0; exact DataW.trod_lt m _ _ _ hm
  obtain ⟨a0, l0, c0, rfl⟩ := okWide_slice Try.underlying22 (hval 0 22 v0 rfl rfl)
  obtain ⟨hl0, F0, w0⟩ : l0 ≤ maxLen ∧ ∃ F, Rd W a0 l0 1 (ints F) := by
    obtain ⟨fuel, hf⟩ := h0
    obtain ⟨hl, F, hF, hp⟩ := rows_of_trod (sz := 1) Try.underlying22 (by kernel_rfl) (by decide) (fun cs => ∃ l : List Int, cs = l.map (Value.int .i64)) (fun n cs y hy _ => by obtain ⟨z, e, -, -⟩ := DataW.trod_int Try.underlying3 hy; exact ⟨[z], by rw [e]; rfl⟩) (by simpa [Value.cells] using hf)
    exact ⟨hl, ints_of_rows hF hp⟩
  clear hA0 hval0
  refine (law_StackLayers a0 l0 c0 F0 W hl0 w0).mono fun e W' ⟨he, bel⟩ => ?_
  subst he
  exact ⟨_, rfl, _, _, _, [], _, [], hW', trodAll_mk1 (shut_bool Try.underlying4 _), (trodAll_cons_mk (Below.trod laidOut (by kernel_rfl) (of_decide_eq_true (by kernel_rfl)) k0 bel lt0) trodAll_mk0), rfl, bel.frame _, fun h => by cases h⟩

theorem over : Rows.fnExactStackLayersRow.holds Try.pinned (OpenSpec.ofChange Rows.fnExactStackLayersSpec) :=
  OpenClaim.holds_of_wide 4 Try.f4 rfl rfl rfl rfl rfl rfl rfl ⟨rfl, rfl, rfl, rfl, rfl⟩ rfl rfl rfl rfl rfl (by kernel_rfl) Try.func4 (by kernel_rfl)
    (of_decide_eq_true (by kernel_rfl)) (by unfold Func.isWrapper; first | (rw [if_pos (by decide +kernel)]; kernel_rfl) | (rw [if_neg (by decide +kernel)]; exact ⟨rfl, rfl⟩))
    (fun os started H enc _ => lifted os started H enc)

theorem proved : Rows.FnExactStackLayersSaid := over
end fnExactStackLayers
#print axioms fnExactStackLayers.proved
end Go.Proofs.Ytidcmdnhnnhnhaa
