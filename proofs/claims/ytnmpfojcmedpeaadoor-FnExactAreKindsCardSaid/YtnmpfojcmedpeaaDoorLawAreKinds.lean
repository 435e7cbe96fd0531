/-
  The law FnExactAreKinds: for all arguments the program's AreKinds returns what the reference's returns. Conditions: none.
-/
import Derived.Test.YtnmpfojcmedpeaaDoorCrA
import Derived.Test.YtnmpfojcmedpeaaDoorCrT
import Derived.Test.YtnmpfojcmedpeaaDoorCrO
import Derived.Test.YtnmpfojcmedpeaaDoorLaid
import Derived.Test.YtnmpfojcmedpeaaDoorTie
import Derived.Test.YtnmpfojcmedpeaaDoorCards
namespace Go.Proofs.YtnmpfojcmedpeaaDoor
open Go.ChangeShapes Go.WideShapes Go.ChangeAt Go.RowKit

set_option maxHeartbeats 4000000 in
theorem law_AreKinds (A : Option Addr) (n c : Nat) (S : Nat → ByteArray) (F : Nat → Nat → Int) (w : World) (hm : n ≤ maxLen) (HS : Hid (∀ i, i < n → (S i).size ≤ 9223372036854775807)) (h : Rd w A n 3 (kdC S F)) :
    Calls Tryd.prog 5 #[.slice A n c] w fun e w' => e = .returned (.bool true) ∧ Below w.heap.size w w' := by
  have hn : n ≤ 9223372036854775807 := by simpa [maxLen] using hm
  clear hm
  go_enter Tryd.func5, Tryd.ntmps5
  go_wp2_with fail
  go_at_call 42
  refine (szKindS_any _ _ _ _ _ _ hn HS h).mono ?_
  rintro _ w1 ⟨r, rfl, HR, hb1⟩
  rcases HR.out with hr | ⟨hr, -, hnn⟩
  · have hd : decide (r < 0) = true := by simpa using hr
    go_wp2
    go_ret
    exact ⟨rfl, hb1⟩
  have hd : decide (r < 0) = false := by simp; omega
  clear HR hr
  replace h := Rd.below h hb1
  go_wp2_with fail
  go_at_call 43
  refine (toKindS_any _ _ _ _ _ _ hnn h).mono ?_
  rintro _ w2 ⟨g2, rfl, o2, hb2⟩
  have r2 := Sl.rd o2.sl (Nat.le_refl _)
  clear o2
  replace h := Rd.below h hb2
  go_wp2_with fail
  go_at_call 33
  refine (spec_AreKinds_any _ _ _ _ _ _ hnn HS r2).mono ?_
  rintro _ w3 ⟨rfl, hb3⟩
  clear r2
  replace h := Rd.below h hb3
  go_wp2_with fail
  go_at_call 43
  refine (toKindS_any _ _ _ _ _ _ hnn h).mono ?_
  rintro _ w4 ⟨g4, rfl, o4, hb4⟩
  have r4 := Sl.rd o4.sl (Nat.le_refl _)
  clear o4
  replace h := Rd.below h hb4
  go_wp2_with fail
  go_at_call 32
  refine (AreKinds_any _ _ _ _ _ _ hnn HS r4).mono ?_
  rintro _ w5 ⟨rfl, hb5⟩
  replace h := Rd.below h hb5
  replace r4 := Rd.below r4 hb5
  go_wp2_with fail
  go_at_call 43
  refine (toKindS_any _ _ _ _ _ _ hnn h).mono ?_
  rintro _ w6 ⟨g6, rfl, o6, hb6⟩
  have r6 := Sl.rd o6.sl (Nat.le_refl _)
  clear o6
  replace r4 := Rd.below r4 hb6
  go_wp2_with fail
  go_at_call 44
  refine (eqKindS_yes _ _ _ _ _ _ _ _ hnn r4 r6).mono ?_
  rintro _ w7 ⟨rfl, hb7⟩
  go_wp2
  go_ret
  exact ⟨rfl, gr hb1 (gr hb2 (gr hb3 (gr hb4 (gr hb5 (gr hb6 hb7)))))⟩

namespace fnExactAreKinds
set_option maxRecDepth 100000 in
theorem lifted (os : Os) (started : os.Started) (H : Type) (enc : TypeId × Value → H) :
    ReturnsInHanded {} Tryd.checked os 5 .any (fun w args => (Rows.fnExactAreKindsSpec.pre enc Tryd.prog Tryd.f5 Rows.fnExactAreKindsRow.domain false w args ∧ laidMetH Tryd.prog [("unicode/utf8.acceptRanges", Rows.laid_unicode_utf8_acceptRanges), ("unicode/utf8.first", Rows.laid_unicode_utf8_first)] w) ∧ sizedMet enc Tryd.prog Tryd.f5 (OpenSpec.ofChange Rows.fnExactAreKindsSpec) false w args) (Rows.fnExactAreKindsSpec.post enc Tryd.prog Tryd.f5 false true false false) := by
  refine returnsInHanded_of_change_and (C := Tryd.checked) (X := fun w _ => laidMetH Tryd.prog [("unicode/utf8.acceptRanges", Rows.laid_unicode_utf8_acceptRanges), ("unicode/utf8.first", Rows.laid_unicode_utf8_first)] w) (fun _ _ _ hh h => h.of_heap hh) own started (by kernel_rfl) Tryd.func5
    (ChangeSpec.witness_shaped (enc := enc) (C := Tryd.checked) (os := os) (X := fun w _ => laidMetH Tryd.prog [("unicode/utf8.acceptRanges", Rows.laid_unicode_utf8_acceptRanges), ("unicode/utf8.first", Rows.laid_unicode_utf8_first)] w) false (World.laidAll Tryd.prog os [("unicode/utf8.acceptRanges", Rows.laid_unicode_utf8_acceptRanges), ("unicode/utf8.first", Rows.laid_unicode_utf8_first)]) #[.slice none 0 0] 8 (World.laidAll_os _ _ _)
      (World.shaped_of_ZipB (by kernel_rfl) (by kernel_rfl)) (by kernel_rfl) (by kernel_rfl) (by kernel_rfl)
      (by rw [MakeChecks.laidMetH_plain _ _ _ (by kernel_rfl)]; exact laidMet_laidAll _ (by kernel_rfl) (by kernel_rfl))) ?_
  intro W base args ds gs before hval0 hW _ _ _ _
  have hval : ∀ (j : Nat) t v, Tryd.f5.params[j]? = some t → args[j]? = some v → Value.okWide Tryd.prog W .any base t v := hval0
  have hW' := hW
  obtain ⟨p, q, hA0, hV, rfl, hfz, hnd⟩ := hW
  have hA : DataW.TrodAll enc Tryd.prog W 0 (fun _ => true) true Tryd.f5.params.toList args.toList ds p := hA0
  rw [Tryd.params5] at hA hval
  obtain ⟨v0, vs0, d0, ds0, p0, q0, hargs, rfl, rfl, h0, r0⟩ := trodAll_cons hA
  obtain ⟨rfl, rfl, rfl⟩ := trodAll_nil r0
  obtain rfl : args = #[v0] := by cases args; simp_all
  obtain ⟨rfl, rfl⟩ := trodVars_none hV
  have k0 := h0
  have lt0 : ∀ x ∈ p0, x.block < W.heap.size := by obtain ⟨m, hm⟩ := k0; exact DataW.trod_lt m _ _ _ hm
  obtain ⟨a0, l0, c0, rfl⟩ := okWide_slice Tryd.underlying49 (hval 0 49 v0 rfl rfl)
  obtain ⟨hl0, S0, F0, w0, hs0⟩ : l0 ≤ maxLen ∧ ∃ S F, Rd W a0 l0 3 (kdC S F) ∧ ∀ i, i < l0 → (S i).size ≤ 9223372036854775807 := by
    obtain ⟨fuel, hf⟩ := h0
    obtain ⟨hl, F, hF, hp⟩ := rows_of_trod (sz := 3) Tryd.underlying49 (by kernel_rfl) (by decide) kindCs (fun n cs y hy hl => kind_of_struct Tryd.underlying81 (by kernel_rfl) Tryd.underlying9 Tryd.underlying3 Tryd.underlying3 hy hl) (by simpa [Value.cells] using hf)
    exact ⟨hl, kinds_of_rows hF hp⟩
  clear hA0 hval0
  refine (law_AreKinds a0 l0 c0 S0 F0 W hl0 (hide hs0) w0).mono fun e W' ⟨he, bel⟩ => ?_
  subst he
  exact ⟨_, rfl, _, _, _, [], _, [], hW', trodAll_mk1 (shut_bool Tryd.underlying4 _), (trodAll_cons_mk (Below.trod laidOut (by kernel_rfl) (of_decide_eq_true (by kernel_rfl)) k0 bel lt0) trodAll_mk0), rfl, bel.frame _, fun h => by cases h⟩

theorem over : Rows.fnExactAreKindsRow.holds Tryd.pinned (OpenSpec.ofChange Rows.fnExactAreKindsSpec) :=
  OpenClaim.holds_of_wide 5 Tryd.f5 rfl rfl rfl rfl rfl rfl rfl ⟨rfl, rfl, rfl, rfl, rfl⟩ rfl rfl rfl rfl rfl (by kernel_rfl) Tryd.func5 (by kernel_rfl)
    (of_decide_eq_true (by kernel_rfl)) (by unfold Func.isWrapper; first | (rw [if_pos (by decide +kernel)]; kernel_rfl) | (rw [if_neg (by decide +kernel)]; exact ⟨rfl, rfl⟩))
    (fun os started H enc _ => lifted os started H enc)

theorem proved : Rows.FnExactAreKindsCardSaid :=
  Claim7.holds_tied_plain_at .later [] [.data, .pinned] true (true, "7896a40067982a83cfd24083683a4453ea77e5aa9cd191f8d74f5adf758bff7b") false over (fun _ h => by cases h) (by kernel_rfl) (fun _ h => by cases h) fnExactAreKinds_row_tie rfl ⟨rfl, rfl⟩ (by kernel_rfl) rfl
    (fun f fn hf hfn => by
      obtain rfl : f = 5 := Option.some.inj ((show Tryd.prog.funcNamed "loop.example/g01019/laws.FnExactAreKinds" = some 5 by kernel_rfl).symm.trans hf) |>.symm
      obtain rfl : fn = Tryd.f5 := (Option.some.inj (Tryd.func5.symm.trans hfn)).symm
      exact ⟨by kernel_rfl, fun j t ht => by
        rw [Tryd.params5] at ht
        have hm : t ∈ [49] := by simpa using Array.mem_of_getElem? ht
        have hall : ([49].all fun u => !Tryd.prog.wantsStandIn u) = true := by kernel_rfl
        exact (show Tryd.prog.wantsStandIn t = false by simpa using List.all_eq_true.1 hall t hm)⟩)
    (by kernel_rfl)
end fnExactAreKinds
#print axioms fnExactAreKinds.proved
end Go.Proofs.YtnmpfojcmedpeaaDoor
