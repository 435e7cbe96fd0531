/-
  The law FnExactPureBetween: for all arguments the program's PureBetween returns what the reference's returns. Conditions: none.
-/
import Derived.Test.YtnmpfojcmedpeaaDoorCrF
import Derived.Test.YtnmpfojcmedpeaaDoorCrU
import Derived.Test.YtnmpfojcmedpeaaDoorCrO
import Derived.Test.YtnmpfojcmedpeaaDoorOpen
import Derived.Test.YtnmpfojcmedpeaaDoorLaid
import Derived.Test.YtnmpfojcmedpeaaDoorTie
import Derived.Test.YtnmpfojcmedpeaaDoorCards
namespace Go.Proofs.YtnmpfojcmedpeaaDoor
open Go.ChangeShapes Go.WideShapes Go.ChangeAt Go.RowKit
attribute [local go_sem ↓] Go.wp_at_zero Go.wp_at_succ

set_option maxRecDepth 20000 in
set_option maxHeartbeats 8000000 in
theorem law_PureBetween (a0 : Option Addr) (l0 c0 : Nat) (S0 : Nat → ByteArray) (F0 : Nat → Nat → Int) (x1 : Int) (B1 : Option Addr) (m1 d1 : Nat) (L1 : Nat → Nat → Int) (z2 : Int) (w : World) (hm0 : l0 ≤ maxLen) (HS : Hid (∀ i, i < l0 → (S0 i).size ≤ 9223372036854775807)) (w0 : Rd w a0 l0 3 (kdC S0 F0)) (hm1 : m1 ≤ maxLen) (w1 : Rd w B1 m1 1 (ints L1)) :
    Calls Tryd.prog 11 #[.slice a0 l0 c0, .agg #[.int .i64 x1, .slice B1 m1 d1], .int .i64 z2] w fun e w' => e = .returned (.bool true) ∧ Below w.heap.size w w' := by
  have hn0 : l0 ≤ 9223372036854775807 := by simpa [maxLen] using hm0
  have hn1 : m1 ≤ 9223372036854775807 := by simpa [maxLen] using hm1
  clear hm0 hm1
  have hbA : Below w.heap.size w (w.alloc (.cells #[.int .i64 x1, .slice B1 m1 d1] 54)) := (Below.refl _ _).alloc (Nat.le_refl _) _
  have hz : w.heap.size < (w.alloc (.cells #[.int .i64 x1, .slice B1 m1 d1] 54)).heap.size := by simp
  have e0 : World.cell? (w.alloc (.cells #[.int .i64 x1, .slice B1 m1 d1] 54)) ⟨w.heap.size, 0, none⟩ = some (.int .i64 x1) := by rw [World.cell?_alloc_new]; rfl
  have e1 : World.cell? (w.alloc (.cells #[.int .i64 x1, .slice B1 m1 d1] 54)) ⟨w.heap.size, 1, none⟩ = some (.slice B1 m1 d1) := by rw [World.cell?_alloc_new]; rfl
  replace w0 := Rd.below w0 hbA
  replace w1 := Rd.below w1 hbA
  go_enter Tryd.func11, Tryd.ntmps11
  go_wp2_with fail
  go_at_call 42
  refine (szKindS_any _ _ _ _ _ _ hn0 HS w0).mono ?_
  rintro _ u1 ⟨r, rfl, HR, hb⟩
  replace e0 := (Below.cell hb (p := ⟨w.heap.size, 0, none⟩) hz).trans e0
  replace e1 := (Below.cell hb (p := ⟨w.heap.size, 1, none⟩) hz).trans e1
  replace hz := Nat.lt_of_lt_of_le hz (Below.size hb)
  replace hbA := gr hbA hb
  replace w0 := Rd.below w0 hb
  replace w1 := Rd.below w1 hb
  clear hb
  rcases HR.out with hr | ⟨hr, hr1, hnn⟩
  · have hd : decide (r < 0) = true := by simpa using hr
    go_wp2
    go_ret
    exact ⟨rfl, hbA⟩
  have hd : decide (r < 0) = false := by simp; omega
  clear HR
  by_cases hle : r < m1
  · have hs := hide (show szR r m1 = -1 by unfold szR; rw [if_pos hle])
    go_wp2_with fail
    go_at_call 45
    refine (szLiquor_any _ _ _ _ _ _ hn1 hr hr1).mono ?_
    rintro _ u2 ⟨rfl, hb⟩
    rw [hs.out]
    go_wp2
    go_ret
    exact ⟨rfl, gr hbA hb⟩
  have hs := hide (show szR r m1 = r - m1 by unfold szR; rw [if_neg hle])
  have hmm : m1 ≤ 1048576 := by omega
  go_wp2_with fail
  go_at_call 45
  refine (szLiquor_any _ _ _ _ _ _ hn1 hr hr1).mono ?_
  rintro _ u2 ⟨rfl, hb⟩
  replace e0 := (Below.cell hb (p := ⟨w.heap.size, 0, none⟩) hz).trans e0
  replace e1 := (Below.cell hb (p := ⟨w.heap.size, 1, none⟩) hz).trans e1
  replace hz := Nat.lt_of_lt_of_le hz (Below.size hb)
  replace hbA := gr hbA hb
  replace w0 := Rd.below w0 hb
  replace w1 := Rd.below w1 hb
  clear hb
  rw [hs.out]
  have hd2 : decide (r - (m1 : Int) < 0) = false := by simp; omega
  clear hle
  go_wp2
  have d0 : ∀ w', Below u2.heap.size u2 w' → w'.cell? ⟨w.heap.size, 0, none⟩ = some (.int .i64 x1) := fun w' hb => (hb.cell (by exact hz)).trans e0
  have d1 : ∀ w', Below u2.heap.size u2 w' → w'.cell? ⟨w.heap.size, 1, none⟩ = some (.slice B1 m1 d1) := fun w' hb => (hb.cell (by exact hz)).trans e1
  go_region_held3 (fun w' => Below u2.heap.size u2 w') ((repeat' (first | exact Below.refl _ _ | assumption | refine Below.drew ?_ | refine Below.alloc ?_ (by first | omega | exact Below.size (by assumption) | (simp; done) | (simp; omega)) _ | refine Below.setCell ?_ (by first | omega | exact Below.size (by assumption) | (simp; done) | (simp; omega)) _))) (first | (go_at_call 43; refine (toKindS_any _ _ _ _ _ _ hnn (Rd.below w0 (by assumption))).mono ?_; rintro _ v1 ⟨g1, rfl, o1, hb1⟩; have C1 := gr (by assumption : Below u2.heap.size u2 _) hb1; have rk1 := Sl.rd o1.sl (Nat.le_refl _); clear o1) | (go_at_call 46; refine (toLiquor_any _ _ _ _ _ _ hmm (Rd.below w1 (by assumption))).mono ?_; rintro _ v2 ⟨rfl, o2, s2, hb2⟩; have C2 := gr (by assumption : Below u2.heap.size u2 _) hb2; have rk2 := Rd.below rk1 hb2; have rl2 := Sl.rd o2.sl (by omega); clear o2 s2) | (go_at_call 24; refine (spec_PureBetween_any _ _ _ _ _ _ _ _ _ _ _ _ hnn hmm HS rk2 rl2).mono ?_; rintro _ v3 ⟨rfl, hb3⟩; have C3 := gr (by assumption : Below u2.heap.size u2 _) hb3))
  clear rk1 rk2 rl2 hb1 hb2 hb3 C1 C2 d0 d1
  replace e0 := (Below.cell C3 (p := ⟨w.heap.size, 0, none⟩) hz).trans e0
  replace e1 := (Below.cell C3 (p := ⟨w.heap.size, 1, none⟩) hz).trans e1
  replace hz := Nat.lt_of_lt_of_le hz (Below.size C3)
  replace hbA := gr hbA C3
  replace w0 := Rd.below w0 C3
  replace w1 := Rd.below w1 C3
  clear C3
  go_wp2_with fail
  go_at_call 43
  refine (toKindS_any _ _ _ _ _ _ hnn w0).mono ?_
  rintro _ v4 ⟨g4, rfl, o4, hb⟩
  replace e0 := (Below.cell hb (p := ⟨w.heap.size, 0, none⟩) hz).trans e0
  replace e1 := (Below.cell hb (p := ⟨w.heap.size, 1, none⟩) hz).trans e1
  replace hz := Nat.lt_of_lt_of_le hz (Below.size hb)
  replace hbA := gr hbA hb
  replace w0 := Rd.below w0 hb
  replace w1 := Rd.below w1 hb
  clear hb
  have rk := Sl.rd o4.sl (Nat.le_refl _)
  clear o4
  go_wp2_with fail
  go_at_call 46
  refine (toLiquor_any _ _ _ _ _ _ hmm w1).mono ?_
  rintro _ vq ⟨rfl, o5, s5, hb⟩
  replace e0 := (Below.cell hb (p := ⟨w.heap.size, 0, none⟩) hz).trans e0
  replace e1 := (Below.cell hb (p := ⟨w.heap.size, 1, none⟩) hz).trans e1
  replace hz := Nat.lt_of_lt_of_le hz (Below.size hb)
  replace hbA := gr hbA hb
  replace w0 := Rd.below w0 hb
  replace w1 := Rd.below w1 hb
  replace rk := Rd.below rk hb
  clear hb
  have rl := Sl.rd o5.sl (by omega)
  clear o5 s5
  go_wp2_with fail
  have hb : Below vq.heap.size vq (vq.alloc (.cells #[.int .i64 x1, .slice (some ⟨v4.heap.size + 3, 0, none⟩) m1 m1] 27)) := (Below.refl _ _).alloc (Nat.le_refl _) _
  have hq : vq.heap.size < (vq.alloc (.cells #[.int .i64 x1, .slice (some ⟨v4.heap.size + 3, 0, none⟩) m1 m1] 27)).heap.size := by simp
  have y0 : World.cell? (vq.alloc (.cells #[.int .i64 x1, .slice (some ⟨v4.heap.size + 3, 0, none⟩) m1 m1] 27)) ⟨vq.heap.size, 0, none⟩ = some (.int .i64 x1) := by rw [World.cell?_alloc_new]; rfl
  have y1 : World.cell? (vq.alloc (.cells #[.int .i64 x1, .slice (some ⟨v4.heap.size + 3, 0, none⟩) m1 m1] 27)) ⟨vq.heap.size, 1, none⟩ = some (.slice (some ⟨v4.heap.size + 3, 0, none⟩) m1 m1) := by rw [World.cell?_alloc_new]; rfl
  generalize vq.alloc (.cells #[.int .i64 x1, .slice (some ⟨v4.heap.size + 3, 0, none⟩) m1 m1] 27) = v5 at hb hq y0 y1 ⊢
  replace e0 := (Below.cell hb (p := ⟨w.heap.size, 0, none⟩) hz).trans e0
  replace e1 := (Below.cell hb (p := ⟨w.heap.size, 1, none⟩) hz).trans e1
  replace hz := Nat.lt_of_lt_of_le hz (Below.size hb)
  replace hbA := gr hbA hb
  replace w0 := Rd.below w0 hb
  replace w1 := Rd.below w1 hb
  replace rk := Rd.below rk hb
  replace rl := Rd.below rl hb
  clear hb
  go_wp2_with fail
  go_at_call 23
  refine (PureBetween_any _ _ _ _ _ _ _ _ _ _ _ _ hnn hmm HS rk rl).mono ?_
  rintro _ v6 ⟨rfl, hb⟩
  replace e0 := (Below.cell hb (p := ⟨w.heap.size, 0, none⟩) hz).trans e0
  replace e1 := (Below.cell hb (p := ⟨w.heap.size, 1, none⟩) hz).trans e1
  replace hz := Nat.lt_of_lt_of_le hz (Below.size hb)
  replace hbA := gr hbA hb
  replace y0 := (Below.cell hb (p := ⟨vq.heap.size, 0, none⟩) hq).trans y0
  replace y1 := (Below.cell hb (p := ⟨vq.heap.size, 1, none⟩) hq).trans y1
  replace hq := Nat.lt_of_lt_of_le hq (Below.size hb)
  replace w0 := Rd.below w0 hb
  replace w1 := Rd.below w1 hb
  replace rk := Rd.below rk hb
  replace rl := Rd.below rl hb
  clear hb
  go_wp2_with fail
  go_at_call 43
  refine (toKindS_any _ _ _ _ _ _ hnn w0).mono ?_
  rintro _ v7 ⟨g7, rfl, o7, hb⟩
  replace e0 := (Below.cell hb (p := ⟨w.heap.size, 0, none⟩) hz).trans e0
  replace e1 := (Below.cell hb (p := ⟨w.heap.size, 1, none⟩) hz).trans e1
  replace hz := Nat.lt_of_lt_of_le hz (Below.size hb)
  replace hbA := gr hbA hb
  replace y0 := (Below.cell hb (p := ⟨vq.heap.size, 0, none⟩) hq).trans y0
  replace y1 := (Below.cell hb (p := ⟨vq.heap.size, 1, none⟩) hq).trans y1
  replace hq := Nat.lt_of_lt_of_le hq (Below.size hb)
  replace w0 := Rd.below w0 hb
  replace w1 := Rd.below w1 hb
  replace rk := Rd.below rk hb
  replace rl := Rd.below rl hb
  clear hb
  have rk7 := Sl.rd o7.sl (Nat.le_refl _)
  clear o7
  go_wp2_with fail
  go_at_call 44
  refine (eqKindS_yes _ _ _ _ _ _ _ _ hnn rk rk7).mono ?_
  rintro _ v8 ⟨rfl, hb⟩
  clear rk rk7
  replace e0 := (Below.cell hb (p := ⟨w.heap.size, 0, none⟩) hz).trans e0
  replace e1 := (Below.cell hb (p := ⟨w.heap.size, 1, none⟩) hz).trans e1
  replace hz := Nat.lt_of_lt_of_le hz (Below.size hb)
  replace hbA := gr hbA hb
  replace y0 := (Below.cell hb (p := ⟨vq.heap.size, 0, none⟩) hq).trans y0
  replace y1 := (Below.cell hb (p := ⟨vq.heap.size, 1, none⟩) hq).trans y1
  replace hq := Nat.lt_of_lt_of_le hq (Below.size hb)
  replace w0 := Rd.below w0 hb
  replace w1 := Rd.below w1 hb
  replace rl := Rd.below rl hb
  clear hb
  go_wp2
  have d0 : ∀ w', Below v8.heap.size v8 w' → w'.cell? ⟨w.heap.size, 0, none⟩ = some (.int .i64 x1) := fun w' hb => (hb.cell (by exact hz)).trans e0
  have d1 : ∀ w', Below v8.heap.size v8 w' → w'.cell? ⟨w.heap.size, 1, none⟩ = some (.slice B1 m1 d1) := fun w' hb => (hb.cell (by exact hz)).trans e1
  have d2 : ∀ w', Below v8.heap.size v8 w' → w'.cell? ⟨vq.heap.size, 0, none⟩ = some (.int .i64 x1) := fun w' hb => (hb.cell (by exact hq)).trans y0
  have d3 : ∀ w', Below v8.heap.size v8 w' → w'.cell? ⟨vq.heap.size, 1, none⟩ = some (.slice (some ⟨v4.heap.size + 3, 0, none⟩) m1 m1) := fun w' hb => (hb.cell (by exact hq)).trans y1
  clear e0 e1 y0 y1
  go_region_held3 (fun w' => Below v8.heap.size v8 w') ((repeat' (first | exact Below.refl _ _ | assumption | refine Below.drew ?_ | refine Below.alloc ?_ (by first | omega | exact Below.size (by assumption) | (simp; done) | (simp; omega)) _ | refine Below.setCell ?_ (by first | omega | exact Below.size (by assumption) | (simp; done) | (simp; omega)) _))) (first | (go_at_call 46; refine (toLiquor_any _ _ _ _ _ _ hmm (Rd.below w1 (by assumption))).mono ?_; rintro _ v9 ⟨rfl, o9, s9, hb9⟩; have C9 := gr (by assumption : Below v8.heap.size v8 _) hb9; have rl9 := Sl.rd o9.sl (by omega); clear o9) | (go_at_call 47; refine (eqLiquor_yes _ _ _ _ _ _ _ _ hmm (Rd.below rl (by assumption)) (by assumption)).mono ?_; rintro _ v10 ⟨rfl, hb10⟩; have C10 := gr (by assumption : Below v8.heap.size v8 _) hb10))
  go_wp2
  go_ret
  exact ⟨rfl, gr hbA C10⟩

namespace fnExactPureBetween
set_option maxRecDepth 100000 in
theorem lifted (os : Os) (started : os.Started) (H : Type) (enc : TypeId × Value → H) :
    ReturnsInHanded {} Tryd.checked os 11 .any (fun w args => (Rows.fnExactPureBetweenSpec.pre enc Tryd.prog Tryd.f11 Rows.fnExactPureBetweenRow.domain false w args ∧ laidMetH Tryd.prog [("unicode/utf8.acceptRanges", Rows.laid_unicode_utf8_acceptRanges), ("unicode/utf8.first", Rows.laid_unicode_utf8_first)] w) ∧ sizedMet enc Tryd.prog Tryd.f11 (OpenSpec.ofChange Rows.fnExactPureBetweenSpec) false w args) (Rows.fnExactPureBetweenSpec.post enc Tryd.prog Tryd.f11 false true false false) := by
  refine returnsInHanded_of_change_and (C := Tryd.checked) (X := fun w _ => laidMetH Tryd.prog [("unicode/utf8.acceptRanges", Rows.laid_unicode_utf8_acceptRanges), ("unicode/utf8.first", Rows.laid_unicode_utf8_first)] w) (fun _ _ _ hh h => h.of_heap hh) own started (by kernel_rfl) Tryd.func11
    (ChangeSpec.witness_shaped (enc := enc) (C := Tryd.checked) (os := os) (X := fun w _ => laidMetH Tryd.prog [("unicode/utf8.acceptRanges", Rows.laid_unicode_utf8_acceptRanges), ("unicode/utf8.first", Rows.laid_unicode_utf8_first)] w) false (World.laidAll Tryd.prog os [("unicode/utf8.acceptRanges", Rows.laid_unicode_utf8_acceptRanges), ("unicode/utf8.first", Rows.laid_unicode_utf8_first)]) #[.slice none 0 0, .agg #[.int .i64 0, .slice none 0 0], .int .i64 0] 8 (World.laidAll_os _ _ _)
      (World.shaped_of_ZipB (by kernel_rfl) (by kernel_rfl)) (by kernel_rfl) (by kernel_rfl) (by kernel_rfl)
      (by rw [MakeChecks.laidMetH_plain _ _ _ (by kernel_rfl)]; exact laidMet_laidAll _ (by kernel_rfl) (by kernel_rfl))) ?_
  intro W base args ds gs before hval0 hW _ _ _ _
  have hval : ∀ (j : Nat) t v, Tryd.f11.params[j]? = some t → args[j]? = some v → Value.okWide Tryd.prog W .any base t v := hval0
  have hW' := hW
  obtain ⟨p, q, hA0, hV, rfl, hfz, hnd⟩ := hW
  have hA : DataW.TrodAll enc Tryd.prog W 0 (fun _ => true) true Tryd.f11.params.toList args.toList ds p := hA0
  rw [Tryd.params11] at hA hval
  obtain ⟨v0, vs0, d0, ds0, p0, q0, hargs, rfl, rfl, h0, r0⟩ := trodAll_cons hA
  obtain ⟨v1, vs1, d1, ds1, p1, q1, rfl, rfl, rfl, h1, r1⟩ := trodAll_cons r0
  obtain ⟨v2, vs2, d2, ds2, p2, q2, rfl, rfl, rfl, h2, r2⟩ := trodAll_cons r1
  obtain ⟨rfl, rfl, rfl⟩ := trodAll_nil r2
  obtain rfl : args = #[v0, v1, v2] := by cases args; simp_all
  obtain ⟨rfl, rfl⟩ := trodVars_none hV
  have k0 := h0
  have lt0 : ∀ x ∈ p0, x.block < W.heap.size := by obtain ⟨m, hm⟩ := k0; exact DataW.trod_lt m _ _ _ hm
  obtain ⟨a0, l0, c0, rfl⟩ := okWide_slice Tryd.underlying49 (hval 0 49 v0 rfl rfl)
  obtain ⟨hl0, S0, F0, w0, hs0⟩ : l0 ≤ maxLen ∧ ∃ S F, Rd W a0 l0 3 (kdC S F) ∧ ∀ i, i < l0 → (S i).size ≤ 9223372036854775807 := by
    obtain ⟨fuel, hf⟩ := h0
    obtain ⟨hl, F, hF, hp⟩ := rows_of_trod (sz := 3) Tryd.underlying49 (by kernel_rfl) (by decide) kindCs (fun n cs y hy hl => kind_of_struct Tryd.underlying81 (by kernel_rfl) Tryd.underlying9 Tryd.underlying3 Tryd.underlying3 hy hl) (by simpa [Value.cells] using hf)
    exact ⟨hl, kinds_of_rows hF hp⟩
  have k1 := h1
  have lt1 : ∀ x ∈ p1, x.block < W.heap.size := by obtain ⟨m, hm⟩ := k1; exact DataW.trod_lt m _ _ _ hm
  obtain ⟨x1, B1, m1, d1', L1, rfl, w1, hl1⟩ : ∃ (x : Int) (B : Option Addr) (m c : Nat) (L : Nat → Nat → Int), v1 = .agg #[.int .i64 x, .slice B m c] ∧ Rd W B m 1 (ints L) ∧ m ≤ maxLen := by
    obtain ⟨c0, c1, y0, y1, m, rfl, -, -, hy0, hy1⟩ := Joins.open_agg2 Tryd.underlying54 (by kernel_rfl) (by kernel_rfl) (hval 1 54 v1 rfl rfl) h1
    obtain ⟨x, e0, -, -⟩ := DataW.trod_int Tryd.underlying3 hy0
    obtain ⟨B, m, c, L, e2, hB, hm⟩ := ints_of_slice Tryd.underlying25 Tryd.underlying3 (by kernel_rfl) hy1
    simp at e0 e2
    exact ⟨x, B, m, c, L, by rw [e0, e2], hB, hm⟩
  have k2 := h2
  have lt2 : ∀ x ∈ p2, x.block < W.heap.size := by obtain ⟨m, hm⟩ := k2; exact DataW.trod_lt m _ _ _ hm
  obtain ⟨z2, rfl, rfl, rfl, -⟩ := open_int Tryd.underlying3 (hval 2 3 v2 rfl rfl) h2
  clear hA0 hval0
  refine (law_PureBetween a0 l0 c0 S0 F0 x1 B1 m1 d1' L1 z2 W hl0 (hide hs0) w0 hl1 w1).mono fun e W' ⟨he, bel⟩ => ?_
  subst he
  exact ⟨_, rfl, _, _, _, [], _, [], hW', trodAll_mk1 (shut_bool Tryd.underlying4 _), (trodAll_cons_mk (Below.trod laidOut (by kernel_rfl) (of_decide_eq_true (by kernel_rfl)) k0 bel lt0) (trodAll_cons_mk (Below.trod laidOut (by kernel_rfl) (of_decide_eq_true (by kernel_rfl)) k1 bel lt1) (trodAll_cons_mk (Below.trod laidOut (by kernel_rfl) (of_decide_eq_true (by kernel_rfl)) k2 bel lt2) trodAll_mk0))), rfl, bel.frame _, fun h => by cases h⟩

theorem over : Rows.fnExactPureBetweenRow.holds Tryd.pinned (OpenSpec.ofChange Rows.fnExactPureBetweenSpec) :=
  OpenClaim.holds_of_wide 11 Tryd.f11 rfl rfl rfl rfl rfl rfl rfl ⟨rfl, rfl, rfl, rfl, rfl⟩ rfl rfl rfl rfl rfl (by kernel_rfl) Tryd.func11 (by kernel_rfl)
    (of_decide_eq_true (by kernel_rfl)) (by unfold Func.isWrapper; first | (rw [if_pos (by decide +kernel)]; kernel_rfl) | (rw [if_neg (by decide +kernel)]; exact ⟨rfl, rfl⟩))
    (fun os started H enc _ => lifted os started H enc)

theorem proved : Rows.FnExactPureBetweenCardSaid :=
  Claim7.holds_tied_plain_at .later [] [.data, .pinned] true (true, "7896a40067982a83cfd24083683a4453ea77e5aa9cd191f8d74f5adf758bff7b") false over (fun _ h => by cases h) (by kernel_rfl) (fun _ h => by cases h) fnExactPureBetween_row_tie rfl ⟨rfl, rfl⟩ (by kernel_rfl) rfl
    (fun f fn hf hfn => by
      obtain rfl : f = 11 := Option.some.inj ((show Tryd.prog.funcNamed "loop.example/g01019/laws.FnExactPureBetween" = some 11 by kernel_rfl).symm.trans hf) |>.symm
      obtain rfl : fn = Tryd.f11 := (Option.some.inj (Tryd.func11.symm.trans hfn)).symm
      exact ⟨by kernel_rfl, fun j t ht => by
        rw [Tryd.params11] at ht
        have hm : t ∈ [49, 54, 3] := by simpa using Array.mem_of_getElem? ht
        have hall : ([49, 54, 3].all fun u => !Tryd.prog.wantsStandIn u) = true := by kernel_rfl
        exact (show Tryd.prog.wantsStandIn t = false by simpa using List.all_eq_true.1 hall t hm)⟩)
    (by kernel_rfl)
end fnExactPureBetween
#print axioms fnExactPureBetween.proved
end Go.Proofs.YtnmpfojcmedpeaaDoor
