/-
  Contracts for the law FnDrySpans: comparison of lists of pairs, and the contracts on rain with named results. Conditions: lengths up to 2^20.
-/
import Derived.Test.YtcjjpkleipjibaaRainK
import Derived.Test.YtcjjpkleipjibaaDrU
namespace Go.Proofs.Ytcjjpkleipjibaa
open Go.RowKit

theorem run_equalIn_pair {P : Program} (w : World) (d : Nat) (t e : TypeId) (ht : P.underlying t = some (.array 2 e)) (he : P.underlying e = some (.int .i64)) (hsz : ∀ w, (sizeOf e).run P w = .ok 1 w) (a b : Int) :
    (Op.equalIn (d + 2) t (.agg #[.int .i64 a, .int .i64 b]) (.agg #[.int .i64 a, .int .i64 b])).run P w = .ok true w := by
  have pe : ∀ z : Int, (Op.equalIn (d + 1) e (.int .i64 z) (.int .i64 z)).run P w = .ok true w := fun z => by
    rw [run_equalIn_int w d e .i64 .i64 _ _ he]
    simp
  have p0 : (part e #[.int .i64 a, .int .i64 b] (0 * 1)).run P w = .ok (.int .i64 a) w := by simp [part, isAgg, run_underlying he]
  have p1 : (part e #[.int .i64 a, .int .i64 b] (1 * 1)).run P w = .ok (.int .i64 b) w := by simp [part, isAgg, run_underlying he]
  rw [Op.equalIn]
  simp only [Sem.run_bind, run_underlying ht, Result.andThen_ok, hsz, Std.Legacy.Range.forIn_eq_forIn_range', Std.Legacy.Range.size, Nat.sub_zero, Nat.add_sub_cancel, Nat.div_one]
  rw [show List.range' 0 2 1 = [0, 1] from rfl]
  simp [List.forIn_cons, Sem.run_bind, p0, p1, pe, Result.andThen_ok]
set_option maxHeartbeats 400000 in
theorem vPairs_yes (A B : Option Addr) (n c c' : Nat) (F : Nat → Nat → Int) (w : World) (hn : n ≤ 1048576) (h : Rd w A n 2 (ints F)) (h' : Rd w B n 2 (ints F)) :
    Calls Try.prog 46 #[.slice A n c, .slice B n c'] w fun e w' => e = .returned (.bool true) ∧ Below w.heap.size w w' := by
  have q0 : ∀ (w : World) (a b : Int), (Op.equalIn 10000 63 (.agg #[.int .i64 a, .int .i64 b]) (.agg #[.int .i64 a, .int .i64 b])).run Try.prog w = .ok true w := fun w a b => run_equalIn_pair w 9998 63 3 Try.underlying63 Try.underlying3 (fun w => by kernel_rfl) a b
  go_enter Try.func46, Try.ntmps46
  go_wp2
  go_loopw [5] (fun i wr => ∃ k : Nat, k ≤ n ∧ i = .int .i64 k ∧ Below w.heap.size w wr) (fun i _ => n - (intOf i).toNat)
  case atStart => exact ⟨0, by omega, rfl, Below.refl _ _⟩
  case round =>
    obtain ⟨k, hk, rfl, hb⟩ := hrel
    by_cases hlt : k < n
    · obtain ⟨b, off, rfl, -, hbw, hc⟩ := Rd.below h hb (by omega)
      obtain ⟨b', off', rfl, -, hbw', hc'⟩ := Rd.below h' hb (by omega)
      have a0 := fun x : After wr => x.cell (hc k 0 hlt (by omega)) hbw
      have a1 := fun x : After wr => x.cell (hc k 1 hlt (by omega)) hbw
      have e0 := fun x : After wr => x.cell (hc' k 0 hlt (by omega)) hbw'
      have e1 := fun x : After wr => x.cell (hc' k 1 hlt (by omega)) hbw'
      simp only [Nat.add_zero, ints] at a0 a1 e0 e1
      clear hc hc'
      go_wp2
      refine region_after (by kernel_rfl) (by kernel_rfl) ?_
      repeat (go_big_quiet_step ((first | fail)))
      refine wpQuiet_nil ?_
      rintro _ ⟨x, rfl⟩
      go_wp2
      go_roundw
      case rel => exact ⟨k + 1, by omega, by go_num, hb.trans (x.h.mono hb.size)⟩
      case measure => simp [intOf]; omega
    · obtain rfl : k = n := by omega
      go_wp2
      go_ret
      exact ⟨rfl, hb⟩
theorem spec_DrySpans_w (A : Option Addr) (n c : Nat) (F : Nat → Nat → Int) (a b : Int) (w : World) {m : Nat} {ok : Bool} {G : Nat → Nat → Int} (hn : n ≤ 1048576) (h : Rd w A n 2 (ints F)) (hm : (dryL F n a b).length = m) (hk : (showsB F n && spanB a b) = ok) (hG : tabP (dryL F n a b) = G) :
    Calls Try.prog 33 #[.slice A n c, .int .i64 a, .int .i64 b] w fun e w' => ∃ A' c', e = .returned (.tuple #[.slice A' m c', .bool ok]) ∧ Rd w' A' m 2 (ints G) ∧ Below w.heap.size w w' :=
  (spec_DrySpans_any A n c F a b w hn h).mono fun e w' ⟨v, he, hown, hb⟩ => by
    subst hm hk hG
    obtain ⟨A', c', rfl, hO⟩ := pairs_own hown rfl
    exact ⟨A', c', he, hO.sl.rd (Nat.le_refl _), hb⟩
theorem DrySpans_w (A : Option Addr) (n c : Nat) (F : Nat → Nat → Int) (a b : Int) (w : World) {m : Nat} {ok : Bool} {G : Nat → Nat → Int} (hn : n ≤ 1048576) (h : Rd w A n 2 (ints F)) (hm : (dryL F n a b).length = m) (hk : (showsB F n && spanB a b) = ok) (hG : tabP (dryL F n a b) = G) :
    Calls Try.prog 34 #[.slice A n c, .int .i64 a, .int .i64 b] w fun e w' => ∃ A' c', e = .returned (.tuple #[.slice A' m c', .bool ok]) ∧ Rd w' A' m 2 (ints G) ∧ Below w.heap.size w w' :=
  (DrySpans_any A n c F a b w hn h).mono fun e w' ⟨v, he, hown, hb⟩ => by
    subst hm hk hG
    obtain ⟨A', c', rfl, hO⟩ := pairs_own hown rfl
    exact ⟨A', c', he, hO.sl.rd (Nat.le_refl _), hb⟩
theorem spec_LongestDry_w (A : Option Addr) (n c : Nat) (F : Nat → Nat → Int) (a b : Int) (w : World) {x y : Int} {T : Bool} (hn : n ≤ 1048576) (h : Rd w A n 2 (ints F)) (hE : longR F n a b = (x, y, T)) :
    Calls Try.prog 25 #[.slice A n c, .int .i64 a, .int .i64 b] w fun e w' => e = .returned (.tuple #[.int .i64 x, .int .i64 y, .bool T]) ∧ Below w.heap.size w w' := by
  have := spec_LongestDry_any A n c F a b w hn h
  rw [hE] at this
  exact this
theorem LongestDry_w (A : Option Addr) (n c : Nat) (F : Nat → Nat → Int) (a b : Int) (w : World) {x y : Int} {T : Bool} (hn : n ≤ 1048576) (h : Rd w A n 2 (ints F)) (hE : longR F n a b = (x, y, T)) :
    Calls Try.prog 26 #[.slice A n c, .int .i64 a, .int .i64 b] w fun e w' => e = .returned (.tuple #[.int .i64 x, .int .i64 y, .bool T]) ∧ Below w.heap.size w w' := by
  have := LongestDry_any A n c F a b w hn h
  rw [hE] at this
  exact this
theorem RainBetween_w (A : Option Addr) (n c : Nat) (F : Nat → Nat → Int) (ar a b : Int) (w : World) {x : Int} {T : Bool} (hn : n ≤ 1048576) (h : Rd w A n 2 (ints F)) (hE : rainBetweenR F n ar a b = (x, T)) :
    Calls Try.prog 22 #[.slice A n c, .int .i64 ar, .int .i64 a, .int .i64 b] w fun e w' => e = .returned (.tuple #[.int .i64 x, .bool T]) ∧ Below w.heap.size w w' := by
  have := RainBetween_any A n c F ar a b w hn h
  rw [hE] at this
  exact this
theorem spec_RainBetween_w (A : Option Addr) (n c : Nat) (F : Nat → Nat → Int) (ar a b : Int) (w : World) {x : Int} {T : Bool} (hn : n ≤ 1048576) (h : Rd w A n 2 (ints F)) (hE : rainBetweenR F n ar a b = (x, T)) :
    Calls Try.prog 21 #[.slice A n c, .int .i64 ar, .int .i64 a, .int .i64 b] w fun e w' => e = .returned (.tuple #[.int .i64 x, .bool T]) ∧ Below w.heap.size w w' := by
  have := spec_RainBetween_any A n c F ar a b w hn h
  rw [hE] at this
  exact this
theorem RainOnArea_w (A : Option Addr) (n c : Nat) (F : Nat → Nat → Int) (ar a : Int) (w : World) {x : Int} {T : Bool} (hn : n ≤ 1048576) (h : Rd w A n 2 (ints F)) (hE : rainOnAreaR F n ar a = (x, T)) :
    Calls Try.prog 24 #[.slice A n c, .int .i64 ar, .int .i64 a] w fun e w' => e = .returned (.tuple #[.int .i64 x, .bool T]) ∧ Below w.heap.size w w' := by
  have := RainOnArea_any A n c F ar a w hn h
  rw [hE] at this
  exact this
theorem WettestDay_w (A : Option Addr) (n c : Nat) (F : Nat → Nat → Int) (w : World) {x : Int} {T : Bool} (hn : n ≤ 1048576) (h : Rd w A n 2 (ints F)) (hE : wettestR F n = (x, T)) :
    Calls Try.prog 20 #[.slice A n c] w fun e w' => e = .returned (.tuple #[.int .i64 x, .bool T]) ∧ Below w.heap.size w w' := by
  have := WettestDay_any A n c F w hn h
  rw [hE] at this
  exact this
theorem spec_WettestDay_w (A : Option Addr) (n c : Nat) (F : Nat → Nat → Int) (w : World) {x : Int} {T : Bool} (hn : n ≤ 1048576) (h : Rd w A n 2 (ints F)) (hE : wettestR F n = (x, T)) :
    Calls Try.prog 19 #[.slice A n c] w fun e w' => e = .returned (.tuple #[.int .i64 x, .bool T]) ∧ Below w.heap.size w w' := by
  have := spec_WettestDay_any A n c F w hn h
  rw [hE] at this
  exact this
/-- All that the law says of the spans. -/
theorem dry_law (F : Nat → Nat → Int) (n : Nat) (a b : Int) : ∃ (m : Nat) (ok : Bool) (x y : Int) (T : Bool) (G : Nat → Nat → Int), (dryL F n a b).length = m ∧ (showsB F n && spanB a b) = ok ∧ tabP (dryL F n a b) = G ∧ longR F n a b = (x, y, T) ∧ T = (ok && decide (0 < m)) ∧ m ≤ 21 ∧ (0 < m → ok = true) ∧
    ∀ i, i < m → (0 ≤ G i 0 ∧ G i 0 ≤ 4000 ∧ 0 ≤ G i 1 ∧ G i 1 ≤ 4000) ∧ (0 ≤ x ∧ x ≤ 4000 ∧ 0 ≤ y ∧ y ≤ 4000) ∧ a ≤ G i 0 ∧ G i 1 ≤ b ∧ G i 1 - G i 0 ≤ y - x ∧ rainBetweenR F n 1000 (G i 0) (G i 1) = (0, true) := by
  have ht := long_told F n a b
  obtain ⟨x, y, T, hE⟩ : ∃ x y T, longR F n a b = (x, y, T) := ⟨_, _, _, rfl⟩
  rw [hE] at ht
  simp only at ht
  subst ht
  refine ⟨_, _, x, y, _, _, rfl, rfl, rfl, hE, rfl, (dryL_bd F n a b).1, fun hm => ?_, fun i hi => ?_⟩
  · cases h : showsB F n && spanB a b
    · have e : dryL F n a b = [] := by unfold dryL; rw [h]; rfl
      rw [e] at hm
      simp at hm
    · rfl
  · have hok : (showsB F n && spanB a b) = true := by
      cases h : showsB F n && spanB a b
      · have e : dryL F n a b = [] := by unfold dryL; rw [h]; rfl
        rw [e] at hi
        simp at hi
      · rfl
    have hpos : decide (0 < (dryL F n a b).length) = true := decide_eq_true (by omega)
    rw [hok, hpos] at hE
    have hok' := hok
    simp only [Bool.and_eq_true] at hok'
    have hB := (dryL_bd F n a b).2 i hi
    obtain ⟨d1, d2, d3, d4, d5⟩ := dry_facts hok'.1 hok'.2 hE i hi
    have hbest := (dryL_bd F n a b).2 _ (bestI_lt (dryG F n a b) (dryL F n a b).length (by omega))
    unfold longR at hE
    rw [if_neg (by omega)] at hE
    injection hE with e1 e2
    injection e2 with e2 e3
    exact ⟨by omega, by omega, d1, d3, d4, d5⟩
end Go.Proofs.Ytcjjpkleipjibaa
