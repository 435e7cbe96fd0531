/-
  Contracts for the law FnWorkers: the law's comparison of lists of workers, and the contracts on workers with named results. Conditions: lengths up to 2^20.
-/
import Derived.Test.YtmblkjnpibcmoaaFnGv
import Derived.Test.YtmblkjnpibcmoaaWkP
import Derived.Test.YtmblkjnpibcmoaaWkR
import Derived.Test.YtmblkjnpibcmoaaWkQ
import Derived.Test.YtmblkjnpibcmoaaWkS
import Derived.Test.YtmblkjnpibcmoaaWkD
import Derived.Test.YtmblkjnpibcmoaaDrT
namespace Go.Proofs.Ytmblkjnpibcmoaa
open Go.RowKit

set_option maxHeartbeats 800000 in
theorem rWorkers_yes (A B : Option Addr) (n c c' : Nat) (F : Nat → Nat → Int) (C : Nat → Bool) (w : World) (hn : n ≤ 1048576) (h : Rd w A n 5 (wkC F C)) (h' : Rd w B n 5 (wkC F C)) :
    Calls Try.prog 38 #[.slice A n c, .slice B n c'] w fun e w' => e = .returned (.bool true) ∧ Below w.heap.size w w' := by
  go_enter Try.func38, Try.ntmps38
  go_wp2
  go_loopw [5] (fun i wr => ∃ k : Nat, k ≤ n ∧ i = .int .i64 k ∧ Below w.heap.size w wr) (fun i _ => n - (intOf i).toNat)
  case atStart => exact ⟨0, by omega, rfl, Below.refl _ _⟩
  case round =>
    obtain ⟨k, hk, rfl, hb⟩ := hrel
    by_cases hlt : k < n
    · obtain ⟨b, off, rfl, hbw, hc⟩ := wk_at h hb (by omega)
      obtain ⟨b', off', rfl, hbw', hc'⟩ := wk_at h' hb (by omega)
      obtain ⟨c0, c1, c2, c3, c4⟩ := hc k hlt
      obtain ⟨f0, f1, f2, f3, f4⟩ := hc' k hlt
      have a0 := fun x : After wr => x.cell c0 hbw
      have a1 := fun x : After wr => x.cell c1 hbw
      have a2 := fun x : After wr => x.cell c2 hbw
      have a3 := fun x : After wr => x.cell c3 hbw
      have a4 := fun x : After wr => x.cell c4 hbw
      have e0 := fun x : After wr => x.cell f0 hbw'
      have e1 := fun x : After wr => x.cell f1 hbw'
      have e2 := fun x : After wr => x.cell f2 hbw'
      have e3 := fun x : After wr => x.cell f3 hbw'
      have e4 := fun x : After wr => x.cell f4 hbw'
      clear hc hc' c0 c1 c2 c3 c4 f0 f1 f2 f3 f4
      go_wp2
      refine region_after (by kernel_rfl) (by kernel_rfl) ?_
      repeat (go_big_quiet_step ((first | fail)))
      refine wpQuiet_nil ?_
      rintro _ ⟨x, rfl⟩
      go_wp2
      go_roundw
      case rel => exact ⟨k + 1, by omega, by go_num, hb.trans (x.h.mono hb.size)⟩
      case measure => simp [intOf]; omega
    · obtain rfl : k = n := by omega
      go_wp2
      go_ret
      exact ⟨rfl, hb⟩
theorem spec_IsWorker_any (id g r f : Int) (c : Bool) (w : World) :
    Calls Try.prog 41 #[.agg #[.int .i64 id, .int .i64 g, .int .i64 r, .bool c, .int .i64 f]] w fun e w' => e = .returned (.bool (workerB id g r f)) ∧ Below w.heap.size w w' := by
  go_enter Try.func41, Try.ntmps41
  go_upto_region 1 with fail
  have hs0 : (w.alloc (.cells #[.int .i64 id, .int .i64 g, .int .i64 r, .bool c, .int .i64 f] 54)).heap.size = w.heap.size + 1 := by simp
  have hb0 : Below w.heap.size w (w.alloc (.cells #[.int .i64 id, .int .i64 g, .int .i64 r, .bool c, .int .i64 f] 54)) := (Below.refl _ _).alloc (Nat.le_refl _) _
  have hX := BoxW.new w 54 (id, g, r, c, f)
  simp only at hX
  generalize w.alloc (.cells #[.int .i64 id, .int .i64 g, .int .i64 r, .bool c, .int .i64 f] 54) = W1 at hX hs0 hb0 ⊢
  obtain ⟨x0, x1, x2, x3, x4, x5, x6⟩ := hX
  clear x6
  simp only at x1 x2 x3 x4 x5
  go_wp2_with fail
  go_at_call 74
  refine (l5One_any _ _ _ _ _ _).mono ?_
  rintro _ w1 ⟨rfl, hb⟩
  go_wp2
  go_ret
  exact ⟨rfl, gr hb0 hb⟩
theorem spec_AreWorkers_any (A : Option Addr) (n c : Nat) (F : Nat → Nat → Int) (C : Nat → Bool) (w : World) (hn : n ≤ 1048576) (h : Rd w A n 5 (wkC F C)) :
    Calls Try.prog 43 #[.slice A n c] w fun e w' => e = .returned (.bool (worksB F n)) ∧ Below w.heap.size w w' := by
  go_enter Try.func43, Try.ntmps43
  go_wp2_with fail
  go_at_call 56
  refine (l5Good_any _ _ _ _ _ _ hn h).mono ?_
  rintro _ w1 ⟨rfl, hb⟩
  go_wp2
  go_ret
  exact ⟨rfl, hb⟩
theorem SpareWorkers_w (A : Option Addr) (n c : Nat) (F : Nat → Nat → Int) (C : Nat → Bool) (g d : Int) (w : World) {N : Nat} {ok : Bool} {G : Nat → Nat → Int} (hn : n ≤ 1048576) (h : Rd w A n 5 (wkC F C)) (h1 : spareN F C n g d = N) (h2 : spareOk F n g d = ok) (h3 : spareT F C n g (d % 7) n = G) :
    Calls Try.prog 30 #[.slice A n c, .int .i64 g, .int .i64 d] w fun e w' => ∃ A' c', e = .returned (.tuple #[.slice A' N c', .bool ok]) ∧ Rd w' A' N 1 (ints G) ∧ Below w.heap.size w w' :=
  (SpareWorkers_any A n c F C g d w hn h).mono fun e w' ⟨A', c', he, hO, hb⟩ => by
    subst h1 h2 h3
    exact ⟨A', c', he, hO.sl.rd (Nat.le_refl _), hb⟩
theorem spec_SpareWorkers_w (A : Option Addr) (n c : Nat) (F : Nat → Nat → Int) (C : Nat → Bool) (g d : Int) (w : World) {N : Nat} {ok : Bool} {G : Nat → Nat → Int} (hn : n ≤ 1048576) (h : Rd w A n 5 (wkC F C)) (h1 : spareN F C n g d = N) (h2 : spareOk F n g d = ok) (h3 : spareT F C n g (d % 7) n = G) :
    Calls Try.prog 31 #[.slice A n c, .int .i64 g, .int .i64 d] w fun e w' => ∃ A' c', e = .returned (.tuple #[.slice A' N c', .bool ok]) ∧ Rd w' A' N 1 (ints G) ∧ Below w.heap.size w w' :=
  (spec_SpareWorkers_any A n c F C g d w hn h).mono fun e w' ⟨A', c', he, hO, hb⟩ => by
    subst h1 h2 h3
    exact ⟨A', c', he, hO.sl.rd (Nat.le_refl _), hb⟩
theorem PutInGang_w (A : Option Addr) (n c : Nat) (F : Nat → Nat → Int) (C : Nat → Bool) (id g : Int) (w : World) {N : Nat} {ok : Bool} {G : Nat → Nat → Int} (hn : n ≤ 1048576) (h : Rd w A n 5 (wkC F C)) (h1 : putN F n id g = N) (h2 : putOk F n id g = ok) (h3 : putT F n id g = G) :
    Calls Try.prog 32 #[.slice A n c, .int .i64 id, .int .i64 g] w fun e w' => ∃ A' c', e = .returned (.tuple #[.slice A' N c', .bool ok]) ∧ Rd w' A' N 5 (wkC G C) ∧ Below w.heap.size w w' :=
  (PutInGang_any A n c F C id g w hn h).mono fun e w' ⟨A', c', he, hO, hb⟩ => by
    subst h1 h2 h3
    exact ⟨A', c', he, hO.sl.rd (Nat.le_refl _), hb⟩
theorem spec_PutInGang_w (A : Option Addr) (n c : Nat) (F : Nat → Nat → Int) (C : Nat → Bool) (id g : Int) (w : World) {N : Nat} {ok : Bool} {G : Nat → Nat → Int} (hn : n ≤ 1048576) (h : Rd w A n 5 (wkC F C)) (h1 : putN F n id g = N) (h2 : putOk F n id g = ok) (h3 : putT F n id g = G) :
    Calls Try.prog 37 #[.slice A n c, .int .i64 id, .int .i64 g] w fun e w' => ∃ A' c', e = .returned (.tuple #[.slice A' N c', .bool ok]) ∧ Rd w' A' N 5 (wkC G C) ∧ Below w.heap.size w w' :=
  (spec_PutInGang_any A n c F C id g w hn h).mono fun e w' ⟨A', c', he, hO, hb⟩ => by
    subst h1 h2 h3
    exact ⟨A', c', he, hO.sl.rd (Nat.le_refl _), hb⟩
theorem spec_GangSizes_w (A : Option Addr) (n c : Nat) (F : Nat → Nat → Int) (C : Nat → Bool) (w : World) {N : Nat} {ok : Bool} {G : Nat → Nat → Int} (hn : n ≤ 1048576) (h : Rd w A n 5 (wkC F C)) (h1 : sizeN F n = N) (h2 : worksB F n = ok) (h3 : sizeT F n = G) :
    Calls Try.prog 35 #[.slice A n c] w fun e w' => ∃ A' c', e = .returned (.tuple #[.slice A' N c', .bool ok]) ∧ Rd w' A' N 1 (ints G) ∧ Below w.heap.size w w' :=
  (spec_GangSizes_any A n c F C w hn h).mono fun e w' ⟨A', c', he, hO, hb⟩ => by
    subst h1 h2 h3
    exact ⟨A', c', he, hO.sl.rd (Nat.le_refl _), hb⟩
theorem GangSizes_w (A : Option Addr) (n c : Nat) (F : Nat → Nat → Int) (C : Nat → Bool) (w : World) {N : Nat} {ok : Bool} {G : Nat → Nat → Int} (hn : n ≤ 1048576) (h : Rd w A n 5 (wkC F C)) (h1 : sizeN F n = N) (h2 : worksB F n = ok) (h3 : sizeT F n = G) :
    Calls Try.prog 34 #[.slice A n c] w fun e w' => ∃ A' c', e = .returned (.tuple #[.slice A' N c', .bool ok]) ∧ Rd w' A' N 1 (ints G) ∧ Below w.heap.size w w' := by
  have H1 := hide h1
  have H2 := hide h2
  have H3 := hide h3
  clear h1 h2 h3
  go_enter Try.func34, Try.ntmps34
  go_wp2_with fail
  go_at_call 42
  refine (AreWorkers_any _ _ _ _ _ _ hn h).mono ?_
  rintro _ w1 ⟨rfl, hb1⟩
  rw [H2.out]
  cases ok
  · have e0 : N = 0 := by rw [← H1.out]; simp [sizeN, H2.out]
    subst e0
    go_wp2
    go_ret2
    exact ⟨none, 0, rfl, (Ow.nil w1 w1.heap.size w1.heap.size none 1 (ints G)).sl.rd (Nat.le_refl _), hb1⟩
  · have e0 : N = 6 := by rw [← H1.out]; simp [sizeN, H2.out]
    subst e0
    go_wp2_with fail
    go_at_call 47
    refine (gangSizes_any _ _ _ _ _ _ H2 (Rd.below h hb1)).mono ?_
    rintro _ w2 ⟨A1, c1, rfl, hO, hb⟩
    go_wp2
    go_ret2
    exact ⟨A1, c1, rfl, by rw [← H3.out]; exact hO.sl.rd (Nat.le_refl _), gr hb1 hb⟩
theorem EvenGangs_w (A : Option Addr) (n c : Nat) (F : Nat → Nat → Int) (C : Nat → Bool) (w : World) {v : Int} {T : Bool} (hn : n ≤ 1048576) (h : Rd w A n 5 (wkC F C)) (hE : evenR F C n = (v, T)) :
    Calls Try.prog 9 #[.slice A n c] w fun e w' => e = .returned (.tuple #[.int .i64 v, .bool T]) ∧ Below w.heap.size w w' := by
  have := EvenGangs_any A n c F C w hn h
  rw [hE] at this
  exact this
theorem spec_EvenGangs_w (A : Option Addr) (n c : Nat) (F : Nat → Nat → Int) (C : Nat → Bool) (w : World) {v : Int} {T : Bool} (hn : n ≤ 1048576) (h : Rd w A n 5 (wkC F C)) (hE : evenR F C n = (v, T)) :
    Calls Try.prog 7 #[.slice A n c] w fun e w' => e = .returned (.tuple #[.int .i64 v, .bool T]) ∧ Below w.heap.size w w' := by
  have := spec_EvenGangs_any A n c F C w hn h
  rw [hE] at this
  exact this
end Go.Proofs.Ytmblkjnpibcmoaa
