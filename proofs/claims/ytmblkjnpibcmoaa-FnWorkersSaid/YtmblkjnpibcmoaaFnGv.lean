/-
  Contracts for the law FnGangs: the law's helpers, and the contracts on workers with named results. Conditions: lengths up to 2^20.
-/
import Derived.Test.YtmblkjnpibcmoaaWkL
import Derived.Test.YtmblkjnpibcmoaaWkJ
import Derived.Test.YtmblkjnpibcmoaaDrR
namespace Go.Proofs.Ytmblkjnpibcmoaa
open Go.RowKit

set_option maxHeartbeats 400000 in
theorem rInts_yes (A B : Option Addr) (n c c' : Nat) (F : Nat → Nat → Int) (w : World) (hn : n ≤ 1048576) (h : Rd w A n 1 (ints F)) (h' : Rd w B n 1 (ints F)) :
    Calls Try.prog 15 #[.slice A n c, .slice B n c'] w fun e w' => e = .returned (.bool true) ∧ Below w.heap.size w w' := by
  go_enter Try.func15, Try.ntmps15
  go_wp2
  go_loopw [5] (fun i wr => ∃ k : Nat, k ≤ n ∧ i = .int .i64 k ∧ Below w.heap.size w wr) (fun i _ => n - (intOf i).toNat)
  case atStart => exact ⟨0, by omega, rfl, Below.refl _ _⟩
  case round =>
    obtain ⟨k, hk, rfl, hb⟩ := hrel
    by_cases hlt : k < n
    · obtain ⟨b, off, rfl, -, hbw, hc⟩ := Rd.below h hb (by omega)
      obtain ⟨b', off', rfl, -, hbw', hc'⟩ := Rd.below h' hb (by omega)
      have hc0 := fun x : After wr => x.cell (hc k 0 hlt (by omega)) hbw
      have hc0' := fun x : After wr => x.cell (hc' k 0 hlt (by omega)) hbw'
      simp only [Nat.add_zero, Nat.mul_one] at hc0 hc0'
      clear hc hc'
      go_wp2
      refine region_after (by kernel_rfl) (by kernel_rfl) ?_
      repeat (go_big_quiet_step ((first | fail)))
      refine wpQuiet_nil ?_
      rintro _ ⟨x, rfl⟩
      go_wp2
      go_roundw
      case rel => exact ⟨k + 1, by omega, by go_num, hb.trans (x.h.mono hb.size)⟩
      case measure => simp [intOf]; omega
    · obtain rfl : k = n := by omega
      go_wp2
      go_ret
      exact ⟨rfl, hb⟩
set_option maxHeartbeats 400000 in
theorem rHas_any (A : Option Addr) (n c : Nat) (L : Nat → Nat → Int) (x : Int) (w : World) (hn : n ≤ 1048576) (h : Rd w A n 1 (ints L)) :
    Calls Try.prog 19 #[.slice A n c, .int .i64 x] w fun e w' => e = .returned (.bool (hasV L n x)) ∧ Below w.heap.size w w' := by
  go_enter Try.func19, Try.ntmps19
  go_wp2
  go_loopw [5] (fun i wr => ∃ k : Nat, k ≤ n ∧ i = .int .i64 k ∧ firstB (fun i => L i 0 == x) k = none ∧ Below w.heap.size w wr) (fun i _ => n - (intOf i).toNat)
  case atStart => exact ⟨0, by omega, rfl, rfl, Below.refl _ _⟩
  case round =>
    obtain ⟨k, hk, rfl, hf, hb⟩ := hrel
    have HF := hide hf
    clear hf
    by_cases hlt : k < n
    · obtain ⟨b, off, rfl, -, hbw, hc⟩ := Rd.below h hb (by omega)
      have hc0 := hc k 0 hlt (by omega)
      simp only [Nat.add_zero, Nat.mul_one] at hc0
      clear hc
      cases hd : (L k 0 == x)
      · go_wp2
        go_roundw
        case rel => exact ⟨k + 1, by omega, by go_num, firstB_succ_none HF.out hd, hb⟩
        case measure => simp [intOf]; omega
      · go_wp2
        go_ret
        exact ⟨ret_bool (by unfold hasV; rw [firstB_at HF.out hd hlt]; rfl), hb⟩
    · obtain rfl : k = n := by omega
      go_wp2
      go_ret
      exact ⟨ret_bool (by unfold hasV; rw [HF.out]; rfl), hb⟩
set_option maxHeartbeats 400000 in
theorem rSum_any (B : Option Addr) (n c : Nat) (L : Nat → Nat → Int) (w : World) (hn : n ≤ 1048576) (h : Rd w B n 1 (ints L)) (HB : Hid (∀ k, k ≤ n → 0 ≤ sumI (fun j => L j 0) k ∧ sumI (fun j => L j 0) k ≤ 1000000000000)) :
    Calls Try.prog 23 #[.slice B n c] w fun e w' => e = .returned (.int .i64 (sumI (fun j => L j 0) n)) ∧ Below w.heap.size w w' := by
  go_enter Try.func23, Try.ntmps23
  go_wp2
  go_loopw [3, 4] (fun s i wr => ∃ k : Nat, k ≤ n ∧ i = .int .i64 k ∧ s = .int .i64 (sumI (fun j => L j 0) k) ∧ Below w.heap.size w wr) (fun _ i _ => n - (intOf i).toNat)
  case atStart => exact ⟨0, by omega, rfl, rfl, Below.refl _ _⟩
  case round =>
    obtain ⟨k, hk, rfl, rfl, hb⟩ := hrel
    by_cases hlt : k < n
    · obtain ⟨b, off, rfl, -, hbw, hc⟩ := Rd.below h hb (by omega)
      have hc0 := hc k 0 hlt (by omega)
      simp only [Nat.add_zero, Nat.mul_one, ints] at hc0
      clear hc
      obtain ⟨g1, g2⟩ := HB.out k hk
      obtain ⟨g3, g4⟩ := HB.out (k + 1) (by omega)
      have HS := hide (show sumI (fun j => L j 0) (k + 1) = sumI (fun j => L j 0) k + L k 0 from rfl)
      rw [HS.out] at g3 g4
      generalize sumI (fun j => L j 0) k = S at g1 g2 g3 g4 HS ⊢
      generalize L k 0 = y at *
      go_wp2
      go_roundw
      case rel => exact ⟨k + 1, by omega, by go_num, by rw [HS.out], hb⟩
      case measure => simp [intOf]; omega
    · obtain rfl : k = n := by omega
      go_wp2
      go_ret
      exact ⟨rfl, hb⟩
theorem RakedOn_w (A : Option Addr) (n c : Nat) (F : Nat → Nat → Int) (C : Nat → Bool) (g : Int) (d : Int) (w : World) {v : Int} {T : Bool} (hn : n ≤ 1048576) (h : Rd w A n 5 (wkC F C)) (hE : rakedOnR F C n g d = (v, T)) :
    Calls Try.prog 18 #[.slice A n c, .int .i64 g, .int .i64 d] w fun e w' => e = .returned (.tuple #[.int .i64 v, .bool T]) ∧ Below w.heap.size w w' := by
  have := RakedOn_any A n c F C g d w hn h
  rw [hE] at this
  exact this
theorem spec_RakedOn_w (A : Option Addr) (n c : Nat) (F : Nat → Nat → Int) (C : Nat → Bool) (g : Int) (d : Int) (w : World) {v : Int} {T : Bool} (hn : n ≤ 1048576) (h : Rd w A n 5 (wkC F C)) (hE : rakedOnR F C n g d = (v, T)) :
    Calls Try.prog 28 #[.slice A n c, .int .i64 g, .int .i64 d] w fun e w' => e = .returned (.tuple #[.int .i64 v, .bool T]) ∧ Below w.heap.size w w' := by
  have := spec_RakedOn_any A n c F C g d w hn h
  rw [hE] at this
  exact this
theorem DaysToRake_w (A : Option Addr) (n c : Nat) (F : Nat → Nat → Int) (C : Nat → Bool) (g : Int) (d : Int) (load : Int) (w : World) {v : Int} {T : Bool} (hn : n ≤ 1048576) (h : Rd w A n 5 (wkC F C)) (hE : daysR F C n g d load = (v, T)) :
    Calls Try.prog 25 #[.slice A n c, .int .i64 g, .int .i64 d, .int .i64 load] w fun e w' => e = .returned (.tuple #[.int .i64 v, .bool T]) ∧ Below w.heap.size w w' := by
  have := DaysToRake_any A n c F C g d load w hn h
  rw [hE] at this
  exact this
theorem spec_DaysToRake_w (A : Option Addr) (n c : Nat) (F : Nat → Nat → Int) (C : Nat → Bool) (g : Int) (d : Int) (load : Int) (w : World) {v : Int} {T : Bool} (hn : n ≤ 1048576) (h : Rd w A n 5 (wkC F C)) (hE : daysR F C n g d load = (v, T)) :
    Calls Try.prog 26 #[.slice A n c, .int .i64 g, .int .i64 d, .int .i64 load] w fun e w' => e = .returned (.tuple #[.int .i64 v, .bool T]) ∧ Below w.heap.size w w' := by
  have := spec_DaysToRake_any A n c F C g d load w hn h
  rw [hE] at this
  exact this
theorem ChangeFree_w (A : Option Addr) (n c : Nat) (F : Nat → Nat → Int) (C : Nat → Bool) (id : Int) (w : World) {u : Int} {v : Int} {T : Bool} (hn : n ≤ 1048576) (h : Rd w A n 5 (wkC F C)) (hE : changeR F C n id = (u, v, T)) :
    Calls Try.prog 21 #[.slice A n c, .int .i64 id] w fun e w' => e = .returned (.tuple #[.int .i64 u, .int .i64 v, .bool T]) ∧ Below w.heap.size w w' := by
  have := ChangeFree_any A n c F C id w hn h
  rw [hE] at this
  exact this
theorem spec_ChangeFree_w (A : Option Addr) (n c : Nat) (F : Nat → Nat → Int) (C : Nat → Bool) (id : Int) (w : World) {u : Int} {v : Int} {T : Bool} (hn : n ≤ 1048576) (h : Rd w A n 5 (wkC F C)) (hE : changeR F C n id = (u, v, T)) :
    Calls Try.prog 22 #[.slice A n c, .int .i64 id] w fun e w' => e = .returned (.tuple #[.int .i64 u, .int .i64 v, .bool T]) ∧ Below w.heap.size w w' := by
  have := spec_ChangeFree_any A n c F C id w hn h
  rw [hE] at this
  exact this
theorem RakedWeek_w (A : Option Addr) (n c : Nat) (F : Nat → Nat → Int) (C : Nat → Bool) (g : Int) (w : World) {N : Nat} {ok : Bool} {G : Nat → Nat → Int} (hn : n ≤ 1048576) (h : Rd w A n 5 (wkC F C)) (h1 : weekLen F n g = N) (h2 : weekOk F n g = ok) (h3 : weekT F C n g = G) :
    Calls Try.prog 13 #[.slice A n c, .int .i64 g] w fun e w' => ∃ A' c', e = .returned (.tuple #[.slice A' N c', .bool ok]) ∧ Rd w' A' N 1 (ints G) ∧ Below w.heap.size w w' :=
  (RakedWeek_any A n c F C g w hn h).mono fun e w' ⟨A', c', he, hO, hb⟩ => by
    subst h1 h2 h3
    exact ⟨A', c', he, hO.sl.rd (Nat.le_refl _), hb⟩
theorem spec_RakedWeek_w (A : Option Addr) (n c : Nat) (F : Nat → Nat → Int) (C : Nat → Bool) (g : Int) (w : World) {N : Nat} {ok : Bool} {G : Nat → Nat → Int} (hn : n ≤ 1048576) (h : Rd w A n 5 (wkC F C)) (h1 : weekLen F n g = N) (h2 : weekOk F n g = ok) (h3 : weekT F C n g = G) :
    Calls Try.prog 14 #[.slice A n c, .int .i64 g] w fun e w' => ∃ A' c', e = .returned (.tuple #[.slice A' N c', .bool ok]) ∧ Rd w' A' N 1 (ints G) ∧ Below w.heap.size w w' :=
  (spec_RakedWeek_any A n c F C g w hn h).mono fun e w' ⟨A', c', he, hO, hb⟩ => by
    subst h1 h2 h3
    exact ⟨A', c', he, hO.sl.rd (Nat.le_refl _), hb⟩
theorem IdleDays_w (A : Option Addr) (n c : Nat) (F : Nat → Nat → Int) (C : Nat → Bool) (g : Int) (w : World) {N : Nat} {ok : Bool} {G : Nat → Nat → Int} (hn : n ≤ 1048576) (h : Rd w A n 5 (wkC F C)) (h1 : idleN F C n g = N) (h2 : weekOk F n g = ok) (h3 : idleT F C n g 7 = G) :
    Calls Try.prog 16 #[.slice A n c, .int .i64 g] w fun e w' => ∃ A' c', e = .returned (.tuple #[.slice A' N c', .bool ok]) ∧ Rd w' A' N 1 (ints G) ∧ Below w.heap.size w w' :=
  (IdleDays_any A n c F C g w hn h).mono fun e w' ⟨A', c', he, hO, hb⟩ => by
    subst h1 h2 h3
    exact ⟨A', c', he, hO.sl.rd (Nat.le_refl _), hb⟩
theorem spec_IdleDays_w (A : Option Addr) (n c : Nat) (F : Nat → Nat → Int) (C : Nat → Bool) (g : Int) (w : World) {N : Nat} {ok : Bool} {G : Nat → Nat → Int} (hn : n ≤ 1048576) (h : Rd w A n 5 (wkC F C)) (h1 : idleN F C n g = N) (h2 : weekOk F n g = ok) (h3 : idleT F C n g 7 = G) :
    Calls Try.prog 17 #[.slice A n c, .int .i64 g] w fun e w' => ∃ A' c', e = .returned (.tuple #[.slice A' N c', .bool ok]) ∧ Rd w' A' N 1 (ints G) ∧ Below w.heap.size w w' :=
  (spec_IdleDays_any A n c F C g w hn h).mono fun e w' ⟨A', c', he, hO, hb⟩ => by
    subst h1 h2 h3
    exact ⟨A', c', he, hO.sl.rd (Nat.le_refl _), hb⟩
end Go.Proofs.Ytmblkjnpibcmoaa
