/-
  Contracts for the law on sums of suns: comparison of lists, named results. Conditions: lengths up to 2^20.
-/
import Derived.Test.YtajmebclmippeaaPsE
import Derived.Test.YtajmebclmippeaaPsF
import Derived.Test.YtajmebclmippeaaSunC
import Derived.Test.YtajmebclmippeaaSunD
import Derived.Test.YtajmebclmippeaaSunL
namespace Go.Proofs.Ytajmebclmippeaa
open Go.RowKit

set_option maxHeartbeats 1000000 in
theorem vSuns_yes (A B : Option Addr) (n c c' : Nat) (F : Nat → Nat → Int) (w : World) (hn : n ≤ 1048576) (h : Rd w A n 2 (ints F)) (h' : Rd w B n 2 (ints F)) :
    Calls Try.prog 47 #[.slice A n c, .slice B n c'] w fun e w' => e = .returned (.bool true) ∧ Below w.heap.size w w' := by
  go_enter Try.func47, Try.ntmps47
  go_wp2
  go_loopw [5] (fun i wr => ∃ k : Nat, k ≤ n ∧ i = .int .i64 k ∧ Below w.heap.size w wr) (fun i _ => n - (intOf i).toNat)
  case atStart => exact ⟨0, by omega, rfl, Below.refl _ _⟩
  case round =>
    obtain ⟨k, hk, rfl, hb⟩ := hrel
    by_cases hlt : k < n
    · obtain ⟨b, off, rfl, -, hbw, hc⟩ := Rd.below h hb (by omega)
      obtain ⟨b', off', rfl, -, hbw', hc'⟩ := Rd.below h' hb (by omega)
      have hc0 := fun x : After wr => x.cell (hc k 0 hlt (by omega)) hbw
      have hc1 := fun x : After wr => x.cell (hc k 1 hlt (by omega)) hbw
      have hc0' := fun x : After wr => x.cell (hc' k 0 hlt (by omega)) hbw'
      have hc1' := fun x : After wr => x.cell (hc' k 1 hlt (by omega)) hbw'
      simp only [Nat.add_zero] at hc0 hc1 hc0' hc1'
      clear hc hc'
      go_wp2
      refine region_after (by kernel_rfl) (by kernel_rfl) ?_
      repeat (go_big_quiet_step ((first | fail)))
      refine wpQuiet_nil ?_
      rintro _ ⟨x, rfl⟩
      go_wp2
      go_roundw
      case rel => exact ⟨k + 1, by omega, by go_num, hb.trans (x.h.mono hb.size)⟩
      case measure => simp [intOf]; omega
    · obtain rfl : k = n := by omega
      go_wp2
      go_ret
      exact ⟨rfl, hb⟩
theorem PutSun_w (A : Option Addr) (n c : Nat) (F : Nat → Nat → Int) (t x : Int) (w : World) {N : Nat} {ok : Bool} {G : Nat → Nat → Int} (hn : n ≤ 1048576) (h : Rd w A n 2 (ints F)) (h1 : putSunN F n t x = N) (h3 : putSunOk F n t x = ok) (h4 : putS F n t x = G) :
    Calls Try.prog 42 #[.slice A n c, .agg #[.int .i64 t, .int .i64 x]] w fun e w' => ∃ A' c', e = .returned (.tuple #[.slice A' N c', .bool ok]) ∧ Rd w' A' N 2 (ints G) ∧ Below w.heap.size w w' :=
  (PutSun_any A n c F t x w hn h).mono fun e w' ⟨A', c', he, hO, hb⟩ => by
    subst h1 h3 h4
    exact ⟨A', c', he, hO.sl.rd (Nat.le_refl _), hb⟩
theorem spec_PutSun_w (A : Option Addr) (n c : Nat) (F : Nat → Nat → Int) (t x : Int) (w : World) {N : Nat} {ok : Bool} {G : Nat → Nat → Int} (hn : n ≤ 1048576) (hnc : n ≤ c) (h : Rd w A n 2 (ints F)) (h1 : putSunN F n t x = N) (h3 : putSunOk F n t x = ok) (h4 : putS F n t x = G) :
    Calls Try.prog 40 #[.slice A n c, .agg #[.int .i64 t, .int .i64 x]] w fun e w' => ∃ A' c', e = .returned (.tuple #[.slice A' N c', .bool ok]) ∧ Rd w' A' N 2 (ints G) ∧ Below w.heap.size w w' :=
  (spec_PutSun_any A n c F t x w hn hnc h).mono fun e w' ⟨A', c', he, hO, hb⟩ => by
    subst h1 h3 h4
    exact ⟨A', c', he, hO.sl.rd (Nat.le_refl _), hb⟩
end Go.Proofs.Ytajmebclmippeaa
