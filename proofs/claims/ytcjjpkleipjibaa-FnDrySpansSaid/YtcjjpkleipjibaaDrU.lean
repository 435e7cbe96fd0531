/-
  Contracts: the arguments that are drawn for the law on dry spans. Conditions: codes of bytes.
-/
import Derived.Test.YtcjjpkleipjibaaDrV
namespace Go.Proofs.Ytcjjpkleipjibaa
open Go.RowKit

/-- What a draw of a list alone leaves. -/
def DrawS1 (w : World) (N : Nat) (e : Ending) (w' : World) : Prop :=
  ∃ A n c F, e = .returned (.slice A n c) ∧ n ≤ N ∧ Ow w' w.heap.size w'.heap.size A n 2 (ints F) ∧ Below w.heap.size w w'
/-- .. of a list, an area and two days. -/
def DrawRA2 (w : World) (N : Nat) (e : Ending) (w' : World) : Prop :=
  ∃ A n c F a p q, e = .returned (.tuple #[.slice A n c, .int .i64 a, .int .i64 p, .int .i64 q]) ∧ n ≤ N ∧ Ow w' w.heap.size w'.heap.size A n 2 (ints F) ∧ Below w.heap.size w w'
set_option maxRecDepth 20000 in
set_option maxHeartbeats 2000000 in
theorem DrawAreShowers_any (A : Option Addr) (n c : Nat) (B : Nat → Int) (w : World) (h : CodeR w A n B) :
    Calls Try.prog 84 #[.slice A n c] w (DrawS1 w 22) := by
  go_enter Try.func84, Try.ntmps84
  go_upto_region 2 with fail
  have hC := Cur.new h c 97
  have hbA : Below w.heap.size w (w.alloc (.cells #[.slice A n c, .int .i64 0, .int .u64 0] 97)) := (Below.refl _ _).alloc (Nat.le_refl _) _
  generalize w.alloc (.cells #[.slice A n c, .int .i64 0, .int .u64 0] 97) = W2 at hbA hC ⊢
  have hD := DrS.start hC
  have hcu := hC.lt
  clear hC
  go_wp2_with fail
  go_at_call 82
  refine (showers_any _ _ _ (by omega) hD.cur).mono ?_
  rintro _ w4 ⟨A5, n5, c5, F5, rfl, hn5, hO, hDx⟩
  have hsO := hD.size
  replace hD := hD.trans hDx
  clear hDx
  have hbE := hbA.trans (hD.tch.below (Nat.le_refl _) (by omega))
  have hO' := hO.mono (lo' := w.heap.size) (hi' := w4.heap.size) (by omega) (by omega)
  clear hO hD hbA
  go_wp2
  go_ret
  exact ⟨A5, n5, c5, F5, rfl, hn5, hO', hbE⟩
theorem DrawWettestDay_any (A : Option Addr) (n c : Nat) (B : Nat → Int) (w : World) (h : CodeR w A n B) :
    Calls Try.prog 48 #[.slice A n c] w (DrawS1 w 22) := by
  go_enter Try.func48, Try.ntmps48
  go_wp2_with fail
  go_at_call 84
  refine (DrawAreShowers_any _ _ _ _ _ h).mono ?_
  rintro _ w4 ⟨A5, n5, c5, F5, rfl, hn5, hO, hb⟩
  go_wp2
  go_ret
  exact ⟨A5, n5, c5, F5, rfl, hn5, hO, hb⟩
set_option maxRecDepth 20000 in
set_option maxHeartbeats 2000000 in
theorem DrawDrySpans_any (A : Option Addr) (n c : Nat) (B : Nat → Int) (w : World) (h : CodeR w A n B) :
    Calls Try.prog 45 #[.slice A n c] w (DrawRA w 22) := by
  go_enter Try.func45, Try.ntmps45
  go_upto_region 2 with fail
  have hC := Cur.new h c 97
  have hbA : Below w.heap.size w (w.alloc (.cells #[.slice A n c, .int .i64 0, .int .u64 0] 97)) := (Below.refl _ _).alloc (Nat.le_refl _) _
  generalize w.alloc (.cells #[.slice A n c, .int .i64 0, .int .u64 0] 97) = W2 at hbA hC ⊢
  have hD := DrS.start hC
  have hcu := hC.lt
  clear hC
  go_wp2_with fail
  go_at_call 81
  refine (span6_any _ _ _ (by omega) hD.cur).mono ?_
  rintro _ w3 ⟨p, q, rfl, -, -, -, -, hDx⟩
  replace hD := hD.trans hDx
  clear hDx
  go_wp2_with fail
  go_at_call 82
  refine (showers_any _ _ _ (by omega) hD.cur).mono ?_
  rintro _ w4 ⟨A5, n5, c5, F5, rfl, hn5, hO, hDx⟩
  have hsO := hD.size
  replace hD := hD.trans hDx
  clear hDx
  have hbE := hbA.trans (hD.tch.below (Nat.le_refl _) (by omega))
  have hO' := hO.mono (lo' := w.heap.size) (hi' := w4.heap.size) (by omega) (by omega)
  clear hO hD hbA
  go_wp2
  refine bodyPost_ret (v := .tuple #[.slice A5 n5 c5, .int .i64 p, .int .i64 q]) (by simp only [results, Try.results45]; go_simp) rfl ⟨A5, n5, c5, F5, p, q, rfl, hn5, hO', hbE⟩
set_option maxRecDepth 20000 in
set_option maxHeartbeats 2000000 in
theorem DrawRainBetween_any (A : Option Addr) (n c : Nat) (B : Nat → Int) (w : World) (h : CodeR w A n B) :
    Calls Try.prog 47 #[.slice A n c] w (DrawRA2 w 22) := by
  go_enter Try.func47, Try.ntmps47
  go_upto_region 2 with fail
  have hC := Cur.new h c 97
  have hbA : Below w.heap.size w (w.alloc (.cells #[.slice A n c, .int .i64 0, .int .u64 0] 97)) := (Below.refl _ _).alloc (Nat.le_refl _) _
  generalize w.alloc (.cells #[.slice A n c, .int .i64 0, .int .u64 0] 97) = W2 at hbA hC ⊢
  have hD := DrS.start hC
  have hcu := hC.lt
  clear hC
  go_wp2_with fail
  go_at_call 81
  refine (span6_any _ _ _ (by omega) hD.cur).mono ?_
  rintro _ w3 ⟨p, q, rfl, -, -, -, -, hDx⟩
  replace hD := hD.trans hDx
  clear hDx
  go_wp2_with fail
  go_at_call 82
  refine (showers_any _ _ _ (by omega) hD.cur).mono ?_
  rintro _ w4 ⟨A5, n5, c5, F5, rfl, hn5, hO, hDx⟩
  have hsO := hD.size
  replace hD := hD.trans hDx
  clear hDx
  go_wp2_with fail
  go_at_call 83
  refine (area_any _ _ _ (by omega) hD.cur).mono ?_
  rintro _ w5 ⟨a, rfl, -, -, hc, ht⟩
  have hz5 := ht.size
  replace hO := hO.tch ht (by omega) (by omega)
  replace hD := hD.draw hc ht
  clear hc ht
  have hbE := hbA.trans (hD.tch.below (Nat.le_refl _) (by omega))
  have hO' := hO.mono (lo' := w.heap.size) (hi' := w5.heap.size) (by omega) (by omega)
  clear hO hD hbA
  go_wp2
  refine bodyPost_ret (v := .tuple #[.slice A5 n5 c5, .int .i64 a, .int .i64 p, .int .i64 q]) (by simp only [results, Try.results47]; go_simp) rfl ⟨A5, n5, c5, F5, a, p, q, rfl, hn5, hO', hbE⟩
end Go.Proofs.Ytcjjpkleipjibaa
