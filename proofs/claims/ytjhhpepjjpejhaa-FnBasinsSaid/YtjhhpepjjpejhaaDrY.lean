/-
  Contracts: the arguments that are drawn for laws on series. Conditions: codes of bytes.
-/
import Derived.Test.YtjhhpepjjpejhaaDrX
namespace Go.Proofs.Ytjhhpepjjpejhaa
open Go.RowKit

/-- What a draw of a list and a number leaves. -/
def DrawX1 (w : World) (N : Nat) (e : Ending) (w' : World) : Prop :=
  ∃ A n c F a, e = .returned (.tuple #[.slice A n c, .int .i64 a]) ∧ n ≤ N ∧ Ow w' w.heap.size w'.heap.size A n 3 (ints F) ∧ Below w.heap.size w w'
/-- .. of a list. -/
def DrawX0 (w : World) (N : Nat) (e : Ending) (w' : World) : Prop :=
  ∃ A n c F, e = .returned (.slice A n c) ∧ n ≤ N ∧ Ow w' w.heap.size w'.heap.size A n 3 (ints F) ∧ Below w.heap.size w w'
set_option maxHeartbeats 1000000 in
theorem DrawIsSeries_any (A : Option Addr) (n c : Nat) (B : Nat → Int) (w : World) (h : CodeR w A n B) :
    Calls Try.prog 58 #[.slice A n c] w (DrawX0 w 22) := by
  go_enter Try.func58, Try.ntmps58
  go_upto_region 2 with fail
  have hC := Cur.new h c 73
  have hbA : Below w.heap.size w (w.alloc (.cells #[.slice A n c, .int .i64 0, .int .u64 0] 73)) := (Below.refl _ _).alloc (Nat.le_refl _) _
  generalize w.alloc (.cells #[.slice A n c, .int .i64 0, .int .u64 0] 73) = W2 at hbA hC ⊢
  have hD := DrS.start hC
  have hcu := hC.lt
  clear hC
  go_wp2_with fail
  go_at_call 56
  refine (series_any _ _ _ (by omega) hD.cur).mono ?_
  rintro _ w4 ⟨A5, n5, c5, F5, rfl, hn5, hO, hDx⟩
  have hsO := hD.size
  replace hD := hD.trans hDx
  have hbE := hbA.trans (hD.tch.below (Nat.le_refl _) (by omega))
  have hO' := hO.mono (lo' := w.heap.size) (by omega) (Nat.le_refl _)
  go_wp2
  go_ret
  exact ⟨A5, n5, c5, F5, rfl, hn5, hO', hbE⟩
set_option maxHeartbeats 1000000 in
theorem DrawStrongestBasin_any (A : Option Addr) (n c : Nat) (B : Nat → Int) (w : World) (h : CodeR w A n B) :
    Calls Try.prog 30 #[.slice A n c] w (DrawX0 w 22) := by
  go_enter Try.func30, Try.ntmps30
  go_wp2_with fail
  go_at_call 58
  refine (DrawIsSeries_any _ _ _ _ _ h).mono ?_
  rintro _ w1 ⟨A5, n5, c5, F5, rfl, hn5, hO, hb⟩
  go_wp2
  go_ret
  exact ⟨A5, n5, c5, F5, rfl, hn5, hO, hb⟩
set_option maxHeartbeats 1000000 in
theorem DrawDepthOrder_any (A : Option Addr) (n c : Nat) (B : Nat → Int) (w : World) (h : CodeR w A n B) :
    Calls Try.prog 33 #[.slice A n c] w (DrawX0 w 22) := by
  go_enter Try.func33, Try.ntmps33
  go_wp2_with fail
  go_at_call 58
  refine (DrawIsSeries_any _ _ _ _ _ h).mono ?_
  rintro _ w1 ⟨A5, n5, c5, F5, rfl, hn5, hO, hb⟩
  go_wp2
  go_ret
  exact ⟨A5, n5, c5, F5, rfl, hn5, hO, hb⟩
set_option maxHeartbeats 1000000 in
theorem DrawSunOnSeries_any (A : Option Addr) (n c : Nat) (B : Nat → Int) (w : World) (h : CodeR w A n B) :
    Calls Try.prog 28 #[.slice A n c] w (DrawX1 w 22) := by
  go_enter Try.func28, Try.ntmps28
  go_upto_region 2 with fail
  have hC := Cur.new h c 73
  have hbA : Below w.heap.size w (w.alloc (.cells #[.slice A n c, .int .i64 0, .int .u64 0] 73)) := (Below.refl _ _).alloc (Nat.le_refl _) _
  generalize w.alloc (.cells #[.slice A n c, .int .i64 0, .int .u64 0] 73) = W2 at hbA hC ⊢
  have hD := DrS.start hC
  have hcu := hC.lt
  clear hC
  go_wp2_with fail
  go_at_call 56
  refine (series_any _ _ _ (by omega) hD.cur).mono ?_
  rintro _ w4 ⟨A5, n5, c5, F5, rfl, hn5, hO, hDx⟩
  have hsO := hD.size
  replace hD := hD.trans hDx
  go_wp2_with fail
  go_at_call 57
  refine (among_any _ _ _ _ _ (-1) 20001 _ (by omega) (by decide) (by decide) (Nat.ne_of_gt hD.cur.lt) (Lits.new _ _ _ (by rfl) (by decide)) (hD.cur.alloc _)).mono ?_
  rintro _ w7 ⟨cv, rfl, -, -, hc, ht⟩
  have hz7 := ht.size
  simp at hz7
  replace hO := (hO.alloc (by omega) _).tch ht (by simp) (by omega)
  replace hD := (hD.alloc _).draw hc ht
  have hbE := hbA.trans (hD.tch.below (Nat.le_refl _) (by omega))
  have hO' := hO.mono (lo' := w.heap.size) (hi' := w7.heap.size) (by omega) (by omega)
  clear hO hD hbA hc ht
  go_wp2
  go_ret2
  exact ⟨A5, n5, c5, F5, cv, rfl, hn5, hO', hbE⟩
theorem RowsI.lit {w : World} {B : Nat} {e : TypeId} {sz n : Nat} {cs : Array Value} (hB : B ≤ w.heap.size) (hn : n ≤ maxLen) (hs : cs.size = n * sz) (h : ∀ u ∈ cs.toList, ∃ z, u = Value.int .i64 z) : RowsI (w.alloc (.cells cs e)) B e sz (.slice (some ⟨w.heap.size, 0, none⟩) n n) n :=
  ⟨_, World.ownsRow_lit (base := B) (e := e) (size := sz) w cs n hB hn hs, h⟩
set_option maxHeartbeats 2000000 in
theorem DrawIsRising_any (A : Option Addr) (n c : Nat) (B : Nat → Int) (w : World) (h : CodeR w A n B) :
    Calls Try.prog 32 #[.slice A n c] w (DrawX0 w 22) := by
  go_enter Try.func32, Try.ntmps32
  go_upto_region 2 with fail
  have hC := Cur.new h c 73
  have hbA : Below w.heap.size w (w.alloc (.cells #[.slice A n c, .int .i64 0, .int .u64 0] 73)) := (Below.refl _ _).alloc (Nat.le_refl _) _
  generalize w.alloc (.cells #[.slice A n c, .int .i64 0, .int .u64 0] 73) = W2 at hbA hC ⊢
  have hD := DrS.start hC
  have hcu := hC.lt
  clear hC
  go_wp2_with fail
  go_at_call 56
  refine (series_any _ _ _ (by omega) hD.cur).mono ?_
  rintro _ w4 ⟨A5, n5, c5, F5, rfl, hn5, hO, hDx⟩
  have hsO := hD.size
  replace hD := hD.trans hDx
  clear hDx
  go_wp2_with fail
  go_at_call 59
  refine (one_any _ _ _ _ (by omega) (by decide) hD.cur).mono ?_
  rintro _ w7 ⟨bb, rfl, hc, ht⟩
  have hz7 := ht.size
  replace hO := hO.tch ht (by omega) (by omega)
  replace hD := hD.draw hc ht
  clear hc ht
  cases bb
  · have hbE := hbA.trans (hD.tch.below (Nat.le_refl _) (by omega))
    have hO' := hO.mono (lo' := w.heap.size) (hi' := w7.heap.size) (by omega) (by omega)
    clear hO hD hbA
    go_wp2
    go_ret
    exact ⟨A5, n5, c5, F5, rfl, hn5, hO', hbE⟩
  · clear hO
    go_wp2_with fail
    go_at_call 57
    refine (among_any _ _ _ _ _ (0) (10) _ (by omega) (by decide) (by decide) (Nat.ne_of_gt hD.cur.lt) (Lits.new _ _ _ (by rfl) (by decide)) (hD.cur.alloc _)).mono ?_
    rintro _ v1 ⟨p, rfl, -, -, hc, ht⟩
    replace hD := (hD.alloc _).draw hc ht
    clear hc ht
    go_wp2_with fail
    go_at_call 57
    refine (among_any _ _ _ _ _ (0) (180) _ (by omega) (by decide) (by decide) (Nat.ne_of_gt hD.cur.lt) (Lits.new _ _ _ (by rfl) (by decide)) (hD.cur.alloc _)).mono ?_
    rintro _ v2 ⟨q, rfl, -, -, hc, ht⟩
    replace hD := (hD.alloc _).draw hc ht
    clear hc ht
    go_wp2_with fail
    go_at_call 57
    refine (among_any _ _ _ _ _ (0) (20) _ (by omega) (by decide) (by decide) (Nat.ne_of_gt hD.cur.lt) (Lits.new _ _ _ (by rfl) (by decide)) (hD.cur.alloc _)).mono ?_
    rintro _ v3 ⟨r, rfl, -, -, hc, ht⟩
    replace hD := (hD.alloc _).draw hc ht
    clear hc ht
    go_wp2_with fail
    go_at_call 57
    refine (among_any _ _ _ _ _ (5) (30) _ (by omega) (by decide) (by decide) (Nat.ne_of_gt hD.cur.lt) (Lits.new _ _ _ (by rfl) (by decide)) (hD.cur.alloc _)).mono ?_
    rintro _ v4 ⟨s, rfl, -, -, hc, ht⟩
    replace hD := (hD.alloc _).draw hc ht
    clear hc ht
    have hz := hD.size
    have hR := RowsI.lit (w := v4) (B := w.heap.size) (e := 49) (sz := 3) (n := 3) (cs := #[.int .i64 1, .int .i64 90, .int .i64 p, .int .i64 1, .int .i64 q, .int .i64 r, .int .i64 1, .int .i64 50, .int .i64 s]) (by omega) (by decide) rfl (fun u hu => by simp at hu; rcases hu with rfl | rfl | rfl | rfl | rfl | rfl | rfl | rfl | rfl <;> exact ⟨_, rfl⟩)
    have hbE := (hbA.trans (hD.tch.below (Nat.le_refl _) (by omega))).alloc (by omega) (.cells #[.int .i64 1, .int .i64 90, .int .i64 p, .int .i64 1, .int .i64 q, .int .i64 r, .int .i64 1, .int .i64 50, .int .i64 s] 49)
    obtain ⟨A6, c6, F6, e6, hO⟩ := hR.out
    injection e6 with e6 _ e7
    subst e6 e7
    clear hD hbA hR
    go_wp2
    go_ret
    exact ⟨_, 3, 3, F6, rfl, by omega, hO, hbE⟩
end Go.Proofs.Ytjhhpepjjpejhaa
