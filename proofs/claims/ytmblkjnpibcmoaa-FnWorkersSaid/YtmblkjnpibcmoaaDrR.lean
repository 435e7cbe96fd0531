/-
  Contracts: the arguments that are drawn for the laws on workers. Conditions: codes of bytes.
-/
import Derived.Test.YtmblkjnpibcmoaaDrQ
namespace Go.Proofs.Ytmblkjnpibcmoaa
open Go.RowKit

theorem Lits0.mono {w : World} {g n n' : Nat} (h : Lits0 w g n) (hn : n' ≤ n) : Lits0 w g n' := ⟨h.lt, fun j hj => h.at_ j (by omega)⟩
set_option maxHeartbeats 1000000 in
theorem gang5_any (cu m : Nat) (w : World) (hm : m ≤ 1099511600000) (h : Cur w cu m) :
    Calls Try.prog 54 #[.pointer (some ⟨cu, 0, none⟩)] w (Draw0 w cu (m + 2)) := by
  have hD := DrS.start h
  go_enter Try.func54, Try.ntmps54
  go_wp2_with fail
  go_at_call 67
  refine (pick_any _ _ _ _ (by omega) (by decide) (hD.cur.alloc _)).mono ?_
  rintro _ w2 ⟨q, rfl, qa, qb, hc, ht⟩
  have hl := Lits0.tch (n := 7) (Lits0.new _ _ _ (by rfl) (by rfl)) ht (Nat.ne_of_gt hD.cur.lt)
  replace hD := (hD.alloc _).draw hc ht
  clear hc ht
  rw [if_neg (by decide)] at qb
  have hq : q / 11 = 0 ∨ q / 11 = 1 ∨ q / 11 = 2 := by omega
  rcases hq with e | e | e
  all_goals
    go_wp2_with fail
    go_at_call 66
    refine (among0_any cu _ _ _ _ _ (by omega) (by decide) (by decide) (Nat.ne_of_gt h.lt) (hl.mono (by omega)) hD.cur).mono ?_
    rintro _ w3 ⟨r, rfl, hc, ht⟩
    go_wp2
    go_ret
    exact ⟨r, rfl, hc, hD.tch.trans ht⟩
set_option maxHeartbeats 1000000 in
theorem day5_any (cu m : Nat) (w : World) (hm : m ≤ 1099511600000) (h : Cur w cu m) :
    Calls Try.prog 65 #[.pointer (some ⟨cu, 0, none⟩)] w (Draw0 w cu (m + 2)) := by
  have hD := DrS.start h
  go_enter Try.func65, Try.ntmps65
  go_wp2_with fail
  go_at_call 67
  refine (pick_any _ _ _ _ (by omega) (by decide) (hD.cur.alloc _)).mono ?_
  rintro _ w2 ⟨q, rfl, qa, qb, hc, ht⟩
  have hl := Lits0.tch (n := 9) (Lits0.new _ _ _ (by rfl) (by rfl)) ht (Nat.ne_of_gt hD.cur.lt)
  replace hD := (hD.alloc _).draw hc ht
  clear hc ht
  rw [if_neg (by decide)] at qb
  have hq : q / 11 = 0 ∨ q / 11 = 1 ∨ q / 11 = 2 := by omega
  rcases hq with e | e | e
  all_goals
    go_wp2_with fail
    go_at_call 66
    refine (among0_any cu _ _ _ _ _ (by omega) (by decide) (by decide) (Nat.ne_of_gt h.lt) (hl.mono (by omega)) hD.cur).mono ?_
    rintro _ w3 ⟨r, rfl, hc, ht⟩
    go_wp2
    go_ret
    exact ⟨r, rfl, hc, hD.tch.trans ht⟩
set_option maxHeartbeats 1000000 in
theorem workerId_any (cu m : Nat) (A : Option Addr) (n c lo hi : Nat) (F : Nat → Nat → Int) (C : Nat → Bool) (w : World) (hm : m ≤ 1099511600000) (hn : n ≤ 200) (hl : cu < lo) (hh : hi ≤ w.heap.size) (hO : Ow w lo hi A n 5 (wkC F C)) (h : Cur w cu m) :
    Calls Try.prog 61 #[.pointer (some ⟨cu, 0, none⟩), .slice A n c] w (Draw0 w cu (m + 2)) := by
  have hD := DrS.start h
  by_cases hn0 : 0 < n
  rotate_left
  · obtain rfl : n = 0 := by omega
    go_enter Try.func61, Try.ntmps61
    go_wp2_with fail
    go_at_call 66
    refine (among0_any cu _ _ _ _ _ (by omega) (by decide) (by decide) (Nat.ne_of_gt hD.cur.lt) (Lits0.new _ _ _ (by rfl) (by rfl)) (hD.cur.alloc _)).mono ?_
    rintro _ w3 ⟨r, rfl, hc, ht⟩
    replace hD := (hD.alloc _).draw hc ht
    go_wp2
    go_ret
    exact ⟨r, rfl, hD.cur.more (by omega), hD.tch⟩
  have hn1 : ((n : Int) == 0) = false := by simp; omega
  go_enter Try.func61, Try.ntmps61
  go_wp2_with fail
  go_at_call 75
  refine (one_any _ _ _ _ (by omega) (by decide) hD.cur).mono ?_
  rintro _ w7 ⟨bb, rfl, hc, ht⟩
  have hz7 := ht.size
  replace hO := hO.tch ht (by omega) (by omega)
  replace hD := hD.draw hc ht
  clear hc ht
  cases bb
  · go_wp2_with fail
    go_at_call 67
    refine (pick_any _ _ _ _ (by omega) (by omega) hD.cur).mono ?_
    rintro _ w8 ⟨r, rfl, r0, r1, hc, ht⟩
    have hz8 := ht.size
    replace hO := hO.tch ht (by omega) (by omega)
    replace hD := hD.draw hc ht
    clear hc ht
    have hr : r < n := by split at r1 <;> omega
    obtain ⟨i, rfl⟩ : ∃ i : Nat, r = i := ⟨r.toNat, by omega⟩
    have hin : i < n := by omega
    clear r1
    obtain ⟨b5, off5, rfl, l1, l2, hcl⟩ := hO.sl (by omega)
    have hcell : w8.cell? ⟨b5, off5 + i * 5, none⟩ = some (.int .i64 (F i 0)) := by simpa [wkC] using hcl i 0 hin (by omega)
    clear hcl
    go_wp2
    go_ret
    exact ⟨_, rfl, hD.cur.more (by omega), hD.tch⟩
  · go_wp2_with fail
    go_at_call 66
    refine (among0_any cu _ _ _ _ _ (by omega) (by decide) (by decide) (Nat.ne_of_gt hD.cur.lt) (Lits0.new _ _ _ (by rfl) (by rfl)) (hD.cur.alloc _)).mono ?_
    rintro _ w3 ⟨r, rfl, hc, ht⟩
    replace hD := (hD.alloc _).draw hc ht
    go_wp2
    go_ret
    exact ⟨r, rfl, hD.cur.more (by omega), hD.tch⟩
/-- What a draw of workers and some numbers leaves. -/
def DrawN0 (w : World) (e : Ending) (w' : World) : Prop :=
  ∃ A n c F C , e = .returned (.slice A n c) ∧ n ≤ 20 ∧ Ow w' w.heap.size w'.heap.size A n 5 (wkC F C) ∧ Below w.heap.size w w'
def DrawN1 (w : World) (e : Ending) (w' : World) : Prop :=
  ∃ A n c F C a, e = .returned (.tuple #[.slice A n c, .int .i64 a]) ∧ n ≤ 20 ∧ Ow w' w.heap.size w'.heap.size A n 5 (wkC F C) ∧ Below w.heap.size w w'
def DrawN2 (w : World) (e : Ending) (w' : World) : Prop :=
  ∃ A n c F C a b, e = .returned (.tuple #[.slice A n c, .int .i64 a, .int .i64 b]) ∧ n ≤ 20 ∧ Ow w' w.heap.size w'.heap.size A n 5 (wkC F C) ∧ Below w.heap.size w w'
def DrawN3 (w : World) (e : Ending) (w' : World) : Prop :=
  ∃ A n c F C a b d, e = .returned (.tuple #[.slice A n c, .int .i64 a, .int .i64 b, .int .i64 d]) ∧ n ≤ 20 ∧ Ow w' w.heap.size w'.heap.size A n 5 (wkC F C) ∧ Below w.heap.size w w'
set_option maxHeartbeats 1000000 in
theorem DrawAreWorkers_any (A : Option Addr) (n c : Nat) (B : Nat → Int) (w : World) (h : CodeR w A n B) :
    Calls Try.prog 71 #[.slice A n c] w (DrawN0 w) := by
  go_enter Try.func71, Try.ntmps71
  go_upto_region 2 with fail
  have hC := Cur.new h c 68
  have hbA : Below w.heap.size w (w.alloc (.cells #[.slice A n c, .int .i64 0, .int .u64 0] 68)) := (Below.refl _ _).alloc (Nat.le_refl _) _
  generalize w.alloc (.cells #[.slice A n c, .int .i64 0, .int .u64 0] 68) = W2 at hbA hC ⊢
  have hD := DrS.start hC
  have hcu := hC.lt
  clear hC
  go_wp2_with fail
  go_at_call 53
  refine (workers_any _ _ _ (by omega) hD.cur).mono ?_
  rintro _ w4 ⟨A5, n5, c5, F5, C5, rfl, hn5, hO, hDx⟩
  have hsO := hD.size
  replace hD := hD.trans hDx
  clear hDx
  have hcO : w.heap.size < W2.heap.size := hcu
  have hbE := hbA.trans (hD.tch.below (Nat.le_refl _) (by omega))
  have hsE := hD.size
  have hO' := hO.mono (lo' := w.heap.size) (hi' := (World.heap w4).size) (by omega) (by omega)
  clear hO hD hbA
  go_wp2
  go_ret
  exact ⟨A5, n5, c5, F5, C5, rfl, hn5, hO', hbE⟩
set_option maxHeartbeats 1000000 in
theorem DrawGangSizes_any (A : Option Addr) (n c : Nat) (B : Nat → Int) (w : World) (h : CodeR w A n B) :
    Calls Try.prog 33 #[.slice A n c] w (DrawN0 w) := by
  go_enter Try.func33, Try.ntmps33
  go_wp2_with fail
  go_at_call 71
  refine (DrawAreWorkers_any _ _ _ _ _ h).mono ?_
  rintro _ w4 ⟨A5, n5, c5, F5, C5, rfl, hn5, hO, hb⟩
  go_wp2
  go_ret
  exact ⟨A5, n5, c5, F5, C5, rfl, hn5, hO, hb⟩
set_option maxHeartbeats 1000000 in
theorem DrawRakedWeek_any (A : Option Addr) (n c : Nat) (B : Nat → Int) (w : World) (h : CodeR w A n B) :
    Calls Try.prog 12 #[.slice A n c] w (DrawN1 w) := by
  go_enter Try.func12, Try.ntmps12
  go_upto_region 2 with fail
  have hC := Cur.new h c 68
  have hbA : Below w.heap.size w (w.alloc (.cells #[.slice A n c, .int .i64 0, .int .u64 0] 68)) := (Below.refl _ _).alloc (Nat.le_refl _) _
  generalize w.alloc (.cells #[.slice A n c, .int .i64 0, .int .u64 0] 68) = W2 at hbA hC ⊢
  have hD := DrS.start hC
  have hcu := hC.lt
  clear hC
  go_wp2_with fail
  go_at_call 53
  refine (workers_any _ _ _ (by omega) hD.cur).mono ?_
  rintro _ w4 ⟨A5, n5, c5, F5, C5, rfl, hn5, hO, hDx⟩
  have hsO := hD.size
  replace hD := hD.trans hDx
  clear hDx
  have hcO : w.heap.size < W2.heap.size := hcu
  go_wp2_with fail
  go_at_call 54
  refine (gang5_any _ _ _ (by omega) hD.cur).mono ?_
  rintro _ w5 ⟨a, rfl, hc, ht⟩
  have hz_w5 := ht.size
  replace hO := hO.tch ht (by omega) (by omega)
  replace hD := hD.draw hc ht
  clear hc ht
  have hbE := hbA.trans (hD.tch.below (Nat.le_refl _) (by omega))
  have hsE := hD.size
  have hO' := hO.mono (lo' := w.heap.size) (hi' := (World.heap w5).size) (by omega) (by omega)
  clear hO hD hbA
  go_wp2
  go_ret2
  exact ⟨A5, n5, c5, F5, C5, a, rfl, hn5, hO', hbE⟩
set_option maxHeartbeats 1000000 in
theorem DrawChangeFree_any (A : Option Addr) (n c : Nat) (B : Nat → Int) (w : World) (h : CodeR w A n B) :
    Calls Try.prog 20 #[.slice A n c] w (DrawN1 w) := by
  go_enter Try.func20, Try.ntmps20
  go_upto_region 2 with fail
  have hC := Cur.new h c 68
  have hbA : Below w.heap.size w (w.alloc (.cells #[.slice A n c, .int .i64 0, .int .u64 0] 68)) := (Below.refl _ _).alloc (Nat.le_refl _) _
  generalize w.alloc (.cells #[.slice A n c, .int .i64 0, .int .u64 0] 68) = W2 at hbA hC ⊢
  have hD := DrS.start hC
  have hcu := hC.lt
  clear hC
  go_wp2_with fail
  go_at_call 53
  refine (workers_any _ _ _ (by omega) hD.cur).mono ?_
  rintro _ w4 ⟨A5, n5, c5, F5, C5, rfl, hn5, hO, hDx⟩
  have hsO := hD.size
  replace hD := hD.trans hDx
  clear hDx
  have hcO : w.heap.size < W2.heap.size := hcu
  go_wp2_with fail
  go_at_call 61
  refine (workerId_any _ _ _ _ _ _ _ _ _ _ (by omega) (by omega) (by omega) (by omega) hO hD.cur).mono ?_
  rintro _ w5 ⟨a, rfl, hc, ht⟩
  have hz_w5 := ht.size
  replace hO := hO.tch ht (by omega) (by omega)
  replace hD := hD.draw hc ht
  clear hc ht
  have hbE := hbA.trans (hD.tch.below (Nat.le_refl _) (by omega))
  have hsE := hD.size
  have hO' := hO.mono (lo' := w.heap.size) (hi' := (World.heap w5).size) (by omega) (by omega)
  clear hO hD hbA
  go_wp2
  go_ret2
  exact ⟨A5, n5, c5, F5, C5, a, rfl, hn5, hO', hbE⟩
set_option maxHeartbeats 1000000 in
theorem DrawRakedOn_any (A : Option Addr) (n c : Nat) (B : Nat → Int) (w : World) (h : CodeR w A n B) :
    Calls Try.prog 27 #[.slice A n c] w (DrawN2 w) := by
  go_enter Try.func27, Try.ntmps27
  go_upto_region 2 with fail
  have hC := Cur.new h c 68
  have hbA : Below w.heap.size w (w.alloc (.cells #[.slice A n c, .int .i64 0, .int .u64 0] 68)) := (Below.refl _ _).alloc (Nat.le_refl _) _
  generalize w.alloc (.cells #[.slice A n c, .int .i64 0, .int .u64 0] 68) = W2 at hbA hC ⊢
  have hD := DrS.start hC
  have hcu := hC.lt
  clear hC
  go_wp2_with fail
  go_at_call 53
  refine (workers_any _ _ _ (by omega) hD.cur).mono ?_
  rintro _ w4 ⟨A5, n5, c5, F5, C5, rfl, hn5, hO, hDx⟩
  have hsO := hD.size
  replace hD := hD.trans hDx
  clear hDx
  have hcO : w.heap.size < W2.heap.size := hcu
  go_wp2_with fail
  go_at_call 54
  refine (gang5_any _ _ _ (by omega) hD.cur).mono ?_
  rintro _ w5 ⟨a, rfl, hc, ht⟩
  have hz_w5 := ht.size
  replace hO := hO.tch ht (by omega) (by omega)
  replace hD := hD.draw hc ht
  clear hc ht
  go_wp2_with fail
  go_at_call 65
  refine (day5_any _ _ _ (by omega) hD.cur).mono ?_
  rintro _ w6 ⟨b, rfl, hc, ht⟩
  have hz_w6 := ht.size
  replace hO := hO.tch ht (by omega) (by omega)
  replace hD := hD.draw hc ht
  clear hc ht
  have hbE := hbA.trans (hD.tch.below (Nat.le_refl _) (by omega))
  have hsE := hD.size
  have hO' := hO.mono (lo' := w.heap.size) (hi' := (World.heap w6).size) (by omega) (by omega)
  clear hO hD hbA
  go_wp2
  refine bodyPost_ret (v := .tuple #[.slice A5 n5 c5, .int .i64 a, .int .i64 b]) (by simp only [results, Try.results27]; go_simp) rfl ⟨A5, n5, c5, F5, C5, a, b, rfl, hn5, hO', hbE⟩
set_option maxHeartbeats 1000000 in
theorem DrawSpareWorkers_any (A : Option Addr) (n c : Nat) (B : Nat → Int) (w : World) (h : CodeR w A n B) :
    Calls Try.prog 29 #[.slice A n c] w (DrawN2 w) := by
  go_enter Try.func29, Try.ntmps29
  go_wp2_with fail
  go_at_call 27
  refine (DrawRakedOn_any _ _ _ _ _ h).mono ?_
  rintro _ w4 ⟨A5, n5, c5, F5, C5, a, b, rfl, hn5, hO, hb⟩
  go_wp2
  refine bodyPost_ret (v := .tuple #[.slice A5 n5 c5, .int .i64 a, .int .i64 b]) (by simp only [results, Try.results29]; go_simp) rfl ⟨A5, n5, c5, F5, C5, a, b, rfl, hn5, hO, hb⟩
set_option maxHeartbeats 1000000 in
theorem DrawDaysToRake_any (A : Option Addr) (n c : Nat) (B : Nat → Int) (w : World) (h : CodeR w A n B) :
    Calls Try.prog 24 #[.slice A n c] w (DrawN3 w) := by
  go_enter Try.func24, Try.ntmps24
  go_upto_region 2 with fail
  have hC := Cur.new h c 68
  have hbA : Below w.heap.size w (w.alloc (.cells #[.slice A n c, .int .i64 0, .int .u64 0] 68)) := (Below.refl _ _).alloc (Nat.le_refl _) _
  generalize w.alloc (.cells #[.slice A n c, .int .i64 0, .int .u64 0] 68) = W2 at hbA hC ⊢
  have hD := DrS.start hC
  have hcu := hC.lt
  clear hC
  go_wp2_with fail
  go_at_call 53
  refine (workers_any _ _ _ (by omega) hD.cur).mono ?_
  rintro _ w4 ⟨A5, n5, c5, F5, C5, rfl, hn5, hO, hDx⟩
  have hsO := hD.size
  replace hD := hD.trans hDx
  clear hDx
  have hcO : w.heap.size < W2.heap.size := hcu
  go_wp2_with fail
  go_at_call 54
  refine (gang5_any _ _ _ (by omega) hD.cur).mono ?_
  rintro _ w5 ⟨a, rfl, hc, ht⟩
  have hz_w5 := ht.size
  replace hO := hO.tch ht (by omega) (by omega)
  replace hD := hD.draw hc ht
  clear hc ht
  go_wp2_with fail
  go_at_call 65
  refine (day5_any _ _ _ (by omega) hD.cur).mono ?_
  rintro _ w6 ⟨b, rfl, hc, ht⟩
  have hz_w6 := ht.size
  replace hO := hO.tch ht (by omega) (by omega)
  replace hD := hD.draw hc ht
  clear hc ht
  have hD0 := hD
  go_wp2_with fail
  go_at_call 67
  refine (pick_any _ _ _ _ (by omega) (by decide) (hD.cur.alloc _)).mono ?_
  rintro _ w7 ⟨q, rfl, qa, qb, hc, ht⟩
  have hl := Lits0.tch (n := 7) (Lits0.new _ _ _ (by rfl) (by rfl)) ht (Nat.ne_of_gt hD.cur.lt)
  replace hD := (hD.alloc _).draw hc ht
  have hz7 := ht.size; simp at hz7; replace hO := (hO.alloc (by omega) _).tch ht (by simp; omega) (by omega); clear hc ht
  rw [if_neg (by decide)] at qb
  have hq : q / 11 = 0 ∨ q / 11 = 1 ∨ q / 11 = 2 := by omega
  rcases hq with e | e | e
  all_goals
    go_wp2_with fail
    go_at_call 66
    refine (among0_any _ _ _ _ _ _ (by omega) (by decide) (by decide) (Nat.ne_of_gt hD0.cur.lt) (hl.mono (by omega)) hD.cur).mono ?_
    rintro _ w8 ⟨r, rfl, hc, ht⟩
    have hz8 := ht.size
    replace hO := hO.tch ht (by omega) (by omega)
    replace hD := hD.draw hc ht
    clear hc ht hD0 hl
    have hbE := hbA.trans (hD.tch.below (Nat.le_refl _) (by omega))
    have hsE := hD.size
    have hO' := hO.mono (lo' := w.heap.size) (hi' := (World.heap w8).size) (by omega) (by omega)
    clear hO hD hbA
    go_wp2
    refine bodyPost_ret (v := .tuple #[.slice A5 n5 c5, .int .i64 a, .int .i64 b, .int .i64 r]) (by simp only [results, Try.results24]; go_simp) rfl ⟨A5, n5, c5, F5, C5, a, b, r, rfl, hn5, hO', hbE⟩
end Go.Proofs.Ytmblkjnpibcmoaa
