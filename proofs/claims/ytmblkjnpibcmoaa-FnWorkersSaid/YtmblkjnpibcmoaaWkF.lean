/-
  Contracts on workers: the idle days, of the program and of the reference. Conditions: lengths up to 2^20.
-/
import Derived.Test.YtmblkjnpibcmoaaWkE
namespace Go.Proofs.Ytmblkjnpibcmoaa
open Go.RowKit

/-- The weekdays below d on which a gang does not work. -/
def idleL (F : Nat → Nat → Int) (C : Nat → Bool) (n : Nat) (g : Int) : Nat → List Int
  | 0 => []
  | d + 1 => if worksG F C n g d 0 then idleL F C n g d else idleL F C n g d ++ [(d : Int)]
def idleT (F : Nat → Nat → Int) (C : Nat → Bool) (n : Nat) (g : Int) (d : Nat) : Nat → Nat → Int := fun i _ => (idleL F C n g d).getD i 0
theorem idle_row (F : Nat → Nat → Int) (C : Nat → Bool) (n : Nat) (g : Int) (d : Nat) : rowL (ints (idleT F C n g d)) (idleL F C n g d).length 1 = (idleL F C n g d).map (.int .i64) := by
  apply List.ext_getElem
  · simp [rowL]
  · intro i h1 h2
    have hi : i < (idleL F C n g d).length := by simpa using h2
    simp [rowL, idleT, List.getD, List.getElem?_eq_getElem hi]
theorem idle_len (F : Nat → Nat → Int) (C : Nat → Bool) (n : Nat) (g : Int) : ∀ d, (idleL F C n g d).length ≤ d := by
  intro d
  induction d with
  | zero => simp [idleL]
  | succ d ih =>
    simp only [idleL]
    split
    · omega
    · simp; omega
theorem rk_pos {F : Nat → Nat → Int} {n : Nat} (h : worksB F n = true) (g d o : Int) : ∀ k, k ≤ n → rkN F g d o k ≤ rkS F g d o k := by
  intro k
  induction k with
  | zero => intro _; simp [rkN, rkS]
  | succ k ih =>
    intro hk
    have := ih (by omega)
    have := work_at h (show k < n by omega)
    simp only [rkN, rkS]
    split <;> omega
theorem works_zero {F : Nat → Nat → Int} {n : Nat} (C : Nat → Bool) (h : worksB F n = true) (g d o : Int) : (rakedV F C n g d o == 0) = !(worksG F C n g d o) := by
  unfold rakedV
  cases hw : worksG F C n g d o
  · simp
  · have hw' := hw
    simp only [worksG, Bool.and_eq_true, Bool.not_eq_true', decide_eq_false_iff_not] at hw'
    have := rk_pos h g d o n (Nat.le_refl _)
    simp only [if_true, Bool.not_true, beq_eq_false_iff_ne, ne_eq]
    omega
def idleN (F : Nat → Nat → Int) (C : Nat → Bool) (n : Nat) (g : Int) : Nat := if weekOk F n g then (idleL F C n g 7).length else 0
theorem idleN_le (F : Nat → Nat → Int) (C : Nat → Bool) (n : Nat) (g : Int) : idleN F C n g ≤ 7 := by
  have := idle_len F C n g 7
  unfold idleN; split <;> omega
set_option maxHeartbeats 2000000 in
theorem IdleDays_any (A : Option Addr) (n c : Nat) (F : Nat → Nat → Int) (C : Nat → Bool) (g : Int) (w : World) (hn : n ≤ 1048576) (h : Rd w A n 5 (wkC F C)) :
    Calls Try.prog 16 #[.slice A n c, .int .i64 g] w (RowP w (fun A' c' => .tuple #[.slice A' (idleN F C n g) c', .bool (weekOk F n g)]) (idleN F C n g) 1 (ints (idleT F C n g 7))) := by
  cases h1 : worksB F n
  · rw [show idleN F C n g = 0 by simp [idleN, weekOk, h1], show weekOk F n g = false by simp [weekOk, h1]]
    go_enter Try.func16, Try.ntmps16
    go_wp2_with (first | (go_at_call 42; refine (AreWorkers_any _ _ _ _ _ _ hn h).mono ?_; rintro _ w1 ⟨rfl, hb_w1⟩; have hc_w1 := bcell hb_w1))
    refine bodyPost_ret (v := .tuple #[.slice none 0 0, .bool false]) (by simp only [results, Try.results16]; go_simp) rfl ⟨_, _, rfl, Ow.nil _ _ _ _ _ _, hb_w1⟩
  cases h2 : inB g 1 5
  · rw [show idleN F C n g = 0 by simp [idleN, weekOk, h1, h2], show weekOk F n g = false by simp [weekOk, h1, h2]]
    go_enter Try.func16, Try.ntmps16
    go_wp2_with (first | (go_at_call 42; refine (AreWorkers_any _ _ _ _ _ _ hn h).mono ?_; rintro _ w1 ⟨rfl, hb_w1⟩; have hc_w1 := bcell hb_w1) | (go_at_call 55; refine (isGang_any _ _).mono ?_; rintro _ _ ⟨rfl, rfl⟩))
    refine bodyPost_ret (v := .tuple #[.slice none 0 0, .bool false]) (by simp only [results, Try.results16]; go_simp) rfl ⟨_, _, rfl, Ow.nil _ _ _ _ _ _, hb_w1⟩
  rw [show idleN F C n g = (idleL F C n g 7).length by simp [idleN, weekOk, h1, h2], show weekOk F n g = true by simp [weekOk, h1, h2]]
  have HV := hide h1
  obtain ⟨i0, hi0, hz0, hz1, hz2⟩ := info_parts info_int
  go_enter Try.func16, Try.ntmps16
  go_wp2_with fail
  go_at_call 42
  refine (AreWorkers_any _ _ _ _ _ _ hn h).mono ?_
  rintro _ w1 ⟨rfl, hb1⟩
  rw [h1]
  go_wp2_with fail
  go_at_call 55
  refine (isGang_any _ _).mono ?_
  rintro _ _ ⟨rfl, rfl⟩
  rw [h2]
  clear h1 h2
  go_wp2_with fail
  go_at_call 49
  refine (rakedWeek_any _ _ _ _ _ g _ HV (Rd.below h hb1)).mono ?_
  rintro _ w2 ⟨A2, c2, rfl, hO, hb2⟩
  have hbA := gr hb1 hb2
  have hZ := hO.sl.rd (Nat.le_refl _)
  clear hO hb1 hb2
  go_wp2
  go_loopw [6, 21] (fun v i wr => ∃ (k : Nat), k ≤ 7 ∧ i = .int .i64 k ∧ wr.ownsRow w2.heap.size 3 1 v (idleL F C n g k).length ((idleL F C n g k).map (.int .i64)) ∧ Below w2.heap.size w2 wr) (fun _ i _ => 7 - (intOf i).toNat)
  case atStart => exact ⟨0, by omega, rfl, World.ownsRow_nil _ _ _ _, Below.refl _ _⟩
  case round =>
    obtain ⟨k, hk, rfl, ho, hb2⟩ := hrel
    have hs := hb2.size
    by_cases hlt : k < 7
    · have hlt' : decide ((k : Int) < 7) = true := by simp; omega
      obtain ⟨b, off, rfl, -, hbw, hc⟩ := Rd.below hZ hb2 (by omega)
      have hc0 := hc k 0 hlt (by omega)
      simp only [Nat.add_zero, Nat.mul_one, ints] at hc0
      clear hc
      have HE := hide (show weekT F C n g k 0 = rakedV F C n g (k : Int) 0 from rfl)
      rw [HE.out] at hc0
      have HS := hide (show idleL F C n g (k + 1) = if worksG F C n g k 0 then idleL F C n g k else idleL F C n g k ++ [(k : Int)] from rfl)
      have hz := works_zero C HV.out g (k : Int) 0
      have hl := idle_len F C n g k
      generalize idleL F C n g k = L at *
      generalize hq : L.length = q at *
      have HQ := hide hq
      clear hq HE
      generalize rakedV F C n g (k : Int) 0 = x at *
      cases hw : worksG F C n g (k : Int) 0
      · rw [hw] at hz
        have HS2 := hide (show idleL F C n g (k + 1) = L ++ [(k : Int)] by rw [HS.out, hw]; rfl)
        replace hz : (x == 0) = true := hz
        clear HS hw
        go_wp2_with (at_builtin; refine wpList_append_own _ rfl _ _ 34 rfl (World.heap w2).size 3 i0 (.int .i64 0) 1 8 Try.underlying34 hi0 hz0 hz1 hz2 rfl (by decide) _ q _ rfl (ho.alloc _) ⟨(World.heap wr).size, 0, none⟩ 1 1 [.int .i64 (k : Int)] rfl rfl (World.news_of_block (cs := #[.int .i64 (k : Int)]) (t := 3) (fr := (0, 0)) (heap_alloc_new wr _)) (by simp [Value.oneCell']) (by simp only [maxLen]; omega) (by omega) (by simp; omega) ?_; intro v4 w4 hown4 hg4 _)
        have hb4 := (hb2.alloc hs (.cells #[.int .i64 (k : Int)] 3)).trans (grown_below (ho.alloc (.cells #[.int .i64 (k : Int)] 3)) hg4 (by simp; omega))
        have hr4 : w4.ownsRow (World.heap w2).size 3 1 v4 (q + 1) (L.map (.int .i64) ++ [.int .i64 (k : Int)]) := hown4
        clear hown4 hg4
        have HR4 := hide hr4
        go_wp2
        go_roundw
        case rel => exact ⟨k + 1, by omega, by go_num, by rw [HS2.out, List.length_append, HQ.out]; simpa using HR4.out, hb4⟩
        case measure => simp [intOf]; omega
      · rw [hw] at hz
        have HS2 := hide (show idleL F C n g (k + 1) = L by rw [HS.out, hw]; rfl)
        replace hz : (x == 0) = false := hz
        clear HS hw
        go_wp2
        go_roundw
        case rel => exact ⟨k + 1, by omega, by go_num, by rw [HS2.out, HQ.out]; exact ho, hb2⟩
        case measure => simp [intOf]; omega
    · obtain rfl : k = 7 := by omega
      rw [← idle_row] at ho
      obtain ⟨A4, c4, rfl, hO⟩ := own_tab ho
      have hO' := hO.mono hbA.size (Nat.le_refl _)
      go_wp2
      refine bodyPost_ret (v := .tuple #[.slice A4 (idleL F C n g 7).length c4, .bool true]) (by simp only [results, Try.results16]; go_simp) rfl ⟨A4, c4, rfl, hO', gr hbA hb2⟩
set_option maxHeartbeats 2000000 in
theorem spec_IdleDays_any (A : Option Addr) (n c : Nat) (F : Nat → Nat → Int) (C : Nat → Bool) (g : Int) (w : World) (hn : n ≤ 1048576) (h : Rd w A n 5 (wkC F C)) :
    Calls Try.prog 17 #[.slice A n c, .int .i64 g] w (RowP w (fun A' c' => .tuple #[.slice A' (idleN F C n g) c', .bool (weekOk F n g)]) (idleN F C n g) 1 (ints (idleT F C n g 7))) := by
  have hb0 : Below w.heap.size w (w.alloc (.cells #[] 3)) := (Below.refl _ _).alloc (Nat.le_refl _) _
  have h0 := Rd.below h hb0
  have hown := World.ownsRow_lit (base := w.heap.size) (e := 3) (size := 1) w #[] 0 (Nat.le_refl _) (Nat.zero_le _) rfl
  cases h1 : worksB F n
  · rw [show idleN F C n g = 0 by simp [idleN, weekOk, h1], show weekOk F n g = false by simp [weekOk, h1]]
    go_enter Try.func17, Try.ntmps17
    go_wp2_with fail
    go_at_call 56
    refine (l5Good_any _ _ _ _ _ _ hn h0).mono ?_
    rintro _ w1 ⟨rfl, hb1⟩
    rw [h1]
    go_wp2
    refine bodyPost_ret (v := .tuple #[.slice (some ⟨w.heap.size, 0, none⟩) 0 0, .bool false]) (by simp only [results, Try.results17]; go_simp) rfl ⟨_, _, rfl, Ow.nil _ _ _ _ _ _, gr hb0 hb1⟩
  cases h2 : inB g 1 5
  · rw [show idleN F C n g = 0 by simp [idleN, weekOk, h1, h2], show weekOk F n g = false by simp [weekOk, h1, h2]]
    go_enter Try.func17, Try.ntmps17
    go_wp2_with fail
    go_at_call 56
    refine (l5Good_any _ _ _ _ _ _ hn h0).mono ?_
    rintro _ w1 ⟨rfl, hb1⟩
    rw [h1]
    go_wp2_with fail
    go_at_call 57
    refine (l5Gang_any _ _).mono ?_
    rintro _ _ ⟨rfl, rfl⟩
    rw [h2]
    go_wp2
    refine bodyPost_ret (v := .tuple #[.slice (some ⟨w.heap.size, 0, none⟩) 0 0, .bool false]) (by simp only [results, Try.results17]; go_simp) rfl ⟨_, _, rfl, Ow.nil _ _ _ _ _ _, gr hb0 hb1⟩
  rw [show idleN F C n g = (idleL F C n g 7).length by simp [idleN, weekOk, h1, h2], show weekOk F n g = true by simp [weekOk, h1, h2]]
  have HV := hide h1
  obtain ⟨i0, hi0, hz0, hz1, hz2⟩ := info_parts info_int
  go_enter Try.func17, Try.ntmps17
  go_wp2_with fail
  go_at_call 56
  refine (l5Good_any _ _ _ _ _ _ hn h0).mono ?_
  rintro _ w1 ⟨rfl, hb1⟩
  rw [h1]
  go_wp2_with fail
  go_at_call 57
  refine (l5Gang_any _ _).mono ?_
  rintro _ _ ⟨rfl, rfl⟩
  rw [h2]
  clear h1 h2
  replace hown := own_below hown hb1
  replace hb1 := gr hb0 hb1
  clear hb0 h0
  go_wp2
  go_loopw [6, 7, 8, 9] (fun v i _ _ wr => ∃ (k : Nat), k ≤ 7 ∧ i = .int .i64 k ∧ wr.ownsRow w.heap.size 3 1 v (idleL F C n g k).length ((idleL F C n g k).map (.int .i64)) ∧ Below w.heap.size w wr) (fun _ i _ _ _ => 7 - (intOf i).toNat)
  case atStart => exact ⟨0, by omega, rfl, hown, hb1⟩
  case round =>
    clear hown hb1
    obtain ⟨k, hk, rfl, ho, hb⟩ := hrel
    by_cases hlt : k < 7
    · have hlt' : decide ((k : Int) < 7) = true := by simp; omega
      have HS := hide (show idleL F C n g (k + 1) = if worksG F C n g k 0 then idleL F C n g k else idleL F C n g k ++ [(k : Int)] from rfl)
      have hl := idle_len F C n g k
      generalize idleL F C n g k = L at *
      generalize hq : L.length = q at *
      have HQ := hide hq
      clear hq
      go_wp2_with fail
      go_at_call 58
      refine (l5Raked_any _ _ _ _ _ g (k : Int) 0 _ HV (Rd.below h hb)).mono ?_
      rintro _ w2 ⟨rfl, hb2⟩
      replace ho := own_below ho hb2
      replace hb := gr hb hb2
      clear hb2
      have hs := hb.size
      cases hw : worksG F C n g (k : Int) 0
      · have HS2 := hide (show idleL F C n g (k + 1) = L ++ [(k : Int)] by rw [HS.out, hw]; rfl)
        clear HS
        go_wp2_with (at_builtin; refine wpList_append_own _ rfl _ _ 34 rfl (World.heap w).size 3 i0 (.int .i64 0) 1 8 Try.underlying34 hi0 hz0 hz1 hz2 rfl (by decide) _ q _ rfl (ho.alloc _) ⟨(World.heap w2).size, 0, none⟩ 1 1 [.int .i64 (k : Int)] rfl rfl (World.news_of_block (cs := #[.int .i64 (k : Int)]) (t := 3) (fr := (0, 0)) (heap_alloc_new w2 _)) (by simp [Value.oneCell']) (by simp only [maxLen]; omega) (by omega) (by simp; omega) ?_; intro v4 w4 hown4 hg4 _)
        have hb4 := (hb.alloc hs (.cells #[.int .i64 (k : Int)] 3)).trans (grown_below (ho.alloc (.cells #[.int .i64 (k : Int)] 3)) hg4 (by simp; omega))
        have hr4 : w4.ownsRow (World.heap w).size 3 1 v4 (q + 1) (L.map (.int .i64) ++ [.int .i64 (k : Int)]) := hown4
        clear hown4 hg4
        have HR4 := hide hr4
        clear hw
        go_wp2
        go_roundw
        case rel => exact ⟨k + 1, by omega, by go_num, by rw [HS2.out, List.length_append, HQ.out]; simpa using HR4.out, hb4⟩
        case measure => simp [intOf]; omega
      · have HS2 := hide (show idleL F C n g (k + 1) = L by rw [HS.out, hw]; rfl)
        clear HS
        go_wp2
        go_roundw
        case rel => exact ⟨k + 1, by omega, by go_num, by rw [HS2.out, HQ.out]; exact ho, hb⟩
        case measure => simp [intOf]; omega
    · obtain rfl : k = 7 := by omega
      rw [← idle_row] at ho
      obtain ⟨A4, c4, rfl, hO⟩ := own_tab ho
      go_wp2
      refine bodyPost_ret (v := .tuple #[.slice A4 (idleL F C n g 7).length c4, .bool true]) (by simp only [results, Try.results17]; go_simp) rfl ⟨A4, c4, rfl, hO, hb⟩
end Go.Proofs.Ytmblkjnpibcmoaa
