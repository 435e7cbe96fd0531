/-
  Contracts on workers: RakedOn and RakedWeek, of the program and of the reference. Conditions: lengths up to 2^20.
-/
import Derived.Test.YtmblkjnpibcmoaaWkC
namespace Go.Proofs.Ytmblkjnpibcmoaa
open Go.RowKit

theorem isGang_any (n : Int) (w : World) :
    Calls Try.prog 55 #[.int .i64 n] w fun e w' => e = .returned (.bool (inB n 1 5)) ∧ w = w' := by
  go_enter Try.func55, Try.ntmps55
  go_wp2_with (first | (go_at_call 68; refine (within_any _ _ _ _).mono ?_; rintro _ _ ⟨rfl, rfl⟩))
  all_goals go_ret
  all_goals exact ⟨rfl, rfl⟩
theorem l5Gang_any (n : Int) (w : World) :
    Calls Try.prog 57 #[.int .i64 n] w fun e w' => e = .returned (.bool (inB n 1 5)) ∧ w = w' := by
  go_enter Try.func57, Try.ntmps57
  go_wp2_with (first | (go_at_call 70; refine (l1In_any _ _ _ _).mono ?_; rintro _ _ ⟨rfl, rfl⟩))
  all_goals go_ret
  all_goals exact ⟨rfl, rfl⟩
def weekOk (F : Nat → Nat → Int) (n : Nat) (g : Int) : Bool := worksB F n && inB g 1 5
def weekLen (F : Nat → Nat → Int) (n : Nat) (g : Int) : Nat := if weekOk F n g then 7 else 0
def rakedOnR (F : Nat → Nat → Int) (C : Nat → Bool) (n : Nat) (g d : Int) : Int × Bool := if worksB F n && inB g 1 5 && inB d 0 4000 then (rakedV F C n g (d % 7) 0, true) else (0, false)
set_option maxHeartbeats 1000000 in
theorem RakedOn_any (A : Option Addr) (n c : Nat) (F : Nat → Nat → Int) (C : Nat → Bool) (g d : Int) (w : World) (hn : n ≤ 1048576) (h : Rd w A n 5 (wkC F C)) :
    Calls Try.prog 18 #[.slice A n c, .int .i64 g, .int .i64 d] w fun e w' => e = .returned (.tuple #[.int .i64 (rakedOnR F C n g d).1, .bool (rakedOnR F C n g d).2]) ∧ Below w.heap.size w w' := by
  cases h1 : worksB F n
  · have HR := hide (show rakedOnR F C n g d = (0, false) by simp [rakedOnR, h1])
    go_enter Try.func18, Try.ntmps18
    go_wp2_with (first | (go_at_call 42; refine (AreWorkers_any _ _ _ _ _ _ hn h).mono ?_; rintro _ w1 ⟨rfl, hb_w1⟩; have hc_w1 := bcell hb_w1))
    go_ret2
    exact ⟨by rw [HR.out]; rfl, hb_w1⟩
  cases h2 : inB g 1 5
  · have HR := hide (show rakedOnR F C n g d = (0, false) by simp [rakedOnR, h1, h2])
    go_enter Try.func18, Try.ntmps18
    go_wp2_with (first | (go_at_call 42; refine (AreWorkers_any _ _ _ _ _ _ hn h).mono ?_; rintro _ w1 ⟨rfl, hb_w1⟩; have hc_w1 := bcell hb_w1) | (go_at_call 55; refine (isGang_any _ _).mono ?_; rintro _ _ ⟨rfl, rfl⟩))
    go_ret2
    exact ⟨by rw [HR.out]; rfl, hb_w1⟩
  cases h3 : inB d 0 4000
  · have HR := hide (show rakedOnR F C n g d = (0, false) by simp [rakedOnR, h1, h2, h3])
    go_enter Try.func18, Try.ntmps18
    go_wp2_with (first | (go_at_call 42; refine (AreWorkers_any _ _ _ _ _ _ hn h).mono ?_; rintro _ w1 ⟨rfl, hb_w1⟩; have hc_w1 := bcell hb_w1) | (go_at_call 55; refine (isGang_any _ _).mono ?_; rintro _ _ ⟨rfl, rfl⟩) | (go_at_call 59; refine (isDay_any _ _).mono ?_; rintro _ _ ⟨rfl, rfl⟩))
    go_ret2
    exact ⟨by rw [HR.out]; rfl, hb_w1⟩
  have HR := hide (show rakedOnR F C n g d = (rakedV F C n g (d % 7) 0, true) by simp [rakedOnR, h1, h2, h3])
  have HV := hide h1
  obtain ⟨d0, d1⟩ := inB_true h3
  go_enter Try.func18, Try.ntmps18
  go_wp2_with fail
  go_at_call 42
  refine (AreWorkers_any _ _ _ _ _ _ hn h).mono ?_
  rintro _ w1 ⟨rfl, hb1⟩
  rw [h1]
  go_wp2_with fail
  go_at_call 55
  refine (isGang_any _ _).mono ?_
  rintro _ _ ⟨rfl, rfl⟩
  rw [h2]
  go_wp2_with fail
  go_at_call 59
  refine (isDay_any _ _).mono ?_
  rintro _ _ ⟨rfl, rfl⟩
  rw [h3]
  clear h1 h2 h3
  go_wp2_with fail
  go_at_call 60
  refine (raked_any _ _ _ _ _ g (d % 7) 0 _ HV (Rd.below h hb1)).mono ?_
  rintro _ w2 ⟨rfl, hb2⟩
  go_wp2
  go_ret2
  exact ⟨by rw [HR.out]; rfl, gr hb1 hb2⟩
set_option maxHeartbeats 1000000 in
theorem spec_RakedOn_any (A : Option Addr) (n c : Nat) (F : Nat → Nat → Int) (C : Nat → Bool) (g d : Int) (w : World) (hn : n ≤ 1048576) (h : Rd w A n 5 (wkC F C)) :
    Calls Try.prog 28 #[.slice A n c, .int .i64 g, .int .i64 d] w fun e w' => e = .returned (.tuple #[.int .i64 (rakedOnR F C n g d).1, .bool (rakedOnR F C n g d).2]) ∧ Below w.heap.size w w' := by
  cases h1 : worksB F n
  · have HR := hide (show rakedOnR F C n g d = (0, false) by simp [rakedOnR, h1])
    go_enter Try.func28, Try.ntmps28
    go_wp2_with (first | (go_at_call 56; refine (l5Good_any _ _ _ _ _ _ hn h).mono ?_; rintro _ w1 ⟨rfl, hb_w1⟩; have hc_w1 := bcell hb_w1))
    go_ret2
    exact ⟨by rw [HR.out]; rfl, hb_w1⟩
  cases h2 : inB g 1 5
  · have HR := hide (show rakedOnR F C n g d = (0, false) by simp [rakedOnR, h1, h2])
    go_enter Try.func28, Try.ntmps28
    go_wp2_with (first | (go_at_call 56; refine (l5Good_any _ _ _ _ _ _ hn h).mono ?_; rintro _ w1 ⟨rfl, hb_w1⟩; have hc_w1 := bcell hb_w1) | (go_at_call 57; refine (l5Gang_any _ _).mono ?_; rintro _ _ ⟨rfl, rfl⟩))
    go_ret2
    exact ⟨by rw [HR.out]; rfl, hb_w1⟩
  cases h3 : inB d 0 4000
  · have HR := hide (show rakedOnR F C n g d = (0, false) by simp [rakedOnR, h1, h2, h3])
    go_enter Try.func28, Try.ntmps28
    go_wp2_with (first | (go_at_call 56; refine (l5Good_any _ _ _ _ _ _ hn h).mono ?_; rintro _ w1 ⟨rfl, hb_w1⟩; have hc_w1 := bcell hb_w1) | (go_at_call 57; refine (l5Gang_any _ _).mono ?_; rintro _ _ ⟨rfl, rfl⟩) | (go_at_call 69; refine (l2Day_any _ _).mono ?_; rintro _ _ ⟨rfl, rfl⟩))
    go_ret2
    exact ⟨by rw [HR.out]; rfl, hb_w1⟩
  have HR := hide (show rakedOnR F C n g d = (rakedV F C n g (d % 7) 0, true) by simp [rakedOnR, h1, h2, h3])
  have HV := hide h1
  obtain ⟨d0, d1⟩ := inB_true h3
  go_enter Try.func28, Try.ntmps28
  go_wp2_with fail
  go_at_call 56
  refine (l5Good_any _ _ _ _ _ _ hn h).mono ?_
  rintro _ w1 ⟨rfl, hb1⟩
  rw [h1]
  go_wp2_with fail
  go_at_call 57
  refine (l5Gang_any _ _).mono ?_
  rintro _ _ ⟨rfl, rfl⟩
  rw [h2]
  go_wp2_with fail
  go_at_call 69
  refine (l2Day_any _ _).mono ?_
  rintro _ _ ⟨rfl, rfl⟩
  rw [h3]
  clear h1 h2 h3
  go_wp2_with fail
  go_at_call 58
  refine (l5Raked_any _ _ _ _ _ g (d % 7) 0 _ HV (Rd.below h hb1)).mono ?_
  rintro _ w2 ⟨rfl, hb2⟩
  go_wp2
  go_ret2
  exact ⟨by rw [HR.out]; rfl, gr hb1 hb2⟩
set_option maxHeartbeats 1000000 in
theorem RakedWeek_any (A : Option Addr) (n c : Nat) (F : Nat → Nat → Int) (C : Nat → Bool) (g : Int) (w : World) (hn : n ≤ 1048576) (h : Rd w A n 5 (wkC F C)) :
    Calls Try.prog 13 #[.slice A n c, .int .i64 g] w (RowP w (fun A' c' => .tuple #[.slice A' (weekLen F n g) c', .bool (weekOk F n g)]) (weekLen F n g) 1 (ints (weekT F C n g))) := by
  cases h1 : worksB F n
  · rw [show weekLen F n g = 0 by simp [weekLen, weekOk, h1], show weekOk F n g = false by simp [weekOk, h1]]
    go_enter Try.func13, Try.ntmps13
    go_wp2_with (first | (go_at_call 42; refine (AreWorkers_any _ _ _ _ _ _ hn h).mono ?_; rintro _ w1 ⟨rfl, hb_w1⟩; have hc_w1 := bcell hb_w1))
    refine bodyPost_ret (v := .tuple #[.slice none 0 0, .bool false]) (by simp only [results, Try.results13]; go_simp) rfl ⟨_, _, rfl, Ow.nil _ _ _ _ _ _, hb_w1⟩
  cases h2 : inB g 1 5
  · rw [show weekLen F n g = 0 by simp [weekLen, weekOk, h1, h2], show weekOk F n g = false by simp [weekOk, h1, h2]]
    go_enter Try.func13, Try.ntmps13
    go_wp2_with (first | (go_at_call 42; refine (AreWorkers_any _ _ _ _ _ _ hn h).mono ?_; rintro _ w1 ⟨rfl, hb_w1⟩; have hc_w1 := bcell hb_w1) | (go_at_call 55; refine (isGang_any _ _).mono ?_; rintro _ _ ⟨rfl, rfl⟩))
    refine bodyPost_ret (v := .tuple #[.slice none 0 0, .bool false]) (by simp only [results, Try.results13]; go_simp) rfl ⟨_, _, rfl, Ow.nil _ _ _ _ _ _, hb_w1⟩
  rw [show weekLen F n g = 7 by simp [weekLen, weekOk, h1, h2], show weekOk F n g = true by simp [weekOk, h1, h2]]
  have HV := hide h1
  go_enter Try.func13, Try.ntmps13
  go_wp2_with fail
  go_at_call 42
  refine (AreWorkers_any _ _ _ _ _ _ hn h).mono ?_
  rintro _ w1 ⟨rfl, hb1⟩
  rw [h1]
  go_wp2_with fail
  go_at_call 55
  refine (isGang_any _ _).mono ?_
  rintro _ _ ⟨rfl, rfl⟩
  rw [h2]
  clear h1 h2
  go_wp2_with fail
  go_at_call 49
  refine (rakedWeek_any _ _ _ _ _ g _ HV (Rd.below h hb1)).mono ?_
  rintro _ w2 ⟨A2, c2, rfl, hO, hb2⟩
  go_wp2
  refine bodyPost_ret (v := .tuple #[.slice A2 7 c2, .bool true]) (by simp only [results, Try.results13]; go_simp) rfl ⟨_, _, rfl, hO.mono hb1.size (Nat.le_refl _), gr hb1 hb2⟩
set_option maxHeartbeats 2000000 in
theorem spec_RakedWeek_any (A : Option Addr) (n c : Nat) (F : Nat → Nat → Int) (C : Nat → Bool) (g : Int) (w : World) (hn : n ≤ 1048576) (h : Rd w A n 5 (wkC F C)) :
    Calls Try.prog 14 #[.slice A n c, .int .i64 g] w (RowP w (fun A' c' => .tuple #[.slice A' (weekLen F n g) c', .bool (weekOk F n g)]) (weekLen F n g) 1 (ints (weekT F C n g))) := by
  have hb0 : Below w.heap.size w (w.alloc (.cells #[] 3)) := (Below.refl _ _).alloc (Nat.le_refl _) _
  have h0 := Rd.below h hb0
  have hown := World.ownsRow_lit (base := w.heap.size) (e := 3) (size := 1) w #[] 0 (Nat.le_refl _) (Nat.zero_le _) rfl
  cases h1 : worksB F n
  · rw [show weekLen F n g = 0 by simp [weekLen, weekOk, h1], show weekOk F n g = false by simp [weekOk, h1]]
    go_enter Try.func14, Try.ntmps14
    go_wp2_with fail
    go_at_call 56
    refine (l5Good_any _ _ _ _ _ _ hn h0).mono ?_
    rintro _ w1 ⟨rfl, hb1⟩
    rw [h1]
    go_wp2
    refine bodyPost_ret (v := .tuple #[.slice (some ⟨w.heap.size, 0, none⟩) 0 0, .bool false]) (by simp only [results, Try.results14]; go_simp) rfl ⟨_, _, rfl, Ow.nil _ _ _ _ _ _, gr hb0 hb1⟩
  cases h2 : inB g 1 5
  · rw [show weekLen F n g = 0 by simp [weekLen, weekOk, h1, h2], show weekOk F n g = false by simp [weekOk, h1, h2]]
    go_enter Try.func14, Try.ntmps14
    go_wp2_with fail
    go_at_call 56
    refine (l5Good_any _ _ _ _ _ _ hn h0).mono ?_
    rintro _ w1 ⟨rfl, hb1⟩
    rw [h1]
    go_wp2_with fail
    go_at_call 57
    refine (l5Gang_any _ _).mono ?_
    rintro _ _ ⟨rfl, rfl⟩
    rw [h2]
    go_wp2
    refine bodyPost_ret (v := .tuple #[.slice (some ⟨w.heap.size, 0, none⟩) 0 0, .bool false]) (by simp only [results, Try.results14]; go_simp) rfl ⟨_, _, rfl, Ow.nil _ _ _ _ _ _, gr hb0 hb1⟩
  rw [show weekLen F n g = 7 by simp [weekLen, weekOk, h1, h2], show weekOk F n g = true by simp [weekOk, h1, h2]]
  have HV := hide h1
  obtain ⟨i0, hi0, hz0, hz1, hz2⟩ := info_parts info_int
  go_enter Try.func14, Try.ntmps14
  go_wp2_with fail
  go_at_call 56
  refine (l5Good_any _ _ _ _ _ _ hn h0).mono ?_
  rintro _ w1 ⟨rfl, hb1⟩
  rw [h1]
  go_wp2_with fail
  go_at_call 57
  refine (l5Gang_any _ _).mono ?_
  rintro _ _ ⟨rfl, rfl⟩
  rw [h2]
  clear h1 h2
  replace hown := own_below hown hb1
  replace hb1 := gr hb0 hb1
  clear hb0 h0
  go_wp2
  go_loopw [6, 7, 8, 9] (fun v i _ _ wr => ∃ k : Nat, k ≤ 7 ∧ i = .int .i64 k ∧ wr.ownsRow w.heap.size 3 1 v k (rowL (ints (weekT F C n g)) k 1) ∧ Below w.heap.size w wr) (fun _ i _ _ _ => 7 - (intOf i).toNat)
  case atStart => exact ⟨0, by omega, rfl, hown, hb1⟩
  case round =>
    clear hown hb1
    obtain ⟨k, hk, rfl, ho, hb⟩ := hrel
    by_cases hlt : k < 7
    · have HROW := hide (rowL_one_more (weekT F C n g) k)
      have hlt' : decide ((k : Int) < 7) = true := by simp; omega
      go_wp2_with fail
      go_at_call 58
      refine (l5Raked_any _ _ _ _ _ g (k : Int) 0 _ HV (Rd.below h hb)).mono ?_
      rintro _ w2 ⟨rfl, hb2⟩
      replace ho := own_below ho hb2
      replace hb := gr hb hb2
      have HD := hide (show rakedV F C n g (k : Int) 0 = weekT F C n g k 0 from rfl)
      rw [HD.out]
      generalize weekT F C n g k 0 = x at *
      clear hb2
      have hs := hb.size
      go_wp2_with (at_builtin; refine wpList_append_own _ rfl _ _ 34 rfl w.heap.size 3 i0 (.int .i64 0) 1 8 Try.underlying34 hi0 hz0 hz1 hz2 rfl (by decide) _ k _ rfl (ho.alloc _) ⟨w2.heap.size, 0, none⟩ 1 1 [.int .i64 x] rfl rfl (World.news_of_block (cs := #[.int .i64 x]) (t := 3) (fr := (0, 0)) (heap_alloc_new w2 _)) (by simp [Value.oneCell']) (by simp only [maxLen]; omega) (by omega) (by simp; omega) ?_; intro v3 w3 hown3 hg3 _; have hb3 := grown_below (ho.alloc _) hg3 (by simp; omega); clear hg3; rw [← HROW.out] at hown3)
      go_roundw
      case rel => exact ⟨k + 1, by omega, by go_num, hown3, (hb.alloc hs _).trans hb3⟩
      case measure => simp [intOf]; omega
    · obtain rfl : k = 7 := by omega
      obtain ⟨A', c', rfl, hO⟩ := own_tab ho
      go_wp2
      refine bodyPost_ret (v := .tuple #[.slice A' 7 c', .bool true]) (by simp only [results, Try.results14]; go_simp) rfl ⟨A', c', rfl, hO, hb⟩
end Go.Proofs.Ytmblkjnpibcmoaa
