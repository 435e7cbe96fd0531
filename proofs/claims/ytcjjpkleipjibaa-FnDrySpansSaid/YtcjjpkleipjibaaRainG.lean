/-
  Contracts: the cover that is needed, the brine after sun and rain of a day, of the program and of the reference. Conditions: lengths up to 2^20.
-/
import Derived.Test.YtcjjpkleipjibaaRainF
import Derived.Test.YtcjjpkleipjibaaRainM
namespace Go.Proofs.Ytcjjpkleipjibaa
open Go.RowKit

set_option maxRecDepth 20000 in
set_option maxHeartbeats 2000000 in
theorem CoverNeeded_any (A : Option Addr) (n c : Nat) (F : Nat → Nat → Int) (x y area day limit : Int) (w : World) (hn : n ≤ 1048576) (h : Rd w A n 2 (ints F)) :
    Calls Try.prog 32 #[.slice A n c, .agg #[.int .i64 x, .int .i64 y], .int .i64 area, .int .i64 day, .int .i64 limit] w fun e w' => e = .returned (.tuple #[.int .i64 (coverR F n x y area day limit).1, .bool (coverR F n x y area day limit).2]) ∧ Below w.heap.size w w' := by
  by_cases h0 : 0 ≤ limit
  rotate_left
  · have HR := hide (show coverR F n x y area day limit = (0, false) by simp [coverR, h0])
    have h0' : limit < 0 := by omega
    go_enter Try.func32, Try.ntmps32
    go_wp2
    go_ret2
    exact ⟨ret_p HR.out, (Below.refl _ _).alloc (Nat.le_refl _) _⟩
  have HP : Hid (coverR F n x y area day limit = coverV (firstB (fun c : Nat => (afterRainR F n x y area c day).2.2 && decide ((afterRainR F n x y area c day).1 ≤ limit)) maxCovers)) := by
    unfold Hid coverR
    have hs := fun c (hc : c < maxCovers) => cover_step (F := F) (n := n) (x := x) (y := y) (area := area) (day := day) (limit := limit) (c := c) (by unfold maxCovers at hc; omega)
    cases hv : ((rainOnAreaR F n area day).2 && brineB x y)
    · rw [firstB_eq_none (p := fun c : Nat => (afterRainR F n x y area c day).2.2 && decide ((afterRainR F n x y area c day).1 ≤ limit)) (fun j hj => by simp only [hs j hj, hv]; rfl)]
      simp [coverV]
    · rw [decide_eq_true h0]
      simp only [Bool.and_self, if_true]
      congr 1
      cases hf : firstB (fun c : Nat => decide (x + comes (rainOnAreaR F n area day).1 c ≤ min limit 1000000)) maxCovers with
      | some i =>
        obtain ⟨hi, hp, hj⟩ := firstB_some hf
        rw [firstB_eq hi (by simp only [hs i hi, hv]; simpa using hp) (fun j hj' => by simp only [hs j (by omega), hv]; simpa using hj j hj')]
      | none =>
        have hj := firstB_none hf
        rw [firstB_eq_none fun j hj' => by simp only [hs j hj', hv]; simpa using hj j hj']
  obtain ⟨N, hN⟩ : ∃ N, N = maxCovers := ⟨_, rfl⟩
  rw [← hN] at HP
  have hN1 : N ≤ 101 := by rw [hN]; exact Nat.le_refl _
  have hN2 : 101 ≤ N := by rw [hN]; exact Nat.le_refl _
  clear hN
  go_enter Try.func32, Try.ntmps32
  go_wp2
  have o1 := box2_new w 39 (.int .i64 x) (.int .i64 y)
  have hb0 : Below w.heap.size w (w.alloc (.cells #[.int .i64 x, .int .i64 y] 39)) := (Below.refl _ _).alloc (Nat.le_refl _) _
  have hs0 : w.heap.size < (w.alloc (.cells #[.int .i64 x, .int .i64 y] 39)).heap.size := by simp
  generalize w.alloc (.cells #[.int .i64 x, .int .i64 y] 39) = w1 at o1 hb0 hs0 ⊢
  go_loopw [17] (fun i wr => ∃ k : Nat, k ≤ N ∧ i = .int .i64 k ∧ Ow wr w.heap.size (w.heap.size + 1) (some ⟨w.heap.size, 0, none⟩) 1 2 (fun _ j => #[.int .i64 x, .int .i64 y][j]!) ∧
     firstB (fun c : Nat => (afterRainR F n x y area c day).2.2 && decide ((afterRainR F n x y area c day).1 ≤ limit)) k = none ∧ w.heap.size < wr.heap.size ∧ Below w.heap.size w wr) (fun i _ => N - (intOf i).toNat)
  case atStart => exact ⟨0, by omega, rfl, o1, rfl, hs0, hb0⟩
  case round =>
    obtain ⟨k, hk, rfl, p1, hf, hs, hb⟩ := hrel
    have HF := hide hf
    clear hf
    obtain ⟨b0, b1, b2, b3⟩ := box2 p1
    by_cases hlt : k < N
    · go_wp2_with fail
      go_at_call 29
      refine (AfterRain_any _ _ _ _ _ _ _ _ _ _ hn (Rd.below h hb)).mono ?_
      rintro _ w2 ⟨rfl, hb2⟩
      have hs2 := hb2.size
      have HF1 := hide (fun hp : ((afterRainR F n x y area k day).2.2 && decide ((afterRainR F n x y area k day).1 ≤ limit)) = true => firstB_at (p := fun c : Nat => (afterRainR F n x y area c day).2.2 && decide ((afterRainR F n x y area c day).1 ≤ limit)) HF.out hp hlt)
      have HF2 := hide (fun hp : ((afterRainR F n x y area k day).2.2 && decide ((afterRainR F n x y area k day).1 ≤ limit)) = false => firstB_succ_none (p := fun c : Nat => (afterRainR F n x y area c day).2.2 && decide ((afterRainR F n x y area c day).1 ≤ limit)) HF.out hp)
      generalize afterRainR F n x y area k day = R at HF1 HF2 ⊢
      obtain ⟨r1, r2, r3⟩ := R
      cases r3
      · go_wp2
        go_roundw
        case rel => exact ⟨k + 1, by omega, by go_num, (p1.below hb2 (by omega)).alloc (by omega) _, HF2.out (by simp), by simp; omega, (gr hb hb2).alloc (by omega) _⟩
        case measure => simp [intOf]; omega
      · by_cases hq : r1 ≤ limit
        · go_wp2
          go_ret2
          exact ⟨ret_p (by rw [HP.out, HF1.out (by simp [hq])]; rfl), (gr hb hb2).alloc (Below.size (gr hb hb2)) _⟩
        · go_wp2
          go_roundw
          case rel => exact ⟨k + 1, by omega, by go_num, (p1.below hb2 (by omega)).alloc (by omega) _, HF2.out (by simp; omega), by simp; omega, (gr hb hb2).alloc (Below.size (gr hb hb2)) _⟩
          case measure => simp [intOf]; omega
    · have HE := hide (show k = N by omega)
      go_wp2
      go_ret2
      exact ⟨ret_p (by rw [HP.out, ← HE.out, HF.out]; rfl), hb⟩

set_option maxRecDepth 20000 in
set_option maxHeartbeats 2000000 in
theorem spec_CoverNeeded_any (A : Option Addr) (n c : Nat) (F : Nat → Nat → Int) (x y area day limit : Int) (w : World) (hn : n ≤ 1048576) (h : Rd w A n 2 (ints F)) :
    Calls Try.prog 31 #[.slice A n c, .agg #[.int .i64 x, .int .i64 y], .int .i64 area, .int .i64 day, .int .i64 limit] w fun e w' => e = .returned (.tuple #[.int .i64 (coverR F n x y area day limit).1, .bool (coverR F n x y area day limit).2]) ∧ Below w.heap.size w w' := by
  have h' : Rd (w.alloc (.cells #[.int .i64 x, .int .i64 y] 39)) A n 2 (ints F) := Rd.alloc h _
  have hb0 : Below w.heap.size w (w.alloc (.cells #[.int .i64 x, .int .i64 y] 39)) := (Below.refl _ _).alloc (Nat.le_refl _) _
  cases h1 : (rainOnAreaR F n area day).2
  · have HR := hide (show coverR F n x y area day limit = (0, false) by simp [coverR, h1])
    go_enter Try.func31, Try.ntmps31
    go_wp2_with fail
    go_at_call 23
    refine (spec_RainOnArea_any _ _ _ _ _ _ _ hn h').mono ?_
    rintro _ w1 ⟨rfl, hb1⟩
    have hy1 : w.heap.size < w1.heap.size := by have := hb1.size; simp at this; omega
    have hc1 := bcell hb1
    have HW := gr hb0 hb1
    go_wp2
    go_ret2
    exact ⟨ret_p HR.out, HW⟩
  cases h2 : brineB x y
  · have HR := hide (show coverR F n x y area day limit = (0, false) by simp [coverR, h2])
    go_enter Try.func31, Try.ntmps31
    go_wp2_with fail
    go_at_call 23
    refine (spec_RainOnArea_any _ _ _ _ _ _ _ hn h').mono ?_
    rintro _ w1 ⟨rfl, hb1⟩
    have hy1 : w.heap.size < w1.heap.size := by have := hb1.size; simp at this; omega
    have hc1 := bcell hb1
    have HW := gr hb0 hb1
    go_wp2_with fail
    go_at_call 66
    refine (l2Brine_any _ _ _).mono ?_
    rintro _ w2 ⟨rfl, hb2⟩
    go_wp2
    go_ret2
    exact ⟨ret_p HR.out, gr HW hb2⟩
  by_cases h3 : 0 ≤ limit
  rotate_left
  · have HR := hide (show coverR F n x y area day limit = (0, false) by simp [coverR, h3])
    have h3' : limit < 0 := by omega
    go_enter Try.func31, Try.ntmps31
    go_wp2_with fail
    go_at_call 23
    refine (spec_RainOnArea_any _ _ _ _ _ _ _ hn h').mono ?_
    rintro _ w1 ⟨rfl, hb1⟩
    have hy1 : w.heap.size < w1.heap.size := by have := hb1.size; simp at this; omega
    have hc1 := bcell hb1
    have HW := gr hb0 hb1
    go_wp2_with fail
    go_at_call 66
    refine (l2Brine_any _ _ _).mono ?_
    rintro _ w2 ⟨rfl, hb2⟩
    go_wp2
    go_ret2
    exact ⟨ret_p HR.out, gr HW hb2⟩
  have HR : Hid (coverR F n x y area day limit = coverV (firstB (fun c : Nat => decide (x + comes (rainOnAreaR F n area day).1 c ≤ min limit 1000000)) maxCovers)) := by
    unfold Hid coverR; rw [h1, h2, decide_eq_true h3]; exact if_pos rfl
  have HK := hide (rainOnAreaR_bd F n area day)
  obtain ⟨N, hN⟩ : ∃ N, N = maxCovers := ⟨_, rfl⟩
  rw [← hN] at HR
  have hN1 : N ≤ 101 := by rw [hN]; exact Nat.le_refl _
  have hN2 : 101 ≤ N := by rw [hN]; exact Nat.le_refl _
  have b := brineB_true h2
  clear hN
  go_enter Try.func31, Try.ntmps31
  go_wp2_with fail
  go_at_call 23
  refine (spec_RainOnArea_any _ _ _ _ _ _ _ hn h').mono ?_
  rintro _ w1 ⟨rfl, hb1⟩
  have hy1 : w.heap.size < w1.heap.size := by have := hb1.size; simp at this; omega
  have hc1 := bcell hb1
  have HW := gr hb0 hb1
  go_wp2_with fail
  go_at_call 66
  refine (l2Brine_any _ _ _).mono ?_
  rintro _ w2 ⟨rfl, hb2⟩
  have o1 := ((box2_new w 39 (.int .i64 x) (.int .i64 y)).below hb1 (by simp)).below hb2 (by omega)
  have hs2 := hb2.size
  replace HW := gr HW hb2
  replace hy1 : w.heap.size < w2.heap.size := by omega
  go_wp2
  generalize (rainOnAreaR F n area day).1 = kg at HR HK ⊢
  clear hc1 h1
  go_loopw [14] (fun i wr => ∃ k : Nat, k ≤ N ∧ i = .int .i64 k ∧ Ow wr w.heap.size (w.heap.size + 1) (some ⟨w.heap.size, 0, none⟩) 1 2 (fun _ j => #[.int .i64 x, .int .i64 y][j]!) ∧
     firstB (fun c : Nat => decide (x + comes kg c ≤ min limit 1000000)) k = none ∧ w.heap.size < wr.heap.size ∧ Below w.heap.size w wr) (fun i _ => N - (intOf i).toNat)
  case atStart => exact ⟨0, by omega, rfl, o1, rfl, hy1, HW⟩
  case round =>
    obtain ⟨k, hk, rfl, p1, hf, hs, hb⟩ := hrel
    have HF := hide hf
    clear hf
    obtain ⟨b0, b1, b2, b3⟩ := box2 p1
    by_cases hlt : k < N
    · have hca := acell wr
      obtain ⟨-, v3, v4⟩ := comes_bd (c := k) HK.out.1 HK.out.2 (by omega) (by omega)
      have v5 := HK.out.2
      go_wp2
      refine region_after (by kernel_rfl) (by kernel_rfl) ?_
      repeat (go_big_quiet_step ((first | (go_at_call 67; exact Calls.after_same (l9Comes_any _ _ _ HK.out.1 HK.out.2 (by omega) (by omega))) | (go_at_call 70; exact Calls.after_same (l1Least_any _ _ _)))))
      refine wpQuiet_nil ?_
      rintro _ ⟨z, rfl⟩
      have hsz := z.h.size
      by_cases hq : x + comes kg k ≤ min limit 1000000
      · go_wp2
        go_ret2
        exact ⟨ret_p (by rw [HR.out, firstB_at (p := fun c : Nat => decide (x + comes kg c ≤ min limit 1000000)) HF.out (by simpa using hq) hlt]; rfl), gr hb z.h⟩
      · go_wp2
        go_roundw
        case rel => exact ⟨k + 1, by omega, by go_num, p1.below z.h (by omega), firstB_succ_none (p := fun c : Nat => decide (x + comes kg c ≤ min limit 1000000)) HF.out (by simp; omega), by omega, gr hb z.h⟩
        case measure => simp [intOf]; omega
    · have HE := hide (show k = N by omega)
      go_wp2
      go_ret2
      exact ⟨ret_p (by rw [HR.out, ← HE.out, HF.out]; rfl), hb⟩
end Go.Proofs.Ytcjjpkleipjibaa
