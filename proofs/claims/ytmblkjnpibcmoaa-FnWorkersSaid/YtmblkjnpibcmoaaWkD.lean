/-
  Contracts on workers: the greatest difference between what two gangs rake, of the program and of the reference. Conditions: lengths up to 2^20.
-/
import Derived.Test.YtmblkjnpibcmoaaWkC
namespace Go.Proofs.Ytmblkjnpibcmoaa
open Go.RowKit

set_option maxHeartbeats 1000000 in
theorem max_any (A : Option Addr) (n c : Nat) (L : Nat → Nat → Int) (w : World) (hn : n ≤ 1048576) (h0 : 0 < n) (h : Rd w A n 1 (ints L)) :
    Calls Try.prog 50 #[.slice A n c] w fun e w' => e = .returned (.int .i64 (highN (fun i => L i 0) (n - 1))) ∧ w = w' := by
  obtain ⟨b, off, rfl, -, hbw, hc⟩ := h h0
  have hc0 := hc 0 0 h0 (by omega)
  simp only [Nat.add_zero, Nat.mul_one] at hc0
  have hd : decide ((n : Int) < 1) = false := by simp; omega
  have hd1 : decide ((0 : Int) < (n : Int)) = true := by simp; omega
  go_enter Try.func50, Try.ntmps50
  go_wp2
  go_loop [3, 4] (fun s i => ∃ k : Nat, k < n ∧ i = .int .i64 ((k : Int) + 1) ∧ s = .int .i64 (highN (fun i => L i 0) k)) (fun _ i => n - (intOf i).toNat)
  case atStart => exact ⟨0, h0, rfl, rfl⟩
  case round =>
    obtain ⟨k, hk, rfl, rfl⟩ := hrel
    have HS := hide (show highN (fun i => L i 0) (k + 1) = max (highN (fun i => L i 0) k) (L (k + 1) 0) from rfl)
    by_cases hlt : k + 1 < n
    · have hck := hc (k + 1) 0 hlt (by omega)
      have hd2 : decide ((k : Int) + 1 < (n : Int)) = true := by simp; omega
      simp only [Nat.add_zero, Nat.mul_one] at hck
      generalize highN (fun i => L i 0) k = S at *
      go_wp2
      go_round
      case rel => exact ⟨k + 1, by omega, by go_num, by rw [HS.out]; go_num⟩
      case measure => simp [intOf]; omega
    · have HE := hide (show k = n - 1 by omega)
      have hd2 : decide ((k : Int) + 1 < (n : Int)) = false := by simp; omega
      go_wp2
      go_ret
      exact ⟨by rw [HE.out]; rfl, rfl⟩
set_option maxHeartbeats 1000000 in
theorem min_any (A : Option Addr) (n c : Nat) (L : Nat → Nat → Int) (w : World) (hn : n ≤ 1048576) (h0 : 0 < n) (h : Rd w A n 1 (ints L)) :
    Calls Try.prog 51 #[.slice A n c] w fun e w' => e = .returned (.int .i64 (lowN (fun i => L i 0) (n - 1))) ∧ w = w' := by
  obtain ⟨b, off, rfl, -, hbw, hc⟩ := h h0
  have hc0 := hc 0 0 h0 (by omega)
  simp only [Nat.add_zero, Nat.mul_one] at hc0
  have hd : decide ((n : Int) < 1) = false := by simp; omega
  have hd1 : decide ((0 : Int) < (n : Int)) = true := by simp; omega
  go_enter Try.func51, Try.ntmps51
  go_wp2
  go_loop [3, 4] (fun s i => ∃ k : Nat, k < n ∧ i = .int .i64 ((k : Int) + 1) ∧ s = .int .i64 (lowN (fun i => L i 0) k)) (fun _ i => n - (intOf i).toNat)
  case atStart => exact ⟨0, h0, rfl, rfl⟩
  case round =>
    obtain ⟨k, hk, rfl, rfl⟩ := hrel
    have HS := hide (show lowN (fun i => L i 0) (k + 1) = min (lowN (fun i => L i 0) k) (L (k + 1) 0) from rfl)
    by_cases hlt : k + 1 < n
    · have hck := hc (k + 1) 0 hlt (by omega)
      have hd2 : decide ((k : Int) + 1 < (n : Int)) = true := by simp; omega
      simp only [Nat.add_zero, Nat.mul_one] at hck
      generalize lowN (fun i => L i 0) k = S at *
      go_wp2
      go_round
      case rel => exact ⟨k + 1, by omega, by go_num, by rw [HS.out]; go_num⟩
      case measure => simp [intOf]; omega
    · have HE := hide (show k = n - 1 by omega)
      have hd2 : decide ((k : Int) + 1 < (n : Int)) = false := by simp; omega
      go_wp2
      go_ret
      exact ⟨by rw [HE.out]; rfl, rfl⟩
theorem l1Most_any (a b : Int) (w : World) :
    Calls Try.prog 45 #[.int .i64 a, .int .i64 b] w fun e w' => e = .returned (.int .i64 (highF a b)) ∧ w = w' := by
  go_enter Try.func45, Try.ntmps45
  go_wp2
  all_goals go_ret
  · exact ⟨ret_int (by unfold highF; rw [if_pos (by omega)]), rfl⟩
  · exact ⟨ret_int (by unfold highF; rw [if_neg (by omega)]), rfl⟩
theorem lh_bd (l : List Int) (h : ∀ x ∈ l, 0 ≤ x ∧ x ≤ 4200) : -1 ≤ lowL l ∧ lowL l ≤ 1000000 ∧ -1 ≤ highL l ∧ highL l ≤ 1000000 := by
  suffices H : ∀ (l : List Int) (a b : Int), -1 ≤ a ∧ a ≤ 1000000 ∧ -1 ≤ b ∧ b ≤ 1000000 → (∀ x ∈ l, 0 ≤ x ∧ x ≤ 4200) → -1 ≤ l.foldl lowF a ∧ l.foldl lowF a ≤ 1000000 ∧ -1 ≤ l.foldl highF b ∧ l.foldl highF b ≤ 1000000 from H l (-1) (-1) (by omega) h
  intro l
  induction l with
  | nil => intro a b hab _; exact hab
  | cons x t ih =>
    intro a b hab hx
    have h1 := hx x (by simp)
    refine ih (lowF a x) (highF b x) ?_ (fun y hy => hx y (by simp [hy]))
    unfold lowF highF
    split <;> split <;> omega
def gangT (F : Nat → Nat → Int) (C : Nat → Bool) (n g : Nat) : Nat → Nat → Int := fun i _ => (gangsL F C n g).getD i 0
theorem gangs_row (F : Nat → Nat → Int) (C : Nat → Bool) (n g : Nat) : rowL (ints (gangT F C n g)) (gangsL F C n g).length 1 = (gangsL F C n g).map (.int .i64) := by
  apply List.ext_getElem
  · simp [rowL]
  · intro i h1 h2
    have hi : i < (gangsL F C n g).length := by simpa using h2
    simp [rowL, gangT, List.getD, List.getElem?_eq_getElem hi]
set_option maxRecDepth 20000 in
set_option maxHeartbeats 4000000 in
theorem EvenGangs_any (A : Option Addr) (n c : Nat) (F : Nat → Nat → Int) (C : Nat → Bool) (w : World) (hn : n ≤ 1048576) (h : Rd w A n 5 (wkC F C)) :
    Calls Try.prog 9 #[.slice A n c] w fun e w' => e = .returned (.tuple #[.int .i64 (evenR F C n).1, .bool (evenR F C n).2]) ∧ Below w.heap.size w w' := by
  cases h1 : worksB F n
  · have HR := hide (show evenR F C n = (0, false) by simp [evenR, h1])
    go_enter Try.func9, Try.ntmps9
    go_wp2_with (first | (go_at_call 42; refine (AreWorkers_any _ _ _ _ _ _ hn h).mono ?_; rintro _ w1 ⟨rfl, hb_w1⟩; have hc_w1 := bcell hb_w1))
    go_ret2
    exact ⟨ret_p HR.out, hb_w1⟩
  have HR := hide (show evenR F C n = (highL (gangsL F C n 6) - lowL (gangsL F C n 6), true) by simp [evenR, h1])
  have HV := hide h1
  obtain ⟨i0, hi0, hz0, hz1, hz2⟩ := info_parts info_int
  go_enter Try.func9, Try.ntmps9
  go_wp2_with fail
  go_at_call 42
  refine (AreWorkers_any _ _ _ _ _ _ hn h).mono ?_
  rintro _ w1 ⟨rfl, hb1⟩
  rw [h1]
  clear h1
  go_wp2_with fail
  go_at_call 47
  refine (gangSizes_any _ _ _ _ _ _ HV (Rd.below h hb1)).mono ?_
  rintro _ w2 ⟨A2, c2, rfl, hO, hb2⟩
  replace hb1 := gr hb1 hb2
  have hZ := hO.sl.rd (Nat.le_refl _)
  clear hO hb2
  go_wp2
  go_loopw [4, 13] (fun v i wr => ∃ g : Nat, g ≤ 6 ∧ i = .int .i64 g ∧ wr.ownsRow w2.heap.size 3 1 v (gangsL F C n g).length ((gangsL F C n g).map (.int .i64)) ∧ Below w2.heap.size w2 wr) (fun _ i _ => 6 - (intOf i).toNat)
  case atStart => exact ⟨0, by omega, rfl, World.ownsRow_nil _ _ _ _, Below.refl _ _⟩
  case round =>
    obtain ⟨g, hg, rfl, ho, hb⟩ := hrel
    have hba := gr hb1 hb
    by_cases hlt : g < 6
    · have hlt' : decide ((g : Int) < 6) = true := by simp; omega
      obtain ⟨b, off, rfl, -, hbw, hc⟩ := Rd.below hZ hb (by omega)
      have hc0 := hc g 0 hlt (by omega)
      simp only [Nat.add_zero, Nat.mul_one, ints, sizeT] at hc0
      clear hc
      have HG := hide (show gangsL F C n (g + 1) = if 0 < g ∧ 0 < sizeV F g n then gangsL F C n g ++ [weekV F C n g] else gangsL F C n g from rfl)
      obtain ⟨gl, -⟩ := gangsL_bd C HV.out g
      generalize gangsL F C n g = L at *
      by_cases hp : 0 < g
      · have hp' : decide ((0 : Int) < (g : Int)) = true := by simp; omega
        by_cases hz : 0 < sizeV F g n
        · have HG2 := hide (show gangsL F C n (g + 1) = L ++ [weekV F C n g] by rw [HG.out, if_pos ⟨hp, hz⟩])
          go_wp2_with fail
          go_at_call 49
          refine (rakedWeek_any _ _ _ _ _ (g : Int) _ HV (Rd.below h hba)).mono ?_
          rintro _ w3 ⟨A3, c3, rfl, hO3, hb3⟩
          have hR3 := hO3.sl.rd (Nat.le_refl _)
          have HW := hide (show ∀ k, k ≤ 7 → 0 ≤ sumI (fun j => weekT F C n g j 0) k ∧ sumI (fun j => weekT F C n g j 0) k ≤ 1000000000000 from fun k hk => by have := week_bd C HV.out g k hk; exact ⟨this.1, by have := this.2; show sumI (dayG F C n g) k ≤ _; omega⟩)
          have HX := hide (show sumI (fun j => weekT F C n g j 0) 7 = weekV F C n g from rfl)
          go_wp2_with fail
          go_at_call 48
          refine (sumOf_any _ _ _ _ _ (by omega) hR3 HW).mono ?_
          rintro _ _ ⟨rfl, rfl⟩
          rw [HX.out]
          replace ho := own_below ho hb3
          have hbx := gr hba hb3
          have hbz := gr hb hb3
          have hs := hbz.size
          generalize weekV F C n g = x at *
          clear hO3 hR3 hb3 hba
          go_wp2_with (at_builtin; refine wpList_append_own _ rfl _ _ 34 rfl w2.heap.size 3 i0 (.int .i64 0) 1 8 Try.underlying34 hi0 hz0 hz1 hz2 rfl (by decide) _ L.length _ rfl (ho.alloc _) ⟨w3.heap.size, 0, none⟩ 1 1 [.int .i64 x] rfl rfl (World.news_of_block (cs := #[.int .i64 x]) (t := 3) (fr := (0, 0)) (heap_alloc_new w3 _)) (by simp [Value.oneCell']) (by simp only [maxLen]; omega) (by omega) (by simp; omega) ?_; intro v4 w4 hown4 hg4 _)
          have hb4 := (hbz.alloc hs (.cells #[.int .i64 x] 3)).trans (grown_below (ho.alloc (.cells #[.int .i64 x] 3)) hg4 (by simp; omega))
          have hr4 : w4.ownsRow w2.heap.size 3 1 v4 (gangsL F C n (g + 1)).length ((gangsL F C n (g + 1)).map (.int .i64)) := by rw [HG2.out]; simpa using hown4
          clear hown4 hg4
          go_roundw
          case rel => exact ⟨g + 1, by omega, by go_num, hr4, hb4⟩
          case measure => simp [intOf]; omega
        · have hz' : decide (0 < sizeV F g n) = false := by simpa using hz
          have HG2 := hide (show gangsL F C n (g + 1) = L by rw [HG.out, if_neg (fun h => hz h.2)])
          go_wp2
          go_roundw
          case rel => exact ⟨g + 1, by omega, by go_num, by rw [HG2.out]; exact ho, hb⟩
          case measure => simp [intOf]; omega
      · have hp' : decide ((0 : Int) < (g : Int)) = false := by simp; omega
        have HG2 := hide (show gangsL F C n (g + 1) = L by rw [HG.out, if_neg (fun h => hp h.1)])
        go_wp2
        go_roundw
        case rel => exact ⟨g + 1, by omega, by go_num, by rw [HG2.out]; exact ho, hb⟩
        case measure => simp [intOf]; omega
    · obtain rfl : g = 6 := by omega
      rw [← gangs_row] at ho
      obtain ⟨A4, c4, rfl, hO⟩ := own_tab ho
      obtain ⟨gl, gb⟩ := gangsL_bd C HV.out 6
      have HR4 := hide (hO.sl.rd (Nat.le_refl _))
      clear hO ho
      by_cases h0 : (gangsL F C n 6).length = 0
      · have HN := hide (show evenR F C n = (0, true) by rw [HR.out, List.length_eq_zero_iff.1 h0]; rfl)
        have h0' : (((gangsL F C n 6).length : Int) == 0) = true := by simp; exact List.length_eq_zero_iff.1 h0
        generalize (gangsL F C n 6).length = q at *
        go_wp2
        go_ret2
        exact ⟨ret_p HN.out, hba⟩
      · have HF := hide (fold_all (gangsL F C n 6) (fun x hx => (gb x hx).1) (by omega))
        have h0' : (((gangsL F C n 6).length : Int) == 0) = false := by simp; exact fun h => h0 (by rw [h]; rfl)
        have hb6 : 0 ≤ lowL (gangsL F C n 6) ∧ lowL (gangsL F C n 6) ≤ 1000000 ∧ 0 ≤ highL (gangsL F C n 6) ∧ highL (gangsL F C n 6) ≤ 1000000 := by
          have := lh_bd (gangsL F C n 6) gb
          have h2 := (fold_take (gangsL F C n 6) (fun x hx => (gb x hx).1) ((gangsL F C n 6).length - 1) (by omega)).2.2
          rw [HF.out.1, HF.out.2] at *
          exact ⟨h2.1, this.2.1, h2.2, this.2.2.2⟩
        have HN := hide (show evenR F C n = (highN (fun i => gangT F C n 6 i 0) ((gangsL F C n 6).length - 1) - lowN (fun i => gangT F C n 6 i 0) ((gangsL F C n 6).length - 1), true) by rw [HR.out, HF.out.1, HF.out.2]; rfl)
        rw [HF.out.1, HF.out.2] at hb6
        have hpos : 0 < (gangsL F C n 6).length := by omega
        clear HF gb h0
        generalize (gangsL F C n 6).length = q at *
        go_wp2_with fail
        go_at_call 50
        refine (max_any _ _ _ (gangT F C n 6) _ (by omega) hpos HR4.out).mono ?_
        rintro _ _ ⟨rfl, rfl⟩
        go_wp2_with fail
        go_at_call 51
        refine (min_any _ _ _ (gangT F C n 6) _ (by omega) hpos HR4.out).mono ?_
        rintro _ _ ⟨rfl, rfl⟩
        have hb7 : 0 ≤ lowN (fun i => gangT F C n 6 i 0) (q - 1) ∧ lowN (fun i => gangT F C n 6 i 0) (q - 1) ≤ 1000000 ∧ 0 ≤ highN (fun i => gangT F C n 6 i 0) (q - 1) ∧ highN (fun i => gangT F C n 6 i 0) (q - 1) ≤ 1000000 := hb6
        generalize lowN (fun i => gangT F C n 6 i 0) (q - 1) = lo at *
        generalize highN (fun i => gangT F C n 6 i 0) (q - 1) = hi at *
        go_wp2
        go_ret2
        exact ⟨ret_p HN.out, hba⟩

set_option maxRecDepth 20000 in
set_option maxHeartbeats 4000000 in
theorem spec_EvenGangs_any (A : Option Addr) (n c : Nat) (F : Nat → Nat → Int) (C : Nat → Bool) (w : World) (hn : n ≤ 1048576) (h : Rd w A n 5 (wkC F C)) :
    Calls Try.prog 7 #[.slice A n c] w fun e w' => e = .returned (.tuple #[.int .i64 (evenR F C n).1, .bool (evenR F C n).2]) ∧ Below w.heap.size w w' := by
  have HZ := hide (show worksB F n = true → sizeN F n = 6 from fun h => by simp [sizeN, h])
  cases h1 : worksB F n
  · have HR := hide (show evenR F C n = (0, false) by simp [evenR, h1])
    go_enter Try.func7, Try.ntmps7
    go_wp2_with fail
    go_at_call 35
    refine (spec_GangSizes_any _ _ _ _ _ _ hn h).mono ?_
    rintro _ w1 ⟨A1, c1, rfl, -, hb1⟩
    rw [h1]
    go_wp2
    go_ret2
    exact ⟨ret_p HR.out, hb1⟩
  have HR := hide (show evenR F C n = (highL (gangsL F C n 6) - lowL (gangsL F C n 6), true) by simp [evenR, h1])
  have HV := hide h1
  go_enter Try.func7, Try.ntmps7
  go_wp2_with fail
  go_at_call 35
  refine (spec_GangSizes_any _ _ _ _ _ _ hn h).mono ?_
  rintro _ w1 ⟨A1, c1, rfl, hO, hb1⟩
  rw [h1]
  rw [HZ.out h1] at hO ⊢
  clear h1
  have hZ := hO.sl.rd (Nat.le_refl _)
  clear hO
  go_wp2
  go_loopw [6, 7, 8, 9] (fun lo hi i _ wr => ∃ g : Nat, 1 ≤ g ∧ g ≤ 6 ∧ i = .int .i64 g ∧ lo = .int .i64 (lowL (gangsL F C n g)) ∧ hi = .int .i64 (highL (gangsL F C n g)) ∧ Below w1.heap.size w1 wr) (fun _ _ i _ _ => 6 - (intOf i).toNat)
  case atStart => exact ⟨1, by omega, by omega, rfl, rfl, rfl, Below.refl _ _⟩
  case round =>
    obtain ⟨g, hg1, hg, rfl, rfl, rfl, hb⟩ := hrel
    have hba := gr hb1 hb
    by_cases hlt : g < 6
    · have hlt' : decide ((g : Int) ≤ 5) = true := by simp; omega
      obtain ⟨b, off, rfl, -, hbw, hc⟩ := Rd.below hZ hb (by omega)
      have hc0 := hc g 0 hlt (by omega)
      simp only [Nat.add_zero, Nat.mul_one, ints, sizeT] at hc0
      clear hc
      have HG := hide (show gangsL F C n (g + 1) = if 0 < g ∧ 0 < sizeV F g n then gangsL F C n g ++ [weekV F C n g] else gangsL F C n g from rfl)
      obtain ⟨z1, -⟩ := sizeV_bd F g n
      by_cases hz : sizeV F g n = 0
      · have HG2 := hide (show gangsL F C n (g + 1) = gangsL F C n g by rw [HG.out, if_neg (fun h => by omega)])
        have hz' : (sizeV F g n == 0) = true := by simpa using hz
        have HZZ := hide hz
        clear hz
        go_wp2
        go_roundw
        case rel => exact ⟨g + 1, by omega, by omega, by go_num, by rw [HG2.out], by rw [HG2.out], hb⟩
        case measure => simp [intOf]; omega
      · have HG2 := hide (show lowL (gangsL F C n (g + 1)) = lowF (lowL (gangsL F C n g)) (weekV F C n g) ∧ highL (gangsL F C n (g + 1)) = highF (highL (gangsL F C n g)) (weekV F C n g) by rw [HG.out, if_pos ⟨by omega, by omega⟩, lowL_snoc, highL_snoc]; exact ⟨rfl, rfl⟩)
        have hz' : (sizeV F g n == 0) = false := by simpa using hz
        generalize lowL (gangsL F C n g) = lo at *
        generalize highL (gangsL F C n g) = hi at *
        go_wp2_with fail
        go_at_call 44
        refine (l5Week_any _ _ _ _ _ (g : Int) _ HV (Rd.below h hba)).mono ?_
        rintro _ w3 ⟨rfl, hb3⟩
        generalize weekV F C n g = x at *
        have HL := hide (show lowF lo x = if lo < 0 ∨ x < lo then x else lo from rfl)
        cases q1 : decide (lo < 0)
        · cases q2 : decide (x < lo)
          · have HL2 := hide (show lowF lo x = lo by rw [HL.out, if_neg (by simp at q1 q2; omega)])
            go_wp2_with fail
            go_at_call 45
            refine (l1Most_any _ _ _).mono ?_
            rintro _ _ ⟨rfl, rfl⟩
            go_wp2
            go_roundw
            case rel => exact ⟨g + 1, by omega, by omega, by go_num, by rw [HG2.out.1, HL2.out], by rw [HG2.out.2], gr hb hb3⟩
            case measure => simp [intOf]; omega
          · have HL2 := hide (show lowF lo x = x by rw [HL.out, if_pos (by simp at q1 q2; omega)])
            go_wp2_with fail
            go_at_call 45
            refine (l1Most_any _ _ _).mono ?_
            rintro _ _ ⟨rfl, rfl⟩
            go_wp2
            go_roundw
            case rel => exact ⟨g + 1, by omega, by omega, by go_num, by rw [HG2.out.1, HL2.out], by rw [HG2.out.2], gr hb hb3⟩
            case measure => simp [intOf]; omega
        · have HL2 := hide (show lowF lo x = x by rw [HL.out, if_pos (by simp at q1; omega)])
          go_wp2_with fail
          go_at_call 45
          refine (l1Most_any _ _ _).mono ?_
          rintro _ _ ⟨rfl, rfl⟩
          go_wp2
          go_roundw
          case rel => exact ⟨g + 1, by omega, by omega, by go_num, by rw [HG2.out.1, HL2.out], by rw [HG2.out.2], gr hb hb3⟩
          case measure => simp [intOf]; omega
    · obtain rfl : g = 6 := by omega
      obtain ⟨-, gb⟩ := gangsL_bd C HV.out 6
      have hb6 := lh_bd (gangsL F C n 6) gb
      generalize lowL (gangsL F C n 6) = lo at *
      generalize highL (gangsL F C n 6) = hi at *
      clear gb
      go_wp2
      go_ret2
      exact ⟨ret_p HR.out, hba⟩
end Go.Proofs.Ytmblkjnpibcmoaa
