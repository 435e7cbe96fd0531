/-
  Contracts on workers: what a gang rakes in a week, sizes of the gangs, the least and the greatest of a list, of the program and of the reference. Conditions: valid workers.
-/
import Derived.Test.YtmblkjnpibcmoaaWkB
import Derived.Test.YtmblkjnpibcmoaaOwn
import Derived.Deep.AppendLies
namespace Go.Proofs.Ytmblkjnpibcmoaa
open Go.RowKit

def weekT (F : Nat → Nat → Int) (C : Nat → Bool) (n : Nat) (g : Int) : Nat → Nat → Int := fun i _ => dayG F C n g i
theorem rowL_one_more (F : Nat → Nat → Int) (k : Nat) : rowL (ints F) (k + 1) 1 = rowL (ints F) k 1 ++ [.int .i64 (F k 0)] := by
  simp only [rowL, Nat.mul_one, Nat.div_one, Nat.mod_one, List.range_succ, List.map_append, List.map_cons, List.map_nil]
set_option maxHeartbeats 2000000 in
theorem rakedWeek_any (A : Option Addr) (n c : Nat) (F : Nat → Nat → Int) (C : Nat → Bool) (g : Int) (w : World) (HV : Hid (worksB F n = true)) (h : Rd w A n 5 (wkC F C)) :
    Calls Try.prog 49 #[.slice A n c, .int .i64 g] w (RowP w (fun A' c' => .slice A' 7 c') 7 1 (ints (weekT F C n g))) := by
  obtain ⟨i0, hi0, hz0, hz1, hz2⟩ := info_parts info_int
  go_enter Try.func49, Try.ntmps49
  go_wp2
  go_loopw [5, 7] (fun v i wr => ∃ k : Nat, k ≤ 7 ∧ i = .int .i64 k ∧ wr.ownsRow w.heap.size 3 1 v k (rowL (ints (weekT F C n g)) k 1) ∧ Below w.heap.size w wr) (fun _ i _ => 7 - (intOf i).toNat)
  case atStart => exact ⟨0, by omega, rfl, World.ownsRow_nil _ _ _ _, Below.refl _ _⟩
  case round =>
    obtain ⟨k, hk, rfl, ho, hb⟩ := hrel
    by_cases hlt : k < 7
    · have HROW := hide (rowL_one_more (weekT F C n g) k)
      have hlt' : decide ((k : Int) < 7) = true := by simp; omega
      go_wp2_with fail
      go_at_call 60
      refine (raked_any _ _ _ _ _ g (k : Int) 0 _ HV (Rd.below h hb)).mono ?_
      rintro _ w2 ⟨rfl, hb2⟩
      replace ho := own_below ho hb2
      replace hb := gr hb hb2
      have HD := hide (show rakedV F C n g (k : Int) 0 = weekT F C n g k 0 from rfl)
      rw [HD.out]
      generalize weekT F C n g k 0 = x at *
      clear hb2
      have hs := hb.size
      go_wp2_with (at_builtin; refine wpList_append_own _ rfl _ _ 34 rfl w.heap.size 3 i0 (.int .i64 0) 1 8 Try.underlying34 hi0 hz0 hz1 hz2 rfl (by decide) _ k _ rfl (ho.alloc _) ⟨w2.heap.size, 0, none⟩ 1 1 [.int .i64 x] rfl rfl (World.news_of_block (cs := #[.int .i64 x]) (t := 3) (fr := (0, 0)) (heap_alloc_new w2 _)) (by simp [Value.oneCell']) (by simp only [maxLen]; omega) (by omega) (by simp; omega) ?_; intro v3 w3 hown3 hg3 _; have hb3 := grown_below (ho.alloc _) hg3 (by simp; omega); clear hg3; rw [← HROW.out] at hown3)
      go_roundw
      case rel => exact ⟨k + 1, by omega, by go_num, hown3, (hb.alloc hs _).trans hb3⟩
      case measure => simp [intOf]; omega
    · obtain rfl : k = 7 := by omega
      obtain ⟨A', c', rfl, hO⟩ := own_tab ho
      go_wp2
      go_ret
      exact ⟨A', c', rfl, hO, hb⟩

set_option maxHeartbeats 2000000 in
theorem l5Week_any (A : Option Addr) (n c : Nat) (F : Nat → Nat → Int) (C : Nat → Bool) (g : Int) (w : World) (HV : Hid (worksB F n = true)) (h : Rd w A n 5 (wkC F C)) :
    Calls Try.prog 44 #[.slice A n c, .int .i64 g] w fun e w' => e = .returned (.int .i64 (weekV F C n g)) ∧ Below w.heap.size w w' := by
  go_enter Try.func44, Try.ntmps44
  go_wp2
  go_loopw [5, 6, 7, 8] (fun s i _ _ wr => ∃ k : Nat, k ≤ 7 ∧ i = .int .i64 k ∧ s = .int .i64 (sumI (dayG F C n g) k) ∧ Below w.heap.size w wr) (fun _ i _ _ _ => 7 - (intOf i).toNat)
  case atStart => exact ⟨0, by omega, rfl, rfl, Below.refl _ _⟩
  case round =>
    obtain ⟨k, hk, rfl, rfl, hb⟩ := hrel
    by_cases hlt : k < 7
    · have hlt' : decide ((k : Int) < 7) = true := by simp; omega
      obtain ⟨b1, b2⟩ := week_bd C HV.out g k hk
      obtain ⟨b3, b4⟩ := rakedV_bd C HV.out g (k : Int) 0
      have HS := hide (show sumI (dayG F C n g) (k + 1) = sumI (dayG F C n g) k + rakedV F C n g (k : Int) 0 from rfl)
      generalize sumI (dayG F C n g) k = S at *
      go_wp2_with fail
      go_at_call 58
      refine (l5Raked_any _ _ _ _ _ g (k : Int) 0 _ HV (Rd.below h hb)).mono ?_
      rintro _ w2 ⟨rfl, hb2⟩
      generalize rakedV F C n g (k : Int) 0 = x at *
      go_wp2
      go_roundw
      case rel => exact ⟨k + 1, by omega, by go_num, by rw [HS.out], gr hb hb2⟩
      case measure => simp [intOf]; omega
    · obtain rfl : k = 7 := by omega
      go_wp2
      go_ret
      exact ⟨rfl, hb⟩

/-- The sizes of the gangs while the first k workers are counted. -/
def sizeT (F : Nat → Nat → Int) (k : Nat) : Nat → Nat → Int := fun j _ => sizeV F j k
theorem sizeT_step (F : Nat → Nat → Int) (k q : Nat) (hq : F k 1 = q) (i j : Nat) : upd (ints (sizeT F k)) q 0 (.int .i64 (sizeV F q k + 1)) i j = if j = 0 then ints (sizeT F (k + 1)) i j else ints (sizeT F k) i j := by
  unfold upd
  by_cases hj : j = 0
  · subst hj
    by_cases hi : i = q
    · subst hi; simp [sizeT, sizeV, hq]
    · simp only [hi, false_and, if_false, if_true, ints, sizeT, sizeV, hq]
      rw [if_neg (by omega)]
  · simp [hj]
set_option maxHeartbeats 2000000 in
theorem gangSizes_any (A : Option Addr) (n c : Nat) (F : Nat → Nat → Int) (C : Nat → Bool) (w : World) (HV : Hid (worksB F n = true)) (h : Rd w A n 5 (wkC F C)) :
    Calls Try.prog 47 #[.slice A n c] w (RowP w (fun A' c' => .slice A' 6 c') 6 1 (ints (sizeT F n))) := by
  have hn12 := (worksB_at HV.out).1
  have hmk : ∀ u, (Instr.makeSlice 34 (.int .i64 6) (.int .i64 6)).run Try.prog u = .ok (.slice (some ⟨u.heap.size, 0, none⟩) 6 6) (u.alloc (.cells (madeCells #[.int .i64 0] 6) 3)) := mk_int 6 (by omega)
  go_enter Try.func47, Try.ntmps47
  go_wp2
  have ho : Ow (w.alloc (.cells (madeCells #[.int .i64 0] 6) 3)) w.heap.size (w.heap.size + 1) (some ⟨w.heap.size, 0, none⟩) 6 1 (ints (sizeT F 0)) :=
    (Ow.made w #[.int .i64 0] 6 1 3 rfl).congr fun i j hi hj => by (obtain rfl : j = 0 := by omega); rfl
  have hb1 : Below w.heap.size w (w.alloc (.cells (madeCells #[.int .i64 0] 6) 3)) := (Below.refl _ _).alloc (Nat.le_refl _) _
  have hs1 : w.heap.size + 1 ≤ (w.alloc (.cells (madeCells #[.int .i64 0] 6) 3)).heap.size := by simp
  generalize w.alloc (.cells (madeCells #[.int .i64 0] 6) 3) = w1 at ho hb1 hs1 ⊢
  clear hmk
  go_loopw [9] (fun i wr => ∃ k : Nat, k ≤ n ∧ i = .int .i64 k ∧ Ow wr w.heap.size (w.heap.size + 1) (some ⟨w.heap.size, 0, none⟩) 6 1 (ints (sizeT F k)) ∧ w.heap.size + 1 ≤ wr.heap.size ∧ Below w.heap.size w wr) (fun i _ => n - (intOf i).toNat)
  case atStart => exact ⟨0, by omega, rfl, ho, hs1, hb1⟩
  case round =>
    clear ho hb1 hs1
    obtain ⟨k, hk, rfl, hO, hs, hb⟩ := hrel
    by_cases hlt : k < n
    · obtain ⟨b, off, rfl, hbw, hc⟩ := wk_at h hb (by omega)
      obtain ⟨c0, c1, c2, c3, c4⟩ := hc k hlt
      clear hc
      obtain ⟨-, ⟨q1, q2⟩, -⟩ := work_at HV.out hlt
      go_upto_region 5 with fail
      have hbW : Below wr.heap.size wr (wr.alloc (.cells #[.int .i64 (F k 0), .int .i64 (F k 1), .int .i64 (F k 2), .bool (C k), .int .i64 (F k 4)] 54)) := (Below.refl _ _).alloc (Nat.le_refl _) _
      have hsW : wr.heap.size < (wr.alloc (.cells #[.int .i64 (F k 0), .int .i64 (F k 1), .int .i64 (F k 2), .bool (C k), .int .i64 (F k 4)] 54)).heap.size := by simp
      have e0 : World.cell? (wr.alloc (.cells #[.int .i64 (F k 0), .int .i64 (F k 1), .int .i64 (F k 2), .bool (C k), .int .i64 (F k 4)] 54)) ⟨wr.heap.size, 0, none⟩ = some (.int .i64 (F k 0)) := by rw [World.cell?_alloc_new]; rfl
      have e1 : World.cell? (wr.alloc (.cells #[.int .i64 (F k 0), .int .i64 (F k 1), .int .i64 (F k 2), .bool (C k), .int .i64 (F k 4)] 54)) ⟨wr.heap.size, 1, none⟩ = some (.int .i64 (F k 1)) := by rw [World.cell?_alloc_new]; rfl
      have e2 : World.cell? (wr.alloc (.cells #[.int .i64 (F k 0), .int .i64 (F k 1), .int .i64 (F k 2), .bool (C k), .int .i64 (F k 4)] 54)) ⟨wr.heap.size, 2, none⟩ = some (.int .i64 (F k 2)) := by rw [World.cell?_alloc_new]; rfl
      have e3 : World.cell? (wr.alloc (.cells #[.int .i64 (F k 0), .int .i64 (F k 1), .int .i64 (F k 2), .bool (C k), .int .i64 (F k 4)] 54)) ⟨wr.heap.size, 3, none⟩ = some (.bool (C k)) := by rw [World.cell?_alloc_new]; rfl
      have e4 : World.cell? (wr.alloc (.cells #[.int .i64 (F k 0), .int .i64 (F k 1), .int .i64 (F k 2), .bool (C k), .int .i64 (F k 4)] 54)) ⟨wr.heap.size, 4, none⟩ = some (.int .i64 (F k 4)) := by rw [World.cell?_alloc_new]; rfl
      generalize wr.alloc (.cells #[.int .i64 (F k 0), .int .i64 (F k 1), .int .i64 (F k 2), .bool (C k), .int .i64 (F k 4)] 54) = W2 at hbW hsW e0 e1 e2 e3 e4 ⊢
      clear c0 c1 c2 c3 c4
      have c1 := e1
      clear e0 e1 e2 e3 e4
      obtain ⟨q, hq⟩ : ∃ q : Nat, F k 1 = q := ⟨(F k 1).toNat, by omega⟩
      have hq5 : q < 6 := by omega
      have HQ := hide (sizeT_step F k q hq)
      rw [hq] at c1
      clear hq
      replace hO := hO.below hbW (by omega)
      obtain ⟨-, -, x1, x2⟩ := hO.at_ hq5
      have x0 := x1 0 (by omega)
      have y0 := x2 0 (by omega)
      simp only [Nat.add_zero, Nat.zero_add, Nat.mul_one, ints, sizeT] at x0 y0
      clear x1 x2
      obtain ⟨z1, z2⟩ := sizeV_bd F q k
      have hzs : w.heap.size < W2.heap.size := by omega
      have hq6 : decide ((q : Int) < 6) = true := by simp; omega
      go_wp2
      go_roundw
      case rel =>
        refine ⟨k + 1, by omega, by go_num, ?_, by simp; omega, (gr hb hbW).setCell (p := ⟨w.heap.size, q, none⟩) (Nat.le_refl _) _⟩
        exact (hO.set hq5 (j0 := 0) (o := q) (by omega) (by omega) _).congr fun i j hi hj => by rw [HQ.out, if_pos (by omega)]
      case measure => simp [intOf]; omega
    · obtain rfl : k = n := by omega
      go_wp2
      go_ret
      exact ⟨_, _, rfl, hO.mono (Nat.le_refl _) hs, hb⟩

/-- The sizes of the gangs, of valid workers. -/
def sizeN (F : Nat → Nat → Int) (n : Nat) : Nat := if worksB F n then 6 else 0
set_option maxHeartbeats 2000000 in
theorem spec_GangSizes_any (A : Option Addr) (n c : Nat) (F : Nat → Nat → Int) (C : Nat → Bool) (w : World) (hn : n ≤ 1048576) (h : Rd w A n 5 (wkC F C)) :
    Calls Try.prog 35 #[.slice A n c] w (RowP w (fun A' c' => .tuple #[.slice A' (sizeN F n) c', .bool (worksB F n)]) (sizeN F n) 1 (ints (sizeT F n))) := by
  cases h1 : worksB F n
  · rw [show sizeN F n = 0 by simp [sizeN, h1]]
    go_enter Try.func35, Try.ntmps35
    go_wp2_with (first | (go_at_call 56; refine (l5Good_any _ _ _ _ _ _ hn h).mono ?_; rintro _ w1 ⟨rfl, hb_w1⟩; have hc_w1 := bcell hb_w1))
    refine bodyPost_ret (v := .tuple #[.slice (some ⟨w1.heap.size, 0, none⟩) 0 0, .bool false]) (by simp only [results, Try.results35]; go_simp) rfl ⟨_, _, rfl, Ow.nil _ _ _ _ _ _, hb_w1.alloc hb_w1.size _⟩
  rw [show sizeN F n = 6 by simp [sizeN, h1]]
  have HV := hide h1
  have hmk : ∀ u, (Instr.makeSlice 34 (.int .i64 6) (.int .i64 6)).run Try.prog u = .ok (.slice (some ⟨u.heap.size, 0, none⟩) 6 6) (u.alloc (.cells (madeCells #[.int .i64 0] 6) 3)) := mk_int 6 (by omega)
  go_enter Try.func35, Try.ntmps35
  go_wp2_with (first | (go_at_call 56; refine (l5Good_any _ _ _ _ _ _ hn h).mono ?_; rintro _ w0 ⟨rfl, hb_w0⟩; have hc_w0 := bcell hb_w0))
  clear h1 hc_w0
  have ho : Ow (w0.alloc (.cells (madeCells #[.int .i64 0] 6) 3)) w0.heap.size (w0.heap.size + 1) (some ⟨w0.heap.size, 0, none⟩) 6 1 (ints (sizeT F 0)) :=
    (Ow.made w0 #[.int .i64 0] 6 1 3 rfl).congr fun i j hi hj => by (obtain rfl : j = 0 := by omega); rfl
  have hb1 : Below w.heap.size w (w0.alloc (.cells (madeCells #[.int .i64 0] 6) 3)) := hb_w0.alloc hb_w0.size _
  have hs1 : w0.heap.size + 1 ≤ (w0.alloc (.cells (madeCells #[.int .i64 0] 6) 3)).heap.size := by simp
  have hs0 := hb_w0.size
  generalize w0.alloc (.cells (madeCells #[.int .i64 0] 6) 3) = w1 at ho hb1 hs1 ⊢
  clear hmk
  go_loopw [5, 6] (fun i _ wr => ∃ k : Nat, k ≤ n ∧ i = .int .i64 k ∧ Ow wr w0.heap.size (w0.heap.size + 1) (some ⟨w0.heap.size, 0, none⟩) 6 1 (ints (sizeT F k)) ∧ w0.heap.size + 1 ≤ wr.heap.size ∧ Below w.heap.size w wr) (fun i _ _ => n - (intOf i).toNat)
  case atStart => exact ⟨0, by omega, rfl, ho, hs1, hb1⟩
  case round =>
    clear ho hb1 hs1
    obtain ⟨k, hk, rfl, hO, hs, hb⟩ := hrel
    by_cases hlt : k < n
    · obtain ⟨b, off, rfl, hbw, hc⟩ := wk_at h hb (by omega)
      obtain ⟨c0, c1, c2, c3, c4⟩ := hc k hlt
      clear hc c0 c2 c3 c4
      obtain ⟨-, ⟨q1, q2⟩, -⟩ := work_at HV.out hlt
      obtain ⟨q, hq⟩ : ∃ q : Nat, F k 1 = q := ⟨(F k 1).toNat, by omega⟩
      have hq5 : q < 6 := by omega
      have HQ := hide (sizeT_step F k q hq)
      rw [hq] at c1
      clear hq
      obtain ⟨-, -, x1, x2⟩ := hO.at_ hq5
      have x0 := x1 0 (by omega)
      have y0 := x2 0 (by omega)
      simp only [Nat.add_zero, Nat.zero_add, Nat.mul_one, ints, sizeT] at x0 y0
      clear x1 x2
      obtain ⟨z1, z2⟩ := sizeV_bd F q k
      have hzs : w0.heap.size < wr.heap.size := by omega
      have hq6 : decide ((q : Int) < 6) = true := by simp; omega
      have hn12 := (worksB_at HV.out).1
      go_wp2
      go_roundw
      case rel =>
        refine ⟨k + 1, by omega, by go_num, ?_, by simp; omega, hb.setCell (p := ⟨w0.heap.size, q, none⟩) hs0 _⟩
        exact (hO.set hq5 (j0 := 0) (o := q) (by omega) (by omega) _).congr fun i j hi hj => by rw [HQ.out, if_pos (by omega)]
      case measure => simp [intOf]; omega
    · obtain rfl : k = n := by omega
      go_wp2
      refine bodyPost_ret (v := .tuple #[.slice (some ⟨w0.heap.size, 0, none⟩) 6 6, .bool true]) (by simp only [results, Try.results35]; go_simp) rfl ⟨_, _, rfl, hO.mono hs0 hs, hb⟩
end Go.Proofs.Ytmblkjnpibcmoaa
