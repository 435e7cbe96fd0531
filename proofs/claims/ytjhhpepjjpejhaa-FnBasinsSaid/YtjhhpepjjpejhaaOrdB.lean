/-
  The library's insertion sort at the program's order of basins. Conditions: a series.
-/
import Derived.Test.YtjhhpepjjpejhaaOrdA
import Derived.BigRegion
namespace Go.Proofs.Ytjhhpepjjpejhaa
open Go.RowKit

/-- The numbers while the basin m goes to its place: it stands at j. -/
def midO (F : Nat → Nat → Int) (m j : Nat) : Nat → Nat → Int := fun p _ => if p ≤ m then (insAt (ordN F m) j m p : Int) else p
/-- The numbers when the first m basins stand in order. -/
def stO (F : Nat → Nat → Int) (m : Nat) : Nat → Nat → Int := fun p _ => if p < m then (ordN F m p : Int) else p
theorem mid_st (F : Nat → Nat → Int) (m q p j : Nat) (h : placeN F (ordN F m) m m = q) : ints (midO F m q) p j = ints (stO F (m + 1)) p j := by
  subst h
  simp only [ints, midO, stO, ordN]
  by_cases h : p ≤ m
  · rw [if_pos h, if_pos (by omega)]
  · rw [if_neg h, if_neg (by omega)]
theorem mid_step (F : Nat → Nat → Int) (m r p j : Nat) (hr : r < m) (hj : j < 1) : upd (upd (ints (midO F m (r + 1))) (r + 1) 0 (.int .i64 (ordN F m r))) r 0 (.int .i64 m) p j = ints (midO F m r) p j := by
  obtain rfl : j = 0 := by omega
  unfold upd
  simp only [and_true]
  by_cases h1 : p = r
  · subst h1; simp [midO, insAt, Nat.le_of_lt hr]
  · rw [if_neg h1]
    by_cases h2 : p = r + 1
    · subst h2; simp [midO, insAt, show r + 1 ≤ m by omega, show ¬ r + 1 < r by omega]
    · rw [if_neg h2]
      simp only [ints, midO]
      rw [insAt_step (ordN F m) r m p, if_neg h1, if_neg h2]
set_option maxRecDepth 20000 in
set_option maxHeartbeats 2000000 in
theorem insertion_any (lo hi lb g o cc : Nat) (A : Option Addr) (n c : Nat) (F : Nat → Nat → Int) (w : World) (HV : Hid (seriesB F n = true)) (h : Sl w 0 lo A n 3 (ints F)) (hc : w.cell? ⟨lb, 0, none⟩ = some (.slice A n c)) (hl : lb < lo) (hh : hi ≤ w.heap.size) (hlh : lo ≤ hi)
    (hO : Ow w lo hi (some ⟨g, o, none⟩) n 1 (ints fun p _ => p)) :
    Calls Try.prog 68 #[.slice (some ⟨g, o, none⟩) n cc, .int .i64 0, .int .i64 n, .func (.func 54) #[] #[.pointer (some ⟨lb, 0, none⟩)]] w fun e w' => e = .returned (.tuple #[]) ∧ Below lo w w' ∧ Ow w' lo hi (some ⟨g, o, none⟩) n 1 (ints (ordI F n)) := by
  have eg : ∀ args w, (callFunc 54 args).run Try.prog w = .ok (.enter 54 args) w := enters_of Try.func54 (by kernel_rfl) rfl
  have hn8 := (seriesB_at HV.out).1
  go_enter Try.func68, Try.ntmps68
  go_wp2
  go_loopw [8, 9] (fun i _ wr => ∃ m : Nat, 1 ≤ m ∧ m ≤ n ∧ i = .int .i64 m ∧ Below lo w wr ∧ Ow wr lo hi (some ⟨g, o, none⟩) n 1 (ints (stO F m))) (fun i _ _ => n - (intOf i).toNat)
  case atStart => exact ⟨1, Nat.le_refl _, hn8.1, rfl, Below.refl _ _, hO.congr fun p j hp hj => by
    by_cases h0 : p < 1
    · obtain rfl : p = 0 := by omega
      simp [stO, ordN, insAt, placeN]
    · simp [stO, h0]⟩
  case round =>
    obtain ⟨m, h1, hm, rfl, hb, hG⟩ := hrel
    by_cases hlt : m < n
    · have hM : Ow wr lo hi (some ⟨g, o, none⟩) n 1 (ints (midO F m m)) := hG.congr fun p j hp hj => by
        simp only [ints, stO, midO, insAt]
        by_cases a : p < m
        · simp [a, Nat.le_of_lt a]
        · by_cases b : p = m
          · subst b; simp
          · simp [a, show ¬ p ≤ m by omega]
      clear hG
      go_wp2
      go_loopw [9] (fun j wx => ∃ q : Nat, q ≤ m ∧ j = .int .i64 q ∧ Hid (placeN F (ordN F m) m q = placeN F (ordN F m) m m) ∧ Below lo w wx ∧ Ow wx lo hi (some ⟨g, o, none⟩) n 1 (ints (midO F m q))) (fun j _ => (intOf j).toNat)
      case atStart => exact ⟨m, Nat.le_refl _, rfl, hide rfl, hb, hM⟩
      case round =>
        clear hM hb
        obtain ⟨q, hq, rfl, hP, hb, hG⟩ := hrel
        by_cases h0 : 0 < q
        · obtain ⟨r, rfl⟩ : ∃ r, q = r + 1 := ⟨q - 1, by omega⟩
          have hbm := ordN_lt F m r (by omega)
          obtain ⟨-, -, x1, x2⟩ := hG.at_ (i := r + 1) (by omega)
          obtain ⟨-, -, y1, y2⟩ := hG.at_ (i := r) (by omega)
          have e1 := x1 0 (by omega)
          have f1 := x2 0 (by omega)
          have e0 := y1 0 (by omega)
          have f0 := y2 0 (by omega)
          have v1 : midO F m (r + 1) (r + 1) 0 = m := by simp [midO, insAt] <;> omega
          have v0 : midO F m (r + 1) r 0 = (ordN F m r : Int) := by simp [midO, insAt] <;> omega
          simp only [ints, Nat.mul_one, Nat.add_zero, v1, v0] at e1 e0 f1 f0
          clear x1 x2 y1 y2 v1 v0
          have hwz := hb.size
          have hsw : lo ≤ wr.heap.size := by omega
          have hgl : g < wr.heap.size := by
            obtain ⟨b', o', e', -, h2, -⟩ := hG.sl (by omega)
            cases e'
            have := hb.size
            omega
          have hd : decide ((0 : Int) < (r : Int) + 1) = true := by simp <;> omega
          have hrm : (r : Int) + 1 - 1 = r := by omega
          have HR1 := hide hrm
          clear hrm
          have d1 := fun y : After wr => y.cell e1 hgl
          have d0 := fun y : After wr => y.cell e0 hgl
          have ha := fun y : After wr => Sl.mono (h.agr (Below.agr (hb.trans (y.h.mono hsw)) (Nat.le_refl _))) (Nat.le_refl _) (Nat.le_trans hsw y.h.size)
          have hcl := fun y : After wr => ((hb.trans (y.h.mono hsw)).cell (p := ⟨lb, 0, none⟩) hl).trans hc
          have hll := fun y : After wr => Nat.lt_of_lt_of_le (Nat.lt_of_lt_of_le hl hsw) y.h.size
          go_wp2_with fail
          have HC := hide (show decide (cmpV (massF F (ordN F m r) * F m 0) (massF F m * F (ordN F m r) 0) < 0) = aheadB F m (ordN F m r) by rw [cmpV_neg, aheadB_eq])
          cases ha2 : aheadB F m (ordN F m r)
          · rw [ha2] at HC
            have hcc := HC.out
            refine region_after (by kernel_rfl) (by kernel_rfl) ?_
            repeat (go_big_quiet_step ((first | (go_at_fn 54; exact Calls.after (depthCmp_any lb 0 A n c F m (ordN F m r) _ HV hlt (by omega) (ha _) (hcl _) (hll _))))))
            refine wpQuiet_nil ?_
            rintro _ ⟨y, rfl⟩
            go_wp2
            have HP2 := hide (show placeN F (ordN F m) m m = r + 1 by rw [← hP.out]; simp [placeN, ha2])
            go_roundw
            case rel => exact ⟨m + 1, by omega, by omega, by go_num, hb.trans (y.h.mono hsw), (hG.agr (Below.agr y.h (by omega))).congr fun p j hp hj => mid_st F m (r + 1) p j HP2.out⟩
            case measure => simp [intOf]; omega
          · rw [ha2] at HC
            have hcc := HC.out
            refine region_after (by kernel_rfl) (by kernel_rfl) ?_
            repeat (go_big_quiet_step ((first | (go_at_fn 54; exact Calls.after (depthCmp_any lb 0 A n c F m (ordN F m r) _ HV hlt (by omega) (ha _) (hcl _) (hll _))))))
            refine wpQuiet_nil ?_
            rintro _ ⟨y, rfl⟩
            have HP2 := hide (show placeN F (ordN F m) m r = placeN F (ordN F m) m m by rw [← hP.out]; simp [placeN, ha2])
            have hGy := hG.agr (Below.agr y.h (by omega))
            have hby := hb.trans (y.h.mono hsw)
            have hgy : g < y.w.heap.size := Nat.lt_of_lt_of_le hgl y.h.size
            clear ha hcl hll d0 d1 hG hb
            generalize y.w = W3 at *
            obtain ⟨-, -, x1, x2⟩ := hGy.at_ (i := r + 1) (by omega)
            obtain ⟨-, -, y1, y2⟩ := hGy.at_ (i := r) (by omega)
            have e1 := x1 0 (by omega)
            have f1 := x2 0 (by omega)
            have e0 := y1 0 (by omega)
            have f0 := y2 0 (by omega)
            have v1 : midO F m (r + 1) (r + 1) 0 = m := by simp [midO, insAt] <;> omega
            have v0 : midO F m (r + 1) r 0 = (ordN F m r : Int) := by simp [midO, insAt] <;> omega
            simp only [ints, Nat.mul_one, Nat.add_zero, v1, v0] at e1 e0 f1 f0
            clear x1 x2 y1 y2 v1 v0
            have hd2 : decide ((0 : Int) ≤ (r : Int) + 1) = true := by simp <;> omega
            go_wp2_with fail
            go_region
            go_wp2_with fail
            have hgl2 : lo ≤ g ∧ g < hi := by
              obtain ⟨b', o', e', h1', h2', -⟩ := hGy.sl (by omega)
              cases e'
              exact ⟨h1', h2'⟩
            have hfin := ((hGy.set (i0 := r + 1) (j0 := 0) (o := o + (r + 1)) (by omega) (by omega) (by omega) (.int .i64 (ordN F m r))).set (i0 := r) (j0 := 0) (o := o + r) (by omega) (by omega) (by omega) (.int .i64 m)).congr fun p j hp hj => mid_step F m r p j (by omega) hj
            go_roundw
            case rel => exact ⟨r, by omega, rfl, HP2, ((hby.setCell (p := ⟨g, o + (r + 1), none⟩) hgl2.1 _).setCell (p := ⟨g, o + r, none⟩) hgl2.1 _).drew, hfin.agr fun _ _ _ => rfl⟩
            case measure => simp [intOf]
        · obtain rfl : q = 0 := by omega
          go_wp2_with fail
          refine region_after (by kernel_rfl) (by kernel_rfl) ?_
          repeat (go_big_quiet_step ((first | fail)))
          refine wpQuiet_nil ?_
          rintro _ ⟨y, rfl⟩
          go_wp2
          have HP2 := hide (show placeN F (ordN F m) m m = 0 by rw [← hP.out]; rfl)
          have hwz := hb.size
          have hsw : lo ≤ wr.heap.size := by omega
          go_roundw
          case rel => exact ⟨m + 1, by omega, by omega, by go_num, hb.trans (y.h.mono hsw), (hG.agr (Below.agr y.h (by omega))).congr fun p j hp hj => mid_st F m 0 p j HP2.out⟩
          case measure => simp [intOf]; omega
    · obtain rfl : m = n := by omega
      go_wp2
      go_end0
      exact ⟨rfl, hb, hG.congr fun p j hp hj => by simp [stO, ordI, hp]⟩
end Go.Proofs.Ytjhhpepjjpejhaa
