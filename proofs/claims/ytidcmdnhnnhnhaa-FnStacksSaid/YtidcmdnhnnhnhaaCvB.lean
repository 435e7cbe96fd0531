/-
  The library's insertion sort at the program's order of heaps by tons. Conditions: valid heaps.
-/
import Derived.Test.YtidcmdnhnnhnhaaCvA
import Derived.BigRegion
namespace Go.Proofs.Ytidcmdnhnnhnhaa
open Go.RowKit

theorem plcT_le (T : Nat → Int) (f : Nat → Nat) (x k : Nat) : plcT T f x k ≤ k := (plcT_spec T f x k).1
theorem insN_step (f : Nat → Nat) (k x : Nat) (j : Nat) : insN f k x j = if j = k then x else if j = k + 1 then f k else insN f (k + 1) x j := by
  unfold insN
  by_cases h1 : j < k
  · simp [h1, show j ≠ k by omega, show j ≠ k + 1 by omega, show j < k + 1 by omega]
  · by_cases h2 : j = k
    · simp [h2]
    · by_cases h3 : j = k + 1
      · subst h3; simp [show ¬ k + 1 < k by omega]
      · simp [h1, h2, h3, show ¬ j < k + 1 by omega]
theorem srtT_lt {T : Nat → Int} {O : Nat → Nat} {M n : Nat} (h : ∀ j, j < M → O j < n) : ∀ m, m ≤ M → ∀ j, j < M → srtT T O m j < n := by
  intro m
  induction m with
  | zero => exact fun _ j hj => h j hj
  | succ m ih =>
    intro hm j hj
    simp only [srtT, insN]
    split
    · exact ih (by omega) j hj
    · split
      · exact h m (by omega)
      · exact ih (by omega) (j - 1) (by omega)
/-- The numbers while the one at m goes to its place: it stands at q. -/
def midT (T : Nat → Int) (O : Nat → Nat) (m q : Nat) : Nat → Nat → Int := fun p _ => if p ≤ m then (insN (srtT T O m) q (O m) p : Int) else O p
/-- The numbers when the first m stand in order. -/
def stT (T : Nat → Int) (O : Nat → Nat) (m : Nat) : Nat → Nat → Int := fun p _ => if p < m then (srtT T O m p : Int) else O p
theorem mid_st (T : Nat → Int) (O : Nat → Nat) (m q p j : Nat) (h : plcT T (srtT T O m) (O m) m = q) : ints (midT T O m q) p j = ints (stT T O (m + 1)) p j := by
  subst h
  simp only [ints, midT, stT, srtT]
  by_cases h : p ≤ m
  · rw [if_pos h, if_pos (by omega)]
  · rw [if_neg h, if_neg (by omega)]
theorem mid_step (T : Nat → Int) (O : Nat → Nat) (m r p j : Nat) (hr : r < m) (hj : j < 1) : upd (upd (ints (midT T O m (r + 1))) (r + 1) 0 (.int .i64 (srtT T O m r))) r 0 (.int .i64 (O m)) p j = ints (midT T O m r) p j := by
  obtain rfl : j = 0 := by omega
  unfold upd
  simp only [and_true]
  by_cases h1 : p = r
  · subst h1; simp [midT, insN, Nat.le_of_lt hr]
  · rw [if_neg h1]
    by_cases h2 : p = r + 1
    · subst h2; simp [midT, insN, show r + 1 ≤ m by omega, show ¬ r + 1 < r by omega]
    · rw [if_neg h2]
      simp only [ints, midT]
      rw [insN_step (srtT T O m) r (O m) p, if_neg h1, if_neg h2]
set_option maxRecDepth 20000 in
set_option maxHeartbeats 4000000 in
theorem insertion_any (lo hi lb g o cc M : Nat) (A : Option Addr) (n c : Nat) (H : Nat → HeapD) (O : Nat → Nat) (w : World) (HV : Hid (heapsB H n = true)) (h : Hp w 0 lo A n H) (hc : w.cell? ⟨lb, 0, none⟩ = some (.slice A n c)) (hl : lb < lo) (hh : hi ≤ w.heap.size) (hlh : lo ≤ hi)
    (hM : 1 ≤ M) (hM2 : M ≤ 10) (HO : Hid (∀ j, j < M → O j < n))
    (hO : Ow w lo hi (some ⟨g, o, none⟩) M 1 (ints fun p _ => O p)) :
    Calls Try.prog 99 #[.slice (some ⟨g, o, none⟩) M cc, .int .i64 0, .int .i64 M, .func (.func 82) #[] #[.pointer (some ⟨lb, 0, none⟩)]] w fun e w' => e = .returned (.tuple #[]) ∧ Below lo w w' ∧ Ow w' lo hi (some ⟨g, o, none⟩) M 1 (ints fun p _ => srtT (hpT H) O M p) := by
  have eg : ∀ args w, (callFunc 82 args).run Try.prog w = .ok (.enter 82 args) w := enters_of Try.func82 (by kernel_rfl) rfl
  have HLT := hide (srtT_lt (T := hpT H) HO.out)
  go_enter Try.func99, Try.ntmps99
  go_wp2
  go_loopw [8, 9] (fun i _ wr => ∃ m : Nat, 1 ≤ m ∧ m ≤ M ∧ i = .int .i64 m ∧ Below lo w wr ∧ Ow wr lo hi (some ⟨g, o, none⟩) M 1 (ints (stT (hpT H) O m))) (fun i _ _ => M - (intOf i).toNat)
  case atStart => exact ⟨1, Nat.le_refl _, hM, rfl, Below.refl _ _, hO.congr fun p j hp hj => by
    by_cases h0 : p < 1
    · obtain rfl : p = 0 := by omega
      simp [stT, srtT, insN, plcT]
    · simp [stT, h0]⟩
  case round =>
    obtain ⟨m, h1, hm, rfl, hb, hG⟩ := hrel
    by_cases hlt : m < M
    · have hM : Ow wr lo hi (some ⟨g, o, none⟩) M 1 (ints (midT (hpT H) O m m)) := hG.congr fun p j hp hj => by
        simp only [ints, stT, midT, insN]
        by_cases a : p < m
        · simp [a, Nat.le_of_lt a]
        · by_cases b : p = m
          · subst b; simp
          · simp [a, show ¬ p ≤ m by omega]
      clear hG
      have hOm := HO.out m hlt
      go_wp2
      go_loopw [9] (fun j wx => ∃ q : Nat, q ≤ m ∧ j = .int .i64 q ∧ Hid (plcT (hpT H) (srtT (hpT H) O m) (O m) q = plcT (hpT H) (srtT (hpT H) O m) (O m) m) ∧ Below lo w wx ∧ Ow wx lo hi (some ⟨g, o, none⟩) M 1 (ints (midT (hpT H) O m q))) (fun j _ => (intOf j).toNat)
      case atStart => exact ⟨m, Nat.le_refl _, rfl, hide rfl, hb, hM⟩
      case round =>
        clear hM hb
        obtain ⟨q, hq, rfl, hP, hb, hG⟩ := hrel
        by_cases h0 : 0 < q
        · obtain ⟨r, rfl⟩ : ∃ r, q = r + 1 := ⟨q - 1, by omega⟩
          have hbm := HLT.out m hm r (by omega)
          obtain ⟨-, -, x1, x2⟩ := hG.at_ (i := r + 1) (by omega)
          obtain ⟨-, -, y1, y2⟩ := hG.at_ (i := r) (by omega)
          have e1 := x1 0 (by omega)
          have f1 := x2 0 (by omega)
          have e0 := y1 0 (by omega)
          have f0 := y2 0 (by omega)
          have v1 : midT (hpT H) O m (r + 1) (r + 1) 0 = (O m : Int) := by simp [midT, insN] <;> omega
          have v0 : midT (hpT H) O m (r + 1) r 0 = (srtT (hpT H) O m r : Int) := by simp [midT, insN] <;> omega
          simp only [ints, Nat.mul_one, Nat.add_zero, v1, v0] at e1 e0 f1 f0
          clear x1 x2 y1 y2 v1 v0
          have hwz := hb.size
          have hsw : lo ≤ wr.heap.size := by omega
          have hgl : g < wr.heap.size := by
            obtain ⟨b', o', e', -, h2, -⟩ := hG.sl (by omega)
            cases e'
            have := hb.size
            omega
          have hd : decide ((0 : Int) < (r : Int) + 1) = true := by simp <;> omega
          have hrm : (r : Int) + 1 - 1 = r := by omega
          have HR1 := hide hrm
          clear hrm
          have d1 := fun y : After wr => y.cell e1 hgl
          have d0 := fun y : After wr => y.cell e0 hgl
          have ha := fun y : After wr => (h.agr (Below.agr (hb.trans (y.h.mono hsw)) (Nat.le_refl _))).mono (Nat.le_refl _) (Nat.le_trans hsw y.h.size)
          have hcl := fun y : After wr => ((hb.trans (y.h.mono hsw)).cell (p := ⟨lb, 0, none⟩) hl).trans hc
          have hll := fun y : After wr => Nat.lt_of_lt_of_le (Nat.lt_of_lt_of_le hl hsw) y.h.size
          have HA := hide (show plcT (hpT H) (srtT (hpT H) O m) (O m) (r + 1) = if hpT H (srtT (hpT H) O m r) < hpT H (O m) then plcT (hpT H) (srtT (hpT H) O m) (O m) r else r + 1 from rfl)
          go_wp2_with fail
          have HC := hide (cmpV_neg (hpT H (srtT (hpT H) O m r)) (hpT H (O m)))
          cases ha2 : decide (hpT H (srtT (hpT H) O m r) < hpT H (O m))
          · rw [ha2] at HC
            have hcc := HC.out
            refine region_after (by kernel_rfl) (by kernel_rfl) ?_
            repeat (go_big_quiet_step ((first | (go_at_fn 82; exact Calls.after (cvCmp_any lb A n c H (O m) (srtT (hpT H) O m r) _ HV hOm hbm (ha _) (hcl _) (hll _))))))
            refine wpQuiet_nil ?_
            rintro _ ⟨y, rfl⟩
            go_wp2
            have HP2 := hide (show plcT (hpT H) (srtT (hpT H) O m) (O m) m = r + 1 by rw [← hP.out, HA.out, if_neg (of_decide_eq_false ha2)])
            go_roundw
            case rel => exact ⟨m + 1, by omega, by omega, by go_num, hb.trans (y.h.mono hsw), (hG.agr (Below.agr y.h (by omega))).congr fun p j hp hj => mid_st (hpT H) O m (r + 1) p j HP2.out⟩
            case measure => simp [intOf]; omega
          · rw [ha2] at HC
            have hcc := HC.out
            refine region_after (by kernel_rfl) (by kernel_rfl) ?_
            repeat (go_big_quiet_step ((first | (go_at_fn 82; exact Calls.after (cvCmp_any lb A n c H (O m) (srtT (hpT H) O m r) _ HV hOm hbm (ha _) (hcl _) (hll _))))))
            refine wpQuiet_nil ?_
            rintro _ ⟨y, rfl⟩
            have HP2 := hide (show plcT (hpT H) (srtT (hpT H) O m) (O m) r = plcT (hpT H) (srtT (hpT H) O m) (O m) m by rw [← hP.out, HA.out, if_pos (of_decide_eq_true ha2)])
            have hGy := hG.agr (Below.agr y.h (by omega))
            have hby := hb.trans (y.h.mono hsw)
            have hgy : g < y.w.heap.size := Nat.lt_of_lt_of_le hgl y.h.size
            clear ha hcl hll d0 d1 hG hb
            generalize y.w = W3 at *
            obtain ⟨-, -, x1, x2⟩ := hGy.at_ (i := r + 1) (by omega)
            obtain ⟨-, -, y1, y2⟩ := hGy.at_ (i := r) (by omega)
            have e1 := x1 0 (by omega)
            have f1 := x2 0 (by omega)
            have e0 := y1 0 (by omega)
            have f0 := y2 0 (by omega)
            have v1 : midT (hpT H) O m (r + 1) (r + 1) 0 = (O m : Int) := by simp [midT, insN] <;> omega
            have v0 : midT (hpT H) O m (r + 1) r 0 = (srtT (hpT H) O m r : Int) := by simp [midT, insN] <;> omega
            simp only [ints, Nat.mul_one, Nat.add_zero, v1, v0] at e1 e0 f1 f0
            clear x1 x2 y1 y2 v1 v0
            have hd2 : decide ((0 : Int) ≤ (r : Int) + 1) = true := by simp <;> omega
            go_wp2_with fail
            go_region
            go_wp2_with fail
            have hgl2 : lo ≤ g ∧ g < hi := by
              obtain ⟨b', o', e', h1', h2', -⟩ := hGy.sl (by omega)
              cases e'
              exact ⟨h1', h2'⟩
            have hfin := ((hGy.set (i0 := r + 1) (j0 := 0) (o := o + (r + 1)) (by omega) (by omega) (by omega) (.int .i64 (srtT (hpT H) O m r))).set (i0 := r) (j0 := 0) (o := o + r) (by omega) (by omega) (by omega) (.int .i64 (O m))).congr fun p j hp hj => mid_step (hpT H) O m r p j (by omega) hj
            go_roundw
            case rel => exact ⟨r, by omega, rfl, HP2, ((hby.setCell (p := ⟨g, o + (r + 1), none⟩) hgl2.1 _).setCell (p := ⟨g, o + r, none⟩) hgl2.1 _).drew, hfin.agr fun _ _ _ => rfl⟩
            case measure => simp [intOf]
        · obtain rfl : q = 0 := by omega
          go_wp2_with fail
          refine region_after (by kernel_rfl) (by kernel_rfl) ?_
          repeat (go_big_quiet_step ((first | fail)))
          refine wpQuiet_nil ?_
          rintro _ ⟨y, rfl⟩
          go_wp2
          have HP2 := hide (show plcT (hpT H) (srtT (hpT H) O m) (O m) m = 0 by rw [← hP.out]; rfl)
          have hwz := hb.size
          have hsw : lo ≤ wr.heap.size := by omega
          go_roundw
          case rel => exact ⟨m + 1, by omega, by omega, by go_num, hb.trans (y.h.mono hsw), (hG.agr (Below.agr y.h (by omega))).congr fun p j hp hj => mid_st (hpT H) O m 0 p j HP2.out⟩
          case measure => simp [intOf]; omega
    · obtain rfl : m = M := by omega
      go_wp2
      go_end0
      exact ⟨rfl, hb, hG.congr fun p j hp hj => by simp [stT, hp]⟩
end Go.Proofs.Ytidcmdnhnnhnhaa
