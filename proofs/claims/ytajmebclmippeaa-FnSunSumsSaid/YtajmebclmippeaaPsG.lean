/-
  Contract of the library's DeleteFunc on suns, at the program's test. Conditions: valid suns.
-/
import Derived.Test.YtajmebclmippeaaPsC
namespace Go.Proofs.Ytajmebclmippeaa
open Go.RowKit

/-- A box of two cells of the call's own. -/
structure BoxS (w : World) (g : Nat) (p q : Value) : Prop where
  lt : g < w.heap.size
  c0 : w.cell? ⟨g, 0, none⟩ = some p
  c1 : w.cell? ⟨g, 1, none⟩ = some q
theorem BoxS.new (w : World) (t : TypeId) (p q : Value) : BoxS (w.alloc (.cells #[p, q] t)) w.heap.size p q :=
  ⟨by simp, by rw [World.cell?_alloc_new]; rfl, by rw [World.cell?_alloc_new]; rfl⟩
theorem cut_none {F : Nat → Nat → Int} {n : Nat} {t : Int} (h : firstB (dayB F t) n = none) : putE F n t = 0 ∧ ∀ r j, cutS F n t r j = F r j := by
  have h1 : putE F n t = 0 := put_none fun j hj e => by
    have := firstB_none h j hj
    simp [dayB, e] at this
  exact ⟨h1, fun r j => by unfold cutS; rw [h1]; simp⟩
theorem cut_some {F : Nat → Nat → Int} {n i : Nat} {t : Int} (hs : sunsB F n = true) (h : firstB (dayB F t) n = some i) : i < n ∧ putE F n t = 1 ∧ (∀ r j, r < n - 1 → shF F i (n - 1) r j = cutS F n t r j) ∧ ∀ j, j < n → j ≠ i → (F j 0 == t) = false := by
  obtain ⟨h1, h2, -⟩ := firstB_some h
  obtain ⟨a1, a2, a3⟩ := put_some hs h1 (by simpa [dayB] using h2)
  refine ⟨h1, a2, fun r j hr => ?_, fun j hj hne => by simpa using a3 j hj hne⟩
  simp only [shF, cutS, a1, a2]
  by_cases hri : r < i
  · rw [if_neg (by omega), if_pos hri]
  · rw [if_pos ⟨by omega, hr⟩, if_neg hri]
theorem clear_sun (w : World) (ty : TypeId) (b o c : Nat) (hc : ∀ j, j < 2 → (w.cell? ⟨b, o + j, none⟩).isSome = true) (hf : ∀ j, j < 2 → w.frozen? ⟨b, o + j, none⟩ = false) :
    (Builtin.clear_ #[25] ty #[.slice (some ⟨b, o, none⟩) 1 c]).run Try.prog w = .ok (.tuple #[]) ((w.setCell ⟨b, o, none⟩ (.int .i64 0)).setCell ⟨b, o + 1, none⟩ (.int .i64 0)) := by
  obtain ⟨i0, hi0, hz0, hz1, hz2⟩ := info_parts info_sun
  exact run_clear_two w 25 55 ty (.agg #[.int .i64 0, .int .i64 0]) _ _ Try.underlying25 (fun w => by simp [zeroValue, typeInfo, hi0, hz0]) rfl rfl rfl b o c hc hf
/-- What is left when the suns of a day are gone. -/
def DelP (base n : Nat) (F : Nat → Nat → Int) (t : Int) (w : World) (e : Ending) (w' : World) : Prop :=
  ∃ v', e = .returned v' ∧ w'.ownsRow base 55 2 v' (n - putE F n t) (rowL (ints (cutS F n t)) (n - putE F n t) 2) ∧ Below base w w'
set_option maxRecDepth 20000 in
set_option maxHeartbeats 4000000 in
theorem delS_any (base n sb : Nat) (v : Value) (F : Nat → Nat → Int) (t : Int) (w : World) (HV : Hid (sunsB F n = true)) (hB : base ≤ w.heap.size) (hs : sb < base) (ho : w.ownsRow base 55 2 v n (rowL (ints F) n 2)) (hc : w.cell? ⟨sb, 0, none⟩ = some (.int .i64 t)) :
    Calls Try.prog 83 #[v, .func (.func 85) #[] #[.pointer (some ⟨sb, 0, none⟩)]] w (DelP base n F t w) := by
  have eg : ∀ args w, (callFunc 85 args).run Try.prog w = .ok (.enter 85 args) w := enters_of Try.func85 (by kernel_rfl) rfl
  have hn : n ≤ 1048576 := by have := (sunsB_at HV.out).1; omega
  obtain ⟨G, cc, rfl, hnc, hG⟩ := own_form ho
  have hR : Rd w G n 2 (ints F) := (own_ow ho).sl.rd (Nat.le_refl _)
  cases hf : firstB (dayB F t) n with
  | none =>
    obtain ⟨h1, h2⟩ := cut_none hf
    have HP := hide (show ∀ (w' : World) (v' : Value), w'.ownsRow base 55 2 v' n (rowL (ints F) n 2) → w'.ownsRow base 55 2 v' (n - putE F n t) (rowL (ints (cutS F n t)) (n - putE F n t) 2) from fun w' v' h => by
      rw [h1, Nat.sub_zero, rowL_congr (G := ints F) fun i j _ _ => by simp only [ints]; rw [h2]]
      exact h)
    clear h1 h2
    go_enter Try.func83, Try.ntmps83
    go_wp2_with fail
    go_at_call 92
    refine (sunIdx_any _ _ _ F sb t _ hn hR hc (by omega)).mono ?_
    rintro _ w1 ⟨rfl, hb1⟩
    rw [hf, show idxV none = -1 from rfl]
    clear hf
    have ho1 := own_below ho hb1
    go_wp2
    go_ret
    exact ⟨_, rfl, HP.out _ _ ho1, hb1.mono hB⟩
  | some i0 =>
    obtain ⟨hi, hE, hS, hN⟩ := cut_some HV.out hf
    obtain ⟨g, rfl, hg1, hg2⟩ : ∃ g, G = some ⟨g, 0, none⟩ ∧ base ≤ g ∧ g < w.heap.size := by
      rcases hG with rfl | h
      · obtain ⟨b, o, e, -⟩ := hR (by omega)
        cases e
      · exact h
    have HE := hide hE
    have HS := hide hS
    have HN := hide hN
    clear hE hS hN hG hR
    have hR : Rd w (some ⟨g, 0, none⟩) n 2 (ints F) := (own_ow ho).sl.rd (Nat.le_refl _)
    go_enter Try.func83, Try.ntmps83
    go_wp2_with fail
    go_at_call 92
    refine (sunIdx_any _ _ _ F sb t _ hn hR hc (by omega)).mono ?_
    rintro _ w1 ⟨rfl, hb1⟩
    rw [hf, show idxV (some i0) = (i0 : Int) from rfl]
    clear hf hR
    have ho1 := own_below ho hb1
    have hbA := hb1.mono hB
    have hz1 := hb1.size
    clear ho hb1
    have hne : ((i0 : Int) == -1) = false := by first | (simp; done) | (simp; omega)
    go_wp2
    go_loopw [5, 6, 7] (fun i j _ wr => ∃ k : Nat, i0 ≤ k ∧ k + 1 ≤ n ∧ i = .int .i64 k ∧ j = .int .i64 (k + 1) ∧ wr.ownsRow base 55 2 (.slice (some ⟨g, 0, none⟩) n cc) n (rowL (ints (shF F i0 k)) n 2) ∧ Below base w wr) (fun _ j _ _ => n - (intOf j).toNat)
    case atStart => exact ⟨i0, Nat.le_refl _, by omega, rfl, rfl, by rw [shF_zero]; exact ho1, hbA⟩
    case round =>
      clear ho1 hbA
      obtain ⟨k, hk0, hk, rfl, rfl, ho, hb⟩ := hrel
      have hOw := own_ow ho
      have hsz := hb.size
      have hsz0 : base ≤ wr.heap.size := by omega
      have hgr : g < wr.heap.size := by omega
      have hsr : sb < wr.heap.size := by omega
      by_cases hlt : k + 1 < n
      · obtain ⟨-, -, x1, x2⟩ := hOw.at_ (i := k + 1) hlt
        obtain ⟨-, -, y1, y2⟩ := hOw.at_ (i := k) (by omega)
        have e0 := x1 0 (by omega)
        have e1 := x1 1 (by omega)
        have k0 := y1 0 (by omega)
        have k1 := y1 1 (by omega)
        have f0 := y2 0 (by omega)
        have f1 := y2 1 (by omega)
        simp only [Nat.zero_add, Nat.add_zero, ints, show ∀ j, shF F i0 k (k + 1) j = F (k + 1) j from fun j => by simp only [shF]; rw [if_neg (by omega)]] at e0 e1 k0 k1 f0 f1
        clear x1 x2 y1 y2 hOw
        have hcr := (hb.cell (p := ⟨sb, 0, none⟩) hs).trans hc
        have hd := HN.out (k + 1) hlt (by omega)
        have hlt2 : decide ((k : Int) + 1 < n) = true := by simp; omega
        go_upto_region 8 with fail
        have hbX : Below wr.heap.size wr (wr.alloc (.cells #[.int .i64 (F (k + 1) 0), .int .i64 (F (k + 1) 1)] 55)) := (Below.refl _ _).alloc (Nat.le_refl _) _
        have hX := BoxS.new wr 55 (.int .i64 (F (k + 1) 0)) (.int .i64 (F (k + 1) 1))
        generalize wr.alloc (.cells #[.int .i64 (F (k + 1) 0), .int .i64 (F (k + 1) 1)] 55) = W2 at hbX hX ⊢
        obtain ⟨xl, xc0, xc1⟩ := hX
        have hzX := hbX.size
        replace hcr := (hbX.cell (p := ⟨sb, 0, none⟩) hsr).trans hcr
        go_wp2_with fail
        go_at_fn 85
        refine (sunP_any _ _ _ sb _ hcr (by omega)).mono ?_
        rintro _ w2 ⟨rfl, hb2⟩
        rw [hd]
        have hbB := gr hbX hb2
        replace xc0 := (hb2.cell (p := ⟨wr.heap.size, 0, none⟩) xl).trans xc0
        replace xc1 := (hb2.cell (p := ⟨wr.heap.size, 1, none⟩) xl).trans xc1
        replace k0 := (hbB.cell (p := ⟨g, k * 2, none⟩) hgr).trans k0
        replace k1 := (hbB.cell (p := ⟨g, k * 2 + 1, none⟩) hgr).trans k1
        replace f0 := (hbB.frozen (p := ⟨g, k * 2, none⟩) hgr).trans f0
        replace f1 := (hbB.frozen (p := ⟨g, k * 2 + 1, none⟩) hgr).trans f1
        have ho2 := own_put (own_put (own_below ho hbB) k 0 (k * 2) (by omega) (by omega) (.int .i64 (F (k + 1) 0))) k 1 (k * 2 + 1) (by omega) (by omega) (.int .i64 (F (k + 1) 1))
        rw [rowL_congr (G := ints (shF F i0 (k + 1))) fun r j _ hj => shF_step F i0 k r j hk0 hj] at ho2
        have HO2 := hide ho2
        have hbC := ((hb.trans (hbB.mono hsz0)).setCell (p := ⟨g, k * 2, none⟩) hg1 (.int .i64 (F (k + 1) 0))).setCell (p := ⟨g, k * 2 + 1, none⟩) hg1 (.int .i64 (F (k + 1) 1))
        clear ho ho2 hb2 hbX hbB e0 e1 hcr
        go_wp2
        go_roundw
        case rel => exact ⟨k + 1, by omega, by omega, by go_num, by go_num, HO2.out, hbC⟩
        case measure => simp [intOf]; omega
      · obtain rfl : n = k + 1 := by omega
        have hlt2 : decide ((k : Int) + 1 < ((k + 1 : Nat) : Int)) = false := by simp
        obtain ⟨-, -, y1, y2⟩ := hOw.at_ (i := k) (by omega)
        have hck : ¬ (cc = k) := by omega
        have hki : (k : Int) ≤ ((k + 1 : Nat) : Int) := by omega
        have hkc : (k : Int) ≤ (cc : Int) := by omega
        have hcl : ∀ ty c, (Builtin.clear_ #[25] ty #[.slice (some ⟨g, k * 2, none⟩) 1 c]).run Try.prog wr = .ok (.tuple #[]) ((wr.setCell ⟨g, k * 2, none⟩ (.int .i64 0)).setCell ⟨g, k * 2 + 1, none⟩ (.int .i64 0)) := fun ty c =>
          clear_sun wr ty g (k * 2) c (fun j hj => by have := y1 j hj; rw [Nat.zero_add] at this; rw [this]; rfl) (fun j hj => by have := y2 j hj; rwa [Nat.zero_add] at this)
        have ho2 := own_take (own_put (own_put ho k 0 (k * 2) (by omega) (by omega) (.int .i64 0)) k 1 (k * 2 + 1) (by omega) (by omega) (.int .i64 0)) (k := k) (by omega)
        rw [rowL_take _ _ _ _ (by omega), rowL_congr (G := ints (cutS F (k + 1) t)) fun r j hr hj => by
          have h5 := HS.out r j (by omega)
          simp only [Nat.add_sub_cancel] at h5
          unfold upd
          rw [if_neg (by omega), if_neg (by omega)]
          simp only [ints, h5]] at ho2
        have HO2 := hide ho2
        have hbC := (hb.setCell (p := ⟨g, k * 2, none⟩) hg1 (.int .i64 0)).setCell (p := ⟨g, k * 2 + 1, none⟩) hg1 (.int .i64 0)
        clear ho ho2 hOw y1 y2 hb
        go_wp2
        go_ret
        exact ⟨_, rfl, by rw [HE.out, Nat.add_sub_cancel]; exact HO2.out, hbC⟩
end Go.Proofs.Ytajmebclmippeaa
