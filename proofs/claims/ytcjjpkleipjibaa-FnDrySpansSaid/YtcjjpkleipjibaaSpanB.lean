/-
  Contracts: DrySpans of the program and of the reference. Conditions: lengths up to 2^20.
-/
import Derived.Test.YtcjjpkleipjibaaSpanA
namespace Go.Proofs.Ytcjjpkleipjibaa
open Go.RowKit

theorem spanB_true {a b : Int} (h : spanB a b = true) : 0 ≤ a ∧ a ≤ 4000 ∧ 0 ≤ b ∧ b ≤ 4000 ∧ a ≤ b := by
  simp only [spanB, Bool.and_eq_true, decide_eq_true_eq] at h
  have h1 := inB_true h.1.1
  have h2 := inB_true h.1.2
  omega

theorem own_mono {w : World} {B B' : Nat} {e : TypeId} {sz n : Nat} {v : Value} {xs : List Value} (h : w.ownsRow B e sz v n xs) (hb : B' ≤ B) : w.ownsRow B' e sz v n xs :=
  ⟨h.1, h.2.imp id fun ⟨g, cap, cur, e, hg, r⟩ => ⟨g, cap, cur, e, Nat.le_trans hb hg, r⟩⟩

/-- What DrySpans returns. -/
def dryL (F : Nat → Nat → Int) (n : Nat) (a b : Int) : List (Int × Int) := if showsB F n && spanB a b then spanEnd b (spanS F a b n) else []

set_option maxHeartbeats 1000000 in
theorem spec_DrySpans_any (A : Option Addr) (n c : Nat) (F : Nat → Nat → Int) (a b : Int) (w : World) (hn : n ≤ 1048576) (h : Rd w A n 2 (ints F)) :
    Calls Try.prog 33 #[.slice A n c, .int .i64 a, .int .i64 b] w fun e w' => ∃ v, e = .returned (.tuple #[v, .bool (showsB F n && spanB a b)]) ∧ w'.ownsRow w.heap.size 63 2 v (dryL F n a b).length (pairsL (dryL F n a b)) ∧ Below w.heap.size w w' := by
  cases h1 : showsB F n
  · have HD := hide (show dryL F n a b = [] by simp [dryL, h1])
    go_enter Try.func33, Try.ntmps33
    go_wp2_with (first | (go_at_call 53; refine (l9Good_any _ _ _ _ _ hn h).mono ?_; rintro _ w1 ⟨rfl, hb_w1⟩; have hc_w1 := bcell hb_w1))
    go_ret2
    exact ⟨_, rfl, by rw [HD.out]; exact World.ownsRow_lit _ _ _ (by have := hb_w1.size; omega) (Nat.zero_le _) rfl, hb_w1.alloc hb_w1.size _⟩
  · cases h2 : spanB a b
    · have HD := hide (show dryL F n a b = [] by simp [dryL, h2])
      go_enter Try.func33, Try.ntmps33
      go_wp2_with (first | (go_at_call 53; refine (l9Good_any _ _ _ _ _ hn h).mono ?_; rintro _ w1 ⟨rfl, hb_w1⟩; have hc_w1 := bcell hb_w1) | (go_at_call 64; refine (l6Span_any _ _ _).mono ?_; rintro _ _ ⟨rfl, rfl⟩))
      go_ret2
      exact ⟨_, rfl, by rw [HD.out]; exact World.ownsRow_lit _ _ _ (by have := hb_w1.size; omega) (Nat.zero_le _) rfl, hb_w1.alloc hb_w1.size _⟩
    · have HD := hide (show dryL F n a b = spanEnd b (spanS F a b n) by simp [dryL, h1, h2])
      have HV := hide h1
      have ha : 0 ≤ a ∧ a ≤ 4000 := by have := spanB_true h2; omega
      clear h1
      go_enter Try.func33, Try.ntmps33
      go_wp2_with (first | (go_at_call 53; refine (l9Good_any _ _ _ _ _ hn h).mono ?_; rintro _ w1 ⟨rfl, hb_w1⟩; have hc_w1 := bcell hb_w1) | (go_at_call 64; refine (l6Span_any _ _ _).mono ?_; rintro _ _ ⟨rfl, rfl⟩) | (go_at_call 65; refine (l9Spans_any _ _ _ _ _ _ _ hn (Rd.below h hb_w1) HV ha.1 ha.2).mono ?_; rintro _ w2 ⟨v, rfl, hown, hb_w2⟩))
      go_ret2
      exact ⟨_, rfl, by rw [HD.out]; exact own_mono hown hb_w1.size, (by first | exact Below.refl _ _ | exact hb_w1 | exact gr hb_w1 (hb_w2))⟩

set_option maxRecDepth 20000 in
set_option maxHeartbeats 2000000 in
theorem DrySpans_any (A : Option Addr) (n c : Nat) (F : Nat → Nat → Int) (a b : Int) (w : World) (hn : n ≤ 1048576) (h : Rd w A n 2 (ints F)) :
    Calls Try.prog 34 #[.slice A n c, .int .i64 a, .int .i64 b] w fun e w' => ∃ v, e = .returned (.tuple #[v, .bool (showsB F n && spanB a b)]) ∧ w'.ownsRow w.heap.size 63 2 v (dryL F n a b).length (pairsL (dryL F n a b)) ∧ Below w.heap.size w w' := by
  cases h1 : showsB F n
  · have HD := hide (show dryL F n a b = [] by simp [dryL, h1])
    go_enter Try.func34, Try.ntmps34
    go_wp2_with (first | (go_at_call 17; refine (AreShowers_any _ _ _ _ _ hn h).mono ?_; rintro _ w1 ⟨rfl, hb_w1⟩; have hc_w1 := bcell hb_w1))
    go_ret2
    exact ⟨_, rfl, by rw [HD.out]; exact World.ownsRow_nil _ _ _ _, hb_w1⟩
  · cases h2 : spanB a b
    · have HD := hide (show dryL F n a b = [] by simp [dryL, h2])
      go_enter Try.func34, Try.ntmps34
      go_wp2_with (first | (go_at_call 17; refine (AreShowers_any _ _ _ _ _ hn h).mono ?_; rintro _ w1 ⟨rfl, hb_w1⟩; have hc_w1 := bcell hb_w1) | (go_at_call 71; refine (areDays_any _ _ _).mono ?_; rintro _ _ ⟨rfl, rfl⟩))
      go_ret2
      exact ⟨_, rfl, by rw [HD.out]; exact World.ownsRow_nil _ _ _ _, hb_w1⟩
    · have HD := hide (show dryL F n a b = spanEnd b (spanS F a b n) by simp [dryL, h1, h2])
      have HV := hide h1
      obtain ⟨ha, ha2⟩ : 0 ≤ a ∧ a ≤ 4000 := by have := spanB_true h2; omega
      clear h1
      obtain ⟨i0, hi0, hz0, hz1, hz2⟩ := info_parts info_pair
      have h20 := (showsB_at HV.out).1
      go_enter Try.func34, Try.ntmps34
      go_wp2_with (first | (go_at_call 17; refine (AreShowers_any _ _ _ _ _ hn h).mono ?_; rintro _ w1 ⟨rfl, hb_w1⟩; have hc_w1 := bcell hb_w1) | (go_at_call 71; refine (areDays_any _ _ _).mono ?_; rintro _ _ ⟨rfl, rfl⟩))
      clear hc_w1
      have hown0 := World.ownsRow_nil w1 w.heap.size 63 2
      go_loopw [8, 9, 24] (fun v fr i wr => ∃ k : Nat, k ≤ n ∧ i = .int .i64 k ∧ fr = .int .i64 (spanS F a b k).2 ∧ wr.ownsRow w.heap.size 63 2 v (spanS F a b k).1.length (pairsL (spanS F a b k).1) ∧ Below w.heap.size w wr) (fun _ _ i _ => n - (intOf i).toNat)
      case atStart => exact ⟨0, by omega, rfl, rfl, hown0, hb_w1⟩
      case round =>
        obtain ⟨k, hk, rfl, rfl, hown, hb⟩ := hrel
        obtain ⟨-, g1, g2, g3, -⟩ := span_bd (b := b) HV.out ha ha2 k hk
        have hsz := hb.size
        by_cases hlt : k < n
        · obtain ⟨q, off, hA, -, hqw, hc⟩ := h (by omega)
          subst hA
          have hc0 := (hb.cell (by exact hqw)).trans (hc k 0 hlt (by omega))
          have hc1 := (hb.cell (by exact hqw)).trans (hc k 1 hlt (by omega))
          simp only [Nat.add_zero] at hc0 hc1
          clear hc
          have hbw : q < wr.heap.size := by omega
          have hd := ((showsB_at HV.out).2 k hlt).1
          have HS := hide (show spanI F a b (k + 1) = if inB (F k 0) a b then (if (spanI F a b k).2 < F k 0 then (spanI F a b k).1 ++ [((spanI F a b k).2, F k 0 - 1)] else (spanI F a b k).1, F k 0 + 1) else spanI F a b k from rfl)
          rw [(span_bd (b := b) HV.out ha ha2 (k + 1) (by omega)).1, (span_bd (b := b) HV.out ha ha2 k hk).1] at HS
          generalize spanS F a b k = S at hown g1 g2 g3 HS ⊢
          obtain ⟨l, fr⟩ := S
          simp only at hown g1 g2 g3 ⊢
          have hownlt := hown.lt
          cases hin : inB (F k 0) a b
          · go_wp2_with (first | (go_at_call 56; refine (within_any _ _ _ _).mono ?_; rintro _ _ ⟨rfl, rfl⟩))
            go_roundw
            case rel => exact ⟨k + 1, by omega, by go_num, by rw [HS.out]; simp [hin], by rw [HS.out]; simpa [hin] using hown.alloc _, hb.alloc hb.size _⟩
            case measure => simp [intOf]; omega
          · by_cases hf : fr < F k 0
            · have HS' : Hid (spanS F a b (k + 1) = (l ++ [(fr, F k 0 - 1)], F k 0 + 1)) := by unfold Hid; rw [HS.out]; simp [hin, hf]
              go_wp2_with (first | (go_at_call 56; refine (within_any _ _ _ _).mono ?_; rintro _ _ ⟨rfl, rfl⟩) | (at_builtin; refine wpList_append_own _ rfl _ _ 46 rfl w.heap.size 63 i0 (.agg #[.int .i64 0, .int .i64 0]) 2 16 Try.underlying46 hi0 hz0 hz1 hz2 rfl (by decide) _ _ _ rfl ((hown.alloc _).alloc _) ⟨wr.heap.size + 1, 0, none⟩ 1 1 [.int .i64 fr, .int .i64 (F k 0 - 1)] rfl rfl (World.news_of_block (cs := #[.int .i64 fr, .int .i64 (F k 0 - 1)]) (t := 63) (fr := (0, 0)) (by simpa using heap_alloc_new (wr.alloc (.cells #[.int .i64 (F k 0), .int .i64 (F k 1)] 68)) _)) (by simp [Value.oneCell']) (by simp only [maxLen]; omega) (by omega) (by simp; omega) ?_; intro v2 w2 hown2 hg2 _; have hbb := grown_below ((hown.alloc _).alloc _) hg2 (by simp; omega); have hq2 : w2.cell? ⟨wr.heap.size, 0, none⟩ = some (.int .i64 (F k 0)) := (hg2.cell_far ⟨wr.heap.size, 0, none⟩ (by simp; omega) (fun e => by have := hownlt _ e.symm; simp at this)).trans ((World.cell?_alloc_lt _ _ _ (by simp)).trans (cell_of_row _ wr.heap.size 0 _ _ (0, 0) (heap_alloc_new wr _))); clear hg2))
              have hb2 := ((hb.alloc hb.size _).alloc (by simp; omega) _).trans hbb
              go_roundw
              case rel => exact ⟨k + 1, by omega, by go_num, by rw [HS'.out], by rw [HS'.out]; simpa [pairsL_append] using hown2, hb2⟩
              case measure => simp [intOf]; omega
            · have HS' : Hid (spanS F a b (k + 1) = (l, F k 0 + 1)) := by unfold Hid; rw [HS.out]; simp [hin, hf]
              go_wp2_with (first | (go_at_call 56; refine (within_any _ _ _ _).mono ?_; rintro _ _ ⟨rfl, rfl⟩))
              go_roundw
              case rel => exact ⟨k + 1, by omega, by go_num, by rw [HS'.out], by rw [HS'.out]; exact hown.alloc _, hb.alloc hb.size _⟩
              case measure => simp [intOf]; omega
        · have HE := hide (show k = n by omega)
          generalize hS : spanS F a b k = S at hown g1 g2 g3 ⊢
          have HS := hide hS
          clear hS
          obtain ⟨l, fr⟩ := S
          simp only at hown g1 g2 g3 ⊢
          by_cases hf : fr ≤ b
          · have HL : Hid (dryL F n a b = l ++ [(fr, b)]) := by unfold Hid; rw [HD.out, ← HE.out, HS.out]; simp [spanEnd, hf]
            go_wp2_with (first | (at_builtin; refine wpList_append_own _ rfl _ _ 46 rfl w.heap.size 63 i0 (.agg #[.int .i64 0, .int .i64 0]) 2 16 Try.underlying46 hi0 hz0 hz1 hz2 rfl (by decide) _ _ _ rfl (hown.alloc _) ⟨wr.heap.size, 0, none⟩ 1 1 [.int .i64 fr, .int .i64 b] rfl rfl (World.news_of_block (cs := #[.int .i64 fr, .int .i64 b]) (t := 63) (fr := (0, 0)) (heap_alloc_new wr _)) (by simp [Value.oneCell']) (by simp only [maxLen]; omega) (by omega) (by simp; omega) ?_; intro v2 w2 hown2 hg2 _; have hbb := grown_below (hown.alloc _) hg2 (by simp; omega); clear hg2))
            go_ret2
            exact ⟨_, rfl, by rw [HL.out]; simpa [pairsL_append] using hown2, (hb.alloc hb.size _).trans hbb⟩
          · have HL : Hid (dryL F n a b = l) := by unfold Hid; rw [HD.out, ← HE.out, HS.out]; simp [spanEnd, hf]
            go_wp2
            go_ret2
            exact ⟨_, rfl, by rw [HL.out]; exact hown, hb⟩
end Go.Proofs.Ytcjjpkleipjibaa
