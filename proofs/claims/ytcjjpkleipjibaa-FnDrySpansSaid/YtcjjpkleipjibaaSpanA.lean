/-
  Contracts: the spans of days without rain, of the program and of the reference. Conditions: lengths up to 2^20; valid showers and days where the inner function is called.
-/
import Derived.Test.YtcjjpkleipjibaaRainH
namespace Go.Proofs.Ytcjjpkleipjibaa
open Go.RowKit

/-- Pairs, laid in a row. -/
def pairsL : List (Int × Int) → List Value
  | [] => []
  | p :: l => .int .i64 p.1 :: .int .i64 p.2 :: pairsL l
theorem pairsL_append (l : List (Int × Int)) (p : Int × Int) : pairsL (l ++ [p]) = pairsL l ++ [.int .i64 p.1, .int .i64 p.2] := by
  induction l with
  | nil => rfl
  | cons q l ih => simp [pairsL, ih]
/-- .. and as a table. -/
def tabP (l : List (Int × Int)) (i j : Nat) : Int := if j = 0 then (l.getD i (0, 0)).1 else (l.getD i (0, 0)).2
theorem pairsL_at (l : List (Int × Int)) : ∀ i j, i < l.length → j < 2 → (pairsL l).getD (i * 2 + j) undef = .int .i64 (tabP l i j) := by
  induction l with
  | nil => intro i j h; simp at h
  | cons q l ih =>
    intro i j hi hj
    cases i with
    | zero => match j, hj with
      | 0, _ => simp [pairsL, tabP]
      | 1, _ => simp [pairsL, tabP]
    | succ i =>
      have := ih i j (by simpa using hi) hj
      have e : (i + 1) * 2 + j = (i * 2 + j) + 1 + 1 := by omega
      rw [e]
      simp only [pairsL, List.getD_cons_succ]
      rw [this]
      simp [tabP]

/-- The spans so far, and the day from which on the next one begins: as the reference goes. -/
def spanS (F : Nat → Nat → Int) (a b : Int) : Nat → List (Int × Int) × Int
  | 0 => ([], a)
  | k + 1 => if inB (F k 0) (spanS F a b k).2 b then (if (spanS F a b k).2 < F k 0 then (spanS F a b k).1 ++ [((spanS F a b k).2, F k 0 - 1)] else (spanS F a b k).1, F k 0 + 1) else spanS F a b k
/-- As the program goes. -/
def spanI (F : Nat → Nat → Int) (a b : Int) : Nat → List (Int × Int) × Int
  | 0 => ([], a)
  | k + 1 => if inB (F k 0) a b then (if (spanI F a b k).2 < F k 0 then (spanI F a b k).1 ++ [((spanI F a b k).2, F k 0 - 1)] else (spanI F a b k).1, F k 0 + 1) else spanI F a b k
def spanEnd (b : Int) (s : List (Int × Int) × Int) : List (Int × Int) := if s.2 ≤ b then s.1 ++ [(s.2, b)] else s.1
theorem span_bd {F : Nat → Nat → Int} {n : Nat} {a b : Int} (hs : showsB F n = true) (ha : 0 ≤ a) (ha2 : a ≤ 4000) : ∀ k, k ≤ n → spanI F a b k = spanS F a b k ∧ (spanS F a b k).1.length ≤ k ∧ a ≤ (spanS F a b k).2 ∧ (spanS F a b k).2 ≤ 4001 ∧ (∀ i, k ≤ i → i < n → a ≤ F i 0 → (spanS F a b k).2 ≤ F i 0) := by
  have hat := showsB_at hs
  intro k
  induction k with
  | zero => exact fun _ => ⟨rfl, by simp [spanS], by simp [spanS], by simp [spanS]; omega, fun i _ _ h => by simpa [spanS] using h⟩
  | succ k ih =>
    intro hk
    obtain ⟨h1, h2, h3, h4, h5⟩ := ih (by omega)
    have hd := (hat.2 k (by omega)).1
    have e : inB (F k 0) a b = inB (F k 0) (spanS F a b k).2 b := by
      by_cases c : a ≤ F k 0
      · have := h5 k (Nat.le_refl _) (by omega) c
        simp [inB, c, this]
      · have c1 : ¬ a ≤ F k 0 := c
        have c2 : ¬ (spanS F a b k).2 ≤ F k 0 := by omega
        simp [inB, c1, c2]
    simp only [spanI, spanS]
    rw [h1, e]
    have hlt : ∀ i, k < i → i < n → F k 0 < F i 0 := fun i h h' => by
      have : ∀ j i, i < j → j < n → F i 0 < F j 0 := by
        intro j
        induction j with
        | zero => intro i h; omega
        | succ m ihm =>
          intro i hi hj
          have h1 := (hat.2 (m + 1) hj).2.2 (by omega)
          simp only [Nat.add_sub_cancel] at h1
          by_cases him : i = m
          · subst him; exact h1
          · have := ihm i (by omega) (by omega); omega
      exact this i k h h'
    split
    · refine ⟨rfl, ?_, ?_, ?_, fun i hi hin _ => ?_⟩
      · simp only
        split
        · simp; omega
        · omega
      · simp only; rename_i hc; have := inB_true hc; omega
      · simp only; omega
      · simp only; have := hlt i (by omega) hin; omega
    · exact ⟨rfl, by omega, h3, h4, fun i hi hin ha => h5 i (by omega) hin ha⟩

theorem info_pair : (Try.prog.info? 63).map (fun i => (i.zero, i.size, i.bytes)) = some (some (.agg #[.int .i64 0, .int .i64 0]), 2, 16) := by kernel_rfl

set_option maxRecDepth 20000 in
set_option maxHeartbeats 2000000 in
theorem l9Spans_any (A : Option Addr) (n c : Nat) (F : Nat → Nat → Int) (a b : Int) (w : World) (hn : n ≤ 1048576) (h : Rd w A n 2 (ints F)) (HV : Hid (showsB F n = true)) (ha : 0 ≤ a) (ha2 : a ≤ 4000) :
    Calls Try.prog 65 #[.slice A n c, .int .i64 a, .int .i64 b] w fun e w' => ∃ v, e = .returned v ∧ w'.ownsRow w.heap.size 63 2 v (spanEnd b (spanS F a b n)).length (pairsL (spanEnd b (spanS F a b n))) ∧ Below w.heap.size w w' := by
  obtain ⟨i0, hi0, hz0, hz1, hz2⟩ := info_parts info_pair
  have h20 := (showsB_at HV.out).1
  go_enter Try.func65, Try.ntmps65
  go_wp2
  have hown0 := World.ownsRow_lit (base := w.heap.size) (e := 63) (size := 2) w #[] 0 (Nat.le_refl _) (Nat.zero_le _) rfl
  have hb1 : Below w.heap.size w (w.alloc (.cells #[] 63)) := (Below.refl _ _).alloc (Nat.le_refl _) _
  generalize w.alloc (.cells #[] 63) = w1 at hown0 hb1 ⊢
  go_loopw [1, 7, 8] (fun fr v i wr => ∃ k : Nat, k ≤ n ∧ i = .int .i64 k ∧ fr = .int .i64 (spanS F a b k).2 ∧ wr.ownsRow w.heap.size 63 2 v (spanS F a b k).1.length (pairsL (spanS F a b k).1) ∧ Below w.heap.size w wr) (fun _ _ i _ => n - (intOf i).toNat)
  case atStart => exact ⟨0, by omega, rfl, rfl, hown0, hb1⟩
  case round =>
    obtain ⟨k, hk, rfl, rfl, hown, hb⟩ := hrel
    obtain ⟨-, g1, g2, g3, -⟩ := span_bd (b := b) HV.out ha ha2 k hk
    have hsz := hb.size
    by_cases hlt : k < n
    · obtain ⟨q, off, hA, -, hqw, hc⟩ := h (by omega)
      subst hA
      have hc0 := (hb.cell (by exact hqw)).trans (hc k 0 hlt (by omega))
      simp only [Nat.add_zero] at hc0
      clear hc
      have hbw : q < wr.heap.size := by omega
      have hd := ((showsB_at HV.out).2 k hlt).1
      have HS := hide (show spanS F a b (k + 1) = if inB (F k 0) (spanS F a b k).2 b then (if (spanS F a b k).2 < F k 0 then (spanS F a b k).1 ++ [((spanS F a b k).2, F k 0 - 1)] else (spanS F a b k).1, F k 0 + 1) else spanS F a b k from rfl)
      generalize spanS F a b k = S at hown g1 g2 g3 HS ⊢
      obtain ⟨l, fr⟩ := S
      simp only at hown g1 g2 g3 ⊢
      cases hin : inB (F k 0) fr b
      · go_wp2_with (first | (go_at_call 60; refine (l1In_any _ _ _ _).mono ?_; rintro _ _ ⟨rfl, rfl⟩))
        go_roundw
        case rel => exact ⟨k + 1, by omega, by go_num, by rw [HS.out]; simp [hin], by rw [HS.out]; simpa [hin] using hown, hb⟩
        case measure => simp [intOf]; omega
      · by_cases hf : fr < F k 0
        · have HS' : Hid (spanS F a b (k + 1) = (l ++ [(fr, F k 0 - 1)], F k 0 + 1)) := by unfold Hid; rw [HS.out]; simp [hin, hf]
          go_wp2_with (first | (go_at_call 60; refine (l1In_any _ _ _ _).mono ?_; rintro _ _ ⟨rfl, rfl⟩) | (at_builtin; refine wpList_append_own _ rfl _ _ 46 rfl w.heap.size 63 i0 (.agg #[.int .i64 0, .int .i64 0]) 2 16 Try.underlying46 hi0 hz0 hz1 hz2 rfl (by decide) _ _ _ rfl (hown.alloc _) ⟨wr.heap.size, 0, none⟩ 1 1 [.int .i64 fr, .int .i64 (F k 0 - 1)] rfl rfl (World.news_of_block (cs := #[.int .i64 fr, .int .i64 (F k 0 - 1)]) (t := 63) (fr := (0, 0)) (heap_alloc_new wr _)) (by simp [Value.oneCell']) (by simp only [maxLen]; omega) (by omega) (by simp; omega) ?_; intro v2 w2 hown2 hg2 _; have hbb := grown_below (hown.alloc _) hg2 (by simp; omega); clear hg2; have hq2 := (hbb.cell (p := ⟨q, off + k * 2, none⟩) hqw).trans ((World.cell?_alloc_lt wr _ _ hbw).trans hc0)))
          have hb2 := (hb.alloc hb.size _).trans hbb
          go_roundw
          case rel => exact ⟨k + 1, by omega, by go_num, by rw [HS'.out], by rw [HS'.out]; simpa [pairsL_append] using hown2, hb2⟩
          case measure => simp [intOf]; omega
        · have HS' : Hid (spanS F a b (k + 1) = (l, F k 0 + 1)) := by unfold Hid; rw [HS.out]; simp [hin, hf]
          go_wp2_with (first | (go_at_call 60; refine (l1In_any _ _ _ _).mono ?_; rintro _ _ ⟨rfl, rfl⟩))
          go_roundw
          case rel => exact ⟨k + 1, by omega, by go_num, by rw [HS'.out], by rw [HS'.out]; exact hown, hb⟩
          case measure => simp [intOf]; omega
    · have HE := hide (show k = n by omega)
      generalize hS : spanS F a b k = S at hown g1 g2 g3 ⊢
      have HS := hide hS
      clear hS
      obtain ⟨l, fr⟩ := S
      simp only at hown g1 g2 g3 ⊢
      by_cases hf : fr ≤ b
      · have HL : Hid (spanEnd b (spanS F a b n) = l ++ [(fr, b)]) := by unfold Hid; rw [← HE.out, HS.out]; simp [spanEnd, hf]
        go_wp2_with (first | (at_builtin; refine wpList_append_own _ rfl _ _ 46 rfl w.heap.size 63 i0 (.agg #[.int .i64 0, .int .i64 0]) 2 16 Try.underlying46 hi0 hz0 hz1 hz2 rfl (by decide) _ _ _ rfl (hown.alloc _) ⟨wr.heap.size, 0, none⟩ 1 1 [.int .i64 fr, .int .i64 b] rfl rfl (World.news_of_block (cs := #[.int .i64 fr, .int .i64 b]) (t := 63) (fr := (0, 0)) (heap_alloc_new wr _)) (by simp [Value.oneCell']) (by simp only [maxLen]; omega) (by omega) (by simp; omega) ?_; intro v2 w2 hown2 hg2 _; have hbb := grown_below (hown.alloc _) hg2 (by simp; omega); clear hg2))
        go_ret
        exact ⟨_, rfl, by rw [HL.out]; simpa [pairsL_append] using hown2, (hb.alloc hb.size _).trans hbb⟩
      · have HL : Hid (spanEnd b (spanS F a b n) = l) := by unfold Hid; rw [← HE.out, HS.out]; simp [spanEnd, hf]
        go_wp2
        go_ret
        exact ⟨_, rfl, by rw [HL.out]; exact hown, hb⟩
end Go.Proofs.Ytcjjpkleipjibaa
