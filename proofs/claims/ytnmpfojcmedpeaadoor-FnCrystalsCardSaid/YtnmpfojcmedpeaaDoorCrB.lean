/-
  Contracts on liquors: whether valid, whether full, and the mass, of the program and of the reference. Conditions: lengths up to 2^20.
-/
import Derived.Test.YtnmpfojcmedpeaaDoorCrA
import Derived.Test.YtnmpfojcmedpeaaDoorInts
import Derived.Shelf.Abstract
namespace Go.Proofs.YtnmpfojcmedpeaaDoor
open Go.RowKit

theorem mul_bd {a b M N : Int} (h1 : 0 ≤ a) (h2 : a ≤ M) (h3 : 0 ≤ b) (h4 : b ≤ N) : 0 ≤ a * b ∧ a * b ≤ M * N :=
  ⟨Int.mul_nonneg h1 h3, Int.mul_le_mul h2 h4 h3 (by omega)⟩
/-- An index, or -1. -/
def idxV : Option Nat → Int
  | some i => i
  | none => -1
theorem firstB_all (p : Nat → Bool) (n : Nat) : decide (0 ≤ idxV (firstB (fun i => !(p i)) n)) = !(allB p n) := by
  cases h : firstB (fun i => !(p i)) n with
  | none =>
    have : allB p n = true := allB_of fun k hk => by simpa using firstB_none h k hk
    simp [idxV, this]
  | some i =>
    obtain ⟨h1, h2, -⟩ := firstB_some h
    have : allB p n = false := allB_false h1 (by simpa using h2)
    simp [idxV, this]
theorem liqP_any (n : Int) (w : World) :
    Calls Tryd.prog 65 #[.int .i64 n] w fun e w' => e = .returned (.bool (!(inB n 0 1000000))) ∧ w = w' := by
  cases h : inB n 0 1000000
  all_goals
    go_enter Tryd.func65, Tryd.ntmps65
    go_wp2_with (first | (go_at_call 63; refine (within_any _ _ _ _).mono ?_; rintro _ _ ⟨rfl, rfl⟩))
    go_ret
    exact ⟨rfl, rfl⟩
set_option maxHeartbeats 1000000 in
theorem liqIdx_any (A : Option Addr) (n c : Nat) (L : Nat → Nat → Int) (w : World) (hn : n ≤ 1048576) (h : Rd w A n 1 (ints L)) :
    Calls Tryd.prog 85 #[.slice A n c, .func (.func 65) #[] #[]] w fun e w' => e = .returned (.int .i64 (idxV (firstB (fun i => !(saltB L i)) n))) ∧ w = w' := by
  have eg : ∀ args w, (callFunc 65 args).run Tryd.prog w = .ok (.enter 65 args) w := enters_of Tryd.func65 (by kernel_rfl) rfl
  go_enter Tryd.func85, Tryd.ntmps85
  go_wp2
  go_loop [8] (fun i => ∃ k : Nat, k ≤ n ∧ i = .int .i64 k ∧ firstB (fun i => !(saltB L i)) k = none) (fun i => n - (intOf i).toNat)
  case atStart => exact ⟨0, by omega, rfl, rfl⟩
  case round =>
    obtain ⟨k, hk, rfl, hf⟩ := hrel
    have HF := hide hf
    clear hf
    by_cases hlt : k < n
    · obtain ⟨b, off, rfl, -, hbw, hc⟩ := h (by omega)
      have hc0 := hc k 0 hlt (by omega)
      simp only [Nat.add_zero, Nat.mul_one] at hc0
      clear hc
      cases hd : inB (L k 0) 0 1000000
      · go_wp2_with (go_at_fn 65; refine (liqP_any _ _).mono ?_; rintro _ _ ⟨rfl, rfl⟩)
        go_ret
        exact ⟨ret_int (by rw [firstB_at HF.out (by simp [saltB, hd]) hlt]; rfl), rfl⟩
      · go_wp2_with (go_at_fn 65; refine (liqP_any _ _).mono ?_; rintro _ _ ⟨rfl, rfl⟩)
        go_round
        case rel => exact ⟨k + 1, by omega, by go_num, firstB_succ_none HF.out (by simp only [saltB, hd]; rfl)⟩
        case measure => simp [intOf]; omega
    · go_wp2
      go_ret
      obtain rfl : k = n := by omega
      exact ⟨ret_int (by rw [HF.out]; rfl), rfl⟩
set_option maxHeartbeats 400000 in
theorem liqHas_any (A : Option Addr) (n c : Nat) (L : Nat → Nat → Int) (w : World) (hn : n ≤ 1048576) (h : Rd w A n 1 (ints L)) :
    Calls Tryd.prog 64 #[.slice A n c, .func (.func 65) #[] #[]] w fun e w' => e = .returned (.bool (!(allB (saltB L) n))) ∧ w = w' := by
  have H := hide (firstB_all (saltB L) n)
  go_enter Tryd.func64, Tryd.ntmps64
  go_wp2_with fail
  go_at_call 85
  refine (liqIdx_any _ _ _ _ _ hn h).mono ?_
  rintro _ _ ⟨rfl, rfl⟩
  generalize idxV (firstB (fun i => !(saltB L i)) n) = r at H ⊢
  go_wp2
  go_ret
  exact ⟨ret_bool H.out, rfl⟩

set_option maxHeartbeats 2000000 in
theorem IsLiquor_any (A : Option Addr) (n c : Nat) (S : Nat → ByteArray) (F : Nat → Nat → Int) (x : Int) (B : Option Addr) (m d : Nat) (L : Nat → Nat → Int) (w : World) (hn : n ≤ 1048576) (hm : m ≤ 1048576) (HS : Hid (∀ i, i < n → (S i).size ≤ 9223372036854775807)) (h : Rd w A n 3 (kdC S F)) (hL : Rd w B m 1 (ints L)) :
    Calls Tryd.prog 30 #[.slice A n c, .agg #[.int .i64 x, .slice B m d]] w fun e w' => e = .returned (.bool (liqB S F n x m L)) ∧ Below w.heap.size w w' := by
  have HR := hide (show liqB S F n x m L = (kindsB S F n && inB x 0 1000000 && decide (m = n) && allB (saltB L) m) from rfl)
  have hb0 : Below w.heap.size w (w.alloc (.cells #[.int .i64 x, .slice B m d] 27)) := (Below.refl _ _).alloc (Nat.le_refl _) _
  have hs0 : w.heap.size < (w.alloc (.cells #[.int .i64 x, .slice B m d] 27)).heap.size := by simp
  have e0 : World.cell? (w.alloc (.cells #[.int .i64 x, .slice B m d] 27)) ⟨w.heap.size, 0, none⟩ = some (.int .i64 x) := by rw [World.cell?_alloc_new]; rfl
  have e1 : World.cell? (w.alloc (.cells #[.int .i64 x, .slice B m d] 27)) ⟨w.heap.size, 1, none⟩ = some (.slice B m d) := by rw [World.cell?_alloc_new]; rfl
  have h := Rd.below h hb0
  have hL := Rd.below hL hb0
  go_enter Tryd.func30, Tryd.ntmps30
  go_wp2_with fail
  go_at_call 32
  refine (AreKinds_any _ _ _ _ _ _ hn HS h).mono ?_
  rintro _ w1 ⟨rfl, hb1⟩
  have c0 := (hb1.cell (by exact hs0)).trans e0
  have c1 := (hb1.cell (by exact hs0)).trans e1
  have hL1 := Rd.below hL hb1
  clear e0 e1
  cases h1 : kindsB S F n
  · go_wp2
    go_ret
    exact ⟨ret_bool (by rw [HR.out, h1]; rfl), gr hb0 hb1⟩
  cases h2 : inB x 0 1000000
  · go_wp2_with (first | (go_at_call 63; refine (within_any _ _ _ _).mono ?_; rintro _ _ ⟨rfl, rfl⟩))
    go_ret
    exact ⟨ret_bool (by rw [HR.out, h1, h2]; rfl), gr hb0 hb1⟩
  by_cases h3 : m = n
  · have h3' : ((m : Int) == (n : Int)) = true := by simp [h3]
    have h3n : (m == n) = true := by simp [h3]
    have H3 := hide h3
    clear h3
    go_wp2_with (first | (go_at_call 63; refine (within_any _ _ _ _).mono ?_; rintro _ _ ⟨rfl, rfl⟩) | (go_at_call 64; refine (liqHas_any _ _ _ _ _ hm hL1).mono ?_; rintro _ _ ⟨rfl, rfl⟩))
    go_ret
    exact ⟨ret_bool (by rw [HR.out, h1, h2]; simp [H3.out]), gr hb0 hb1⟩
  · have h3' : ((m : Int) == (n : Int)) = false := by simp; omega
    have h3n : (m == n) = false := by simp [h3]
    have H3 := hide h3
    clear h3
    go_wp2_with (first | (go_at_call 63; refine (within_any _ _ _ _).mono ?_; rintro _ _ ⟨rfl, rfl⟩))
    go_ret
    exact ⟨ret_bool (by rw [HR.out, h1, h2]; simp [H3.out]), gr hb0 hb1⟩

set_option maxHeartbeats 2000000 in
theorem l10Liquor_any (A : Option Addr) (n c : Nat) (S : Nat → ByteArray) (F : Nat → Nat → Int) (x : Int) (B : Option Addr) (m d : Nat) (L : Nat → Nat → Int) (w : World) (hn : n ≤ 1048576) (hm : m ≤ 1048576) (HS : Hid (∀ i, i < n → (S i).size ≤ 9223372036854775807)) (h : Rd w A n 3 (kdC S F)) (hL : Rd w B m 1 (ints L)) :
    Calls Tryd.prog 56 #[.slice A n c, .agg #[.int .i64 x, .slice B m d]] w fun e w' => e = .returned (.bool (liqB S F n x m L)) ∧ Below w.heap.size w w' := by
  have HR := hide (show liqB S F n x m L = (kindsB S F n && inB x 0 1000000 && decide (m = n) && allB (saltB L) m) from rfl)
  have hb0 : Below w.heap.size w (w.alloc (.cells #[.int .i64 x, .slice B m d] 27)) := (Below.refl _ _).alloc (Nat.le_refl _) _
  have hs0 : w.heap.size < (w.alloc (.cells #[.int .i64 x, .slice B m d] 27)).heap.size := by simp
  have e0 : World.cell? (w.alloc (.cells #[.int .i64 x, .slice B m d] 27)) ⟨w.heap.size, 0, none⟩ = some (.int .i64 x) := by rw [World.cell?_alloc_new]; rfl
  have e1 : World.cell? (w.alloc (.cells #[.int .i64 x, .slice B m d] 27)) ⟨w.heap.size, 1, none⟩ = some (.slice B m d) := by rw [World.cell?_alloc_new]; rfl
  have h := Rd.below h hb0
  have hL := Rd.below hL hb0
  go_enter Tryd.func56, Tryd.ntmps56
  go_wp2
  generalize w.alloc (.cells #[.int .i64 x, .slice B m d] 27) = W at hb0 hs0 e0 e1 h hL ⊢
  go_loop [5] (fun i => ∃ k : Nat, k ≤ m ∧ i = .int .i64 k ∧ allB (saltB L) k = true) (fun i => m - (intOf i).toNat)
  case atStart => exact ⟨0, by omega, rfl, rfl⟩
  case round =>
    obtain ⟨k, hk, rfl, hgood⟩ := hrel
    have HG := hide hgood
    clear hgood
    by_cases hlt : k < m
    · obtain ⟨b, off, rfl, -, hbw, hc⟩ := hL (by omega)
      have hc0 := hc k 0 hlt (by omega)
      simp only [Nat.add_zero, Nat.mul_one] at hc0
      clear hc
      cases h1 : inB (L k 0) 0 1000000
      · go_wp2_with (first | (go_at_call 73; refine (l1In_any _ _ _ _).mono ?_; rintro _ _ ⟨rfl, rfl⟩))
        go_ret
        exact ⟨ret_bool (by rw [HR.out, allB_false (p := saltB L) hlt h1]; simp), hb0⟩
      · go_wp2_with (first | (go_at_call 73; refine (l1In_any _ _ _ _).mono ?_; rintro _ _ ⟨rfl, rfl⟩))
        go_round
        case rel => exact ⟨k + 1, by omega, by go_num, allB_succ HG.out h1⟩
        case measure => simp [intOf]; omega
    · obtain rfl : k = m := by omega
      go_wp2_with fail
      go_at_call 67
      refine (l10Good_any _ _ _ _ _ _ hn HS h).mono ?_
      rintro _ w1 ⟨rfl, hb1⟩
      have c0 := (hb1.cell (by exact hs0)).trans e0
      have c1 := (hb1.cell (by exact hs0)).trans e1
      clear e0 e1
      cases h1 : kindsB S F n
      · go_wp2
        go_ret
        exact ⟨ret_bool (by rw [HR.out, h1]; rfl), gr hb0 hb1⟩
      cases h2 : inB x 0 1000000
      · go_wp2_with (first | (go_at_call 73; refine (l1In_any _ _ _ _).mono ?_; rintro _ _ ⟨rfl, rfl⟩))
        go_ret
        exact ⟨ret_bool (by rw [HR.out, h1, h2]; rfl), gr hb0 hb1⟩
      by_cases h3 : k = n
      · have h3' : ((k : Int) == (n : Int)) = true := by simp [h3]
        have h3n : (k == n) = true := by simp [h3]
        have H3 := hide h3
        clear h3
        go_wp2_with (first | (go_at_call 73; refine (l1In_any _ _ _ _).mono ?_; rintro _ _ ⟨rfl, rfl⟩))
        go_ret
        exact ⟨ret_bool (by rw [HR.out, h1, h2, HG.out]; simp [H3.out]), gr hb0 hb1⟩
      · have h3' : ((k : Int) == (n : Int)) = false := by simp; omega
        have h3n : (k == n) = false := by simp [h3]
        have H3 := hide h3
        clear h3
        go_wp2_with (first | (go_at_call 73; refine (l1In_any _ _ _ _).mono ?_; rintro _ _ ⟨rfl, rfl⟩))
        go_ret
        exact ⟨ret_bool (by rw [HR.out, h1, h2, HG.out]; simp [H3.out]), gr hb0 hb1⟩
theorem spec_IsLiquor_any (A : Option Addr) (n c : Nat) (S : Nat → ByteArray) (F : Nat → Nat → Int) (x : Int) (B : Option Addr) (m d : Nat) (L : Nat → Nat → Int) (w : World) (hn : n ≤ 1048576) (hm : m ≤ 1048576) (HS : Hid (∀ i, i < n → (S i).size ≤ 9223372036854775807)) (h : Rd w A n 3 (kdC S F)) (hL : Rd w B m 1 (ints L)) :
    Calls Tryd.prog 31 #[.slice A n c, .agg #[.int .i64 x, .slice B m d]] w fun e w' => e = .returned (.bool (liqB S F n x m L)) ∧ Below w.heap.size w w' := by
  have hb0 : Below w.heap.size w (w.alloc (.cells #[.int .i64 x, .slice B m d] 27)) := (Below.refl _ _).alloc (Nat.le_refl _) _
  have hs0 : w.heap.size < (w.alloc (.cells #[.int .i64 x, .slice B m d] 27)).heap.size := by simp
  have e0 : World.cell? (w.alloc (.cells #[.int .i64 x, .slice B m d] 27)) ⟨w.heap.size, 0, none⟩ = some (.int .i64 x) := by rw [World.cell?_alloc_new]; rfl
  have e1 : World.cell? (w.alloc (.cells #[.int .i64 x, .slice B m d] 27)) ⟨w.heap.size, 1, none⟩ = some (.slice B m d) := by rw [World.cell?_alloc_new]; rfl
  have h := Rd.below h hb0
  have hL := Rd.below hL hb0
  go_enter Tryd.func31, Tryd.ntmps31
  go_wp2_with fail
  go_at_call 56
  refine (l10Liquor_any _ _ _ _ _ _ _ _ _ _ _ hn hm HS h hL).mono ?_
  rintro _ w1 ⟨rfl, hb1⟩
  go_wp2
  go_ret
  exact ⟨rfl, gr hb0 hb1⟩
end Go.Proofs.YtnmpfojcmedpeaaDoor
