/-
  Decimal numerals: of the program (strconv.Itoa) and of the reference. Conditions: numbers from 0 to a million; the library's table as the text lays it.
-/
import Derived.Test.YtbmlglkdlialgaaDoorHtShelf
import Derived.Test.YtbmlglkdlialgaaDoorTail
import Derived.Lib.AppendIntMem
import Derived.Lib.ItoaNum
import Derived.Lib.ItoaLen
import Derived.Laws.Concat
namespace Go.Proofs.YtbmlglkdlialgaaDoor
open Go.RowKit

/-- A numeral as a Go string. -/
def decS (n : Nat) : ByteArray := ⟨(Lib.decDigits n).toArray⟩
abbrev Tab (B : Nat) (w : World) : Prop := Lib.TabBelow Tryd.prog B w "internal/strconv.uint64pow10" .u64 Lib.pow10Tab
theorem decS_small {n : Nat} (h : n < 10) : decS n = ⟨#[UInt8.ofNat (48 + n)]⟩ := by
  unfold decS
  rw [Lib.decDigits_one h]
theorem decS_more {n : Nat} (h : ¬ n < 10) : decS n = decS (n / 10) ++ ⟨#[UInt8.ofNat (48 + n % 10)]⟩ := by
  unfold decS
  conv => lhs; rw [Lib.decDigits, dif_neg h]
  apply ByteArray.ext
  simp
theorem decS_size {n : Nat} (h : n ≤ 1000000) : (decS n).size ≤ 21 := by
  have := Lib.itoa_length_le (n : Int) (by omega) (by omega)
  rw [Lib.itoa_nonneg] at this
  simpa [decS, ByteArray.size] using this
theorem decimal_any (n B : Nat) (w : World) (hn : n ≤ 1000000) (ht : Tab B w) :
    Calls Tryd.prog 31 #[.int .i64 n] w fun e w' => e = .returned (.string (decS n)) ∧ Below w.heap.size w w' := by
  go_enter Tryd.func31, Tryd.ntmps31
  go_wp2_with fail
  go_at_call 62
  refine (Tryd.strconv_Itoa (n : Int) (by omega) (by omega) _ ht.here).mono ?_
  rintro _ w1 ⟨rfl, k, os, rfl⟩
  rw [Lib.itoa_nonneg]
  have hb := Lib.below_grow w.heap.size w (Nat.le_refl _) k os
  generalize Sort.grow (w.drewN k) os = w2 at hb ⊢
  go_wp2
  go_ret
  exact ⟨rfl, hb⟩
theorem l1Num_any : ∀ (k n : Nat) (w : World), n < k → n ≤ 1000000 →
    Calls Tryd.prog 29 #[.int .i64 n] w fun e w' => e = .returned (.string (decS n)) ∧ Below w.heap.size w w' := by
  intro k
  induction k with
  | zero => intro n w h; omega
  | succ k ih =>
    intro n w hk hm
    have hneg : decide ((n : Int) < 0) = false := decide_eq_false (by omega)
    by_cases hn : n < 10
    · have hd : decide ((n : Int) < 10) = true := decide_eq_true (by omega)
      rw [decS_small hn]
      rcases (show n = 0 ∨ n = 1 ∨ n = 2 ∨ n = 3 ∨ n = 4 ∨ n = 5 ∨ n = 6 ∨ n = 7 ∨ n = 8 ∨ n = 9 by omega) with rfl | rfl | rfl | rfl | rfl | rfl | rfl | rfl | rfl | rfl
      all_goals
        go_enter Tryd.func29, Tryd.ntmps29
        go_wp2
        go_ret
        exact ⟨rfl, Below.refl _ _⟩
    · have hd : decide ((n : Int) < 10) = false := decide_eq_false (by omega)
      have hS := decS_more hn
      obtain ⟨q, hq⟩ : ∃ q, n / 10 = q := ⟨_, rfl⟩
      have hqq : (n : Int) / 10 = (q : Int) := by omega
      have hsz := decS_size (n := q) (by omega)
      have hrec := fun w => ih q w (by omega) (by omega)
      rw [hq] at hS
      clear hq ih
      rcases (show n % 10 = 0 ∨ n % 10 = 1 ∨ n % 10 = 2 ∨ n % 10 = 3 ∨ n % 10 = 4 ∨ n % 10 = 5 ∨ n % 10 = 6 ∨ n % 10 = 7 ∨ n % 10 = 8 ∨ n % 10 = 9 by omega) with e | e | e | e | e | e | e | e | e | e
      · have hrr : (n : Int) % 10 = 0 := by omega
        rw [show n % 10 = 0 from e] at hS
        have HS := hide hS
        clear hS e
        go_enter Tryd.func29, Tryd.ntmps29
        go_wp2_with fail
        refine region_after (by kernel_rfl) (by kernel_rfl) ?_
        repeat (go_big_quiet_step ((first | (go_at_call 29; exact Calls.after (hrec _)))))
        refine wpQuiet_nil ?_
        rintro _ ⟨y, rfl⟩
        go_wp2
        go_ret
        exact ⟨by rw [HS.out]; rfl, y.h⟩
      · have hrr : (n : Int) % 10 = 1 := by omega
        rw [show n % 10 = 1 from e] at hS
        have HS := hide hS
        clear hS e
        go_enter Tryd.func29, Tryd.ntmps29
        go_wp2_with fail
        refine region_after (by kernel_rfl) (by kernel_rfl) ?_
        repeat (go_big_quiet_step ((first | (go_at_call 29; exact Calls.after (hrec _)))))
        refine wpQuiet_nil ?_
        rintro _ ⟨y, rfl⟩
        go_wp2
        go_ret
        exact ⟨by rw [HS.out]; rfl, y.h⟩
      · have hrr : (n : Int) % 10 = 2 := by omega
        rw [show n % 10 = 2 from e] at hS
        have HS := hide hS
        clear hS e
        go_enter Tryd.func29, Tryd.ntmps29
        go_wp2_with fail
        refine region_after (by kernel_rfl) (by kernel_rfl) ?_
        repeat (go_big_quiet_step ((first | (go_at_call 29; exact Calls.after (hrec _)))))
        refine wpQuiet_nil ?_
        rintro _ ⟨y, rfl⟩
        go_wp2
        go_ret
        exact ⟨by rw [HS.out]; rfl, y.h⟩
      · have hrr : (n : Int) % 10 = 3 := by omega
        rw [show n % 10 = 3 from e] at hS
        have HS := hide hS
        clear hS e
        go_enter Tryd.func29, Tryd.ntmps29
        go_wp2_with fail
        refine region_after (by kernel_rfl) (by kernel_rfl) ?_
        repeat (go_big_quiet_step ((first | (go_at_call 29; exact Calls.after (hrec _)))))
        refine wpQuiet_nil ?_
        rintro _ ⟨y, rfl⟩
        go_wp2
        go_ret
        exact ⟨by rw [HS.out]; rfl, y.h⟩
      · have hrr : (n : Int) % 10 = 4 := by omega
        rw [show n % 10 = 4 from e] at hS
        have HS := hide hS
        clear hS e
        go_enter Tryd.func29, Tryd.ntmps29
        go_wp2_with fail
        refine region_after (by kernel_rfl) (by kernel_rfl) ?_
        repeat (go_big_quiet_step ((first | (go_at_call 29; exact Calls.after (hrec _)))))
        refine wpQuiet_nil ?_
        rintro _ ⟨y, rfl⟩
        go_wp2
        go_ret
        exact ⟨by rw [HS.out]; rfl, y.h⟩
      · have hrr : (n : Int) % 10 = 5 := by omega
        rw [show n % 10 = 5 from e] at hS
        have HS := hide hS
        clear hS e
        go_enter Tryd.func29, Tryd.ntmps29
        go_wp2_with fail
        refine region_after (by kernel_rfl) (by kernel_rfl) ?_
        repeat (go_big_quiet_step ((first | (go_at_call 29; exact Calls.after (hrec _)))))
        refine wpQuiet_nil ?_
        rintro _ ⟨y, rfl⟩
        go_wp2
        go_ret
        exact ⟨by rw [HS.out]; rfl, y.h⟩
      · have hrr : (n : Int) % 10 = 6 := by omega
        rw [show n % 10 = 6 from e] at hS
        have HS := hide hS
        clear hS e
        go_enter Tryd.func29, Tryd.ntmps29
        go_wp2_with fail
        refine region_after (by kernel_rfl) (by kernel_rfl) ?_
        repeat (go_big_quiet_step ((first | (go_at_call 29; exact Calls.after (hrec _)))))
        refine wpQuiet_nil ?_
        rintro _ ⟨y, rfl⟩
        go_wp2
        go_ret
        exact ⟨by rw [HS.out]; rfl, y.h⟩
      · have hrr : (n : Int) % 10 = 7 := by omega
        rw [show n % 10 = 7 from e] at hS
        have HS := hide hS
        clear hS e
        go_enter Tryd.func29, Tryd.ntmps29
        go_wp2_with fail
        refine region_after (by kernel_rfl) (by kernel_rfl) ?_
        repeat (go_big_quiet_step ((first | (go_at_call 29; exact Calls.after (hrec _)))))
        refine wpQuiet_nil ?_
        rintro _ ⟨y, rfl⟩
        go_wp2
        go_ret
        exact ⟨by rw [HS.out]; rfl, y.h⟩
      · have hrr : (n : Int) % 10 = 8 := by omega
        rw [show n % 10 = 8 from e] at hS
        have HS := hide hS
        clear hS e
        go_enter Tryd.func29, Tryd.ntmps29
        go_wp2_with fail
        refine region_after (by kernel_rfl) (by kernel_rfl) ?_
        repeat (go_big_quiet_step ((first | (go_at_call 29; exact Calls.after (hrec _)))))
        refine wpQuiet_nil ?_
        rintro _ ⟨y, rfl⟩
        go_wp2
        go_ret
        exact ⟨by rw [HS.out]; rfl, y.h⟩
      · have hrr : (n : Int) % 10 = 9 := by omega
        rw [show n % 10 = 9 from e] at hS
        have HS := hide hS
        clear hS e
        go_enter Tryd.func29, Tryd.ntmps29
        go_wp2_with fail
        refine region_after (by kernel_rfl) (by kernel_rfl) ?_
        repeat (go_big_quiet_step ((first | (go_at_call 29; exact Calls.after (hrec _)))))
        refine wpQuiet_nil ?_
        rintro _ ⟨y, rfl⟩
        go_wp2
        go_ret
        exact ⟨by rw [HS.out]; rfl, y.h⟩
end Go.Proofs.YtbmlglkdlialgaaDoor
