/-
  Texts of heaps: HeapText of the program and of the reference. Conditions: at most 2^20 + 1 layers; the library's table as the text lays it.
-/
import Derived.Test.YtbmlglkdlialgaaDoorHtB
namespace Go.Proofs.YtbmlglkdlialgaaDoor
open Go.RowKit

def heapTextR (id g : Int) (n : Nat) (L : Nat → Nat → Int) (cov : Bool) : ByteArray × Bool := if heapB id g n L = true then (textS id g n L cov, true) else (⟨#[]⟩, false)
theorem ret_ps {a : ByteArray} {x : Bool} {p : ByteArray × Bool} (h : p = (a, x)) : Ending.returned (.tuple #[.string a, .bool x]) = .returned (.tuple #[.string p.1, .bool p.2]) := by rw [h]
theorem app_nil (P : ByteArray) : P ++ (⟨#[]⟩ : ByteArray) = P := by
  apply ByteArray.ext
  simp
theorem app_assoc (a b c : ByteArray) : a ++ b ++ c = a ++ (b ++ c) := ByteArray.append_assoc ..
theorem headS_size {i q : Nat} (hi : (decS i).size ≤ 21) (hq : (decS q).size ≤ 21) : (headS i q).size ≤ 47 := by
  simp only [headS, Int.toNat_natCast, ByteArray.size_append', ByteArray.size_mk']
  simp
  omega

set_option maxHeartbeats 2000000 in
theorem HeapText_any (id g : Int) (B : Option Addr) (n c T : Nat) (L : Nat → Nat → Int) (cov : Bool) (w : World) (hn : n ≤ 1048577) (hT : T ≤ w.heap.size) (ht : Tab T w) (h : Rd w B n 1 (ints L)) :
    Calls Tryd.prog 8 #[.agg #[.int .i64 id, .int .i64 g, .slice B n c, .bool cov]] w fun e w' => e = .returned (.tuple #[.string (heapTextR id g n L cov).1, .bool (heapTextR id g n L cov).2]) ∧ Below w.heap.size w w' := by
  have h' := Rd.alloc h (.cells #[.int .i64 id, .int .i64 g, .slice B n c, .bool cov] 28)
  have HT := hide ht
  clear ht
  cases h1 : heapB id g n L
  · have HR := hide (show heapTextR id g n L cov = (⟨#[]⟩, false) by simp [heapTextR, h1])
    go_enter Tryd.func8, Tryd.ntmps8
    go_wp2_with fail
    go_at_call 26
    refine (IsHeap_any _ _ _ _ _ _ _ _ hn h').mono ?_
    rintro _ w1 ⟨rfl, hb1⟩
    go_wp2
    go_ret2
    exact ⟨ret_ps HR.out, gr ((Below.refl _ _).alloc (Nat.le_refl _) _) hb1⟩
  obtain ⟨⟨i1, i2⟩, ⟨g1, g2⟩, hn12, hL⟩ := heapB_at h1
  have HL := hide (show ∀ i, i < n → 0 ≤ L i 0 ∧ L i 0 ≤ 1000 from fun i hi => by have := (hL i hi).1; omega)
  obtain ⟨i, rfl⟩ : ∃ i : Nat, id = i := ⟨id.toNat, by omega⟩
  obtain ⟨q, rfl⟩ : ∃ q : Nat, g = q := ⟨g.toNat, by omega⟩
  have hi := i2
  have hq := g2
  have HR := hide (show heapTextR i q n L cov = (textS i q n L cov, true) by simp [heapTextR, h1])
  have hz1 := decS_size (n := i) (by omega)
  have hz2 := decS_size (n := q) (by omega)
  clear hL i1 g1 i2 g2
  go_enter Tryd.func8, Tryd.ntmps8
  go_wp2_with fail
  go_at_call 26
  refine (IsHeap_any _ _ _ _ _ _ _ _ hn h').mono ?_
  rintro _ w1 ⟨rfl, hb1⟩
  have hz : w.heap.size < w1.heap.size := by have := hb1.size; simp at this; omega
  have a0 := (hb1.cell (p := ⟨w.heap.size, 0, none⟩) (by simp)).trans (show _ = some (Value.int .i64 i) by go_simp)
  have a1 := (hb1.cell (p := ⟨w.heap.size, 1, none⟩) (by simp)).trans (show _ = some (Value.int .i64 q) by go_simp)
  have a2 := (hb1.cell (p := ⟨w.heap.size, 2, none⟩) (by simp)).trans (show _ = some (Value.slice B n c) by go_simp)
  have a3 := (hb1.cell (p := ⟨w.heap.size, 3, none⟩) (by simp)).trans (show _ = some (Value.bool cov) by go_simp)
  have hbA : Below w.heap.size w w1 := gr ((Below.refl _ _).alloc (Nat.le_refl _) _) hb1
  replace h := Rd.below h hbA
  clear hb1 h'
  have hT1 := hide (HT.out.on (hbA.mono hT))
  have dT := fun x : After w1 => hide (hT1.out.on (x.h.mono (by have := hbA.size; omega)))
  go_wp2
  have d0 := fun x : After w1 => x.cell a0 hz
  have d1 := fun x : After w1 => x.cell a1 hz
  refine region_after (by kernel_rfl) (by kernel_rfl) ?_
  repeat (go_big_quiet_step ((first | (go_at_call 31; exact Calls.after (decimal_any _ T _ (by omega) (dT _).out)))))
  refine wpQuiet_nil ?_
  rintro _ ⟨x, rfl⟩
  have c2 := x.cell a2 hz
  have c3 := x.cell a3 hz
  have h2 := Rd.after h x
  have hT2 := (dT x).out
  have hsx := x.h.size
  have hz2' : w.heap.size < x.w.heap.size := by omega
  have hz3 := jS_size n HL.out
  clear a0 a1 a2 a3 d0 d1 dT
  have HT2 := hide hT2
  clear hT2
  rcases Nat.eq_zero_or_pos n with rfl | hp
  · go_wp2_with fail
    go_at_call 32
    refine (decimals_any _ _ _ T _ _ hn12 HL (by omega) HT2.out h2).mono ?_
    rintro _ w3 ⟨rfl, hb3⟩
    have b3 := (hb3.cell (p := ⟨w.heap.size, 3, none⟩) hz2').trans c3
    clear c3
    cases cov
    · go_wp2
      go_ret2
      exact ⟨ret_ps (by rw [HR.out]; (simp only [textS, headS, Int.toNat_natCast, ite_true] <;> rfl)), gr hbA (gr x.h hb3)⟩
    · go_wp2
      go_ret2
      exact ⟨ret_ps (by rw [HR.out]; (simp only [textS, headS, Int.toNat_natCast, ite_true] <;> rfl)), gr hbA (gr x.h hb3)⟩
  · have hp0 : ¬ n = 0 := by omega
    go_wp2_with fail
    go_at_call 32
    refine (decimals_any _ _ _ T _ _ hn12 HL (by omega) HT2.out h2).mono ?_
    rintro _ w3 ⟨rfl, hb3⟩
    have b3 := (hb3.cell (p := ⟨w.heap.size, 3, none⟩) hz2').trans c3
    clear c3
    cases cov
    · go_wp2
      go_ret2
      exact ⟨ret_ps (by rw [HR.out]; (simp only [textS, headS, Int.toNat_natCast, if_neg hp0] <;> rfl)), gr hbA (gr x.h hb3)⟩
    · go_wp2
      go_ret2
      exact ⟨ret_ps (by rw [HR.out]; (simp only [textS, headS, Int.toNat_natCast, if_neg hp0] <;> rfl)), gr hbA (gr x.h hb3)⟩

set_option maxHeartbeats 4000000 in
theorem spec_HeapText_any (id g : Int) (B : Option Addr) (n c : Nat) (L : Nat → Nat → Int) (cov : Bool) (w : World) (hn : n ≤ 1048577) (h : Rd w B n 1 (ints L)) :
    Calls Tryd.prog 6 #[.agg #[.int .i64 id, .int .i64 g, .slice B n c, .bool cov]] w fun e w' => e = .returned (.tuple #[.string (heapTextR id g n L cov).1, .bool (heapTextR id g n L cov).2]) ∧ Below w.heap.size w w' := by
  have h' := Rd.alloc h (.cells #[.int .i64 id, .int .i64 g, .slice B n c, .bool cov] 28)
  cases h1 : heapB id g n L
  · have HR := hide (show heapTextR id g n L cov = (⟨#[]⟩, false) by simp [heapTextR, h1])
    go_enter Tryd.func6, Tryd.ntmps6
    go_wp2_with fail
    go_at_call 28
    refine (l7One_any _ _ _ _ _ _ _ _ hn h').mono ?_
    rintro _ w1 ⟨rfl, hb1⟩
    go_wp2
    go_ret2
    exact ⟨ret_ps HR.out, gr ((Below.refl _ _).alloc (Nat.le_refl _) _) hb1⟩
  obtain ⟨⟨i1, i2⟩, ⟨g1, g2⟩, hn12, hL⟩ := heapB_at h1
  have HL := hide (show ∀ i, i < n → 0 ≤ L i 0 ∧ L i 0 ≤ 1000 from fun i hi => by have := (hL i hi).1; omega)
  obtain ⟨i, rfl⟩ : ∃ i : Nat, id = i := ⟨id.toNat, by omega⟩
  obtain ⟨q, rfl⟩ : ∃ q : Nat, g = q := ⟨g.toNat, by omega⟩
  have hi := i2
  have hq := g2
  have HR := hide (show heapTextR i q n L cov = (textS i q n L cov, true) by simp [heapTextR, h1])
  have hz1 := decS_size (n := i) (by omega)
  have hz2 := decS_size (n := q) (by omega)
  clear hL i1 g1 i2 g2
  go_enter Tryd.func6, Tryd.ntmps6
  go_wp2_with fail
  go_at_call 28
  refine (l7One_any _ _ _ _ _ _ _ _ hn h').mono ?_
  rintro _ w1 ⟨rfl, hb1⟩
  have hz : w.heap.size < w1.heap.size := by have := hb1.size; simp at this; omega
  have a0 := (hb1.cell (p := ⟨w.heap.size, 0, none⟩) (by simp)).trans (show _ = some (Value.int .i64 i) by go_simp)
  have a1 := (hb1.cell (p := ⟨w.heap.size, 1, none⟩) (by simp)).trans (show _ = some (Value.int .i64 q) by go_simp)
  have a2 := (hb1.cell (p := ⟨w.heap.size, 2, none⟩) (by simp)).trans (show _ = some (Value.slice B n c) by go_simp)
  have a3 := (hb1.cell (p := ⟨w.heap.size, 3, none⟩) (by simp)).trans (show _ = some (Value.bool cov) by go_simp)
  have hbA : Below w.heap.size w w1 := gr ((Below.refl _ _).alloc (Nat.le_refl _) _) hb1
  replace h := Rd.below h hbA
  clear hb1 h'
  go_wp2
  have d0 := fun x : After w1 => x.cell a0 hz
  have d1 := fun x : After w1 => x.cell a1 hz
  refine region_after (by kernel_rfl) (by kernel_rfl) ?_
  repeat (go_big_quiet_step ((first | (go_at_call 29; exact Calls.after (l1Num_any 1000001 _ _ (by omega) (by omega))))))
  refine wpQuiet_nil ?_
  rintro _ ⟨x, rfl⟩
  have c2 := x.cell a2 hz
  have c3 := x.cell a3 hz
  have h2 := Rd.after h x
  have hsx := x.h.size
  have hz2' : w.heap.size < x.w.heap.size := by omega
  clear a0 a1 a2 a3 d0 d1 h1 h hi hq
  have hzh := headS_size hz1 hz2
  cases hd : ((n : Int) == 0)
  · have hp0 := hide (show ¬ n = 0 by simp at hd; omega)
    go_wp2
    clear hd
    have hHL := HL
    go_loopw [4, 5] (fun s ii wr => ∃ k : Nat, k ≤ n ∧ ii = .int .i64 k ∧ s = .string ((headS i q) ++ jS L k) ∧ Below x.w.heap.size x.w wr) (fun _ ii _ => n - (intOf ii).toNat)
    case atStart => exact ⟨0, by omega, rfl, by rw [show jS L 0 = (⟨#[]⟩ : ByteArray) from rfl, app_nil]; rfl, Below.refl _ _⟩
    case round =>
      obtain ⟨k, hk, rfl, rfl, hb⟩ := hrel
      have e2 := (hb.cell (p := ⟨w.heap.size, 2, none⟩) hz2').trans c2
      have e3 := (hb.cell (p := ⟨w.heap.size, 3, none⟩) hz2').trans c3
      clear c2 c3
      have hzk := jS_size k (fun i hi => HL.out i (by omega))
      by_cases hlt : k < n
      · obtain ⟨b, off, rfl, -, hbw, hc⟩ := Rd.below h2 hb (by omega)
        have hc0 := hc k 0 hlt (by omega)
        simp only [Nat.add_zero, Nat.mul_one, ints] at hc0
        obtain ⟨l0, l1⟩ := HL.out k hlt
        obtain ⟨z, hz⟩ : ∃ z : Nat, L k 0 = z := ⟨(L k 0).toNat, by omega⟩
        have hzz := decS_size (n := z) (by omega)
        have HZ := hide (show (L k 0).toNat = z by omega)
        rw [hz] at hc0 l1
        clear hc hz l0 e3
        have hj : jS L (k + 1) = (if k = 0 then jS L k else jS L k ++ ⟨#[43]⟩) ++ decS z := by rw [← HZ.out]; rfl
        by_cases hk0 : k = 0
        · have h4 : ¬ 0 < k := by omega
          rw [if_pos hk0] at hj
          have HJ := hide hj
          clear hj hk0
          go_wp2_with fail
          go_at_call 29
          refine (l1Num_any (z + 1) z _ (by omega) (by omega)).mono ?_
          rintro _ w2 ⟨rfl, hb2⟩
          go_wp2
          go_roundw
          case rel => exact ⟨k + 1, by omega, by go_num, by rw [HJ.out, ← app_assoc], gr hb hb2⟩
          case measure => simp [intOf]; omega
        · rw [if_neg hk0] at hj
          have HJ := hide hj
          have hkp : 0 < k := by omega
          clear hj hk0
          go_wp2_with fail
          go_at_call 29
          refine (l1Num_any (z + 1) z _ (by omega) (by omega)).mono ?_
          rintro _ w2 ⟨rfl, hb2⟩
          go_wp2
          go_roundw
          case rel => exact ⟨k + 1, by omega, by go_num, by rw [HJ.out, ← app_assoc, ← app_assoc], gr hb hb2⟩
          case measure => simp [intOf]; omega
      · obtain rfl : k = n := by omega
        cases cov
        · go_wp2
          go_ret2
          exact ⟨ret_ps (by rw [HR.out]; (simp only [textS, if_neg hp0.out] <;> rfl)), gr hbA (gr x.h hb)⟩
        · go_wp2
          go_ret2
          exact ⟨ret_ps (by rw [HR.out]; (simp only [textS, if_neg hp0.out] <;> rfl)), gr hbA (gr x.h hb)⟩
  · have hp0 := hide (show n = 0 by simp at hd; omega)
    go_wp2
    clear hd
    have hHL := HL
    go_loopw [4, 5] (fun s ii wr => ∃ k : Nat, k ≤ n ∧ ii = .int .i64 k ∧ s = .string ((headS i q ++ ⟨#[101, 109, 112, 116, 121]⟩) ++ jS L k) ∧ Below x.w.heap.size x.w wr) (fun _ ii _ => n - (intOf ii).toNat)
    case atStart => exact ⟨0, by omega, rfl, by rw [show jS L 0 = (⟨#[]⟩ : ByteArray) from rfl, app_nil]; rfl, Below.refl _ _⟩
    case round =>
      obtain ⟨k, hk, rfl, rfl, hb⟩ := hrel
      have e2 := (hb.cell (p := ⟨w.heap.size, 2, none⟩) hz2').trans c2
      have e3 := (hb.cell (p := ⟨w.heap.size, 3, none⟩) hz2').trans c3
      clear c2 c3
      have hzk := jS_size k (fun i hi => HL.out i (by omega))
      by_cases hlt : k < n
      · obtain ⟨b, off, rfl, -, hbw, hc⟩ := Rd.below h2 hb (by omega)
        have hc0 := hc k 0 hlt (by omega)
        simp only [Nat.add_zero, Nat.mul_one, ints] at hc0
        obtain ⟨l0, l1⟩ := HL.out k hlt
        obtain ⟨z, hz⟩ : ∃ z : Nat, L k 0 = z := ⟨(L k 0).toNat, by omega⟩
        have hzz := decS_size (n := z) (by omega)
        have HZ := hide (show (L k 0).toNat = z by omega)
        rw [hz] at hc0 l1
        clear hc hz l0 e3
        have hj : jS L (k + 1) = (if k = 0 then jS L k else jS L k ++ ⟨#[43]⟩) ++ decS z := by rw [← HZ.out]; rfl
        by_cases hk0 : k = 0
        · have h4 : ¬ 0 < k := by omega
          rw [if_pos hk0] at hj
          have HJ := hide hj
          clear hj hk0
          go_wp2_with fail
          go_at_call 29
          refine (l1Num_any (z + 1) z _ (by omega) (by omega)).mono ?_
          rintro _ w2 ⟨rfl, hb2⟩
          go_wp2
          go_roundw
          case rel => exact ⟨k + 1, by omega, by go_num, by rw [HJ.out, ← app_assoc], gr hb hb2⟩
          case measure => simp [intOf]; omega
        · rw [if_neg hk0] at hj
          have HJ := hide hj
          have hkp : 0 < k := by omega
          clear hj hk0
          go_wp2_with fail
          go_at_call 29
          refine (l1Num_any (z + 1) z _ (by omega) (by omega)).mono ?_
          rintro _ w2 ⟨rfl, hb2⟩
          go_wp2
          go_roundw
          case rel => exact ⟨k + 1, by omega, by go_num, by rw [HJ.out, ← app_assoc, ← app_assoc], gr hb hb2⟩
          case measure => simp [intOf]; omega
      · obtain rfl : k = n := by omega
        cases cov
        · go_wp2
          go_ret2
          exact ⟨ret_ps (by rw [HR.out]; (simp only [textS, if_pos hp0.out] <;> rfl)), gr hbA (gr x.h hb)⟩
        · go_wp2
          go_ret2
          exact ⟨ret_ps (by rw [HR.out]; (simp only [textS, if_pos hp0.out] <;> rfl)), gr hbA (gr x.h hb)⟩
end Go.Proofs.YtbmlglkdlialgaaDoor
