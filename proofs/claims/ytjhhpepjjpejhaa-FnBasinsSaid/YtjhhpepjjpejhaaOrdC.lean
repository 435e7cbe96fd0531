/-
  The order of basins by depth, of the program: the library's stable sort at its order. Conditions: lengths up to 2^20.
-/
import Derived.Test.YtjhhpepjjpejhaaOrdB
import Derived.Test.YtjhhpepjjpejhaaInts
import Derived.Test.YtjhhpepjjpejhaaApp
namespace Go.Proofs.Ytjhhpepjjpejhaa
open Go.RowKit

set_option maxRecDepth 20000 in
set_option maxHeartbeats 2000000 in
theorem stable_any (lo hi lb g o cc : Nat) (A : Option Addr) (n c : Nat) (F : Nat → Nat → Int) (w : World) (HV : Hid (seriesB F n = true)) (h : Sl w 0 lo A n 3 (ints F)) (hc : w.cell? ⟨lb, 0, none⟩ = some (.slice A n c)) (hl : lb < lo) (hh : hi ≤ w.heap.size) (hlh : lo ≤ hi)
    (hO : Ow w lo hi (some ⟨g, o, none⟩) n 1 (ints fun p _ => p)) :
    Calls Try.prog 65 #[.slice (some ⟨g, o, none⟩) n cc, .int .i64 n, .func (.func 54) #[] #[.pointer (some ⟨lb, 0, none⟩)]] w fun e w' => e = .returned (.tuple #[]) ∧ Below lo w w' ∧ Ow w' lo hi (some ⟨g, o, none⟩) n 1 (ints (ordI F n)) := by
  have hn8 := (seriesB_at HV.out).1
  have hd1 : decide ((20 : Int) ≤ n) = false := by simp; omega
  have hd2 : decide ((20 : Int) < n) = false := by simp; omega
  go_enter Try.func65, Try.ntmps65
  go_wp2
  go_loop [7, 8] (fun a b => a = .int .i64 0 ∧ b = .int .i64 20) (fun _ _ => 0)
  case atStart => exact ⟨rfl, rfl⟩
  case round =>
    obtain ⟨rfl, rfl⟩ := hrel
    go_wp2_with fail
    go_at_call 68
    refine (insertion_any lo hi lb g o cc A n c F _ HV h hc hl hh hlh hO).mono ?_
    rintro _ w2 ⟨rfl, hb2, hO2⟩
    go_wp2
    go_loop [6] (fun a => a = .int .i64 20) (fun _ => 0)
    case atStart => exact rfl
    case round =>
      subst hrel
      go_wp2
      go_end0
      exact ⟨rfl, hb2, hO2⟩
theorem sort_any (lo hi lb g o cc : Nat) (A : Option Addr) (n c : Nat) (F : Nat → Nat → Int) (w : World) (HV : Hid (seriesB F n = true)) (h : Sl w 0 lo A n 3 (ints F)) (hc : w.cell? ⟨lb, 0, none⟩ = some (.slice A n c)) (hl : lb < lo) (hh : hi ≤ w.heap.size) (hlh : lo ≤ hi)
    (hO : Ow w lo hi (some ⟨g, o, none⟩) n 1 (ints fun p _ => p)) :
    Calls Try.prog 53 #[.slice (some ⟨g, o, none⟩) n cc, .func (.func 54) #[] #[.pointer (some ⟨lb, 0, none⟩)]] w fun e w' => e = .returned (.tuple #[]) ∧ Below lo w w' ∧ Ow w' lo hi (some ⟨g, o, none⟩) n 1 (ints (ordI F n)) := by
  go_enter Try.func53, Try.ntmps53
  go_wp2_with fail
  go_at_call 65
  refine (stable_any lo hi lb g o cc A n c F _ HV h hc hl hh hlh hO).mono ?_
  rintro _ w2 ⟨rfl, hb2, hO2⟩
  go_wp2
  go_end0
  exact ⟨rfl, hb2, hO2⟩

set_option maxRecDepth 20000 in
set_option maxHeartbeats 2000000 in
theorem DepthOrder_any (A : Option Addr) (n c : Nat) (F : Nat → Nat → Int) (w : World) (hn : n ≤ 1048576) (h : Rd w A n 3 (ints F)) :
    Calls Try.prog 23 #[.slice A n c] w (RowP w (fun A' c' => .tuple #[.slice A' (ordLen F n) c', .bool (seriesB F n)]) (ordLen F n) 1 (ints (ordI F n))) := by
  have hb0 : Below w.heap.size w (w.alloc (.cells #[.slice A n c] 25)) := (Below.refl _ _).alloc (Nat.le_refl _) _
  have h0 := Rd.below h hb0
  cases h1 : seriesB F n
  · rw [show ordLen F n = 0 by simp [ordLen, h1]]
    go_enter Try.func23, Try.ntmps23
    go_wp2_with fail
    go_at_call 12
    refine (IsSeries_any _ _ _ _ _ hn h0).mono ?_
    rintro _ w1 ⟨rfl, hb1⟩
    rw [h1]
    go_wp2
    refine bodyPost_ret (v := .tuple #[.slice none 0 0, .bool false]) (by simp only [results, Try.results23]; go_simp) rfl ⟨_, _, rfl, Ow.nil _ _ _ _ _ _, gr hb0 hb1⟩
  · rw [show ordLen F n = n by simp [ordLen, h1]]
    have HV := hide h1
    have hmk := mk_int n hn
    rw [Nat.mul_one] at hmk
    go_enter Try.func23, Try.ntmps23
    go_wp2_with fail
    go_at_call 12
    refine (IsSeries_any _ _ _ _ _ hn h0).mono ?_
    rintro _ w1 ⟨rfl, hb1⟩
    rw [h1]
    clear h1
    have hz : w.heap.size < w1.heap.size := by have := hb1.size; simp at this; omega
    have hcl : w1.cell? ⟨w.heap.size, 0, none⟩ = some (.slice A n c) := (hb1.cell (p := ⟨w.heap.size, 0, none⟩) (by simp)).trans (by rw [World.cell?_alloc_new]; rfl)
    have hbA := gr hb0 hb1
    have hA : Sl w1 0 w1.heap.size A n 3 (ints F) := Rd.below h0 hb1
    clear h0 hb0 hb1 h
    go_wp2
    have ho : Ow (w1.alloc (.cells (madeCells #[.int .i64 0] n) 3)) w1.heap.size (w1.heap.size + 1) (some ⟨w1.heap.size, 0, none⟩) n 1 (fun _ j => #[Value.int .i64 0][j]!) := by
      have := Ow.made w1 #[.int .i64 0] n 1 3 rfl
      rwa [Nat.mul_one] at this
    have hb2 : Below w1.heap.size w1 (w1.alloc (.cells (madeCells #[.int .i64 0] n) 3)) := (Below.refl _ _).alloc (Nat.le_refl _) _
    have hs2 : w1.heap.size + 1 ≤ (w1.alloc (.cells (madeCells #[.int .i64 0] n) 3)).heap.size := by simp
    generalize w1.alloc (.cells (madeCells #[.int .i64 0] n) 3) = W2 at ho hb2 hs2 ⊢
    go_loopw [14] (fun i wr => ∃ k : Nat, k ≤ n ∧ i = .int .i64 k ∧ Below w1.heap.size w1 wr ∧ w1.heap.size + 1 ≤ wr.heap.size ∧
      ∃ G, Ow wr w1.heap.size (w1.heap.size + 1) (some ⟨w1.heap.size, 0, none⟩) n 1 G ∧ ∀ i j, i < k → j < 1 → G i j = ints (fun p _ => p) i j) (fun i _ => n - (intOf i).toNat)
    case atStart => exact ⟨0, by omega, rfl, hb2, hs2, _, ho, fun i j hi => absurd hi (by omega)⟩
    case round =>
      obtain ⟨k, hk, rfl, hb, hs, G, hG, hGF⟩ := hrel
      by_cases hlt : k < n
      · obtain ⟨-, -, ho1, ho2⟩ := hG.at_ hlt
        have ho10 := ho1 0 (by omega)
        have ho20 := ho2 0 (by omega)
        simp only [Nat.add_zero, Nat.zero_add, Nat.mul_one] at ho10 ho20
        clear ho1 ho2
        have hgs : w1.heap.size < wr.heap.size := by omega
        go_wp2
        go_roundw
        case rel =>
          refine ⟨k + 1, by omega, by go_num, hb.setCell (p := ⟨w1.heap.size, k, none⟩) (Nat.le_refl _) _, by simp; omega, _, hG.set hlt (j0 := 0) (o := k) (by omega) (by omega) _, fun i j hi hj => ?_⟩
          obtain rfl : j = 0 := by omega
          unfold upd
          by_cases hik : i = k
          · subst hik; simp
          · simp [hik, hGF i 0 (by omega) (by omega)]
        case measure => simp [intOf]; omega
      · obtain rfl : k = n := by omega
        have hGo := hG.congr fun i j hi hj => hGF i j hi hj
        have hcl2 := (hb.cell (p := ⟨w.heap.size, 0, none⟩) hz).trans hcl
        have hA2 : Sl wr 0 w1.heap.size A k 3 (ints F) := hA.agr (Below.agr hb (Nat.le_refl _))
        clear hcl hA hG hGF ho hb2 hs2
        go_wp2_with fail
        go_at_call 53
        refine (sort_any w1.heap.size (w1.heap.size + 1) w.heap.size w1.heap.size 0 _ A k c F _ HV hA2 hcl2 hz hs (by omega) hGo).mono ?_
        rintro _ w4 ⟨rfl, hb4, hO4⟩
        go_wp2
        have hbz := hbA.trans ((hb.trans hb4).mono (by omega))
        refine bodyPost_ret (v := .tuple #[.slice (some ⟨w1.heap.size, 0, none⟩) k k, .bool true]) (by simp only [results, Try.results23]; go_simp) rfl ⟨_, _, rfl, hO4.mono (by omega) (by have := hb4.size; omega), hbz⟩
end Go.Proofs.Ytjhhpepjjpejhaa
