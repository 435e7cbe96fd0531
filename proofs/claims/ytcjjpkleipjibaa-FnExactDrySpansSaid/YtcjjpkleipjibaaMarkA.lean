/-
  Contracts of the laws' helpers on pairs: comparison, marks, and whether the marks are held. Conditions: lengths up to 2^20.
-/
import Derived.Test.YtcjjpkleipjibaaChecked
import Derived.Test.YtcjjpkleipjibaaBase
import Derived.Test.YtcjjpkleipjibaaMath
namespace Go.Proofs.Ytcjjpkleipjibaa
open Go.RowKit

set_option maxHeartbeats 400000 in
theorem eqIntA2_yes (d g : Int) (w : World) :
    Calls Try.prog 72 #[.agg #[.int .i64 d, .int .i64 g], .agg #[.int .i64 d, .int .i64 g]] w fun e w' => e = .returned (.bool true) ∧ Below w.heap.size w w' := by
  go_enter Try.func72, Try.ntmps72
  go_wp2
  have hb0 : Below w.heap.size w ((w.alloc (.cells #[.int .i64 d, .int .i64 g] 63)).alloc (.cells #[.int .i64 d, .int .i64 g] 63)) := ((Below.refl _ _).alloc (Nat.le_refl _) _).alloc (by simp) _
  have hs : w.heap.size + 1 < Array.size (World.heap ((w.alloc (.cells #[.int .i64 d, .int .i64 g] 63)).alloc (.cells #[.int .i64 d, .int .i64 g] 63)))  := by simp
  have a0 : World.cell? ((w.alloc (.cells #[.int .i64 d, .int .i64 g] 63)).alloc (.cells #[.int .i64 d, .int .i64 g] 63)) ⟨w.heap.size, 0, none⟩ = some (.int .i64 d) := by go_simp
  have a1 : World.cell? ((w.alloc (.cells #[.int .i64 d, .int .i64 g] 63)).alloc (.cells #[.int .i64 d, .int .i64 g] 63)) ⟨w.heap.size, 1, none⟩ = some (.int .i64 g) := by go_simp
  have b0 : World.cell? ((w.alloc (.cells #[.int .i64 d, .int .i64 g] 63)).alloc (.cells #[.int .i64 d, .int .i64 g] 63)) ⟨w.heap.size + 1, 0, none⟩ = some (.int .i64 d) := by go_simp
  have b1 : World.cell? ((w.alloc (.cells #[.int .i64 d, .int .i64 g] 63)).alloc (.cells #[.int .i64 d, .int .i64 g] 63)) ⟨w.heap.size + 1, 1, none⟩ = some (.int .i64 g) := by go_simp
  generalize (w.alloc (.cells #[.int .i64 d, .int .i64 g] 63)).alloc (.cells #[.int .i64 d, .int .i64 g] 63) = W at hb0 hs a0 a1 b0 b1 ⊢
  go_loopw [5] (fun i wr => ∃ k : Nat, k ≤ 2 ∧ i = .int .i64 k ∧ Below W.heap.size W wr) (fun i _ => 2 - (intOf i).toNat)
  case atStart => exact ⟨0, by omega, rfl, Below.refl _ _⟩
  case round =>
    obtain ⟨k, hk, rfl, hb⟩ := hrel
    have c0 := (hb.cell (by simp; omega)).trans a0
    have c1 := (hb.cell (by simp; omega)).trans a1
    have c2 := (hb.cell (by simp; omega)).trans b0
    have c3 := (hb.cell (by simp; omega)).trans b1
    have hz := hb.size
    have d0 := fun x : After wr => x.cell c0 (by simp; omega)
    have d1 := fun x : After wr => x.cell c1 (by simp; omega)
    have d2 := fun x : After wr => x.cell c2 (by simp; omega)
    have d3 := fun x : After wr => x.cell c3 (by simp; omega)
    clear a0 a1 b0 b1 c0 c1 c2 c3
    by_cases hlt : k < 2
    · obtain rfl | rfl : k = 0 ∨ k = 1 := by omega
      · go_wp2
        refine region_after (by kernel_rfl) (by kernel_rfl) ?_
        repeat (go_big_quiet_step ((first | fail)))
        refine wpQuiet_nil ?_
        rintro _ ⟨x, rfl⟩
        go_wp2
        go_roundw
        case rel => exact ⟨1, by omega, by go_num, hb.trans (x.h.mono hb.size)⟩
        case measure => simp [intOf]
      · go_wp2
        refine region_after (by kernel_rfl) (by kernel_rfl) ?_
        repeat (go_big_quiet_step ((first | fail)))
        refine wpQuiet_nil ?_
        rintro _ ⟨x, rfl⟩
        go_wp2
        go_roundw
        case rel => exact ⟨2, by omega, by go_num, hb.trans (x.h.mono hb.size)⟩
        case measure => simp [intOf]
    · obtain rfl : k = 2 := by omega
      go_wp2
      go_ret
      exact ⟨rfl, hb0.trans (hb.mono (by omega))⟩

set_option maxHeartbeats 400000 in
theorem eqIntA2S_yes (A B : Option Addr) (n c c' : Nat) (F : Nat → Nat → Int) (w : World) (hn : n ≤ 1048576) (h : Rd w A n 2 (ints F)) (h' : Rd w B n 2 (ints F)) :
    Calls Try.prog 35 #[.slice A n c, .slice B n c'] w fun e w' => e = .returned (.bool true) ∧ Below w.heap.size w w' := by
  go_enter Try.func35, Try.ntmps35
  go_wp2
  go_loopw [5] (fun i wr => ∃ k : Nat, k ≤ n ∧ i = .int .i64 k ∧ Below w.heap.size w wr) (fun i _ => n - (intOf i).toNat)
  case atStart => exact ⟨0, by omega, rfl, Below.refl _ _⟩
  case round =>
    obtain ⟨k, hk, rfl, hb⟩ := hrel
    by_cases hlt : k < n
    · obtain ⟨b, off, rfl, -, hbw, hc⟩ := Rd.below h hb (by omega)
      obtain ⟨b', off', rfl, -, hbw', hc'⟩ := Rd.below h' hb (by omega)
      have hc0 := fun x : After wr => x.cell (hc k 0 hlt (by omega)) hbw
      have hc1 := fun x : After wr => x.cell (hc k 1 hlt (by omega)) hbw
      have hc0' := fun x : After wr => x.cell (hc' k 0 hlt (by omega)) hbw'
      have hc1' := fun x : After wr => x.cell (hc' k 1 hlt (by omega)) hbw'
      simp only [Nat.add_zero] at hc0 hc1 hc0' hc1'
      clear hc hc'
      go_wp2
      refine region_after (by kernel_rfl) (by kernel_rfl) ?_
      repeat (go_big_quiet_step ((first | (go_at_call 72; exact Calls.after (eqIntA2_yes _ _ _)))))
      refine wpQuiet_nil ?_
      rintro _ ⟨x, rfl⟩
      go_wp2
      go_roundw
      case rel => exact ⟨k + 1, by omega, by go_num, hb.trans (x.h.mono hb.size)⟩
      case measure => simp [intOf]; omega
    · obtain rfl : k = n := by omega
      go_wp2
      go_ret
      exact ⟨rfl, hb⟩

set_option maxHeartbeats 400000 in
theorem markShowerS_any (lo hi : Nat) (A : Option Addr) (n c : Nat) (k0 : Int) (F : Nat → Nat → Value) (w : World) (hn : n ≤ 1048576) (h0 : 0 ≤ k0) (h1 : k0 ≤ 1048576) (hh : hi ≤ w.heap.size) (h : Ow w lo hi A n 2 F) :
    Calls Try.prog 36 #[.slice A n c, .int .i64 k0] w fun e w' => e = .returned (.int .i64 (k0 + 2 * n)) ∧ Tch lo hi w w' := by
  go_enter Try.func36, Try.ntmps36
  go_wp2
  go_loopw [1, 5] (fun q i wr => ∃ k : Nat, k ≤ n ∧ i = .int .i64 k ∧ q = .int .i64 (k0 + 2 * k) ∧ Tch lo hi w wr ∧ ∃ G, Ow wr lo hi A n 2 G) (fun _ i _ => n - (intOf i).toNat)
  case atStart => exact ⟨0, by omega, rfl, by simp, Tch.refl _ _ _, F, h⟩
  case round =>
    obtain ⟨k, hk, rfl, rfl, ht, G, hG⟩ := hrel
    by_cases hlt : k < n
    · obtain ⟨b, off, rfl, hlo, hhi, -⟩ := hG.sl (by omega)
      obtain ⟨-, -, ho1, ho2⟩ := hG.at_ hlt
      have ho10 := ho1 0 (by omega)
      have ho11 := ho1 1 (by omega)
      have ho20 := ho2 0 (by omega)
      have ho21 := ho2 1 (by omega)
      simp only [Nat.add_zero] at ho10 ho20 ho11 ho21
      clear ho1 ho2
      have hbs : b < wr.heap.size := by have := ht.size; omega
      go_wp2
      go_roundw
      case rel =>
        exact ⟨k + 1, by omega, by go_num, by go_num, (ht.setCell (by exact hlo) (by exact hhi) _).setCell (by exact hlo) (by exact hhi) _, _, (hG.set hlt (j0 := 0) (o := off + k * 2) (by omega) (by omega) _).set hlt (j0 := 1) (o := off + k * 2 + 1) (by omega) (by omega) _⟩
      case measure => simp [intOf]; omega
    · obtain rfl : k = n := by omega
      go_wp2
      go_ret
      exact ⟨rfl, ht⟩

/-- The marks of a slice of pairs. -/
def marks (k0 : Int) : Nat → Nat → Int := fun i j => k0 + 2 * i + j

set_option maxHeartbeats 800000 in
theorem markIntA2S_any (lo hi : Nat) (A : Option Addr) (n c : Nat) (k0 : Int) (F : Nat → Nat → Value) (w : World) (hn : n ≤ 1048576) (h0 : 0 ≤ k0) (h1 : k0 ≤ 1048576) (hh : hi ≤ w.heap.size) (h : Ow w lo hi A n 2 F) :
    Calls Try.prog 37 #[.slice A n c, .int .i64 k0] w fun e w' => e = .returned (.int .i64 (k0 + 2 * n)) ∧ Tch lo hi w w' ∧ Ow w' lo hi A n 2 (ints (marks k0)) := by
  go_enter Try.func37, Try.ntmps37
  go_wp2
  go_loopw [1, 5, 6] (fun q i _ wr => ∃ k : Nat, k ≤ n ∧ i = .int .i64 k ∧ q = .int .i64 (k0 + 2 * k) ∧ Tch lo hi w wr ∧ ∃ G, Ow wr lo hi A n 2 G ∧ ∀ i j, i < k → j < 2 → G i j = ints (marks k0) i j) (fun _ i _ _ => n - (intOf i).toNat)
  case atStart => exact ⟨0, by omega, rfl, by simp, Tch.refl _ _ _, F, h, fun i j hi => absurd hi (by omega)⟩
  case round =>
    obtain ⟨k, hk, rfl, rfl, ht, G, hG, hGM⟩ := hrel
    by_cases hlt : k < n
    · obtain ⟨b, off, rfl, hlo, hhi, -⟩ := hG.sl (by omega)
      obtain ⟨wo, rfl⟩ : ∃ wo : World, wo = wr := ⟨_, rfl⟩
      go_wp2
      go_loopw [1, 6] (fun q j wr => ∃ m : Nat, m ≤ 2 ∧ j = .int .i64 m ∧ q = .int .i64 (k0 + 2 * k + m) ∧ Tch lo hi w wr ∧ ∃ G, Ow wr lo hi (some ⟨b, off, none⟩) n 2 G ∧ ∀ i j, (i < k ∨ i = k ∧ j < m) → j < 2 → G i j = ints (marks k0) i j) (fun _ j _ => 2 - (intOf j).toNat)
      case atStart => exact ⟨0, by omega, rfl, by simp, ht, G, hG, fun i j hi hj => hGM i j (by omega) hj⟩
      case round =>
        clear ht hG hGM
        obtain ⟨m, hm, rfl, rfl, ht, G', hG', hGM'⟩ := hrel
        by_cases hlt2 : m < 2
        · obtain ⟨-, -, ho1, ho2⟩ := hG'.at_ hlt
          have ho10 := ho1 m (by omega)
          have ho20 := ho2 m (by omega)
          clear ho1 ho2
          have hbs : b < wr.heap.size := by have := ht.size; omega
          go_wp2
          go_roundw
          case rel =>
            refine ⟨m + 1, by omega, by go_num, by go_num, ht.setCell (by exact hlo) (by exact hhi) _, _, hG'.set hlt (j0 := m) (o := off + k * 2 + m) (by omega) (by omega) _, fun i j hi hj => ?_⟩
            unfold upd
            by_cases hik : i = k ∧ j = m
            · rw [if_pos hik, hik.1, hik.2]; rfl
            · rw [if_neg hik]; exact hGM' i j (by omega) hj
          case measure => simp [intOf]; omega
        · obtain rfl : m = 2 := by omega
          go_wp2
          go_roundw
          case rel => exact ⟨k + 1, by omega, by go_num, by go_num, ht, G', hG', fun i j hi hj => hGM' i j (by omega) hj⟩
          case measure => simp [intOf]; omega
    · obtain rfl : k = n := by omega
      go_wp2
      go_ret
      exact ⟨rfl, ht, hG.congr fun i j hi hj => hGM i j hi hj⟩

set_option maxHeartbeats 800000 in
theorem heldIntA2S_any (A : Option Addr) (n c : Nat) (k0 : Int) (w : World) (hn : n ≤ 1048576) (h0 : 0 ≤ k0) (h1 : k0 ≤ 1048576) (h : Rd w A n 2 (ints (marks k0))) :
    Calls Try.prog 38 #[.slice A n c, .int .i64 k0] w fun e w' => e = .returned (.int .i64 (k0 + 2 * n)) ∧ w = w' := by
  go_enter Try.func38, Try.ntmps38
  go_wp2
  go_loop [1, 5, 6] (fun q i _ => ∃ k : Nat, k ≤ n ∧ i = .int .i64 k ∧ q = .int .i64 (k0 + 2 * k)) (fun _ i _ => n - (intOf i).toNat)
  case atStart => exact ⟨0, by omega, rfl, by simp⟩
  case round =>
    obtain ⟨k, hk, rfl, rfl⟩ := hrel
    by_cases hlt : k < n
    · obtain ⟨b, off, rfl, -, hbw, hc⟩ := h (by omega)
      have hc0 : w.cell? ⟨b, off + k * 2, none⟩ = some (.int .i64 (k0 + 2 * k)) := by simpa [ints, marks] using hc k 0 hlt (by omega)
      have hc1 : w.cell? ⟨b, off + k * 2 + 1, none⟩ = some (.int .i64 (k0 + 2 * k + 1)) := by simpa [ints, marks] using hc k 1 hlt (by omega)
      clear hc
      go_wp2
      go_loop [1, 6] (fun q j => ∃ m : Nat, m ≤ 2 ∧ j = .int .i64 m ∧ q = .int .i64 (k0 + 2 * k + m)) (fun _ j => 2 - (intOf j).toNat)
      case atStart => exact ⟨0, by omega, rfl, by simp⟩
      case round =>
        obtain ⟨m, hm, rfl, rfl⟩ := hrel
        by_cases hlt2 : m < 2
        · obtain rfl | rfl : m = 0 ∨ m = 1 := by omega
          · go_wp2
            go_round
            case rel => exact ⟨1, by omega, by go_num, by go_num⟩
            case measure => simp [intOf]
          · go_wp2
            go_round
            case rel => exact ⟨2, by omega, by go_num, by go_num⟩
            case measure => simp [intOf]
        · obtain rfl : m = 2 := by omega
          go_wp2
          go_round
          case rel => exact ⟨k + 1, by omega, by go_num, by go_num⟩
          case measure => simp [intOf]; omega
    · obtain rfl : k = n := by omega
      go_wp2
      go_ret
      exact ⟨rfl, rfl⟩
end Go.Proofs.Ytcjjpkleipjibaa
