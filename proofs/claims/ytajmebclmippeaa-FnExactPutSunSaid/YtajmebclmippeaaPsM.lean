/-
  Contracts of the laws' helpers on suns: marks. Conditions: lengths up to 2^20.
-/
import Derived.Test.YtajmebclmippeaaSunT
namespace Go.Proofs.Ytajmebclmippeaa
open Go.RowKit

/-- The marks of a slice of suns. -/
def marks2 (k0 : Int) : Nat → Nat → Int := fun i j => k0 + 2 * i + j
set_option maxHeartbeats 800000 in
theorem markSunS_any (lo hi : Nat) (A : Option Addr) (n c : Nat) (k0 : Int) (F : Nat → Nat → Value) (w : World) (hn : n ≤ 1048576) (h0 : 0 ≤ k0) (h1 : k0 ≤ 1048576) (hh : hi ≤ w.heap.size) (h : Ow w lo hi A n 2 F) :
    Calls Try.prog 43 #[.slice A n c, .int .i64 k0] w fun e w' => e = .returned (.int .i64 (k0 + 2 * n)) ∧ Tch lo hi w w' ∧ Ow w' lo hi A n 2 (ints (marks2 k0)) := by
  go_enter Try.func43, Try.ntmps43
  go_wp2
  go_loopw [1, 5] (fun q i wr => ∃ k : Nat, k ≤ n ∧ i = .int .i64 k ∧ q = .int .i64 (k0 + 2 * k) ∧ Tch lo hi w wr ∧ ∃ G, Ow wr lo hi A n 2 G ∧ ∀ i j, i < k → j < 2 → G i j = ints (marks2 k0) i j) (fun _ i _ => n - (intOf i).toNat)
  case atStart => exact ⟨0, by omega, rfl, by simp, Tch.refl _ _ _, F, h, fun i j hi => absurd hi (by omega)⟩
  case round =>
    obtain ⟨k, hk, rfl, rfl, ht, G, hG, hGM⟩ := hrel
    by_cases hlt : k < n
    · obtain ⟨b, off, rfl, hlo, hhi, -⟩ := hG.sl (by omega)
      obtain ⟨-, -, ho1, ho2⟩ := hG.at_ hlt
      have ho10 := ho1 0 (by omega)
      have ho11 := ho1 1 (by omega)
      have ho20 := ho2 0 (by omega)
      have ho21 := ho2 1 (by omega)
      simp only [Nat.add_zero] at ho10 ho20
      clear ho1 ho2
      have hbs : b < wr.heap.size := by have := ht.size; omega
      go_wp2
      go_roundw
      case rel =>
        refine ⟨k + 1, by omega, by go_num, by go_num, (ht.setCell (by exact hlo) (by exact hhi) _).setCell (by exact hlo) (by exact hhi) _, _, (hG.set hlt (j0 := 0) (o := off + k * 2) (by omega) (by omega) _).set hlt (j0 := 1) (o := off + k * 2 + 1) (by omega) (by omega) _, fun i j hi hj => ?_⟩
        unfold upd
        by_cases hik : i = k
        · subst hik
          match j, hj with
          | 0, _ => simp [marks2]
          | 1, _ => simp [marks2]
        · simp [hik, hGM i j (by omega) hj]
      case measure => simp [intOf]; omega
    · obtain rfl : k = n := by omega
      go_wp2
      go_ret
      exact ⟨rfl, ht, hG.congr fun i j hi hj => hGM i j hi hj⟩

set_option maxHeartbeats 800000 in
theorem heldSunS_any (A : Option Addr) (n c : Nat) (k0 : Int) (w : World) (hn : n ≤ 1048576) (h0 : 0 ≤ k0) (h1 : k0 ≤ 1048576) (h : Rd w A n 2 (ints (marks2 k0))) :
    Calls Try.prog 44 #[.slice A n c, .int .i64 k0] w fun e w' => e = .returned (.int .i64 (k0 + 2 * n)) ∧ w = w' := by
  go_enter Try.func44, Try.ntmps44
  go_wp2
  go_loop [1, 5] (fun q i => ∃ k : Nat, k ≤ n ∧ i = .int .i64 k ∧ q = .int .i64 (k0 + 2 * k)) (fun _ i => n - (intOf i).toNat)
  case atStart => exact ⟨0, by omega, rfl, by simp⟩
  case round =>
    obtain ⟨k, hk, rfl, rfl⟩ := hrel
    by_cases hlt : k < n
    · obtain ⟨b, off, rfl, -, hbw, hc⟩ := h (by omega)
      have hc0 : w.cell? ⟨b, off + k * 2, none⟩ = some (.int .i64 (k0 + 2 * k)) := by simpa [ints, marks2] using hc k 0 hlt (by omega)
      have hc1 : w.cell? ⟨b, off + k * 2 + 1, none⟩ = some (.int .i64 (k0 + 2 * k + 1)) := by simpa [ints, marks2] using hc k 1 hlt (by omega)
      clear hc
      go_wp2
      go_round
      case rel => exact ⟨k + 1, by omega, by go_num, by go_num⟩
      case measure => simp [intOf]; omega
    · obtain rfl : k = n := by omega
      go_wp2
      go_ret
      exact ⟨rfl, rfl⟩
end Go.Proofs.Ytajmebclmippeaa
