/-
  Contracts of the laws' helpers on lists of numbers: sizes, copies, comparison, marks, and whether the marks are held. Conditions: lengths up to 2^20.
-/
import Derived.Test.YtbmlglkdlialgaaDoorChecked
import Derived.Test.YtbmlglkdlialgaaDoorMath
namespace Go.Proofs.YtbmlglkdlialgaaDoor
open Go.RowKit

theorem info_int : (Tryd.prog.info? 3).map (fun i => (i.zero, i.size, i.bytes)) = some (some (.int .i64 0), 1, 8) := by kernel_rfl
theorem mk_int (n : Nat) (hn : n ≤ 1048576) (u : World) : (Instr.makeSlice 22 (.int .i64 (n : Int)) (.int .i64 (n : Int))).run Tryd.prog u =
      .ok (.slice (some ⟨u.heap.size, 0, none⟩) n n) (u.alloc (.cells (madeCells #[.int .i64 0] (n * 1)) 3)) := by
  obtain ⟨i0, hi, hz0, hz1, hz2⟩ := info_parts info_int
  have h := run_make (P := Tryd.prog) u 22 3 i0 _ Tryd.underlying22 hi hz0 .i64 .i64 (n : Int) (n : Int) (by omega) (Int.le_refl _) (by rw [hz2]; omega) (by omega)
  simpa [hz1, Value.cells] using h
theorem szIntS_any (A : Option Addr) (n c : Nat) (l : Int) (w : World) (hn : n ≤ 9223372036854775807) (hl : 0 ≤ l) (hl2 : l ≤ 1048576) :
    Calls Tryd.prog 27 #[.slice A n c, .int .i64 l] w fun e w' => e = .returned (.int .i64 (szR l n)) ∧ w = w' := by
  go_enter Tryd.func27, Tryd.ntmps27
  go_wp2
  all_goals go_ret
  · exact ⟨ret_int (by unfold szR; rw [if_pos (by omega)]), rfl⟩
  · exact ⟨ret_int (by unfold szR; rw [if_neg (by omega)]), rfl⟩

set_option maxHeartbeats 400000 in
theorem toIntS_at (A : Option Addr) (n c : Nat) (F : Nat → Nat → Int) (w : World) (hn : n ≤ 1048576) (h : Rd w A n 1 (ints F)) :
    Calls Tryd.prog 30 #[.slice A n c] w fun e w' => e = .returned (.slice (some ⟨w.heap.size, 0, none⟩) n n) ∧ Ow w' w.heap.size (w.heap.size + 1) (some ⟨w.heap.size, 0, none⟩) n 1 (ints F) ∧ w.heap.size < w'.heap.size ∧ Below w.heap.size w w' := by
  have hmk := mk_int n hn
  rw [Nat.mul_one] at hmk
  go_enter Tryd.func30, Tryd.ntmps30
  go_wp2
  have ho : Ow (w.alloc (.cells (madeCells #[.int .i64 0] n) 3)) w.heap.size (w.heap.size + 1) (some ⟨w.heap.size, 0, none⟩) n 1 (fun _ j => #[Value.int .i64 0][j]!) := by
    have := Ow.made w #[.int .i64 0] n 1 3 rfl
    rwa [Nat.mul_one] at this
  have hb1 : Below w.heap.size w (w.alloc (.cells (madeCells #[.int .i64 0] n) 3)) := (Below.refl _ _).alloc (Nat.le_refl _) _
  have hs1 : w.heap.size + 1 ≤ (w.alloc (.cells (madeCells #[.int .i64 0] n) 3)).heap.size := by simp
  generalize w.alloc (.cells (madeCells #[.int .i64 0] n) 3) = w1 at ho hb1 hs1 ⊢
  go_loopw [4] (fun i wr => ∃ k : Nat, k ≤ n ∧ i = .int .i64 k ∧ Below w.heap.size w wr ∧ w.heap.size + 1 ≤ wr.heap.size ∧
    ∃ G, Ow wr w.heap.size (w.heap.size + 1) (some ⟨w.heap.size, 0, none⟩) n 1 G ∧ ∀ i j, i < k → j < 1 → G i j = ints F i j) (fun i _ => n - (intOf i).toNat)
  case atStart => exact ⟨0, by omega, rfl, hb1, hs1, _, ho, fun i j hi => absurd hi (by omega)⟩
  case round =>
    obtain ⟨k, hk, rfl, hb, hs, G, hG, hGF⟩ := hrel
    by_cases hlt : k < n
    · obtain ⟨b, off, rfl, -, hbw, hc⟩ := Rd.below h hb (by omega)
      have hc0 := hc k 0 hlt (by omega)
      obtain ⟨-, -, ho1, ho2⟩ := hG.at_ hlt
      have ho10 := ho1 0 (by omega)
      have ho20 := ho2 0 (by omega)
      simp only [Nat.add_zero, Nat.zero_add, Nat.mul_one] at hc0 ho10 ho20
      clear ho1 ho2 hc
      have hgs : w.heap.size < wr.heap.size := by omega
      go_wp2
      go_roundw
      case rel =>
        refine ⟨k + 1, by omega, by go_num, hb.setCell (p := ⟨w.heap.size, k, none⟩) (Nat.le_refl _) _, by simp; omega, _, hG.set hlt (j0 := 0) (o := k) (by omega) (by omega) _, fun i j hi hj => ?_⟩
        obtain rfl : j = 0 := by omega
        unfold upd
        by_cases hik : i = k
        · subst hik; simp
        · simp [hik, hGF i 0 (by omega) hj]
      case measure => simp [intOf]; omega
    · obtain rfl : k = n := by omega
      go_wp2
      go_ret
      exact ⟨rfl, hG.congr fun i j hi hj => hGF i j hi hj, by omega, hb⟩

theorem toIntS_any (A : Option Addr) (n c : Nat) (F : Nat → Nat → Int) (w : World) (hn : n ≤ 1048576) (h : Rd w A n 1 (ints F)) :
    Calls Tryd.prog 30 #[.slice A n c] w fun e w' => ∃ g, e = .returned (.slice (some ⟨g, 0, none⟩) n n) ∧ Ow w' w.heap.size w'.heap.size (some ⟨g, 0, none⟩) n 1 (ints F) ∧ Below w.heap.size w w' :=
  (toIntS_at A n c F w hn h).mono fun _ _ ⟨he, hO, hs, hb⟩ => ⟨_, he, hO.mono (Nat.le_refl _) hs, hb⟩

set_option maxHeartbeats 400000 in
theorem eqIntS_yes (A B : Option Addr) (n c c' : Nat) (F : Nat → Nat → Int) (w : World) (hn : n ≤ 1048576) (h : Rd w A n 1 (ints F)) (h' : Rd w B n 1 (ints F)) :
    Calls Tryd.prog 33 #[.slice A n c, .slice B n c'] w fun e w' => e = .returned (.bool true) ∧ Below w.heap.size w w' := by
  go_enter Tryd.func33, Tryd.ntmps33
  go_wp2
  go_loopw [5] (fun i wr => ∃ k : Nat, k ≤ n ∧ i = .int .i64 k ∧ Below w.heap.size w wr) (fun i _ => n - (intOf i).toNat)
  case atStart => exact ⟨0, by omega, rfl, Below.refl _ _⟩
  case round =>
    obtain ⟨k, hk, rfl, hb⟩ := hrel
    by_cases hlt : k < n
    · obtain ⟨b, off, rfl, -, hbw, hc⟩ := Rd.below h hb (by omega)
      obtain ⟨b', off', rfl, -, hbw', hc'⟩ := Rd.below h' hb (by omega)
      have hc0 := fun x : After wr => x.cell (hc k 0 hlt (by omega)) hbw
      have hc0' := fun x : After wr => x.cell (hc' k 0 hlt (by omega)) hbw'
      simp only [Nat.add_zero, Nat.mul_one] at hc0 hc0'
      clear hc hc'
      go_wp2
      refine region_after (by kernel_rfl) (by kernel_rfl) ?_
      repeat (go_big_quiet_step ((first | fail)))
      refine wpQuiet_nil ?_
      rintro _ ⟨x, rfl⟩
      go_wp2
      go_roundw
      case rel => exact ⟨k + 1, by omega, by go_num, hb.trans (x.h.mono hb.size)⟩
      case measure => simp [intOf]; omega
    · obtain rfl : k = n := by omega
      go_wp2
      go_ret
      exact ⟨rfl, hb⟩

/-- The marks of a slice of numbers. -/
def marks1 (k0 : Int) : Nat → Nat → Int := fun i _ => k0 + i
end Go.Proofs.YtbmlglkdlialgaaDoor
