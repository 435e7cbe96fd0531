/-
  Contracts of the laws' helpers on workers: sizes, copies, comparison. Conditions: lengths up to 2^20.
-/
import Derived.Test.YtmblkjnpibcmoaaChecked
import Derived.Test.YtmblkjnpibcmoaaWkM
namespace Go.Proofs.Ytmblkjnpibcmoaa
open Go.RowKit

abbrev WkG := (Nat → Nat → Int) × (Nat → Bool)
abbrev wkD (G : WkG) : Nat → Nat → Value := wkC G.1 G.2
theorem toWorker_any (a b d : Int) (c : Bool) (f : Int) (w : World) :
    Calls Try.prog 46 #[.agg #[.int .i64 a, .int .i64 b, .int .i64 d, .bool c, .int .i64 f]] w fun e w' => e = .returned (.agg #[.int .i64 a, .int .i64 b, .int .i64 d, .bool c, .int .i64 f]) ∧ Below w.heap.size w w' := by
  go_enter Try.func46, Try.ntmps46
  go_wp2
  refine bodyPost_ret (v := .agg #[.int .i64 a, .int .i64 b, .int .i64 d, .bool c, .int .i64 f]) (by simp [results, Try.results46, go_sem]) rfl ⟨rfl, ?_⟩
  repeat' (first | exact Below.refl _ _ | refine Below.alloc ?_ (by simp <;> omega) _)

theorem szWorkerS_any (A : Option Addr) (n c : Nat) (l : Int) (w : World) (hn : n ≤ 9223372036854775807) (hl : 0 ≤ l) (hl2 : l ≤ 1048576) :
    Calls Try.prog 6 #[.slice A n c, .int .i64 l] w fun e w' => e = .returned (.int .i64 (szR l n)) ∧ w = w' := by
  go_enter Try.func6, Try.ntmps6
  go_wp2
  all_goals go_ret
  · exact ⟨ret_int (by unfold szR; rw [if_pos (by omega)]), rfl⟩
  · exact ⟨ret_int (by unfold szR; rw [if_neg (by omega)]), rfl⟩

theorem info_worker : (Try.prog.info? 54).map (fun i => (i.zero, i.size, i.bytes)) = some (some (.agg #[.int .i64 0, .int .i64 0, .int .i64 0, .bool false, .int .i64 0]), 5, 40) := by kernel_rfl
theorem mk_worker (n : Nat) (hn : n ≤ 1048576) (u : World) : (Instr.makeSlice 26 (.int .i64 (n : Int)) (.int .i64 (n : Int))).run Try.prog u =
      .ok (.slice (some ⟨u.heap.size, 0, none⟩) n n) (u.alloc (.cells (madeCells #[.int .i64 0, .int .i64 0, .int .i64 0, .bool false, .int .i64 0] (n * 5)) 54)) := by
  obtain ⟨i0, hi, hz0, hz1, hz2⟩ := info_parts info_worker
  have h := run_make (P := Try.prog) u 26 54 i0 _ Try.underlying26 hi hz0 .i64 .i64 (n : Int) (n : Int) (by omega) (Int.le_refl _) (by rw [hz2]; omega) (by omega)
  simpa [hz1, Value.cells] using h

set_option maxHeartbeats 1000000 in
theorem toWorkerS_any (A : Option Addr) (n c : Nat) (G : WkG) (w : World) (hn : n ≤ 1048576) (h : Rd w A n 5 (wkD G)) :
    Calls Try.prog 8 #[.slice A n c] w fun e w' => ∃ g, e = .returned (.slice (some ⟨g, 0, none⟩) n n) ∧ Ow w' w.heap.size w'.heap.size (some ⟨g, 0, none⟩) n 5 (wkD G) ∧ Below w.heap.size w w' := by
  have hmk := mk_worker n hn
  go_enter Try.func8, Try.ntmps8
  go_wp2
  generalize hw1 : w.alloc (.cells (madeCells #[.int .i64 0, .int .i64 0, .int .i64 0, .bool false, .int .i64 0] (n * 5)) 54) = w1
  have ho : Ow w1 w.heap.size (w.heap.size + 1) (some ⟨w.heap.size, 0, none⟩) n 5 (fun _ j => #[Value.int .i64 0, .int .i64 0, .int .i64 0, .bool false, .int .i64 0][j]!) := hw1 ▸ Ow.made w #[.int .i64 0, .int .i64 0, .int .i64 0, .bool false, .int .i64 0] n 5 _ rfl
  have hb1 : Below w.heap.size w w1 := hw1 ▸ (Below.refl _ _).alloc (Nat.le_refl _) _
  have hs1 : w.heap.size + 1 ≤ w1.heap.size := by rw [← hw1]; simp
  clear hw1
  go_loopw [4] (fun i wr => ∃ k : Nat, k ≤ n ∧ i = .int .i64 k ∧ Below w.heap.size w wr ∧ w.heap.size + 1 ≤ wr.heap.size ∧ 
    ∃ K, Ow wr w.heap.size (w.heap.size + 1) (some ⟨w.heap.size, 0, none⟩) n 5 K ∧ ∀ i j, i < k → j < 5 → K i j = wkD G i j) (fun i _ => n - (intOf i).toNat)
  case atStart => exact ⟨0, by omega, rfl, hb1, hs1, _, ho, fun i j hi => absurd hi (by omega)⟩
  case round =>
    obtain ⟨k, hk, rfl, hb, hs, K, hG, hGF⟩ := hrel
    by_cases hlt : k < n
    · obtain ⟨b, off, rfl, -, hbw, hc⟩ := Rd.below h hb (by omega)
      have hc0 := hc k 0 hlt (by omega)
      have hc1 := hc k 1 hlt (by omega)
      have hc2 := hc k 2 hlt (by omega)
      have hc3 := hc k 3 hlt (by omega)
      have hc4 := hc k 4 hlt (by omega)
      obtain ⟨-, -, ho1, ho2⟩ := hG.at_ hlt
      have ho10 := ho1 0 (by omega)
      have ho11 := ho1 1 (by omega)
      have ho12 := ho1 2 (by omega)
      have ho13 := ho1 3 (by omega)
      have ho14 := ho1 4 (by omega)
      have ho20 := ho2 0 (by omega)
      have ho21 := ho2 1 (by omega)
      have ho22 := ho2 2 (by omega)
      have ho23 := ho2 3 (by omega)
      have ho24 := ho2 4 (by omega)
      simp only [Nat.add_zero, Nat.zero_add, wkC] at hc0 hc1 hc2 hc3 hc4 ho10 ho20 ho11 ho21 ho12 ho22 ho13 ho23 ho14 ho24
      clear ho1 ho2 hc
      have hgs : w.heap.size < wr.heap.size := by omega
      go_wp2_with (first | (go_at_call 46; refine (toWorker_any _ _ _ _ _ _).mono ?_; rintro _ w2 ⟨rfl, hb_w2⟩; have hc_w2 := bcell hb_w2))
      have hG2 := hG.agr (Below.agr hb_w2 (by omega))
      have hG3 := ((((hG2.set hlt (j0 := 0) (o := k * 5) (by omega) (by omega) (.int .i64 (G.1 k 0))).set hlt (j0 := 1) (o := k * 5 + 1) (by omega) (by omega) (.int .i64 (G.1 k 1))).set hlt (j0 := 2) (o := k * 5 + 2) (by omega) (by omega) (.int .i64 (G.1 k 2))).set hlt (j0 := 3) (o := k * 5 + 3) (by omega) (by omega) (.bool (G.2 k))).set hlt (j0 := 4) (o := k * 5 + 4) (by omega) (by omega) (.int .i64 (G.1 k 4))
      have hb3 := (((((hb.trans (hb_w2.mono (by omega))).setCell (p := ⟨w.heap.size, k * 5, none⟩) (Nat.le_refl _) (.int .i64 (G.1 k 0))).setCell (p := ⟨w.heap.size, k * 5 + 1, none⟩) (Nat.le_refl _) (.int .i64 (G.1 k 1))).setCell (p := ⟨w.heap.size, k * 5 + 2, none⟩) (Nat.le_refl _) (.int .i64 (G.1 k 2))).setCell (p := ⟨w.heap.size, k * 5 + 3, none⟩) (Nat.le_refl _) (.bool (G.2 k))).setCell (p := ⟨w.heap.size, k * 5 + 4, none⟩) (Nat.le_refl _) (.int .i64 (G.1 k 4))
      have hs3 := hb_w2.size
      go_roundw
      case rel =>
        refine ⟨k + 1, by omega, by go_num, hb3, by simp; omega, _, hG3, fun i j hi hj => ?_⟩
        unfold upd
        by_cases hik : i = k
        · subst hik
          match j, hj with
          | 0, _ => simp [wkC]
          | 1, _ => simp [wkC]
          | 2, _ => simp [wkC]
          | 3, _ => simp [wkC]
          | 4, _ => simp [wkC]
        · simp [hik, hGF i j (by omega) hj]
      case measure => simp [intOf]; omega
    · obtain rfl : k = n := by omega
      go_wp2
      go_ret
      exact ⟨w.heap.size, rfl, (hG.mono (Nat.le_refl _) hs).congr fun i j hi hj => hGF i j hi hj, hb⟩

theorem eqWorker_yes (a b d : Int) (c : Bool) (f : Int) (w : World) :
    Calls Try.prog 52 #[.agg #[.int .i64 a, .int .i64 b, .int .i64 d, .bool c, .int .i64 f], .agg #[.int .i64 a, .int .i64 b, .int .i64 d, .bool c, .int .i64 f]] w fun e w' => e = .returned (.bool true) ∧ Below w.heap.size w w' := by
  cases c
  all_goals
    go_enter Try.func52, Try.ntmps52
    go_wp2
    go_ret
    exact ⟨rfl, by repeat' (first | exact Below.refl _ _ | refine Below.alloc ?_ (by simp <;> omega) _)⟩

set_option maxHeartbeats 1000000 in
theorem eqWorkerS_yes (A B : Option Addr) (n c c' : Nat) (G : WkG) (w : World) (hn : n ≤ 1048576) (h : Rd w A n 5 (wkD G)) (h' : Rd w B n 5 (wkD G)) :
    Calls Try.prog 10 #[.slice A n c, .slice B n c'] w fun e w' => e = .returned (.bool true) ∧ Below w.heap.size w w' := by
  go_enter Try.func10, Try.ntmps10
  go_wp2
  go_loopw [5] (fun i wr => ∃ k : Nat, k ≤ n ∧ i = .int .i64 k ∧ Below w.heap.size w wr) (fun i _ => n - (intOf i).toNat)
  case atStart => exact ⟨0, by omega, rfl, Below.refl _ _⟩
  case round =>
    obtain ⟨k, hk, rfl, hb⟩ := hrel
    by_cases hlt : k < n
    · obtain ⟨b, off, rfl, -, hbw, hc⟩ := Rd.below h hb (by omega)
      obtain ⟨b', off', rfl, -, hbw', hc'⟩ := Rd.below h' hb (by omega)
      have q0 := fun x : After wr => x.cell (hc k 0 hlt (by omega)) hbw
      have q1 := fun x : After wr => x.cell (hc k 1 hlt (by omega)) hbw
      have q2 := fun x : After wr => x.cell (hc k 2 hlt (by omega)) hbw
      have q3 := fun x : After wr => x.cell (hc k 3 hlt (by omega)) hbw
      have q4 := fun x : After wr => x.cell (hc k 4 hlt (by omega)) hbw
      have r0 := fun x : After wr => x.cell (hc' k 0 hlt (by omega)) hbw'
      have r1 := fun x : After wr => x.cell (hc' k 1 hlt (by omega)) hbw'
      have r2 := fun x : After wr => x.cell (hc' k 2 hlt (by omega)) hbw'
      have r3 := fun x : After wr => x.cell (hc' k 3 hlt (by omega)) hbw'
      have r4 := fun x : After wr => x.cell (hc' k 4 hlt (by omega)) hbw'
      simp only [Nat.add_zero, wkC] at q0 q1 q2 q3 q4 r0 r1 r2 r3 r4
      clear hc hc'
      go_wp2
      refine region_after (by kernel_rfl) (by kernel_rfl) ?_
      repeat (go_big_quiet_step ((first | (go_at_call 52; exact Calls.after (eqWorker_yes _ _ _ _ _ _)))))
      refine wpQuiet_nil ?_
      rintro _ ⟨x, rfl⟩
      go_wp2
      go_roundw
      case rel => exact ⟨k + 1, by omega, by go_num, hb.trans (x.h.mono hb.size)⟩
      case measure => simp [intOf]; omega
    · obtain rfl : k = n := by omega
      go_wp2
      go_ret
      exact ⟨rfl, hb⟩
end Go.Proofs.Ytmblkjnpibcmoaa
