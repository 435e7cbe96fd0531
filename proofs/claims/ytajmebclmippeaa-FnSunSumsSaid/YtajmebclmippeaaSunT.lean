/-
  Contracts of the laws' helpers on suns: sizes, copies, comparison, marks. Conditions: lengths up to 2^20.
-/
import Derived.Test.YtajmebclmippeaaChecked
import Derived.Test.YtajmebclmippeaaMath
namespace Go.Proofs.Ytajmebclmippeaa
open Go.RowKit

theorem toSun_any (d g : Int) (w : World) :
    Calls Try.prog 41 #[.agg #[.int .i64 d, .int .i64 g]] w fun e w' => e = .returned (.agg #[.int .i64 d, .int .i64 g]) ∧ Below w.heap.size w w' := by
  go_enter Try.func41, Try.ntmps41
  go_wp2
  refine bodyPost_ret (v := .agg #[.int .i64 d, .int .i64 g]) (by simp [results, Try.results41, go_sem]) rfl ⟨rfl, ?_⟩
  repeat' (first | exact Below.refl _ _ | refine Below.alloc ?_ (by simp <;> omega) _)

theorem szSunS_any (A : Option Addr) (n c : Nat) (l : Int) (w : World) (hn : n ≤ 9223372036854775807) (hl : 0 ≤ l) (hl2 : l ≤ 1048576) :
    Calls Try.prog 14 #[.slice A n c, .int .i64 l] w fun e w' => e = .returned (.int .i64 (szR l n)) ∧ w = w' := by
  go_enter Try.func14, Try.ntmps14
  go_wp2
  all_goals go_ret
  · exact ⟨ret_int (by unfold szR; rw [if_pos (by omega)]), rfl⟩
  · exact ⟨ret_int (by unfold szR; rw [if_neg (by omega)]), rfl⟩

theorem info_sun : (Try.prog.info? 55).map (fun i => (i.zero, i.size, i.bytes)) = some (some (.agg #[.int .i64 0, .int .i64 0]), 2, 16) := by kernel_rfl
theorem mk_sun (n : Nat) (hn : n ≤ 1048576) (u : World) : (Instr.makeSlice 25 (.int .i64 (n : Int)) (.int .i64 (n : Int))).run Try.prog u =
      .ok (.slice (some ⟨u.heap.size, 0, none⟩) n n) (u.alloc (.cells (madeCells #[.int .i64 0, .int .i64 0] (n * 2)) 55)) := by
  obtain ⟨i0, hi, hz0, hz1, hz2⟩ := info_parts info_sun
  have h := run_make (P := Try.prog) u 25 55 i0 _ Try.underlying25 hi hz0 .i64 .i64 (n : Int) (n : Int) (by omega) (Int.le_refl _) (by rw [hz2]; omega) (by omega)
  simpa [hz1, Value.cells] using h

set_option maxHeartbeats 400000 in
theorem toSunS_any (A : Option Addr) (n c : Nat) (F : Nat → Nat → Int) (w : World) (hn : n ≤ 1048576) (h : Rd w A n 2 (ints F)) :
    Calls Try.prog 16 #[.slice A n c] w fun e w' => ∃ g, e = .returned (.slice (some ⟨g, 0, none⟩) n n) ∧ Ow w' w.heap.size w'.heap.size (some ⟨g, 0, none⟩) n 2 (ints F) ∧ Below w.heap.size w w' := by
  have hmk := mk_sun n hn
  go_enter Try.func16, Try.ntmps16
  go_wp2
  generalize hw1 : w.alloc (.cells (madeCells #[.int .i64 0, .int .i64 0] (n * 2)) 55) = w1
  have ho : Ow w1 w.heap.size (w.heap.size + 1) (some ⟨w.heap.size, 0, none⟩) n 2 (fun _ j => #[Value.int .i64 0, .int .i64 0][j]!) := hw1 ▸ Ow.made w #[.int .i64 0, .int .i64 0] n 2 _ rfl
  have hb1 : Below w.heap.size w w1 := hw1 ▸ (Below.refl _ _).alloc (Nat.le_refl _) _
  have hs1 : w.heap.size + 1 ≤ w1.heap.size := by rw [← hw1]; simp
  clear hw1
  go_loopw [4] (fun i wr => ∃ k : Nat, k ≤ n ∧ i = .int .i64 k ∧ Below w.heap.size w wr ∧ w.heap.size + 1 ≤ wr.heap.size ∧ 
    ∃ G, Ow wr w.heap.size (w.heap.size + 1) (some ⟨w.heap.size, 0, none⟩) n 2 G ∧ ∀ i j, i < k → j < 2 → G i j = ints F i j) (fun i _ => n - (intOf i).toNat)
  case atStart => exact ⟨0, by omega, rfl, hb1, hs1, _, ho, fun i j hi => absurd hi (by omega)⟩
  case round =>
    obtain ⟨k, hk, rfl, hb, hs, G, hG, hGF⟩ := hrel
    by_cases hlt : k < n
    · obtain ⟨b, off, rfl, -, hbw, hc⟩ := Rd.below h hb (by omega)
      have hc0 := hc k 0 hlt (by omega)
      have hc1 := hc k 1 hlt (by omega)
      obtain ⟨-, -, ho1, ho2⟩ := hG.at_ hlt
      have ho10 := ho1 0 (by omega)
      have ho11 := ho1 1 (by omega)
      have ho20 := ho2 0 (by omega)
      have ho21 := ho2 1 (by omega)
      simp only [Nat.add_zero, Nat.zero_add] at hc0 ho10 ho20 ho11 ho21
      clear ho1 ho2 hc
      have hgs : w.heap.size < wr.heap.size := by omega
      go_wp2_with (first | (go_at_call 41; refine (toSun_any _ _ _).mono ?_; rintro _ w2 ⟨rfl, hb_w2⟩; have hc_w2 := bcell hb_w2))
      have hG2 := hG.agr (Below.agr hb_w2 (by omega))
      have hG3 := (hG2.set hlt (j0 := 0) (o := k * 2) (by omega) (by omega) (.int .i64 (F k 0))).set hlt (j0 := 1) (o := k * 2 + 1) (by omega) (by omega) (.int .i64 (F k 1))
      have hb3 : Below w.heap.size w ((w2.setCell ⟨w.heap.size, k * 2, none⟩ (.int .i64 (F k 0))).setCell ⟨w.heap.size, k * 2 + 1, none⟩ (.int .i64 (F k 1))) :=
        ((hb.trans (hb_w2.mono (by omega))).setCell (p := ⟨w.heap.size, k * 2, none⟩) (Nat.le_refl _) _).setCell (p := ⟨w.heap.size, k * 2 + 1, none⟩) (Nat.le_refl _) _
      have hs3 := hb_w2.size
      go_roundw
      case rel =>
        refine ⟨k + 1, by omega, by go_num, hb3, by simp; omega, _, hG3, fun i j hi hj => ?_⟩
        unfold upd
        by_cases hik : i = k
        · subst hik
          match j, hj with
          | 0, _ => simp
          | 1, _ => simp
        · simp [hik, hGF i j (by omega) hj]
      case measure => simp [intOf]; omega
    · obtain rfl : k = n := by omega
      go_wp2
      go_ret
      exact ⟨w.heap.size, rfl, (hG.mono (Nat.le_refl _) hs).congr fun i j hi hj => hGF i j hi hj, hb⟩

theorem eqSun_yes (d g : Int) (w : World) :
    Calls Try.prog 53 #[.agg #[.int .i64 d, .int .i64 g], .agg #[.int .i64 d, .int .i64 g]] w fun e w' => e = .returned (.bool true) ∧ Below w.heap.size w w' := by
  go_enter Try.func53, Try.ntmps53
  go_wp2
  go_ret
  exact ⟨rfl, by repeat' (first | exact Below.refl _ _ | refine Below.alloc ?_ (by simp <;> omega) _)⟩

set_option maxHeartbeats 400000 in
theorem eqSunS_yes (A B : Option Addr) (n c c' : Nat) (F : Nat → Nat → Int) (w : World) (hn : n ≤ 1048576) (h : Rd w A n 2 (ints F)) (h' : Rd w B n 2 (ints F)) :
    Calls Try.prog 18 #[.slice A n c, .slice B n c'] w fun e w' => e = .returned (.bool true) ∧ Below w.heap.size w w' := by
  go_enter Try.func18, Try.ntmps18
  go_wp2
  go_loopw [5] (fun i wr => ∃ k : Nat, k ≤ n ∧ i = .int .i64 k ∧ Below w.heap.size w wr) (fun i _ => n - (intOf i).toNat)
  case atStart => exact ⟨0, by omega, rfl, Below.refl _ _⟩
  case round =>
    obtain ⟨k, hk, rfl, hb⟩ := hrel
    by_cases hlt : k < n
    · obtain ⟨b, off, rfl, -, hbw, hc⟩ := Rd.below h hb (by omega)
      obtain ⟨b', off', rfl, -, hbw', hc'⟩ := Rd.below h' hb (by omega)
      have hc0 := fun x : After wr => x.cell (hc k 0 hlt (by omega)) hbw
      have hc1 := fun x : After wr => x.cell (hc k 1 hlt (by omega)) hbw
      have hc0' := fun x : After wr => x.cell (hc' k 0 hlt (by omega)) hbw'
      have hc1' := fun x : After wr => x.cell (hc' k 1 hlt (by omega)) hbw'
      simp only [Nat.add_zero] at hc0 hc1 hc0' hc1'
      clear hc hc'
      go_wp2
      refine region_after (by kernel_rfl) (by kernel_rfl) ?_
      repeat (go_big_quiet_step ((first | (go_at_call 53; exact Calls.after (eqSun_yes _ _ _)))))
      refine wpQuiet_nil ?_
      rintro _ ⟨x, rfl⟩
      go_wp2
      go_roundw
      case rel => exact ⟨k + 1, by omega, by go_num, hb.trans (x.h.mono hb.size)⟩
      case measure => simp [intOf]; omega
    · obtain rfl : k = n := by omega
      go_wp2
      go_ret
      exact ⟨rfl, hb⟩

end Go.Proofs.Ytajmebclmippeaa
