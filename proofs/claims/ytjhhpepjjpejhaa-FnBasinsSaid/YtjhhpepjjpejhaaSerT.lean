/-
  Contracts of the laws' helpers on basins: sizes, copies, comparison, marks. Conditions: lengths up to 2^20.
-/
import Derived.Test.YtjhhpepjjpejhaaChecked
import Derived.Test.YtjhhpepjjpejhaaMath
import Derived.Test.YtjhhpepjjpejhaaBrine
namespace Go.Proofs.Ytjhhpepjjpejhaa
open Go.RowKit

set_option maxHeartbeats 1000000 in
theorem toBasin_any (d g k : Int) (w : World) :
    Calls Try.prog 36 #[.agg #[.int .i64 d, .int .i64 g, .int .i64 k]] w fun e w' => e = .returned (.agg #[.int .i64 d, .int .i64 g, .int .i64 k]) ∧ Below w.heap.size w w' := by
  go_enter Try.func36, Try.ntmps36
  go_wp2_with fail
  go_at_call 61
  refine (toBrine_any _ _ _).mono ?_
  rintro _ w1 ⟨rfl, hb1⟩
  have hs1 : w.heap.size + 2 < w1.heap.size := by have := hb1.size; simp at this; omega
  have hb0 : Below w.heap.size w w1 := by
    refine Below.trans ?_ (hb1.mono (by simp; omega))
    (repeat' (first | exact Below.refl _ _ | assumption | refine Below.drew ?_ | refine Below.alloc ?_ (by first | omega | exact Below.size (by assumption) | (simp; done) | (simp; omega)) _ | refine Below.setCell ?_ (by first | omega | exact Below.size (by assumption) | (simp; done) | (simp; omega)) _))
  have c10 := (hb1.cell (p := ⟨w.heap.size + 1, 0, none⟩) (by simp)).trans (show _ = some (Value.int .i64 0) by go_simp)
  have f10 := (hb1.frozen (p := ⟨w.heap.size + 1, 0, none⟩) (by simp)).trans (show _ = false by go_simp)
  have c11 := (hb1.cell (p := ⟨w.heap.size + 1, 1, none⟩) (by simp)).trans (show _ = some (Value.int .i64 0) by go_simp)
  have f11 := (hb1.frozen (p := ⟨w.heap.size + 1, 1, none⟩) (by simp)).trans (show _ = false by go_simp)
  have c12 := (hb1.cell (p := ⟨w.heap.size + 1, 2, none⟩) (by simp)).trans (show _ = some (Value.int .i64 0) by go_simp)
  have f12 := (hb1.frozen (p := ⟨w.heap.size + 1, 2, none⟩) (by simp)).trans (show _ = false by go_simp)
  have c20 := (hb1.cell (p := ⟨w.heap.size + 1 + 1, 0, none⟩) (by simp)).trans (show _ = some (Value.int .i64 d) by go_simp)
  have f20 := (hb1.frozen (p := ⟨w.heap.size + 1 + 1, 0, none⟩) (by simp)).trans (show _ = false by go_simp)
  have c21 := (hb1.cell (p := ⟨w.heap.size + 1 + 1, 1, none⟩) (by simp)).trans (show _ = some (Value.int .i64 0) by go_simp)
  have f21 := (hb1.frozen (p := ⟨w.heap.size + 1 + 1, 1, none⟩) (by simp)).trans (show _ = false by go_simp)
  have c22 := (hb1.cell (p := ⟨w.heap.size + 1 + 1, 2, none⟩) (by simp)).trans (show _ = some (Value.int .i64 0) by go_simp)
  have f22 := (hb1.frozen (p := ⟨w.heap.size + 1 + 1, 2, none⟩) (by simp)).trans (show _ = false by go_simp)
  clear hb1
  go_wp2
  refine bodyPost_ret (v := .agg #[.int .i64 d, .int .i64 g, .int .i64 k]) (by simp only [results, Try.results36]; go_simp) rfl ⟨rfl, ?_⟩
  (repeat' (first | exact Below.refl _ _ | assumption | refine Below.drew ?_ | refine Below.alloc ?_ (by first | omega | exact Below.size (by assumption) | (simp; done) | (simp; omega)) _ | refine Below.setCell ?_ (by first | omega | exact Below.size (by assumption) | (simp; done) | (simp; omega)) _))

theorem szBasinS_any (A : Option Addr) (n c : Nat) (l : Int) (w : World) (hn : n ≤ 9223372036854775807) (hl : 0 ≤ l) (hl2 : l ≤ 1048576) :
    Calls Try.prog 9 #[.slice A n c, .int .i64 l] w fun e w' => e = .returned (.int .i64 (szR l n)) ∧ w = w' := by
  go_enter Try.func9, Try.ntmps9
  go_wp2
  all_goals go_ret
  · exact ⟨ret_int (by unfold szR; rw [if_pos (by omega)]), rfl⟩
  · exact ⟨ret_int (by unfold szR; rw [if_neg (by omega)]), rfl⟩

theorem info_basin : (Try.prog.info? 49).map (fun i => (i.zero, i.size, i.bytes)) = some (some (.agg #[.int .i64 0, .int .i64 0, .int .i64 0]), 3, 24) := by kernel_rfl
theorem mk_basin (n : Nat) (hn : n ≤ 1048576) (u : World) : (Instr.makeSlice 25 (.int .i64 (n : Int)) (.int .i64 (n : Int))).run Try.prog u =
      .ok (.slice (some ⟨u.heap.size, 0, none⟩) n n) (u.alloc (.cells (madeCells #[.int .i64 0, .int .i64 0, .int .i64 0] (n * 3)) 49)) := by
  obtain ⟨i0, hi, hz0, hz1, hz2⟩ := info_parts info_basin
  have h := run_make (P := Try.prog) u 25 49 i0 _ Try.underlying25 hi hz0 .i64 .i64 (n : Int) (n : Int) (by omega) (Int.le_refl _) (by rw [hz2]; omega) (by omega)
  simpa [hz1, Value.cells] using h

set_option maxHeartbeats 400000 in
theorem toBasinS_any (A : Option Addr) (n c : Nat) (F : Nat → Nat → Int) (w : World) (hn : n ≤ 1048576) (h : Rd w A n 3 (ints F)) :
    Calls Try.prog 11 #[.slice A n c] w fun e w' => ∃ g, e = .returned (.slice (some ⟨g, 0, none⟩) n n) ∧ Ow w' w.heap.size w'.heap.size (some ⟨g, 0, none⟩) n 3 (ints F) ∧ Below w.heap.size w w' := by
  have hmk := mk_basin n hn
  go_enter Try.func11, Try.ntmps11
  go_wp2
  generalize hw1 : w.alloc (.cells (madeCells #[.int .i64 0, .int .i64 0, .int .i64 0] (n * 3)) 49) = w1
  have ho : Ow w1 w.heap.size (w.heap.size + 1) (some ⟨w.heap.size, 0, none⟩) n 3 (fun _ j => #[Value.int .i64 0, .int .i64 0, .int .i64 0][j]!) := hw1 ▸ Ow.made w #[.int .i64 0, .int .i64 0, .int .i64 0] n 3 _ rfl
  have hb1 : Below w.heap.size w w1 := hw1 ▸ (Below.refl _ _).alloc (Nat.le_refl _) _
  have hs1 : w.heap.size + 1 ≤ w1.heap.size := by rw [← hw1]; simp
  clear hw1
  go_loopw [4] (fun i wr => ∃ k : Nat, k ≤ n ∧ i = .int .i64 k ∧ Below w.heap.size w wr ∧ w.heap.size + 1 ≤ wr.heap.size ∧ 
    ∃ G, Ow wr w.heap.size (w.heap.size + 1) (some ⟨w.heap.size, 0, none⟩) n 3 G ∧ ∀ i j, i < k → j < 3 → G i j = ints F i j) (fun i _ => n - (intOf i).toNat)
  case atStart => exact ⟨0, by omega, rfl, hb1, hs1, _, ho, fun i j hi => absurd hi (by omega)⟩
  case round =>
    obtain ⟨k, hk, rfl, hb, hs, G, hG, hGF⟩ := hrel
    by_cases hlt : k < n
    · obtain ⟨b, off, rfl, -, hbw, hc⟩ := Rd.below h hb (by omega)
      have hc0 := hc k 0 hlt (by omega)
      have hc1 := hc k 1 hlt (by omega)
      have hc2 := hc k 2 hlt (by omega)
      obtain ⟨-, -, ho1, ho2⟩ := hG.at_ hlt
      have ho10 := ho1 0 (by omega)
      have ho11 := ho1 1 (by omega)
      have ho12 := ho1 2 (by omega)
      have ho20 := ho2 0 (by omega)
      have ho21 := ho2 1 (by omega)
      have ho22 := ho2 2 (by omega)
      simp only [Nat.add_zero, Nat.zero_add] at hc0 ho10 ho20 ho11 ho21 ho12 ho22
      clear ho1 ho2 hc
      have hgs : w.heap.size < wr.heap.size := by omega
      go_wp2_with (first | (go_at_call 36; refine (toBasin_any _ _ _ _).mono ?_; rintro _ w2 ⟨rfl, hb_w2⟩; have hc_w2 := bcell hb_w2))
      have hG2 := hG.agr (Below.agr hb_w2 (by omega))
      have hG3 := ((hG2.set hlt (j0 := 0) (o := k * 3) (by omega) (by omega) (.int .i64 (F k 0))).set hlt (j0 := 1) (o := k * 3 + 1) (by omega) (by omega) (.int .i64 (F k 1))).set hlt (j0 := 2) (o := k * 3 + 2) (by omega) (by omega) (.int .i64 (F k 2))
      have hb3 : Below w.heap.size w (((w2.setCell ⟨w.heap.size, k * 3, none⟩ (.int .i64 (F k 0))).setCell ⟨w.heap.size, k * 3 + 1, none⟩ (.int .i64 (F k 1))).setCell ⟨w.heap.size, k * 3 + 2, none⟩ (.int .i64 (F k 2))) :=
        (((hb.trans (hb_w2.mono (by omega))).setCell (p := ⟨w.heap.size, k * 3, none⟩) (Nat.le_refl _) _).setCell (p := ⟨w.heap.size, k * 3 + 1, none⟩) (Nat.le_refl _) _).setCell (p := ⟨w.heap.size, k * 3 + 2, none⟩) (Nat.le_refl _) _
      have hs3 := hb_w2.size
      go_roundw
      case rel =>
        refine ⟨k + 1, by omega, by go_num, hb3, by simp; omega, _, hG3, fun i j hi hj => ?_⟩
        unfold upd
        by_cases hik : i = k
        · subst hik
          match j, hj with
          | 0, _ => simp
          | 1, _ => simp
          | 2, _ => simp
        · simp [hik, hGF i j (by omega) hj]
      case measure => simp [intOf]; omega
    · obtain rfl : k = n := by omega
      go_wp2
      go_ret
      exact ⟨w.heap.size, rfl, (hG.mono (Nat.le_refl _) hs).congr fun i j hi hj => hGF i j hi hj, hb⟩

set_option maxHeartbeats 1000000 in
theorem eqBasin_yes (d g k : Int) (w : World) :
    Calls Try.prog 42 #[.agg #[.int .i64 d, .int .i64 g, .int .i64 k], .agg #[.int .i64 d, .int .i64 g, .int .i64 k]] w fun e w' => e = .returned (.bool true) ∧ Below w.heap.size w w' := by
  go_enter Try.func42, Try.ntmps42
  go_wp2_with (first | (go_at_call 63; refine (eqBrine_yes _ _ _).mono ?_; rintro _ w1 ⟨rfl, hb_w1⟩; have hc_w1 := bcell hb_w1))
  go_ret
  refine ⟨rfl, Below.trans ?_ (hb_w1.mono (by simp; omega))⟩
  (repeat' (first | exact Below.refl _ _ | assumption | refine Below.drew ?_ | refine Below.alloc ?_ (by first | omega | exact Below.size (by assumption) | (simp; done) | (simp; omega)) _ | refine Below.setCell ?_ (by first | omega | exact Below.size (by assumption) | (simp; done) | (simp; omega)) _))

set_option maxHeartbeats 400000 in
theorem eqBasinS_yes (A B : Option Addr) (n c c' : Nat) (F : Nat → Nat → Int) (w : World) (hn : n ≤ 1048576) (h : Rd w A n 3 (ints F)) (h' : Rd w B n 3 (ints F)) :
    Calls Try.prog 13 #[.slice A n c, .slice B n c'] w fun e w' => e = .returned (.bool true) ∧ Below w.heap.size w w' := by
  go_enter Try.func13, Try.ntmps13
  go_wp2
  go_loopw [5] (fun i wr => ∃ k : Nat, k ≤ n ∧ i = .int .i64 k ∧ Below w.heap.size w wr) (fun i _ => n - (intOf i).toNat)
  case atStart => exact ⟨0, by omega, rfl, Below.refl _ _⟩
  case round =>
    obtain ⟨k, hk, rfl, hb⟩ := hrel
    by_cases hlt : k < n
    · obtain ⟨b, off, rfl, -, hbw, hc⟩ := Rd.below h hb (by omega)
      obtain ⟨b', off', rfl, -, hbw', hc'⟩ := Rd.below h' hb (by omega)
      have hc0 := fun x : After wr => x.cell (hc k 0 hlt (by omega)) hbw
      have hc1 := fun x : After wr => x.cell (hc k 1 hlt (by omega)) hbw
      have hc2 := fun x : After wr => x.cell (hc k 2 hlt (by omega)) hbw
      have hc0' := fun x : After wr => x.cell (hc' k 0 hlt (by omega)) hbw'
      have hc1' := fun x : After wr => x.cell (hc' k 1 hlt (by omega)) hbw'
      have hc2' := fun x : After wr => x.cell (hc' k 2 hlt (by omega)) hbw'
      simp only [Nat.add_zero] at hc0 hc1 hc2 hc0' hc1' hc2'
      clear hc hc'
      go_wp2
      refine region_after (by kernel_rfl) (by kernel_rfl) ?_
      repeat (go_big_quiet_step ((first | (go_at_call 42; exact Calls.after (eqBasin_yes _ _ _ _)))))
      refine wpQuiet_nil ?_
      rintro _ ⟨x, rfl⟩
      go_wp2
      go_roundw
      case rel => exact ⟨k + 1, by omega, by go_num, hb.trans (x.h.mono hb.size)⟩
      case measure => simp [intOf]; omega
    · obtain rfl : k = n := by omega
      go_wp2
      go_ret
      exact ⟨rfl, hb⟩

/-- The marks of a slice of basins. -/
def marks3 (k0 : Int) : Nat → Nat → Int := fun i j => k0 + 3 * i + j
set_option maxHeartbeats 800000 in
theorem markBasinS_any (lo hi : Nat) (A : Option Addr) (n c : Nat) (k0 : Int) (F : Nat → Nat → Value) (w : World) (hn : n ≤ 1048576) (h0 : 0 ≤ k0) (h1 : k0 ≤ 1048576) (hh : hi ≤ w.heap.size) (h : Ow w lo hi A n 3 F) :
    Calls Try.prog 20 #[.slice A n c, .int .i64 k0] w fun e w' => e = .returned (.int .i64 (k0 + 3 * n)) ∧ Tch lo hi w w' ∧ Ow w' lo hi A n 3 (ints (marks3 k0)) := by
  go_enter Try.func20, Try.ntmps20
  go_wp2
  go_loopw [1, 5] (fun q i wr => ∃ k : Nat, k ≤ n ∧ i = .int .i64 k ∧ q = .int .i64 (k0 + 3 * k) ∧ Tch lo hi w wr ∧ ∃ G, Ow wr lo hi A n 3 G ∧ ∀ i j, i < k → j < 3 → G i j = ints (marks3 k0) i j) (fun _ i _ => n - (intOf i).toNat)
  case atStart => exact ⟨0, by omega, rfl, by simp, Tch.refl _ _ _, F, h, fun i j hi => absurd hi (by omega)⟩
  case round =>
    obtain ⟨k, hk, rfl, rfl, ht, G, hG, hGM⟩ := hrel
    by_cases hlt : k < n
    · obtain ⟨b, off, rfl, hlo, hhi, -⟩ := hG.sl (by omega)
      obtain ⟨-, -, ho1, ho2⟩ := hG.at_ hlt
      have ho10 := ho1 0 (by omega)
      have ho11 := ho1 1 (by omega)
      have ho12 := ho1 2 (by omega)
      have ho20 := ho2 0 (by omega)
      have ho21 := ho2 1 (by omega)
      have ho22 := ho2 2 (by omega)
      simp only [Nat.add_zero] at ho10 ho20
      clear ho1 ho2
      have hbs : b < wr.heap.size := by have := ht.size; omega
      go_wp2
      go_roundw
      case rel =>
        refine ⟨k + 1, by omega, by go_num, by go_num, ((ht.setCell (by exact hlo) (by exact hhi) _).setCell (by exact hlo) (by exact hhi) _).setCell (by exact hlo) (by exact hhi) _, _, ((hG.set hlt (j0 := 0) (o := off + k * 3) (by omega) (by omega) _).set hlt (j0 := 1) (o := off + k * 3 + 1) (by omega) (by omega) _).set hlt (j0 := 2) (o := off + k * 3 + 2) (by omega) (by omega) _, fun i j hi hj => ?_⟩
        unfold upd
        by_cases hik : i = k
        · subst hik
          match j, hj with
          | 0, _ => simp [marks3]
          | 1, _ => simp [marks3]
          | 2, _ => simp [marks3]; omega
        · simp [hik, hGM i j (by omega) hj]
      case measure => simp [intOf]; omega
    · obtain rfl : k = n := by omega
      go_wp2
      go_ret
      exact ⟨rfl, ht, hG.congr fun i j hi hj => hGM i j hi hj⟩

set_option maxHeartbeats 800000 in
theorem heldBasinS_any (A : Option Addr) (n c : Nat) (k0 : Int) (w : World) (hn : n ≤ 1048576) (h0 : 0 ≤ k0) (h1 : k0 ≤ 1048576) (h : Rd w A n 3 (ints (marks3 k0))) :
    Calls Try.prog 21 #[.slice A n c, .int .i64 k0] w fun e w' => e = .returned (.int .i64 (k0 + 3 * n)) ∧ w = w' := by
  go_enter Try.func21, Try.ntmps21
  go_wp2
  go_loop [1, 5] (fun q i => ∃ k : Nat, k ≤ n ∧ i = .int .i64 k ∧ q = .int .i64 (k0 + 3 * k)) (fun _ i => n - (intOf i).toNat)
  case atStart => exact ⟨0, by omega, rfl, by simp⟩
  case round =>
    obtain ⟨k, hk, rfl, rfl⟩ := hrel
    by_cases hlt : k < n
    · obtain ⟨b, off, rfl, -, hbw, hc⟩ := h (by omega)
      have hc0 : w.cell? ⟨b, off + k * 3, none⟩ = some (.int .i64 (k0 + 3 * k)) := by simpa [ints, marks3] using hc k 0 hlt (by omega)
      have hc1 : w.cell? ⟨b, off + k * 3 + 1, none⟩ = some (.int .i64 (k0 + 3 * k + 1)) := by simpa [ints, marks3] using hc k 1 hlt (by omega)
      have hc2 : w.cell? ⟨b, off + k * 3 + 2, none⟩ = some (.int .i64 (k0 + 3 * k + 1 + 1)) := by
        have := hc k 2 hlt (by omega)
        simp only [ints, marks3] at this
        rw [this, show (k0 + 3 * (k : Int) + ((2 : Nat) : Int)) = k0 + 3 * k + 1 + 1 by omega]
      clear hc
      go_wp2
      go_round
      case rel => exact ⟨k + 1, by omega, by go_num, by go_num⟩
      case measure => simp [intOf]; omega
    · obtain rfl : k = n := by omega
      go_wp2
      go_ret
      exact ⟨rfl, rfl⟩
end Go.Proofs.Ytjhhpepjjpejhaa
