/-
  Contracts of the laws' helpers on kinds and liquors: sizes, copies, comparison. Conditions: lengths up to 2^20.
-/
import Derived.Test.YtnmpfojcmedpeaaDoorInts
import Derived.Test.YtnmpfojcmedpeaaDoorCrM
namespace Go.Proofs.YtnmpfojcmedpeaaDoor
open Go.RowKit

set_option maxHeartbeats 1000000 in
theorem toKind_any (s : ByteArray) (g k : Int) (w : World) :
    Calls Tryd.prog 77 #[.agg #[.string s, .int .i64 g, .int .i64 k]] w fun e w' => e = .returned (.agg #[.string s, .int .i64 g, .int .i64 k]) ∧ Below w.heap.size w w' := by
  go_enter Tryd.func77, Tryd.ntmps77
  go_wp2
  refine bodyPost_ret (v := .agg #[.string s, .int .i64 g, .int .i64 k]) (by simp [results, Tryd.results77, go_sem]) rfl ⟨rfl, ?_⟩
  (repeat' (first | exact Below.refl _ _ | assumption | refine Below.drew ?_ | refine Below.alloc ?_ (by first | omega | exact Below.size (by assumption) | (simp; done) | (simp; omega)) _ | refine Below.setCell ?_ (by first | omega | exact Below.size (by assumption) | (simp; done) | (simp; omega)) _))
set_option maxHeartbeats 1000000 in
theorem eqKind_yes (s : ByteArray) (g k : Int) (w : World) :
    Calls Tryd.prog 78 #[.agg #[.string s, .int .i64 g, .int .i64 k], .agg #[.string s, .int .i64 g, .int .i64 k]] w fun e w' => e = .returned (.bool true) ∧ Below w.heap.size w w' := by
  go_enter Tryd.func78, Tryd.ntmps78
  go_wp2
  go_ret
  refine ⟨rfl, ?_⟩
  (repeat' (first | exact Below.refl _ _ | assumption | refine Below.drew ?_ | refine Below.alloc ?_ (by first | omega | exact Below.size (by assumption) | (simp; done) | (simp; omega)) _ | refine Below.setCell ?_ (by first | omega | exact Below.size (by assumption) | (simp; done) | (simp; omega)) _))
theorem szKind_any (s : ByteArray) (g k l : Int) (w : World) (hs : s.size ≤ 9223372036854775807) (hl : 0 ≤ l) (hl2 : l ≤ 1048576) :
    Calls Tryd.prog 76 #[.agg #[.string s, .int .i64 g, .int .i64 k], .int .i64 l] w fun e w' => e = .returned (.int .i64 (szR l s.size)) ∧ Below w.heap.size w w' := by
  have hb0 : Below w.heap.size w (w.alloc (.cells #[.string s, .int .i64 g, .int .i64 k] 81)) := (Below.refl _ _).alloc (Nat.le_refl _) _
  by_cases hc : l < s.size
  · have hs := hide (show szR l s.size = -1 by unfold szR; rw [if_pos hc])
    rw [hs.out]
    have hd : decide (l - s.size < 0) = true := by simp; omega
    go_enter Tryd.func76, Tryd.ntmps76
    go_wp2
    go_ret
    exact ⟨rfl, hb0⟩
  · have hs := hide (show szR l s.size = l - s.size by unfold szR; rw [if_neg hc])
    rw [hs.out]
    have hd : decide (l - s.size < 0) = false := by simp; omega
    go_enter Tryd.func76, Tryd.ntmps76
    go_wp2
    go_ret
    exact ⟨rfl, hb0⟩
set_option maxHeartbeats 1000000 in
theorem szKindS_any (A : Option Addr) (n c : Nat) (S : Nat → ByteArray) (F : Nat → Nat → Int) (w : World) (hn : n ≤ 9223372036854775807) (HS : Hid (∀ i, i < n → (S i).size ≤ 9223372036854775807)) (h : Rd w A n 3 (kdC S F)) :
    Calls Tryd.prog 42 #[.slice A n c, .int .i64 1048576] w fun e w' => ∃ r : Int, e = .returned (.int .i64 r) ∧ Hid (r < 0 ∨ (0 ≤ r ∧ r ≤ 1048576 ∧ n ≤ 1048576)) ∧ Below w.heap.size w w' := by
  by_cases hbig : (1048576 : Int) < n
  · go_enter Tryd.func42, Tryd.ntmps42
    go_wp2
    go_ret
    exact ⟨-1, rfl, Or.inl (by omega), Below.refl _ _⟩
  have hbig' : (n : Int) ≤ 1048576 := by omega
  clear hbig
  go_enter Tryd.func42, Tryd.ntmps42
  go_wp2
  go_loopw [1, 5] (fun l i wr => ∃ (k : Nat) (r : Int), k ≤ n ∧ i = .int .i64 k ∧ l = .int .i64 r ∧ 0 ≤ r ∧ r ≤ 1048576 ∧ Below w.heap.size w wr) (fun _ i _ => n - (intOf i).toNat)
  case atStart => exact ⟨0, _, by omega, rfl, rfl, by omega, by omega, Below.refl _ _⟩
  case round =>
    obtain ⟨k, r, hk, rfl, rfl, hr0, hr1, hb⟩ := hrel
    by_cases hlt : k < n
    · obtain ⟨b, off, rfl, -, hbw, hc⟩ := Rd.below h hb (by omega)
      have c0 : wr.cell? ⟨b, off + k * 3, none⟩ = some (.string (S k)) := by simpa [kdC] using hc k 0 hlt (by omega)
      have c1 : wr.cell? ⟨b, off + k * 3 + 1, none⟩ = some (.int .i64 (F k 1)) := by simpa [kdC] using hc k 1 hlt (by omega)
      have c2 : wr.cell? ⟨b, off + k * 3 + 2, none⟩ = some (.int .i64 (F k 2)) := by simpa [kdC] using hc k 2 hlt (by omega)
      clear hc
      have hsk := HS.out k hlt
      by_cases hle : r < (S k).size
      · have hs := hide (show szR r (S k).size = -1 by unfold szR; rw [if_pos hle])
        go_wp2_with fail
        go_at_call 76
        refine (szKind_any _ _ _ _ _ hsk hr0 hr1).mono ?_
        rintro _ w2 ⟨rfl, hb2⟩
        rw [hs.out]
        go_wp2
        go_ret
        exact ⟨-1, rfl, Or.inl (by omega), gr hb hb2⟩
      · have hs := hide (show szR r (S k).size = r - (S k).size by unfold szR; rw [if_neg hle])
        have hle' : ((S k).size : Int) ≤ r := by omega
        clear hle
        go_wp2_with fail
        go_at_call 76
        refine (szKind_any _ _ _ _ _ hsk hr0 hr1).mono ?_
        rintro _ w2 ⟨rfl, hb2⟩
        rw [hs.out]
        have hd : decide (r - ((S k).size : Int) < 0) = false := by simp; omega
        go_wp2
        go_roundw
        case rel => exact ⟨k + 1, r - (S k).size, by omega, by go_num, rfl, by omega, by omega, gr hb hb2⟩
        case measure => simp [intOf]; omega
    · obtain rfl : k = n := by omega
      go_wp2
      go_ret
      exact ⟨r, rfl, Or.inr ⟨hr0, hr1, by omega⟩, hb⟩

theorem info_kind : (Tryd.prog.info? 46).map (fun i => (i.zero, i.size, i.bytes)) = some (some (.agg #[.string ⟨#[]⟩, .int .i64 0, .int .i64 0]), 3, 32) := by kernel_rfl
theorem mk_kind (n : Nat) (hn : n ≤ 1048576) (u : World) : (Instr.makeSlice 24 (.int .i64 (n : Int)) (.int .i64 (n : Int))).run Tryd.prog u =
      .ok (.slice (some ⟨u.heap.size, 0, none⟩) n n) (u.alloc (.cells (madeCells #[.string ⟨#[]⟩, .int .i64 0, .int .i64 0] (n * 3)) 46)) := by
  obtain ⟨i0, hi, hz0, hz1, hz2⟩ := info_parts info_kind
  have h := run_make (P := Tryd.prog) u 24 46 i0 _ Tryd.underlying24 hi hz0 .i64 .i64 (n : Int) (n : Int) (by omega) (Int.le_refl _) (by rw [hz2]; omega) (by omega)
  simpa [hz1, Value.cells] using h

set_option maxHeartbeats 1000000 in
theorem toKindS_any (A : Option Addr) (n c : Nat) (S : Nat → ByteArray) (F : Nat → Nat → Int) (w : World) (hn : n ≤ 1048576) (h : Rd w A n 3 (kdC S F)) :
    Calls Tryd.prog 43 #[.slice A n c] w fun e w' => ∃ g, e = .returned (.slice (some ⟨g, 0, none⟩) n n) ∧ Ow w' w.heap.size w'.heap.size (some ⟨g, 0, none⟩) n 3 (kdC S F) ∧ Below w.heap.size w w' := by
  have hmk := mk_kind n hn
  go_enter Tryd.func43, Tryd.ntmps43
  go_wp2
  have ho : Ow (w.alloc (.cells (madeCells #[.string ⟨#[]⟩, .int .i64 0, .int .i64 0] (n * 3)) 46)) w.heap.size (w.heap.size + 1) (some ⟨w.heap.size, 0, none⟩) n 3 (fun _ j => #[Value.string ⟨#[]⟩, .int .i64 0, .int .i64 0][j]!) := Ow.made w #[.string ⟨#[]⟩, .int .i64 0, .int .i64 0] n 3 _ rfl
  have hb1 : Below w.heap.size w (w.alloc (.cells (madeCells #[.string ⟨#[]⟩, .int .i64 0, .int .i64 0] (n * 3)) 46)) := (Below.refl _ _).alloc (Nat.le_refl _) _
  have hs1 : w.heap.size + 1 ≤ (w.alloc (.cells (madeCells #[.string ⟨#[]⟩, .int .i64 0, .int .i64 0] (n * 3)) 46)).heap.size := by simp
  generalize w.alloc (.cells (madeCells #[.string ⟨#[]⟩, .int .i64 0, .int .i64 0] (n * 3)) 46) = w1 at ho hb1 hs1 ⊢
  go_loopw [4] (fun i wr => ∃ k : Nat, k ≤ n ∧ i = .int .i64 k ∧ Below w.heap.size w wr ∧ w.heap.size + 1 ≤ wr.heap.size ∧ 
    ∃ G, Ow wr w.heap.size (w.heap.size + 1) (some ⟨w.heap.size, 0, none⟩) n 3 G ∧ ∀ i j, i < k → j < 3 → G i j = kdC S F i j) (fun i _ => n - (intOf i).toNat)
  case atStart => exact ⟨0, by omega, rfl, hb1, hs1, _, ho, fun i j hi => absurd hi (by omega)⟩
  case round =>
    obtain ⟨k, hk, rfl, hb, hs, G, hG, hGF⟩ := hrel
    by_cases hlt : k < n
    · obtain ⟨b, off, rfl, -, hbw, hc⟩ := Rd.below h hb (by omega)
      have c0 : wr.cell? ⟨b, off + k * 3, none⟩ = some (.string (S k)) := by simpa [kdC] using hc k 0 hlt (by omega)
      have c1 : wr.cell? ⟨b, off + k * 3 + 1, none⟩ = some (.int .i64 (F k 1)) := by simpa [kdC] using hc k 1 hlt (by omega)
      have c2 : wr.cell? ⟨b, off + k * 3 + 2, none⟩ = some (.int .i64 (F k 2)) := by simpa [kdC] using hc k 2 hlt (by omega)
      obtain ⟨-, -, ho1, ho2⟩ := hG.at_ hlt
      have ho10 := ho1 0 (by omega)
      have ho11 := ho1 1 (by omega)
      have ho12 := ho1 2 (by omega)
      have ho20 := ho2 0 (by omega)
      have ho21 := ho2 1 (by omega)
      have ho22 := ho2 2 (by omega)
      simp only [Nat.add_zero, Nat.zero_add] at ho10 ho20 ho11 ho21 ho12 ho22
      clear ho1 ho2 hc
      have hgs : w.heap.size < wr.heap.size := by omega
      have HGF := hide hGF
      clear hGF
      go_wp2_with (first | (go_at_call 77; refine (toKind_any _ _ _ _).mono ?_; rintro _ w2 ⟨rfl, hb_w2⟩; have hc_w2 := bcell hb_w2))
      have hG2 := hG.agr (Below.agr hb_w2 (by omega))
      have hG3 := ((hG2.set hlt (j0 := 0) (o := k * 3) (by omega) (by omega) (.string (S k))).set hlt (j0 := 1) (o := k * 3 + 1) (by omega) (by omega) (.int .i64 (F k 1))).set hlt (j0 := 2) (o := k * 3 + 2) (by omega) (by omega) (.int .i64 (F k 2))
      have hb3 : Below w.heap.size w (((w2.setCell ⟨w.heap.size, k * 3, none⟩ (.string (S k))).setCell ⟨w.heap.size, k * 3 + 1, none⟩ (.int .i64 (F k 1))).setCell ⟨w.heap.size, k * 3 + 2, none⟩ (.int .i64 (F k 2))) :=
        (((hb.trans (hb_w2.mono (by omega))).setCell (p := ⟨w.heap.size, k * 3, none⟩) (Nat.le_refl _) _).setCell (p := ⟨w.heap.size, k * 3 + 1, none⟩) (Nat.le_refl _) _).setCell (p := ⟨w.heap.size, k * 3 + 2, none⟩) (Nat.le_refl _) _
      have hs3 := hb_w2.size
      go_roundw
      case rel =>
        refine ⟨k + 1, by omega, by go_num, hb3, by simp; omega, _, hG3, fun i j hi hj => ?_⟩
        unfold upd
        by_cases hik : i = k
        · subst hik
          match j, hj with
          | 0, _ => simp [kdC]
          | 1, _ => simp [kdC]
          | 2, _ => simp [kdC]
        · simp [hik, HGF.out i j (by omega) hj]
      case measure => simp [intOf]; omega
    · obtain rfl : k = n := by omega
      go_wp2
      go_ret
      exact ⟨w.heap.size, rfl, (hG.mono (Nat.le_refl _) hs).congr fun i j hi hj => hGF i j hi hj, hb⟩

set_option maxHeartbeats 1000000 in
theorem eqKindS_yes (A B : Option Addr) (n c c' : Nat) (S : Nat → ByteArray) (F : Nat → Nat → Int) (w : World) (hn : n ≤ 1048576) (h : Rd w A n 3 (kdC S F)) (h' : Rd w B n 3 (kdC S F)) :
    Calls Tryd.prog 44 #[.slice A n c, .slice B n c'] w fun e w' => e = .returned (.bool true) ∧ Below w.heap.size w w' := by
  go_enter Tryd.func44, Tryd.ntmps44
  go_wp2
  go_loopw [5] (fun i wr => ∃ k : Nat, k ≤ n ∧ i = .int .i64 k ∧ Below w.heap.size w wr) (fun i _ => n - (intOf i).toNat)
  case atStart => exact ⟨0, by omega, rfl, Below.refl _ _⟩
  case round =>
    obtain ⟨k, hk, rfl, hb⟩ := hrel
    by_cases hlt : k < n
    · obtain ⟨b, off, rfl, -, hbw, hc⟩ := Rd.below h hb (by omega)
      obtain ⟨b', off', rfl, -, hbw', hc'⟩ := Rd.below h' hb (by omega)
      have c0 : wr.cell? ⟨b, off + k * 3, none⟩ = some (.string (S k)) := by simpa [kdC] using hc k 0 hlt (by omega)
      have c1 : wr.cell? ⟨b, off + k * 3 + 1, none⟩ = some (.int .i64 (F k 1)) := by simpa [kdC] using hc k 1 hlt (by omega)
      have c2 : wr.cell? ⟨b, off + k * 3 + 2, none⟩ = some (.int .i64 (F k 2)) := by simpa [kdC] using hc k 2 hlt (by omega)
      have p0 : wr.cell? ⟨b', off' + k * 3, none⟩ = some (.string (S k)) := by simpa [kdC] using hc' k 0 hlt (by omega)
      have p1 : wr.cell? ⟨b', off' + k * 3 + 1, none⟩ = some (.int .i64 (F k 1)) := by simpa [kdC] using hc' k 1 hlt (by omega)
      have p2 : wr.cell? ⟨b', off' + k * 3 + 2, none⟩ = some (.int .i64 (F k 2)) := by simpa [kdC] using hc' k 2 hlt (by omega)
      clear hc hc'
      have d0 := fun x : After wr => x.cell c0 hbw
      have d1 := fun x : After wr => x.cell c1 hbw
      have d2 := fun x : After wr => x.cell c2 hbw
      have q0 := fun x : After wr => x.cell p0 hbw'
      have q1 := fun x : After wr => x.cell p1 hbw'
      have q2 := fun x : After wr => x.cell p2 hbw'
      clear c0 c1 c2 p0 p1 p2
      go_wp2
      refine region_after (by kernel_rfl) (by kernel_rfl) ?_
      repeat (go_big_quiet_step ((first | (go_at_call 78; exact Calls.after (eqKind_yes _ _ _ _)))))
      refine wpQuiet_nil ?_
      rintro _ ⟨x, rfl⟩
      go_wp2
      go_roundw
      case rel => exact ⟨k + 1, by omega, by go_num, hb.trans (x.h.mono hb.size)⟩
      case measure => simp [intOf]; omega
    · obtain rfl : k = n := by omega
      go_wp2
      go_ret
      exact ⟨rfl, hb⟩
end Go.Proofs.YtnmpfojcmedpeaaDoor
