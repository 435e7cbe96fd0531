/-
  Contracts of the laws' helpers on lists of heaps: sizes, copies, comparison. Conditions: lengths up to 2^20.
-/
import Derived.Test.YtidcmdnhnnhnhaaHpT
namespace Go.Proofs.Ytidcmdnhnnhnhaa
open Go.RowKit

set_option maxHeartbeats 1000000 in
theorem szHeapS_any (A : Option Addr) (n c : Nat) (H : Nat → HeapD) (w : World) (hn : n ≤ 9223372036854775807) (h : HpR w A n H) :
    Calls Try.prog 27 #[.slice A n c, .int .i64 1048576] w fun e w' => ∃ r : Int, e = .returned (.int .i64 r) ∧ Hid (r < 0 ∨ (0 ≤ r ∧ n ≤ 1048576 ∧ ∀ i, i < n → (H i).n ≤ 1048576)) ∧ Below w.heap.size w w' := by
  obtain ⟨B, cc, hS, hL⟩ := h
  have HL := hide hL
  clear hL
  by_cases hbig : (1048576 : Int) < n
  · go_enter Try.func27, Try.ntmps27
    go_wp2
    go_ret
    exact ⟨-1, rfl, Or.inl (by omega), Below.refl _ _⟩
  have hbig' : (n : Int) ≤ 1048576 := by omega
  clear hbig
  go_enter Try.func27, Try.ntmps27
  go_wp2
  go_loopw [1, 5] (fun l i wr => ∃ (k : Nat) (r : Int), k ≤ n ∧ i = .int .i64 k ∧ l = .int .i64 r ∧ 0 ≤ r ∧ r ≤ 1048576 ∧ Hid (∀ i, i < k → (H i).n ≤ 1048576) ∧ Below w.heap.size w wr) (fun _ i _ => n - (intOf i).toNat)
  case atStart => exact ⟨0, _, by omega, rfl, rfl, by omega, by omega, fun i hi => absurd hi (by omega), Below.refl _ _⟩
  case round =>
    obtain ⟨k, r, hk, rfl, rfl, hr0, hr1, HR, hb⟩ := hrel
    by_cases hlt : k < n
    · obtain ⟨b, off, rfl, hbw, hc⟩ := hp_at hS hb (by omega)
      obtain ⟨c0, c1, c2, c3⟩ := hc k hlt
      clear hc
      have hm : (H k).n ≤ 9223372036854775807 := by have := (HL.out k hlt).2; simpa [maxLen] using this
      by_cases hle : r < (H k).n
      · have hs := hide (show szR r (H k).n = -1 by unfold szR; rw [if_pos hle])
        go_wp2_with fail
        go_at_call 14
        refine (szHeap_any _ _ _ _ _ _ _ _ hm hr0 hr1).mono ?_
        rintro _ w2 ⟨rfl, hb2⟩
        rw [hs.out]
        go_wp2
        go_ret
        exact ⟨-1, rfl, Or.inl (by omega), gr hb hb2⟩
      · have hs := hide (show szR r (H k).n = r - (H k).n by unfold szR; rw [if_neg hle])
        have hle' : ((H k).n : Int) ≤ r := by omega
        clear hle
        go_wp2_with fail
        go_at_call 14
        refine (szHeap_any _ _ _ _ _ _ _ _ hm hr0 hr1).mono ?_
        rintro _ w2 ⟨rfl, hb2⟩
        rw [hs.out]
        have hd : decide (r - ((H k).n : Int) < 0) = false := by simp; omega
        go_wp2
        go_roundw
        case rel =>
          refine ⟨k + 1, r - (H k).n, by omega, by go_num, rfl, by omega, by omega, fun i hi => ?_, gr hb hb2⟩
          by_cases hik : i = k
          · subst hik; omega
          · exact HR.out i (by omega)
        case measure => simp [intOf]; omega
    · obtain rfl : k = n := by omega
      go_wp2
      go_ret
      exact ⟨r, rfl, Or.inr ⟨hr0, by omega, HR.out⟩, hb⟩

theorem info_heap : (Try.prog.info? 27).map (fun i => (i.zero, i.size, i.bytes)) = some (some (.agg #[.int .i64 0, .int .i64 0, .slice none 0 0, .bool false]), 4, 48) := by kernel_rfl
theorem mk_heap (n : Nat) (hn : n ≤ 1048576) (u : World) : (Instr.makeSlice 43 (.int .i64 (n : Int)) (.int .i64 (n : Int))).run Try.prog u =
      .ok (.slice (some ⟨u.heap.size, 0, none⟩) n n) (u.alloc (.cells (madeCells #[.int .i64 0, .int .i64 0, .slice none 0 0, .bool false] (n * 4)) 27)) := by
  obtain ⟨i0, hi, hz0, hz1, hz2⟩ := info_parts info_heap
  have h := run_make (P := Try.prog) u 43 27 i0 _ Try.underlying43 hi hz0 .i64 .i64 (n : Int) (n : Int) (by omega) (Int.le_refl _) (by rw [hz2]; omega) (by omega)
  simpa [hz1, Value.cells] using h

/-- The heaps copied so far: their layers lie at b. -/
def cpG (H : Nat → HeapD) (b : Nat → Nat) (k : Nat) (G : Nat → Nat → Value) : Prop := ∀ i j, i < k → j < 4 → G i j = hpC H (fun i => some ⟨b i, 0, none⟩) (fun i => (H i).n) i j
def cpL (w : World) (lo : Nat) (H : Nat → HeapD) (b : Nat → Nat) (k : Nat) : Prop := (∀ i, i < k → Ow w lo w.heap.size (some ⟨b i, 0, none⟩) (H i).n 1 (ints (H i).L) ∧ lo ≤ b i ∧ b i < w.heap.size) ∧ ∀ i j, i < j → j < k → b i ≠ b j

set_option maxHeartbeats 2000000 in
theorem toHeapS_any (A : Option Addr) (n c : Nat) (H : Nat → HeapD) (w : World) (hn : n ≤ 1048576) (hln : ∀ i, i < n → (H i).n ≤ 1048576) (h : HpR w A n H) :
    Calls Try.prog 29 #[.slice A n c] w fun e w' => ∃ g, e = .returned (.slice (some ⟨g, 0, none⟩) n n) ∧ HpO w' w.heap.size w'.heap.size (some ⟨g, 0, none⟩) n H ∧ Below w.heap.size w w' := by
  have hmk := mk_heap n hn
  obtain ⟨B, cc, hS, hL⟩ := h
  have HL := hide hL
  have HN := hide hln
  clear hL hln
  go_enter Try.func29, Try.ntmps29
  go_wp2
  have ho : Ow (w.alloc (.cells (madeCells #[.int .i64 0, .int .i64 0, .slice none 0 0, .bool false] (n * 4)) 27)) w.heap.size (w.heap.size + 1) (some ⟨w.heap.size, 0, none⟩) n 4 (fun _ j => #[Value.int .i64 0, .int .i64 0, .slice none 0 0, .bool false][j]!) := Ow.made w #[.int .i64 0, .int .i64 0, .slice none 0 0, .bool false] n 4 _ rfl
  have hb1 : Below w.heap.size w (w.alloc (.cells (madeCells #[.int .i64 0, .int .i64 0, .slice none 0 0, .bool false] (n * 4)) 27)) := (Below.refl _ _).alloc (Nat.le_refl _) _
  have hs1 : w.heap.size + 1 ≤ (w.alloc (.cells (madeCells #[.int .i64 0, .int .i64 0, .slice none 0 0, .bool false] (n * 4)) 27)).heap.size := by simp
  generalize w.alloc (.cells (madeCells #[.int .i64 0, .int .i64 0, .slice none 0 0, .bool false] (n * 4)) 27) = w1 at ho hb1 hs1 ⊢
  go_loopw [4] (fun i wr => ∃ k : Nat, k ≤ n ∧ i = .int .i64 k ∧ Below w.heap.size w wr ∧ w.heap.size + 1 ≤ wr.heap.size ∧ 
    ∃ G b, Ow wr w.heap.size (w.heap.size + 1) (some ⟨w.heap.size, 0, none⟩) n 4 G ∧ cpG H b k G ∧ cpL wr (w.heap.size + 1) H b k) (fun i _ => n - (intOf i).toNat)
  case atStart => exact ⟨0, by omega, rfl, hb1, hs1, _, fun _ => 0, ho, fun i j hi => absurd hi (by omega), fun i hi => absurd hi (by omega), fun i j hi hj => absurd hj (by omega)⟩
  case round =>
    clear ho hb1 hs1
    obtain ⟨k, hk, rfl, hb, hs, G, bb, hG, hGF, hGL⟩ := hrel
    have HGF := hide hGF
    have HGL := hide hGL
    clear hGF hGL
    by_cases hlt : k < n
    · obtain ⟨b, off, rfl, hbw, hc⟩ := hp_at hS hb (by omega)
      obtain ⟨c0, c1, c2, c3⟩ := hc k hlt
      clear hc
      have hln := HN.out k hlt
      have hl := Rd.below (HL.out k hlt).1 hb
      go_wp2_with fail
      go_at_call 16
      refine (toHeap_any _ _ _ _ _ _ _ _ hln hl).mono ?_
      rintro _ w2 ⟨rfl, hO2, hs2, hb2⟩
      clear c0 c1 c2 c3 hbw hl
      have hG2 := hG.agr (Below.agr hb2 (by omega))
      obtain ⟨-, -, ho1, ho2⟩ := hG2.at_ hlt
      have ho10 := ho1 0 (by omega)
      have ho11 := ho1 1 (by omega)
      have ho12 := ho1 2 (by omega)
      have ho13 := ho1 3 (by omega)
      have ho20 := ho2 0 (by omega)
      have ho21 := ho2 1 (by omega)
      have ho22 := ho2 2 (by omega)
      have ho23 := ho2 3 (by omega)
      simp only [Nat.add_zero, Nat.zero_add] at ho10 ho20 ho11 ho21 ho12 ho22 ho13 ho23
      clear ho1 ho2
      have hgs : w.heap.size < w2.heap.size := by omega
      go_wp2
      go_roundw
      case rel =>
        have hGL := HGL.out
        have hGF := HGF.out
        have hsz := hb2.size
        have hag : Agr (w.heap.size + 1) w2.heap.size w2 ((((w2.setCell ⟨w.heap.size, k * 4, none⟩ (.int .i64 (H k).id)).setCell ⟨w.heap.size, k * 4 + 1, none⟩ (.int .i64 (H k).gr)).setCell ⟨w.heap.size, k * 4 + 2, none⟩ (.slice (some ⟨wr.heap.size + 3, 0, none⟩) (H k).n (H k).n)).setCell ⟨w.heap.size, k * 4 + 3, none⟩ (.bool (H k).cov)) := fun q h1 h2 => by
          repeat' (first | refine (Below.heap_setCell _ _ _ _ (by simp; omega)).trans ?_ | exact rfl)
        refine ⟨k + 1, by omega, by go_num, ((((gr hb hb2).setCell (p := ⟨w.heap.size, k * 4, none⟩) (Nat.le_refl _) _).setCell (p := ⟨w.heap.size, k * 4 + 1, none⟩) (Nat.le_refl _) _).setCell (p := ⟨w.heap.size, k * 4 + 2, none⟩) (Nat.le_refl _) _).setCell (p := ⟨w.heap.size, k * 4 + 3, none⟩) (Nat.le_refl _) _, by simp; omega, _, (fun i => if i = k then wr.heap.size + 3 else bb i),
          (((hG2.set hlt (j0 := 0) (o := k * 4) (by omega) (by omega) _).set hlt (j0 := 1) (o := k * 4 + 1) (by omega) (by omega) _).set hlt (j0 := 2) (o := k * 4 + 2) (by omega) (by omega) _).set hlt (j0 := 3) (o := k * 4 + 3) (by omega) (by omega) _, fun i j hi hj => ?_, fun i hi => ?_, fun i j hij hj => ?_⟩
        · unfold upd
          by_cases hik : i = k
          · subst hik
            match j, hj with
            | 0, _ => simp [hpC]
            | 1, _ => simp [hpC]
            | 2, _ => simp [hpC]
            | 3, _ => simp [hpC]
          · rw [if_neg (by simp [hik]), if_neg (by simp [hik]), if_neg (by simp [hik]), if_neg (by simp [hik]), hGF i j (by omega) hj]
            simp only [hpC, if_neg hik]
        · by_cases hik : i = k
          · subst hik
            simp only [if_true]
            exact ⟨((hO2.agr (fun q h1 h2 => hag q (by omega) (by omega))).mono (by omega) (by simp; omega)), by omega, by simp; omega⟩
          · simp only [if_neg hik]
            obtain ⟨h1, h2, h3⟩ := hGL.1 i (by omega)
            exact ⟨((h1.below hb2 (Nat.le_refl _)).agr (fun q h1 h2 => hag q (by omega) (by omega))).mono (Nat.le_refl _) (by simp; omega), h2, by simp; omega⟩
        · by_cases hjk : j = k
          · subst hjk
            obtain ⟨-, -, h3⟩ := hGL.1 i hij
            simp only [if_true, if_neg (show i ≠ j by omega)]
            omega
          · simp only [if_neg hjk, if_neg (show i ≠ k by omega)]
            exact hGL.2 i j hij (by omega)
      case measure => simp [intOf]; omega
    · obtain rfl : k = n := by omega
      go_wp2
      go_ret
      have hGL := HGL.out
      refine ⟨w.heap.size, rfl, ⟨_, _, (hG.mono (Nat.le_refl _) hs).congr fun i j hi hj => HGF.out i j hi hj, fun i hi => ⟨(hGL.1 i hi).1.mono (by omega) (Nat.le_refl _), by have := HN.out i hi; simp only [maxLen]; omega⟩, fun i j hi hj hij _ _ => ?_, fun i hi _ => ?_⟩, hb⟩
      · rcases Nat.lt_or_gt_of_ne hij with h | h
        · exact hGL.2 i j h hj
        · exact fun e => hGL.2 j i h hi e.symm
      · have := (hGL.1 i hi).2.1
        show bb i ≠ w.heap.size
        omega

set_option maxHeartbeats 1000000 in
theorem eqHeap_yes (id g : Int) (B B' : Option Addr) (n c c' : Nat) (L : Nat → Nat → Int) (cov : Bool) (w : World) (hn : n ≤ 1048576) (h : Rd w B n 1 (ints L)) (h' : Rd w B' n 1 (ints L)) :
    Calls Try.prog 18 #[.agg #[.int .i64 id, .int .i64 g, .slice B n c, .bool cov], .agg #[.int .i64 id, .int .i64 g, .slice B' n c', .bool cov]] w fun e w' => e = .returned (.bool true) ∧ Below w.heap.size w w' := by
  go_enter Try.func18, Try.ntmps18
  go_wp2_with fail
  go_at_call 23
  refine (eqIntS_yes _ _ _ _ _ _ _ hn (Rd.alloc (Rd.alloc h _) _) (Rd.alloc (Rd.alloc h' _) _)).mono ?_
  rintro _ w1 ⟨rfl, hb1⟩
  have hs1 : w.heap.size + 1 < w1.heap.size := by have := hb1.size; simp at this; omega
  have hb0 : Below w.heap.size w w1 := by
    refine Below.trans ?_ (hb1.mono (by simp; omega))
    (repeat' (first | exact Below.refl _ _ | assumption | refine Below.drew ?_ | refine Below.alloc ?_ (by first | omega | exact Below.size (by assumption) | (simp; done) | (simp; omega)) _ | refine Below.setCell ?_ (by first | omega | exact Below.size (by assumption) | (simp; done) | (simp; omega)) _))
  have c0 := (hb1.cell (p := ⟨w.heap.size, 3, none⟩) (by simp; omega)).trans (show _ = some (Value.bool cov) by go_simp)
  have c1 := (hb1.cell (p := ⟨w.heap.size + 1, 3, none⟩) (by simp)).trans (show _ = some (Value.bool cov) by go_simp)
  clear hb1
  cases cov
  all_goals
    go_wp2
    go_ret
    exact ⟨rfl, hb0⟩

set_option maxHeartbeats 1000000 in
theorem eqHeapS_yes (A A' : Option Addr) (n c c' : Nat) (H : Nat → HeapD) (w : World) (hn : n ≤ 1048576) (hln : ∀ i, i < n → (H i).n ≤ 1048576) (h : HpR w A n H) (h' : HpR w A' n H) :
    Calls Try.prog 31 #[.slice A n c, .slice A' n c'] w fun e w' => e = .returned (.bool true) ∧ Below w.heap.size w w' := by
  obtain ⟨B, cc, hS, hL⟩ := h
  obtain ⟨B', cc', hS', hL'⟩ := h'
  have HL := hide hL
  have HL' := hide hL'
  have HN := hide hln
  clear hL hL' hln
  go_enter Try.func31, Try.ntmps31
  go_wp2
  go_loopw [5] (fun i wr => ∃ k : Nat, k ≤ n ∧ i = .int .i64 k ∧ Below w.heap.size w wr) (fun i _ => n - (intOf i).toNat)
  case atStart => exact ⟨0, by omega, rfl, Below.refl _ _⟩
  case round =>
    obtain ⟨k, hk, rfl, hb⟩ := hrel
    by_cases hlt : k < n
    · obtain ⟨b, off, rfl, hbw, hc⟩ := hp_at hS hb (by omega)
      obtain ⟨b', off', rfl, hbw', hc'⟩ := hp_at hS' hb (by omega)
      obtain ⟨c0, c1, c2, c3⟩ := hc k hlt
      obtain ⟨p0, p1, p2, p3⟩ := hc' k hlt
      clear hc hc'
      have d0 := fun x : After wr => x.cell c0 hbw
      have d1 := fun x : After wr => x.cell c1 hbw
      have d2 := fun x : After wr => x.cell c2 hbw
      have d3 := fun x : After wr => x.cell c3 hbw
      have q0 := fun x : After wr => x.cell p0 hbw'
      have q1 := fun x : After wr => x.cell p1 hbw'
      have q2 := fun x : After wr => x.cell p2 hbw'
      have q3 := fun x : After wr => x.cell p3 hbw'
      clear c0 c1 c2 c3 p0 p1 p2 p3
      have hl1 := fun x : After wr => Rd.after (Rd.below (HL.out k hlt).1 hb) x
      have hl2 := fun x : After wr => Rd.after (Rd.below (HL'.out k hlt).1 hb) x
      have hln := HN.out k hlt
      go_wp2
      refine region_after (by kernel_rfl) (by kernel_rfl) ?_
      repeat (go_big_quiet_step ((first | (go_at_call 18; exact Calls.after (eqHeap_yes _ _ _ _ _ _ _ _ _ _ hln (hl1 _) (hl2 _))))))
      refine wpQuiet_nil ?_
      rintro _ ⟨x, rfl⟩
      go_wp2
      go_roundw
      case rel => exact ⟨k + 1, by omega, by go_num, hb.trans (x.h.mono hb.size)⟩
      case measure => simp [intOf]; omega
    · obtain rfl : k = n := by omega
      go_wp2
      go_ret
      exact ⟨rfl, hb⟩
end Go.Proofs.Ytidcmdnhnnhnhaa
