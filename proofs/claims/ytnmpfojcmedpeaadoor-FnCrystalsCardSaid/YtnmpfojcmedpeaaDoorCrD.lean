/-
  Contracts on liquors: after how much drying there is too much of a kind, of the program and of the reference. Conditions: lengths up to 2^20.
-/
import Derived.Test.YtnmpfojcmedpeaaDoorCrC
namespace Go.Proofs.YtnmpfojcmedpeaaDoor
open Go.RowKit

theorem ceilDiv_any (a b : Int) (w : World) (h1 : 0 ≤ a) (h2 : a ≤ 1000000000000000) (h3 : 1 ≤ b) (h4 : b ≤ 1000000000) :
    Calls Tryd.prog 82 #[.int .i64 a, .int .i64 b] w fun e w' => e = .returned (.int .i64 ((a + b - 1) / b)) ∧ w = w' := by
  go_enter Tryd.func82, Tryd.ntmps82
  go_wp2
  go_ret
  exact ⟨rfl, rfl⟩
theorem l1Most_any (a b : Int) (w : World) :
    Calls Tryd.prog 83 #[.int .i64 a, .int .i64 b] w fun e w' => e = .returned (.int .i64 (max a b)) ∧ w = w' := by
  by_cases h : b < a
  · have H := hide (show max a b = a by omega)
    go_enter Tryd.func83, Tryd.ntmps83
    go_wp2
    go_ret
    exact ⟨ret_int H.out.symm, rfl⟩
  · have H := hide (show max a b = b by omega)
    go_enter Tryd.func83, Tryd.ntmps83
    go_wp2
    go_ret
    exact ⟨ret_int H.out.symm, rfl⟩
theorem l1Least_any (a b : Int) (w : World) :
    Calls Tryd.prog 61 #[.int .i64 a, .int .i64 b] w fun e w' => e = .returned (.int .i64 (min a b)) ∧ w = w' := by
  by_cases h : a < b
  · have H := hide (show min a b = a by omega)
    go_enter Tryd.func61, Tryd.ntmps61
    go_wp2
    go_ret
    exact ⟨ret_int H.out.symm, rfl⟩
  · have H := hide (show min a b = b by omega)
    go_enter Tryd.func61, Tryd.ntmps61
    go_wp2
    go_ret
    exact ⟨ret_int H.out.symm, rfl⟩
set_option maxHeartbeats 1000000 in
theorem fullAfter_any (s : ByteArray) (a g x z : Int) (w : World) (hg : 1 ≤ g) (hg2 : g ≤ 1000) (hx : 0 ≤ x) (hx2 : x ≤ 1000000) (hz : 0 ≤ z) (hz2 : z ≤ 1000000) :
    Calls Tryd.prog 55 #[.agg #[.string s, .int .i64 a, .int .i64 g], .int .i64 x, .int .i64 z] w fun e w' => e = .returned (.int .i64 (fullV g z x)) ∧ Below w.heap.size w w' := by
  have hb0 : Below w.heap.size w (w.alloc (.cells #[.string s, .int .i64 a, .int .i64 g] 46)) := (Below.refl _ _).alloc (Nat.le_refl _) _
  by_cases h0 : z = 0
  · have H := hide (show fullV g z x = x + 1 by unfold fullV; rw [if_pos h0])
    have h0' : (z == 0) = true := by simpa using h0
    clear h0
    go_enter Tryd.func55, Tryd.ntmps55
    go_wp2
    go_ret
    exact ⟨ret_int H.out.symm, hb0⟩
  · have H := hide (fullV_ceil (x := x) hg (show 1 ≤ z by omega))
    have h0' : (z == 0) = false := by simpa using h0
    have b1 : 0 ≤ (1000 * z + g - 1) / g := Int.ediv_nonneg (by omega) (by omega)
    have b2 : (1000 * z + g - 1) / g ≤ 1000 * z + g - 1 := Int.ediv_le_self _ (by omega)
    have b3 : (1000 * z + g - 1) / g ≤ 2000000000 := by omega
    clear b2 h0
    go_enter Tryd.func55, Tryd.ntmps55
    go_wp2_with (first | (go_at_call 82; refine (ceilDiv_any _ _ _ (by omega) (by omega) (by omega) (by omega)).mono ?_; rintro _ _ ⟨rfl, rfl⟩))
    go_ret
    exact ⟨ret_int H.out, hb0⟩
set_option maxHeartbeats 1000000 in
theorem l10Dry_any (s : ByteArray) (a g x z : Int) (w : World) (hg : 1 ≤ g) (hg2 : g ≤ 1000) (hx : 0 ≤ x) (hx2 : x ≤ 1000000) (hz : 0 ≤ z) (hz2 : z ≤ 1000000) :
    Calls Tryd.prog 57 #[.agg #[.string s, .int .i64 a, .int .i64 g], .int .i64 z, .int .i64 x] w fun e w' => e = .returned (.int .i64 (dryV g z x)) ∧ Below w.heap.size w w' := by
  have hb0 : Below w.heap.size w (w.alloc (.cells #[.string s, .int .i64 a, .int .i64 g] 46)) := (Below.refl _ _).alloc (Nat.le_refl _) _
  by_cases h0 : z = 0
  · have H := hide (show dryV g z x = -1 by unfold dryV; rw [if_pos h0])
    have h0' : (z == 0) = true := by simpa using h0
    clear h0
    go_enter Tryd.func57, Tryd.ntmps57
    go_wp2
    go_ret
    exact ⟨ret_int H.out.symm, hb0⟩
  · have H := hide (show dryV g z x = max 0 (x - (1000 * z - 1) / g) by unfold dryV; rw [if_neg h0])
    have h0' : (z == 0) = false := by simpa using h0
    obtain ⟨b1, b2⟩ := div_bd hg (show 1 ≤ z by omega) hz2
    have b3 : 0 ≤ 1000 * z - 1 := by omega
    clear h0
    go_enter Tryd.func57, Tryd.ntmps57
    go_wp2_with (first | (go_at_call 83; refine (l1Most_any _ _ _).mono ?_; rintro _ _ ⟨rfl, rfl⟩))
    go_ret
    exact ⟨ret_int H.out.symm, hb0⟩

set_option maxHeartbeats 2000000 in
theorem DryToKeep_any (A : Option Addr) (n c : Nat) (S : Nat → ByteArray) (F : Nat → Nat → Int) (x : Int) (B : Option Addr) (m d : Nat) (L : Nat → Nat → Int) (i : Int) (w : World) (hn : n ≤ 1048576) (hm : m ≤ 1048576) (HS : Hid (∀ i, i < n → (S i).size ≤ 9223372036854775807)) (h : Rd w A n 3 (kdC S F)) (hL : Rd w B m 1 (ints L)) :
    Calls Tryd.prog 20 #[.slice A n c, .agg #[.int .i64 x, .slice B m d], .int .i64 i] w fun e w' => e = .returned (.tuple #[.int .i64 (dryKeepR S F n x m L i).1, .bool (dryKeepR S F n x m L i).2]) ∧ Below w.heap.size w w' := by
  cases h1 : askB S F n x m L i
  · have HR := hide (show dryKeepR S F n x m L i = (0, false) by simp [dryKeepR, h1])
    have hb0 : Below w.heap.size w (w.alloc (.cells #[.int .i64 x, .slice B m d] 27)) := (Below.refl _ _).alloc (Nat.le_refl _) _
    have hs0 : w.heap.size < (w.alloc (.cells #[.int .i64 x, .slice B m d] 27)).heap.size := by simp
    have e0 : World.cell? (w.alloc (.cells #[.int .i64 x, .slice B m d] 27)) ⟨w.heap.size, 0, none⟩ = some (.int .i64 x) := by rw [World.cell?_alloc_new]; rfl
    have e1 : World.cell? (w.alloc (.cells #[.int .i64 x, .slice B m d] 27)) ⟨w.heap.size, 1, none⟩ = some (.slice B m d) := by rw [World.cell?_alloc_new]; rfl
    have h := Rd.below h hb0
    have hL := Rd.below hL hb0
    go_enter Tryd.func20, Tryd.ntmps20
    go_wp2_with fail
    go_at_call 58
    refine (isOf_any _ _ _ _ _ _ _ _ _ _ _ _ hn hm HS h hL).mono ?_
    rintro _ w1 ⟨rfl, hb1⟩
    rw [h1]
    go_wp2
    go_ret2
    exact ⟨ret_p HR.out, gr hb0 hb1⟩
  · obtain ⟨h2, p, rfl, hp⟩ := askB_at h1
    obtain ⟨h3, ⟨x1, x2⟩, rfl, h4⟩ := liqB_at h2
    obtain ⟨-, g1, g2⟩ := (kindsB_at h3).2 p hp
    obtain ⟨s1, s2⟩ := h4 p hp
    obtain ⟨v1, v2, v3, v4⟩ := fullV_bd (x := x) g1 s1 s2 x1
    have V3 := hide v3
    have V4 := hide v4
    clear v3 v4
    have HR := hide (show dryKeepR S F m x m L p = if fullV (F p 2) (L p 0) x = 0 then (0, false) else (fullV (F p 2) (L p 0) x - 1, true) by simp [dryKeepR, h1])
    clear h2 h3 h4
    have hb0 : Below w.heap.size w (w.alloc (.cells #[.int .i64 x, .slice B m d] 27)) := (Below.refl _ _).alloc (Nat.le_refl _) _
    have hs0 : w.heap.size < (w.alloc (.cells #[.int .i64 x, .slice B m d] 27)).heap.size := by simp
    have e0 : World.cell? (w.alloc (.cells #[.int .i64 x, .slice B m d] 27)) ⟨w.heap.size, 0, none⟩ = some (.int .i64 x) := by rw [World.cell?_alloc_new]; rfl
    have e1 : World.cell? (w.alloc (.cells #[.int .i64 x, .slice B m d] 27)) ⟨w.heap.size, 1, none⟩ = some (.slice B m d) := by rw [World.cell?_alloc_new]; rfl
    have h := Rd.below h hb0
    have hL := Rd.below hL hb0
    go_enter Tryd.func20, Tryd.ntmps20
    go_wp2_with fail
    go_at_call 58
    refine (isOf_any _ _ _ _ _ _ _ _ _ _ _ _ hn hm HS h hL).mono ?_
    rintro _ w1 ⟨rfl, hb1⟩
    rw [h1]
    have c0 := (hb1.cell (by exact hs0)).trans e0
    have c1 := (hb1.cell (by exact hs0)).trans e1
    have hz : w.heap.size < w1.heap.size := Nat.lt_of_lt_of_le hs0 hb1.size
    obtain ⟨b, off, rfl, hbw, hk⟩ := kd_at h hb1 (by omega)
    obtain ⟨b', off', rfl, hbw', hk'⟩ := li_at hL hb1 (by omega)
    have d0 := fun x : After w1 => x.cell c0 hz
    have d1 := fun x : After w1 => x.cell c1 hz
    have q0 := fun x : After w1 => x.cell (hk p hp).1 hbw
    have q1 := fun x : After w1 => x.cell (hk p hp).2.1 hbw
    have q2 := fun x : After w1 => x.cell (hk p hp).2.2 hbw
    have q3 := fun x : After w1 => x.cell (hk' p hp) hbw'
    clear e0 e1 c0 c1 hk hk'
    clear h1
    go_wp2
    refine region_after (by kernel_rfl) (by kernel_rfl) ?_
    repeat (go_big_quiet_step ((first | (go_at_call 55; exact Calls.after (fullAfter_any _ _ _ _ _ _ g1 g2 x1 x2 s1 s2)))))
    refine wpQuiet_nil ?_
    rintro _ ⟨y, rfl⟩
    generalize fullV (F p 2) (L p 0) x = V at v1 v2 HR ⊢
    by_cases hv : V = 0
    · have HR' := hide (HR.out.trans (if_pos hv))
      have hv' : (V == 0) = true := by simpa using hv
      clear hv
      go_wp2
      go_ret2
      exact ⟨ret_p HR'.out, gr hb0 (gr hb1 y.h)⟩
    · have HR' := hide (HR.out.trans (if_neg hv))
      have hv' : (V == 0) = false := by simpa using hv
      clear hv
      go_wp2
      go_ret2
      exact ⟨ret_p HR'.out, gr hb0 (gr hb1 y.h)⟩
set_option maxHeartbeats 2000000 in
theorem spec_DryToKeep_any (A : Option Addr) (n c : Nat) (S : Nat → ByteArray) (F : Nat → Nat → Int) (x : Int) (B : Option Addr) (m d : Nat) (L : Nat → Nat → Int) (i : Int) (w : World) (hn : n ≤ 1048576) (hm : m ≤ 1048576) (HS : Hid (∀ i, i < n → (S i).size ≤ 9223372036854775807)) (h : Rd w A n 3 (kdC S F)) (hL : Rd w B m 1 (ints L)) :
    Calls Tryd.prog 21 #[.slice A n c, .agg #[.int .i64 x, .slice B m d], .int .i64 i] w fun e w' => e = .returned (.tuple #[.int .i64 (dryKeepR S F n x m L i).1, .bool (dryKeepR S F n x m L i).2]) ∧ Below w.heap.size w w' := by
  cases h1 : askB S F n x m L i
  · have HR := hide (show dryKeepR S F n x m L i = (0, false) by simp [dryKeepR, h1])
    have hb0 : Below w.heap.size w (w.alloc (.cells #[.int .i64 x, .slice B m d] 27)) := (Below.refl _ _).alloc (Nat.le_refl _) _
    have hs0 : w.heap.size < (w.alloc (.cells #[.int .i64 x, .slice B m d] 27)).heap.size := by simp
    have e0 : World.cell? (w.alloc (.cells #[.int .i64 x, .slice B m d] 27)) ⟨w.heap.size, 0, none⟩ = some (.int .i64 x) := by rw [World.cell?_alloc_new]; rfl
    have e1 : World.cell? (w.alloc (.cells #[.int .i64 x, .slice B m d] 27)) ⟨w.heap.size, 1, none⟩ = some (.slice B m d) := by rw [World.cell?_alloc_new]; rfl
    have h := Rd.below h hb0
    have hL := Rd.below hL hb0
    go_enter Tryd.func21, Tryd.ntmps21
    go_wp2_with fail
    go_at_call 60
    refine (l10Asked_any _ _ _ _ _ _ _ _ _ _ _ _ hn hm HS h hL).mono ?_
    rintro _ w1 ⟨rfl, hb1⟩
    rw [h1]
    go_wp2
    go_ret2
    exact ⟨ret_p HR.out, gr hb0 hb1⟩
  · obtain ⟨h2, p, rfl, hp⟩ := askB_at h1
    obtain ⟨h3, ⟨x1, x2⟩, rfl, h4⟩ := liqB_at h2
    obtain ⟨-, g1, g2⟩ := (kindsB_at h3).2 p hp
    obtain ⟨s1, s2⟩ := h4 p hp
    obtain ⟨v1, v2, v3, v4⟩ := fullV_bd (x := x) g1 s1 s2 x1
    have V3 := hide v3
    have V4 := hide v4
    clear v3 v4
    have HR := hide (show dryKeepR S F m x m L p = if fullV (F p 2) (L p 0) x = 0 then (0, false) else (fullV (F p 2) (L p 0) x - 1, true) by simp [dryKeepR, h1])
    clear h2 h3 h4
    have hb0 : Below w.heap.size w (w.alloc (.cells #[.int .i64 x, .slice B m d] 27)) := (Below.refl _ _).alloc (Nat.le_refl _) _
    have hs0 : w.heap.size < (w.alloc (.cells #[.int .i64 x, .slice B m d] 27)).heap.size := by simp
    have e0 : World.cell? (w.alloc (.cells #[.int .i64 x, .slice B m d] 27)) ⟨w.heap.size, 0, none⟩ = some (.int .i64 x) := by rw [World.cell?_alloc_new]; rfl
    have e1 : World.cell? (w.alloc (.cells #[.int .i64 x, .slice B m d] 27)) ⟨w.heap.size, 1, none⟩ = some (.slice B m d) := by rw [World.cell?_alloc_new]; rfl
    have h := Rd.below h hb0
    have hL := Rd.below hL hb0
    go_enter Tryd.func21, Tryd.ntmps21
    go_wp2_with fail
    go_at_call 60
    refine (l10Asked_any _ _ _ _ _ _ _ _ _ _ _ _ hn hm HS h hL).mono ?_
    rintro _ w1 ⟨rfl, hb1⟩
    rw [h1]
    have E0 := hide e0
    have c0 := (hb1.cell (by exact hs0)).trans e0
    have c1 := (hb1.cell (by exact hs0)).trans e1
    have hz : w.heap.size < w1.heap.size := Nat.lt_of_lt_of_le hs0 hb1.size
    obtain ⟨b, off, rfl, hbw, hk⟩ := kd_at h hb1 (by omega)
    obtain ⟨b', off', rfl, hbw', hk'⟩ := li_at hL hb1 (by omega)
    have d0 := fun x : After w1 => x.cell c0 hz
    have d1 := fun x : After w1 => x.cell c1 hz
    have q0 := fun x : After w1 => x.cell (hk p hp).1 hbw
    have q1 := fun x : After w1 => x.cell (hk p hp).2.1 hbw
    have q2 := fun x : After w1 => x.cell (hk p hp).2.2 hbw
    have q3 := fun x : After w1 => x.cell (hk' p hp) hbw'
    clear e0 e1 c0 c1 hk hk'
    clear h1
    go_wp2
    refine region_after (by kernel_rfl) (by kernel_rfl) ?_
    repeat (go_big_quiet_step ((first | (go_at_call 57; exact Calls.after (l10Dry_any _ _ _ _ _ _ g1 g2 x1 x2 s1 s2)))))
    refine wpQuiet_nil ?_
    rintro _ ⟨y, rfl⟩
    have hcx := (y.h.cell (by exact hz)).trans ((hb1.cell (by exact hs0)).trans E0.out)
    clear d0 d1 q0 q1 q2 q3
    by_cases h0 : L p 0 = 0
    · obtain ⟨t1, t2⟩ := V4.out h0
      have HR' := hide (show dryKeepR S F m x m L p = (x, true) by rw [HR.out, t1, if_neg (by omega)]; simp)
      rw [t2]
      clear HR V3 V4 t1 t2 h0
      go_wp2
      go_ret2
      exact ⟨ret_p HR'.out, gr hb0 (gr hb1 y.h)⟩
    · obtain ⟨t1, t2⟩ := V3.out h0
      rw [← t2]
      clear V3 V4 t2 h0
      generalize fullV (F p 2) (L p 0) x = V at v1 v2 t1 HR ⊢
      have hneg : decide (V < 0) = false := by simp; omega
      by_cases hv : V = 0
      · have HR' := hide (HR.out.trans (if_pos hv))
        have hv' : (V == 0) = true := by simpa using hv
        clear hv
        go_wp2
        go_ret2
        exact ⟨ret_p HR'.out, gr hb0 (gr hb1 y.h)⟩
      · have HR' := hide (HR.out.trans (if_neg hv))
        have hv' : (V == 0) = false := by simpa using hv
        clear hv
        go_wp2
        go_ret2
        exact ⟨ret_p HR'.out, gr hb0 (gr hb1 y.h)⟩
end Go.Proofs.YtnmpfojcmedpeaaDoor
