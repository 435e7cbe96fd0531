/-
  Contracts on liquors: an index of a kind, whether full, and the mass, of the program and of the reference. Conditions: lengths up to 2^20.
-/
import Derived.Test.YtnmpfojcmedpeaaDoorCrB
import Derived.Test.YtnmpfojcmedpeaaDoorSum
namespace Go.Proofs.YtnmpfojcmedpeaaDoor
open Go.RowKit

set_option maxHeartbeats 1000000 in
theorem isOf_any (A : Option Addr) (n c : Nat) (S : Nat → ByteArray) (F : Nat → Nat → Int) (x : Int) (B : Option Addr) (m d : Nat) (L : Nat → Nat → Int) (i : Int) (w : World) (hn : n ≤ 1048576) (hm : m ≤ 1048576) (HS : Hid (∀ i, i < n → (S i).size ≤ 9223372036854775807)) (h : Rd w A n 3 (kdC S F)) (hL : Rd w B m 1 (ints L)) :
    Calls Tryd.prog 58 #[.slice A n c, .agg #[.int .i64 x, .slice B m d], .int .i64 i] w fun e w' => e = .returned (.bool (askB S F n x m L i)) ∧ Below w.heap.size w w' := by
  have HR := hide (show askB S F n x m L i = (liqB S F n x m L && inB i 0 ((n : Int) - 1)) from rfl)
  have hb0 : Below w.heap.size w (w.alloc (.cells #[.int .i64 x, .slice B m d] 27)) := (Below.refl _ _).alloc (Nat.le_refl _) _
  have hs0 : w.heap.size < (w.alloc (.cells #[.int .i64 x, .slice B m d] 27)).heap.size := by simp
  have e0 : World.cell? (w.alloc (.cells #[.int .i64 x, .slice B m d] 27)) ⟨w.heap.size, 0, none⟩ = some (.int .i64 x) := by rw [World.cell?_alloc_new]; rfl
  have e1 : World.cell? (w.alloc (.cells #[.int .i64 x, .slice B m d] 27)) ⟨w.heap.size, 1, none⟩ = some (.slice B m d) := by rw [World.cell?_alloc_new]; rfl
  have h := Rd.below h hb0
  have hL := Rd.below hL hb0
  go_enter Tryd.func58, Tryd.ntmps58
  go_wp2_with fail
  go_at_call 30
  refine (IsLiquor_any _ _ _ _ _ _ _ _ _ _ _ hn hm HS h hL).mono ?_
  rintro _ w1 ⟨rfl, hb1⟩
  clear e0 e1
  cases h1 : liqB S F n x m L
  · go_wp2
    go_ret
    exact ⟨ret_bool (by rw [HR.out, h1]; rfl), gr hb0 hb1⟩
  · go_wp2_with (first | (go_at_call 63; refine (within_any _ _ _ _).mono ?_; rintro _ _ ⟨rfl, rfl⟩))
    go_ret
    exact ⟨ret_bool (by rw [HR.out, h1]; rfl), gr hb0 hb1⟩
set_option maxHeartbeats 1000000 in
theorem l10Asked_any (A : Option Addr) (n c : Nat) (S : Nat → ByteArray) (F : Nat → Nat → Int) (x : Int) (B : Option Addr) (m d : Nat) (L : Nat → Nat → Int) (i : Int) (w : World) (hn : n ≤ 1048576) (hm : m ≤ 1048576) (HS : Hid (∀ i, i < n → (S i).size ≤ 9223372036854775807)) (h : Rd w A n 3 (kdC S F)) (hL : Rd w B m 1 (ints L)) :
    Calls Tryd.prog 60 #[.slice A n c, .agg #[.int .i64 x, .slice B m d], .int .i64 i] w fun e w' => e = .returned (.bool (askB S F n x m L i)) ∧ Below w.heap.size w w' := by
  have HR := hide (show askB S F n x m L i = (liqB S F n x m L && inB i 0 ((n : Int) - 1)) from rfl)
  have hb0 : Below w.heap.size w (w.alloc (.cells #[.int .i64 x, .slice B m d] 27)) := (Below.refl _ _).alloc (Nat.le_refl _) _
  have hs0 : w.heap.size < (w.alloc (.cells #[.int .i64 x, .slice B m d] 27)).heap.size := by simp
  have e0 : World.cell? (w.alloc (.cells #[.int .i64 x, .slice B m d] 27)) ⟨w.heap.size, 0, none⟩ = some (.int .i64 x) := by rw [World.cell?_alloc_new]; rfl
  have e1 : World.cell? (w.alloc (.cells #[.int .i64 x, .slice B m d] 27)) ⟨w.heap.size, 1, none⟩ = some (.slice B m d) := by rw [World.cell?_alloc_new]; rfl
  have h := Rd.below h hb0
  have hL := Rd.below hL hb0
  go_enter Tryd.func60, Tryd.ntmps60
  go_wp2_with fail
  go_at_call 56
  refine (l10Liquor_any _ _ _ _ _ _ _ _ _ _ _ hn hm HS h hL).mono ?_
  rintro _ w1 ⟨rfl, hb1⟩
  clear e0 e1
  cases h1 : liqB S F n x m L
  · go_wp2
    go_ret
    exact ⟨ret_bool (by rw [HR.out, h1]; rfl), gr hb0 hb1⟩
  · go_wp2_with (first | (go_at_call 73; refine (l1In_any _ _ _ _).mono ?_; rintro _ _ ⟨rfl, rfl⟩))
    go_ret
    exact ⟨ret_bool (by rw [HR.out, h1]; rfl), gr hb0 hb1⟩

theorem keeps_bd {g x : Int} (hg : 1 ≤ g) (hg2 : g ≤ 1000) (hx : 0 ≤ x) (hx2 : x ≤ 1000000) : (0 ≤ g * x ∧ g * x ≤ 1000000000) ∧ 0 ≤ keepsV g x ∧ keepsV g x ≤ 1000000 := by
  have := mul_bd (show 0 ≤ g by omega) hg2 hx hx2
  unfold keepsV
  omega
theorem keeps_any (s : ByteArray) (a g x : Int) (w : World) (hg : 1 ≤ g) (hg2 : g ≤ 1000) (hx : 0 ≤ x) (hx2 : x ≤ 1000000) :
    Calls Tryd.prog 59 #[.agg #[.string s, .int .i64 a, .int .i64 g], .int .i64 x] w fun e w' => e = .returned (.int .i64 (keepsV g x)) ∧ Below w.heap.size w w' := by
  obtain ⟨⟨b1, b2⟩, -⟩ := keeps_bd hg hg2 hx hx2
  go_enter Tryd.func59, Tryd.ntmps59
  go_wp2
  go_ret
  exact ⟨rfl, (Below.refl _ _).alloc (Nat.le_refl _) _⟩
theorem l10Keeps_any (s : ByteArray) (a g x : Int) (w : World) (hg : 1 ≤ g) (hg2 : g ≤ 1000) (hx : 0 ≤ x) (hx2 : x ≤ 1000000) :
    Calls Tryd.prog 75 #[.agg #[.string s, .int .i64 a, .int .i64 g], .int .i64 x] w fun e w' => e = .returned (.int .i64 (keepsV g x)) ∧ Below w.heap.size w w' := by
  obtain ⟨⟨b1, b2⟩, -⟩ := keeps_bd hg hg2 hx hx2
  go_enter Tryd.func75, Tryd.ntmps75
  go_wp2
  go_ret
  exact ⟨rfl, (Below.refl _ _).alloc (Nat.le_refl _) _⟩

theorem ret_bb {a x : Bool} {p : Bool × Bool} (h : p = (a, x)) : Ending.returned (.tuple #[.bool a, .bool x]) = .returned (.tuple #[.bool p.1, .bool p.2]) := by rw [h]
theorem askB_at {S : Nat → ByteArray} {F : Nat → Nat → Int} {n : Nat} {x : Int} {m : Nat} {L : Nat → Nat → Int} {i : Int} (h : askB S F n x m L i = true) : liqB S F n x m L = true ∧ ∃ p : Nat, i = p ∧ p < n := by
  simp only [askB, Bool.and_eq_true] at h
  have := inB_true h.2
  exact ⟨h.1, i.toNat, by omega, by omega⟩
/-- The cells of the kind p and of its salt, in a later world. -/
theorem kd_at {w w' : World} {A : Option Addr} {n : Nat} {S : Nat → ByteArray} {F : Nat → Nat → Int} (h : Rd w A n 3 (kdC S F)) (hb : Below w.heap.size w w') (hn : 0 < n) :
    ∃ b off, A = some ⟨b, off, none⟩ ∧ b < w'.heap.size ∧ ∀ k, k < n → w'.cell? ⟨b, off + k * 3, none⟩ = some (.string (S k)) ∧ w'.cell? ⟨b, off + k * 3 + 1, none⟩ = some (.int .i64 (F k 1)) ∧ w'.cell? ⟨b, off + k * 3 + 2, none⟩ = some (.int .i64 (F k 2)) := by
  obtain ⟨b, off, e, -, h2, hc⟩ := Rd.below h hb hn
  refine ⟨b, off, e, h2, fun k hk => ⟨?_, ?_, ?_⟩⟩
  · simpa [kdC] using hc k 0 hk (by omega)
  · simpa [kdC] using hc k 1 hk (by omega)
  · simpa [kdC] using hc k 2 hk (by omega)
theorem li_at {w w' : World} {B : Option Addr} {m : Nat} {L : Nat → Nat → Int} (h : Rd w B m 1 (ints L)) (hb : Below w.heap.size w w') (hn : 0 < m) :
    ∃ b off, B = some ⟨b, off, none⟩ ∧ b < w'.heap.size ∧ ∀ k, k < m → w'.cell? ⟨b, off + k, none⟩ = some (.int .i64 (L k 0)) := by
  obtain ⟨b, off, e, -, h2, hc⟩ := Rd.below h hb hn
  exact ⟨b, off, e, h2, fun k hk => by simpa using hc k 0 hk (by omega)⟩

set_option maxHeartbeats 2000000 in
theorem IsFull_any (A : Option Addr) (n c : Nat) (S : Nat → ByteArray) (F : Nat → Nat → Int) (x : Int) (B : Option Addr) (m d : Nat) (L : Nat → Nat → Int) (i : Int) (w : World) (hn : n ≤ 1048576) (hm : m ≤ 1048576) (HS : Hid (∀ i, i < n → (S i).size ≤ 9223372036854775807)) (h : Rd w A n 3 (kdC S F)) (hL : Rd w B m 1 (ints L)) :
    Calls Tryd.prog 18 #[.slice A n c, .agg #[.int .i64 x, .slice B m d], .int .i64 i] w fun e w' => e = .returned (.tuple #[.bool (isFullR S F n x m L i).1, .bool (isFullR S F n x m L i).2]) ∧ Below w.heap.size w w' := by
  cases h1 : askB S F n x m L i
  · have HR := hide (show isFullR S F n x m L i = (false, false) by simp [isFullR, h1])
    have hb0 : Below w.heap.size w (w.alloc (.cells #[.int .i64 x, .slice B m d] 27)) := (Below.refl _ _).alloc (Nat.le_refl _) _
    have hs0 : w.heap.size < (w.alloc (.cells #[.int .i64 x, .slice B m d] 27)).heap.size := by simp
    have e0 : World.cell? (w.alloc (.cells #[.int .i64 x, .slice B m d] 27)) ⟨w.heap.size, 0, none⟩ = some (.int .i64 x) := by rw [World.cell?_alloc_new]; rfl
    have e1 : World.cell? (w.alloc (.cells #[.int .i64 x, .slice B m d] 27)) ⟨w.heap.size, 1, none⟩ = some (.slice B m d) := by rw [World.cell?_alloc_new]; rfl
    have h := Rd.below h hb0
    have hL := Rd.below hL hb0
    go_enter Tryd.func18, Tryd.ntmps18
    go_wp2_with fail
    go_at_call 58
    refine (isOf_any _ _ _ _ _ _ _ _ _ _ _ _ hn hm HS h hL).mono ?_
    rintro _ w1 ⟨rfl, hb1⟩
    rw [h1]
    go_wp2
    go_ret2
    exact ⟨ret_bb HR.out, gr hb0 hb1⟩
  · obtain ⟨h2, p, rfl, hp⟩ := askB_at h1
    have HR := hide (show isFullR S F n x m L p = (decide (keepsV (F p 2) x < L p 0), true) by simp [isFullR, h1])
    obtain ⟨h3, ⟨x1, x2⟩, rfl, h4⟩ := liqB_at h2
    obtain ⟨-, g1, g2⟩ := (kindsB_at h3).2 p hp
    obtain ⟨s1, s2⟩ := h4 p hp
    clear h2 h3 h4
    have hb0 : Below w.heap.size w (w.alloc (.cells #[.int .i64 x, .slice B m d] 27)) := (Below.refl _ _).alloc (Nat.le_refl _) _
    have hs0 : w.heap.size < (w.alloc (.cells #[.int .i64 x, .slice B m d] 27)).heap.size := by simp
    have e0 : World.cell? (w.alloc (.cells #[.int .i64 x, .slice B m d] 27)) ⟨w.heap.size, 0, none⟩ = some (.int .i64 x) := by rw [World.cell?_alloc_new]; rfl
    have e1 : World.cell? (w.alloc (.cells #[.int .i64 x, .slice B m d] 27)) ⟨w.heap.size, 1, none⟩ = some (.slice B m d) := by rw [World.cell?_alloc_new]; rfl
    have h := Rd.below h hb0
    have hL := Rd.below hL hb0
    go_enter Tryd.func18, Tryd.ntmps18
    go_wp2_with fail
    go_at_call 58
    refine (isOf_any _ _ _ _ _ _ _ _ _ _ _ _ hn hm HS h hL).mono ?_
    rintro _ w1 ⟨rfl, hb1⟩
    rw [h1]
    have c0 := (hb1.cell (by exact hs0)).trans e0
    have c1 := (hb1.cell (by exact hs0)).trans e1
    have hz : w.heap.size < w1.heap.size := Nat.lt_of_lt_of_le hs0 hb1.size
    obtain ⟨b, off, rfl, hbw, hk⟩ := kd_at h hb1 (by omega)
    obtain ⟨b', off', rfl, hbw', hk'⟩ := li_at hL hb1 (by omega)
    have d0 := fun x : After w1 => x.cell c0 hz
    have d1 := fun x : After w1 => x.cell c1 hz
    have q0 := fun x : After w1 => x.cell (hk p hp).1 hbw
    have q1 := fun x : After w1 => x.cell (hk p hp).2.1 hbw
    have q2 := fun x : After w1 => x.cell (hk p hp).2.2 hbw
    have q3 := fun x : After w1 => x.cell (hk' p hp) hbw'
    clear h1 e0 e1 c0 c1 hk hk'
    go_wp2
    refine region_after (by kernel_rfl) (by kernel_rfl) ?_
    repeat (go_big_quiet_step ((first | (go_at_call 59; exact Calls.after (keeps_any _ _ _ _ _ g1 g2 x1 x2)))))
    refine wpQuiet_nil ?_
    rintro _ ⟨y, rfl⟩
    go_wp2
    go_ret2
    exact ⟨ret_bb HR.out, gr hb0 (gr hb1 y.h)⟩
set_option maxHeartbeats 2000000 in
theorem spec_IsFull_any (A : Option Addr) (n c : Nat) (S : Nat → ByteArray) (F : Nat → Nat → Int) (x : Int) (B : Option Addr) (m d : Nat) (L : Nat → Nat → Int) (i : Int) (w : World) (hn : n ≤ 1048576) (hm : m ≤ 1048576) (HS : Hid (∀ i, i < n → (S i).size ≤ 9223372036854775807)) (h : Rd w A n 3 (kdC S F)) (hL : Rd w B m 1 (ints L)) :
    Calls Tryd.prog 39 #[.slice A n c, .agg #[.int .i64 x, .slice B m d], .int .i64 i] w fun e w' => e = .returned (.tuple #[.bool (isFullR S F n x m L i).1, .bool (isFullR S F n x m L i).2]) ∧ Below w.heap.size w w' := by
  cases h1 : askB S F n x m L i
  · have HR := hide (show isFullR S F n x m L i = (false, false) by simp [isFullR, h1])
    have hb0 : Below w.heap.size w (w.alloc (.cells #[.int .i64 x, .slice B m d] 27)) := (Below.refl _ _).alloc (Nat.le_refl _) _
    have hs0 : w.heap.size < (w.alloc (.cells #[.int .i64 x, .slice B m d] 27)).heap.size := by simp
    have e0 : World.cell? (w.alloc (.cells #[.int .i64 x, .slice B m d] 27)) ⟨w.heap.size, 0, none⟩ = some (.int .i64 x) := by rw [World.cell?_alloc_new]; rfl
    have e1 : World.cell? (w.alloc (.cells #[.int .i64 x, .slice B m d] 27)) ⟨w.heap.size, 1, none⟩ = some (.slice B m d) := by rw [World.cell?_alloc_new]; rfl
    have h := Rd.below h hb0
    have hL := Rd.below hL hb0
    go_enter Tryd.func39, Tryd.ntmps39
    go_wp2_with fail
    go_at_call 60
    refine (l10Asked_any _ _ _ _ _ _ _ _ _ _ _ _ hn hm HS h hL).mono ?_
    rintro _ w1 ⟨rfl, hb1⟩
    rw [h1]
    go_wp2
    go_ret2
    exact ⟨ret_bb HR.out, gr hb0 hb1⟩
  · obtain ⟨h2, p, rfl, hp⟩ := askB_at h1
    have HR := hide (show isFullR S F n x m L p = (decide (keepsV (F p 2) x < L p 0), true) by simp [isFullR, h1])
    obtain ⟨h3, ⟨x1, x2⟩, rfl, h4⟩ := liqB_at h2
    obtain ⟨-, g1, g2⟩ := (kindsB_at h3).2 p hp
    obtain ⟨s1, s2⟩ := h4 p hp
    clear h2 h3 h4
    have hb0 : Below w.heap.size w (w.alloc (.cells #[.int .i64 x, .slice B m d] 27)) := (Below.refl _ _).alloc (Nat.le_refl _) _
    have hs0 : w.heap.size < (w.alloc (.cells #[.int .i64 x, .slice B m d] 27)).heap.size := by simp
    have e0 : World.cell? (w.alloc (.cells #[.int .i64 x, .slice B m d] 27)) ⟨w.heap.size, 0, none⟩ = some (.int .i64 x) := by rw [World.cell?_alloc_new]; rfl
    have e1 : World.cell? (w.alloc (.cells #[.int .i64 x, .slice B m d] 27)) ⟨w.heap.size, 1, none⟩ = some (.slice B m d) := by rw [World.cell?_alloc_new]; rfl
    have h := Rd.below h hb0
    have hL := Rd.below hL hb0
    go_enter Tryd.func39, Tryd.ntmps39
    go_wp2_with fail
    go_at_call 60
    refine (l10Asked_any _ _ _ _ _ _ _ _ _ _ _ _ hn hm HS h hL).mono ?_
    rintro _ w1 ⟨rfl, hb1⟩
    rw [h1]
    have c0 := (hb1.cell (by exact hs0)).trans e0
    have c1 := (hb1.cell (by exact hs0)).trans e1
    have hz : w.heap.size < w1.heap.size := Nat.lt_of_lt_of_le hs0 hb1.size
    obtain ⟨b, off, rfl, hbw, hk⟩ := kd_at h hb1 (by omega)
    obtain ⟨b', off', rfl, hbw', hk'⟩ := li_at hL hb1 (by omega)
    have d0 := fun x : After w1 => x.cell c0 hz
    have d1 := fun x : After w1 => x.cell c1 hz
    have q0 := fun x : After w1 => x.cell (hk p hp).1 hbw
    have q1 := fun x : After w1 => x.cell (hk p hp).2.1 hbw
    have q2 := fun x : After w1 => x.cell (hk p hp).2.2 hbw
    have q3 := fun x : After w1 => x.cell (hk' p hp) hbw'
    clear h1 e0 e1 c0 c1 hk hk'
    go_wp2
    refine region_after (by kernel_rfl) (by kernel_rfl) ?_
    repeat (go_big_quiet_step ((first | (go_at_call 75; exact Calls.after (l10Keeps_any _ _ _ _ _ g1 g2 x1 x2)))))
    refine wpQuiet_nil ?_
    rintro _ ⟨y, rfl⟩
    go_wp2
    go_ret2
    exact ⟨ret_bb HR.out, gr hb0 (gr hb1 y.h)⟩

set_option maxHeartbeats 2000000 in
theorem LiquorMass_any (A : Option Addr) (n c : Nat) (S : Nat → ByteArray) (F : Nat → Nat → Int) (x : Int) (B : Option Addr) (m d : Nat) (L : Nat → Nat → Int) (w : World) (hn : n ≤ 1048576) (hm : m ≤ 1048576) (HS : Hid (∀ i, i < n → (S i).size ≤ 9223372036854775807)) (h : Rd w A n 3 (kdC S F)) (hL : Rd w B m 1 (ints L)) :
    Calls Tryd.prog 34 #[.slice A n c, .agg #[.int .i64 x, .slice B m d]] w fun e w' => e = .returned (.tuple #[.int .i64 (massR S F n x m L).1, .bool (massR S F n x m L).2]) ∧ Below w.heap.size w w' := by
  cases h1 : liqB S F n x m L
  · have HR := hide (show massR S F n x m L = (0, false) by simp [massR, h1])
    have hb0 : Below w.heap.size w (w.alloc (.cells #[.int .i64 x, .slice B m d] 27)) := (Below.refl _ _).alloc (Nat.le_refl _) _
    have hs0 : w.heap.size < (w.alloc (.cells #[.int .i64 x, .slice B m d] 27)).heap.size := by simp
    have e0 : World.cell? (w.alloc (.cells #[.int .i64 x, .slice B m d] 27)) ⟨w.heap.size, 0, none⟩ = some (.int .i64 x) := by rw [World.cell?_alloc_new]; rfl
    have e1 : World.cell? (w.alloc (.cells #[.int .i64 x, .slice B m d] 27)) ⟨w.heap.size, 1, none⟩ = some (.slice B m d) := by rw [World.cell?_alloc_new]; rfl
    have h := Rd.below h hb0
    have hL := Rd.below hL hb0
    go_enter Tryd.func34, Tryd.ntmps34
    go_wp2_with fail
    go_at_call 30
    refine (IsLiquor_any _ _ _ _ _ _ _ _ _ _ _ hn hm HS h hL).mono ?_
    rintro _ w1 ⟨rfl, hb1⟩
    rw [h1]
    go_wp2
    go_ret2
    exact ⟨ret_p HR.out, gr hb0 hb1⟩
  · have HR := hide (show massR S F n x m L = (x + sumI (fun j => L j 0) m, true) by simp [massR, h1])
    have hbd := salts_bd h1
    obtain ⟨-, ⟨x1, x2⟩, -, -⟩ := liqB_at h1
    have HB : Hid (∀ k, k ≤ m → 0 ≤ sumI (fun j => L j 0) k ∧ sumI (fun j => L j 0) k ≤ 1000000000000) := hide fun k hk => by have := hbd k hk; omega
    obtain ⟨b1, b2⟩ := hbd m (Nat.le_refl _)
    clear hbd
    have hb0 : Below w.heap.size w (w.alloc (.cells #[.int .i64 x, .slice B m d] 27)) := (Below.refl _ _).alloc (Nat.le_refl _) _
    have hs0 : w.heap.size < (w.alloc (.cells #[.int .i64 x, .slice B m d] 27)).heap.size := by simp
    have e0 : World.cell? (w.alloc (.cells #[.int .i64 x, .slice B m d] 27)) ⟨w.heap.size, 0, none⟩ = some (.int .i64 x) := by rw [World.cell?_alloc_new]; rfl
    have e1 : World.cell? (w.alloc (.cells #[.int .i64 x, .slice B m d] 27)) ⟨w.heap.size, 1, none⟩ = some (.slice B m d) := by rw [World.cell?_alloc_new]; rfl
    have h := Rd.below h hb0
    have hL := Rd.below hL hb0
    go_enter Tryd.func34, Tryd.ntmps34
    go_wp2_with fail
    go_at_call 30
    refine (IsLiquor_any _ _ _ _ _ _ _ _ _ _ _ hn hm HS h hL).mono ?_
    rintro _ w1 ⟨rfl, hb1⟩
    rw [h1]
    have c0 := (hb1.cell (by exact hs0)).trans e0
    have c1 := (hb1.cell (by exact hs0)).trans e1
    have hz : w.heap.size < w1.heap.size := Nat.lt_of_lt_of_le hs0 hb1.size
    have d0 := fun x : After w1 => x.cell c0 hz
    have d1 := fun x : After w1 => x.cell c1 hz
    have hl := fun x : After w1 => Rd.after (Rd.below hL hb1) x
    clear h1 e0 e1 c0 c1
    go_wp2
    refine region_after (by kernel_rfl) (by kernel_rfl) ?_
    repeat (go_big_quiet_step ((first | (go_at_call 68; exact Calls.after_same (sumOf_any _ _ _ _ _ hm (hl _) HB)))))
    refine wpQuiet_nil ?_
    rintro _ ⟨y, rfl⟩
    go_wp2
    go_ret2
    exact ⟨ret_p HR.out, gr hb0 (gr hb1 y.h)⟩

set_option maxHeartbeats 2000000 in
theorem spec_LiquorMass_any (A : Option Addr) (n c : Nat) (S : Nat → ByteArray) (F : Nat → Nat → Int) (x : Int) (B : Option Addr) (m d : Nat) (L : Nat → Nat → Int) (w : World) (hn : n ≤ 1048576) (hm : m ≤ 1048576) (HS : Hid (∀ i, i < n → (S i).size ≤ 9223372036854775807)) (h : Rd w A n 3 (kdC S F)) (hL : Rd w B m 1 (ints L)) :
    Calls Tryd.prog 41 #[.slice A n c, .agg #[.int .i64 x, .slice B m d]] w fun e w' => e = .returned (.tuple #[.int .i64 (massR S F n x m L).1, .bool (massR S F n x m L).2]) ∧ Below w.heap.size w w' := by
  cases h1 : liqB S F n x m L
  · have HR := hide (show massR S F n x m L = (0, false) by simp [massR, h1])
    have hb0 : Below w.heap.size w (w.alloc (.cells #[.int .i64 x, .slice B m d] 27)) := (Below.refl _ _).alloc (Nat.le_refl _) _
    have hs0 : w.heap.size < (w.alloc (.cells #[.int .i64 x, .slice B m d] 27)).heap.size := by simp
    have e0 : World.cell? (w.alloc (.cells #[.int .i64 x, .slice B m d] 27)) ⟨w.heap.size, 0, none⟩ = some (.int .i64 x) := by rw [World.cell?_alloc_new]; rfl
    have e1 : World.cell? (w.alloc (.cells #[.int .i64 x, .slice B m d] 27)) ⟨w.heap.size, 1, none⟩ = some (.slice B m d) := by rw [World.cell?_alloc_new]; rfl
    have h := Rd.below h hb0
    have hL := Rd.below hL hb0
    go_enter Tryd.func41, Tryd.ntmps41
    go_wp2_with fail
    go_at_call 56
    refine (l10Liquor_any _ _ _ _ _ _ _ _ _ _ _ hn hm HS h hL).mono ?_
    rintro _ w1 ⟨rfl, hb1⟩
    rw [h1]
    go_wp2
    go_ret2
    exact ⟨ret_p HR.out, gr hb0 hb1⟩
  · have HR := hide (show massR S F n x m L = (x + sumI (fun j => L j 0) m, true) by simp [massR, h1])
    have HB := hide (salts_bd h1)
    obtain ⟨-, ⟨x1, x2⟩, -, -⟩ := liqB_at h1
    have hb0 : Below w.heap.size w (w.alloc (.cells #[.int .i64 x, .slice B m d] 27)) := (Below.refl _ _).alloc (Nat.le_refl _) _
    have hs0 : w.heap.size < (w.alloc (.cells #[.int .i64 x, .slice B m d] 27)).heap.size := by simp
    have e0 : World.cell? (w.alloc (.cells #[.int .i64 x, .slice B m d] 27)) ⟨w.heap.size, 0, none⟩ = some (.int .i64 x) := by rw [World.cell?_alloc_new]; rfl
    have e1 : World.cell? (w.alloc (.cells #[.int .i64 x, .slice B m d] 27)) ⟨w.heap.size, 1, none⟩ = some (.slice B m d) := by rw [World.cell?_alloc_new]; rfl
    have h := Rd.below h hb0
    have hL := Rd.below hL hb0
    go_enter Tryd.func41, Tryd.ntmps41
    go_wp2_with fail
    go_at_call 56
    refine (l10Liquor_any _ _ _ _ _ _ _ _ _ _ _ hn hm HS h hL).mono ?_
    rintro _ w1 ⟨rfl, hb1⟩
    rw [h1]
    have c0 := (hb1.cell (by exact hs0)).trans e0
    have c1 := (hb1.cell (by exact hs0)).trans e1
    have hL1 := Rd.below hL hb1
    clear h1 e0 e1
    go_wp2
    go_loop [6, 7] (fun s i => ∃ k : Nat, k ≤ m ∧ i = .int .i64 k ∧ s = .int .i64 (x + sumI (fun j => L j 0) k)) (fun _ i => m - (intOf i).toNat)
    case atStart => exact ⟨0, by omega, rfl, by simp [sumI]⟩
    case round =>
      obtain ⟨k, hk, rfl, rfl⟩ := hrel
      by_cases hlt : k < m
      · obtain ⟨b, off, rfl, hbw, hc⟩ := li_at hL1 (Below.refl _ _) (by omega)
        have hc0 := hc k hlt
        clear hc
        obtain ⟨g1, g2⟩ := HB.out k hk
        obtain ⟨g3, g4⟩ := HB.out (k + 1) (by omega)
        have HS' := hide (show sumI (fun j => L j 0) (k + 1) = sumI (fun j => L j 0) k + L k 0 from rfl)
        rw [HS'.out] at g3 g4
        generalize sumI (fun j => L j 0) k = T at g1 g2 g3 g4 HS' ⊢
        go_wp2
        go_round
        case rel => exact ⟨k + 1, by omega, by go_num, by rw [HS'.out]; go_num⟩
        case measure => simp [intOf]; omega
      · obtain rfl : k = m := by omega
        go_wp2
        go_ret2
        exact ⟨ret_p HR.out, gr hb0 hb1⟩
end Go.Proofs.YtnmpfojcmedpeaaDoor
