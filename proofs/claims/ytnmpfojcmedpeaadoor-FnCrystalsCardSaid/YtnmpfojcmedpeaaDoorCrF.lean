/-
  Contracts on liquors: how much water must go so that there is too much of one kind alone, of the program and of the reference. Conditions: lengths up to 2^20.
-/
import Derived.Test.YtnmpfojcmedpeaaDoorCrD
namespace Go.Proofs.YtnmpfojcmedpeaaDoor
open Go.RowKit

theorem pureHi_bd {F L : Nat → Nat → Int} {x : Int} {n : Nat} (i : Int) (hx : 0 ≤ x) (h : ∀ k, k < n → (1 ≤ F k 2) ∧ 0 ≤ L k 0 ∧ L k 0 ≤ 1000000) : ∀ k, k ≤ n → -1 ≤ pureHi F L x i k ∧ pureHi F L x i k ≤ x := by
  intro k
  induction k with
  | zero => intro _; simp only [pureHi]; omega
  | succ k ih =>
    intro hk
    obtain ⟨g1, s1, s2⟩ := h k (by omega)
    obtain ⟨v1, v2, -, -⟩ := fullV_bd (x := x) g1 s1 s2 hx
    have := ih (by omega)
    simp only [pureHi]
    split <;> omega

set_option maxRecDepth 20000 in
set_option maxHeartbeats 4000000 in
theorem PureBetween_any (A : Option Addr) (n c : Nat) (S : Nat → ByteArray) (F : Nat → Nat → Int) (x : Int) (B : Option Addr) (m d : Nat) (L : Nat → Nat → Int) (i : Int) (w : World) (hn : n ≤ 1048576) (hm : m ≤ 1048576) (HS : Hid (∀ i, i < n → (S i).size ≤ 9223372036854775807)) (h : Rd w A n 3 (kdC S F)) (hL : Rd w B m 1 (ints L)) :
    Calls Tryd.prog 23 #[.slice A n c, .agg #[.int .i64 x, .slice B m d], .int .i64 i] w fun e w' => e = .returned (.tuple #[.int .i64 (pureR S F n x m L i).1, .int .i64 (pureR S F n x m L i).2.1, .bool (pureR S F n x m L i).2.2]) ∧ Below w.heap.size w w' := by
  cases h1 : askB S F n x m L i
  · have HR := hide (show pureR S F n x m L i = (0, 0, false) by simp [pureR, h1])
    rw [HR.out]
    have hb0 : Below w.heap.size w (w.alloc (.cells #[.int .i64 x, .slice B m d] 27)) := (Below.refl _ _).alloc (Nat.le_refl _) _
    have hs0 : w.heap.size < (w.alloc (.cells #[.int .i64 x, .slice B m d] 27)).heap.size := by simp
    have e0 : World.cell? (w.alloc (.cells #[.int .i64 x, .slice B m d] 27)) ⟨w.heap.size, 0, none⟩ = some (.int .i64 x) := by rw [World.cell?_alloc_new]; rfl
    have e1 : World.cell? (w.alloc (.cells #[.int .i64 x, .slice B m d] 27)) ⟨w.heap.size, 1, none⟩ = some (.slice B m d) := by rw [World.cell?_alloc_new]; rfl
    replace h := Rd.below h hb0
    replace hL := Rd.below hL hb0
    go_enter Tryd.func23, Tryd.ntmps23
    go_wp2_with fail
    go_at_call 58
    refine (isOf_any _ _ _ _ _ _ _ _ _ _ _ _ hn hm HS h hL).mono ?_
    rintro _ w1 ⟨rfl, hb1⟩
    rw [h1]
    go_wp2
    refine bodyPost_ret (v := .tuple #[.int .i64 0, .int .i64 0, .bool false]) (by simp only [results, Tryd.results23]; go_simp) rfl ⟨rfl, ?_⟩
    exact gr hb0 hb1
  · obtain ⟨h2, p, rfl, hp⟩ := askB_at h1
    obtain ⟨h3, ⟨x1, x2⟩, rfl, h4⟩ := liqB_at h2
    obtain ⟨-, g1, g2⟩ := (kindsB_at h3).2 p hp
    obtain ⟨s1, s2⟩ := h4 p hp
    obtain ⟨v1, v2, v3, v4⟩ := fullV_bd (x := x) g1 s1 s2 x1
    have V3 := hide v3
    have V4 := hide v4
    clear v3 v4
    have HF := hide (show ∀ k, k < m → (1 ≤ F k 2) ∧ 0 ≤ L k 0 ∧ L k 0 ≤ 1000000 from fun k hk => ⟨((kindsB_at h3).2 k hk).2.1, h4 k hk⟩)
    have HG := hide (show ∀ k, k < m → F k 2 ≤ 1000 from fun k hk => ((kindsB_at h3).2 k hk).2.2)
    have HR := hide (show pureR S F m x m L p = if pureHi F L x p m < fullV (F p 2) (L p 0) x then (0, 0, false) else (fullV (F p 2) (L p 0) x, pureHi F L x p m, true) by unfold pureR; rw [if_pos h1]; simp)
    generalize pureR S F m x m L p = R at HR ⊢
    clear h2 h3 h4
    have hb0 : Below w.heap.size w (w.alloc (.cells #[.int .i64 x, .slice B m d] 27)) := (Below.refl _ _).alloc (Nat.le_refl _) _
    have hs0 : w.heap.size < (w.alloc (.cells #[.int .i64 x, .slice B m d] 27)).heap.size := by simp
    have e0 : World.cell? (w.alloc (.cells #[.int .i64 x, .slice B m d] 27)) ⟨w.heap.size, 0, none⟩ = some (.int .i64 x) := by rw [World.cell?_alloc_new]; rfl
    have e1 : World.cell? (w.alloc (.cells #[.int .i64 x, .slice B m d] 27)) ⟨w.heap.size, 1, none⟩ = some (.slice B m d) := by rw [World.cell?_alloc_new]; rfl
    replace h := Rd.below h hb0
    replace hL := Rd.below hL hb0
    go_enter Tryd.func23, Tryd.ntmps23
    go_wp2_with fail
    go_at_call 58
    refine (isOf_any _ _ _ _ _ _ _ _ _ _ _ _ hn hm HS h hL).mono ?_
    rintro _ w1 ⟨rfl, hb1⟩
    rw [h1]
    clear h1
    have c0 := (hb1.cell (by exact hs0)).trans e0
    have c1 := (hb1.cell (by exact hs0)).trans e1
    have hz : w.heap.size < w1.heap.size := Nat.lt_of_lt_of_le hs0 hb1.size
    clear e0 e1
    replace h := Rd.below h hb1
    replace hL := Rd.below hL hb1
    obtain ⟨b, off, rfl, hbw, hk⟩ := kd_at h (Below.refl _ _) (by omega)
    obtain ⟨b', off', rfl, hbw', hk'⟩ := li_at hL (Below.refl _ _) (by omega)
    have d0 := fun x : After w1 => x.cell c0 hz
    have d1 := fun x : After w1 => x.cell c1 hz
    have q0 := fun x : After w1 => x.cell (hk p hp).1 hbw
    have q1 := fun x : After w1 => x.cell (hk p hp).2.1 hbw
    have q2 := fun x : After w1 => x.cell (hk p hp).2.2 hbw
    have q3 := fun x : After w1 => x.cell (hk' p hp) hbw'
    clear hk hk'
    go_wp2
    refine region_after (by kernel_rfl) (by kernel_rfl) ?_
    repeat (go_big_quiet_step ((first | (go_at_call 55; exact Calls.after (fullAfter_any _ _ _ _ _ _ g1 g2 x1 x2 s1 s2)))))
    refine wpQuiet_nil ?_
    rintro _ ⟨y, rfl⟩
    clear d0 d1 q0 q1 q2 q3
    replace c0 := (y.h.cell (by exact hz)).trans c0
    replace c1 := (y.h.cell (by exact hz)).trans c1
    replace hb1 := gr hb1 y.h
    replace hz := Nat.lt_of_lt_of_le hz y.h.size
    replace h := Rd.below h y.h
    replace hL := Rd.below hL y.h
    generalize y.w = w2 at *
    clear y hbw hbw'
    generalize fullV (F p 2) (L p 0) x = V at v1 v2 V3 V4 HR ⊢
    go_wp2
    go_loopw [10, 33] (fun q i wr => ∃ k : Nat, k ≤ m ∧ i = .int .i64 k ∧ q = .int .i64 (pureHi F L x p k) ∧ Below w2.heap.size w2 wr) (fun _ i _ => m - (intOf i).toNat)
    case atStart => exact ⟨0, by omega, rfl, rfl, Below.refl _ _⟩
    case round =>
      obtain ⟨k, hk, rfl, rfl, hb⟩ := hrel
      obtain ⟨u1, u2⟩ := pureHi_bd (p : Int) x1 HF.out k hk
      have HP := hide (show pureHi F L x p (k + 1) = if (k : Int) = (p : Int) then pureHi F L x p k else min (pureHi F L x p k) (fullV (F k 2) (L k 0) x - 1) from rfl)
      by_cases hlt : k < m
      · by_cases hkp : k = p
        · have HP' := hide (HP.out.trans (if_pos (by omega)))
          have a1 : ((k : Int) != (p : Int)) = false := by simp [hkp]
          have a2 : (k != p) = false := by simp [hkp]
          have a3 : decide (k = p) = true := by simp [hkp]
          have a4 : decide ((k : Int) = (p : Int)) = true := by simp [hkp]
          have a5 : (k == p) = true := by simp [hkp]
          have a6 : ((k : Int) == (p : Int)) = true := by simp [hkp]
          clear hkp HP
          generalize pureHi F L x p k = T at u1 u2 HP' ⊢
          go_wp2
          go_roundw
          case rel => exact ⟨k + 1, by omega, by go_num, by rw [HP'.out], hb⟩
          case measure => simp [intOf]; omega
        · have HP' := hide (HP.out.trans (if_neg (by omega)))
          have a1 : ((k : Int) != (p : Int)) = true := by simp; omega
          have a2 : (k != p) = true := by simp [hkp]
          have a3 : decide (k = p) = false := by simp [hkp]
          have a4 : decide ((k : Int) = (p : Int)) = false := by simp; omega
          have a5 : (k == p) = false := by simp [hkp]
          have a6 : ((k : Int) == (p : Int)) = false := by simp; omega
          clear hkp HP
          have c0 := (hb.cell (by exact hz)).trans c0
          have c1 := (hb.cell (by exact hz)).trans c1
          have hzr : w.heap.size < wr.heap.size := Nat.lt_of_lt_of_le hz hb.size
          obtain ⟨bb, oo, ee, hbr, hk⟩ := kd_at h hb (by omega)
          obtain ⟨rfl, rfl⟩ : b = bb ∧ off = oo := by injection ee with ee; injection ee with h1 h2; exact ⟨h1, h2⟩
          obtain ⟨bb', oo', ee', hbr', hk'⟩ := li_at hL hb (by omega)
          obtain ⟨rfl, rfl⟩ : b' = bb' ∧ off' = oo' := by injection ee' with ee'; injection ee' with h1 h2; exact ⟨h1, h2⟩
          clear ee ee'
          obtain ⟨G1, S1, S2⟩ := HF.out k hlt
          have G2 := HG.out k hlt
          have d0 := fun x : After wr => x.cell c0 hzr
          have d1 := fun x : After wr => x.cell c1 hzr
          have q0 := fun x : After wr => x.cell (hk k hlt).1 hbr
          have q1 := fun x : After wr => x.cell (hk k hlt).2.1 hbr
          have q2 := fun x : After wr => x.cell (hk k hlt).2.2 hbr
          have q3 := fun x : After wr => x.cell (hk' k hlt) hbr'
          clear hk hk' c0 c1
          obtain ⟨v5, v6, -, -⟩ := fullV_bd (x := x) G1 S1 S2 x1
          generalize pureHi F L x p k = T at u1 u2 HP' ⊢
          go_wp2
          refine region_after (by kernel_rfl) (by kernel_rfl) ?_
          repeat (go_big_quiet_step ((first | (go_at_call 55; exact Calls.after (fullAfter_any _ _ _ _ _ _ G1 G2 x1 x2 S1 S2)))))
          refine wpQuiet_nil ?_
          rintro _ ⟨y, rfl⟩
          generalize fullV (F k 2) (L k 0) x = V' at v5 v6 HP' ⊢
          go_wp2
          go_roundw
          case rel => exact ⟨k + 1, by omega, by go_num, by rw [HP'.out], gr hb y.h⟩
          case measure => simp [intOf]; omega
      · have HE := hide (show k = m by omega)
        have HR' := hide (show R = if pureHi F L x p k < V then (0, 0, false) else (V, pureHi F L x p k, true) by rw [HR.out, HE.out])
        clear HP HR
        generalize pureHi F L x p k = T at u1 u2 HR' ⊢
        by_cases hT : T < V
        · obtain rfl : R = (0, 0, false) := HR'.out.trans (if_pos hT)
          go_wp2
          refine bodyPost_ret (v := .tuple #[.int .i64 0, .int .i64 0, .bool false]) (by simp only [results, Tryd.results23]; go_simp) rfl ⟨rfl, ?_⟩
          exact gr hb0 (gr hb1 hb)
        · obtain rfl : R = (V, T, true) := HR'.out.trans (if_neg hT)
          go_wp2
          refine bodyPost_ret (v := .tuple #[.int .i64 V, .int .i64 T, .bool true]) (by simp only [results, Tryd.results23]; go_simp) rfl ⟨rfl, ?_⟩
          exact gr hb0 (gr hb1 hb)
set_option maxRecDepth 20000 in
set_option maxHeartbeats 4000000 in
theorem spec_PureBetween_any (A : Option Addr) (n c : Nat) (S : Nat → ByteArray) (F : Nat → Nat → Int) (x : Int) (B : Option Addr) (m d : Nat) (L : Nat → Nat → Int) (i : Int) (w : World) (hn : n ≤ 1048576) (hm : m ≤ 1048576) (HS : Hid (∀ i, i < n → (S i).size ≤ 9223372036854775807)) (h : Rd w A n 3 (kdC S F)) (hL : Rd w B m 1 (ints L)) :
    Calls Tryd.prog 24 #[.slice A n c, .agg #[.int .i64 x, .slice B m d], .int .i64 i] w fun e w' => e = .returned (.tuple #[.int .i64 (pureR S F n x m L i).1, .int .i64 (pureR S F n x m L i).2.1, .bool (pureR S F n x m L i).2.2]) ∧ Below w.heap.size w w' := by
  cases h1 : askB S F n x m L i
  · have HR := hide (show pureR S F n x m L i = (0, 0, false) by simp [pureR, h1])
    rw [HR.out]
    have hb0 : Below w.heap.size w (w.alloc (.cells #[.int .i64 x, .slice B m d] 27)) := (Below.refl _ _).alloc (Nat.le_refl _) _
    have hs0 : w.heap.size < (w.alloc (.cells #[.int .i64 x, .slice B m d] 27)).heap.size := by simp
    have e0 : World.cell? (w.alloc (.cells #[.int .i64 x, .slice B m d] 27)) ⟨w.heap.size, 0, none⟩ = some (.int .i64 x) := by rw [World.cell?_alloc_new]; rfl
    have e1 : World.cell? (w.alloc (.cells #[.int .i64 x, .slice B m d] 27)) ⟨w.heap.size, 1, none⟩ = some (.slice B m d) := by rw [World.cell?_alloc_new]; rfl
    replace h := Rd.below h hb0
    replace hL := Rd.below hL hb0
    go_enter Tryd.func24, Tryd.ntmps24
    go_wp2_with fail
    go_at_call 60
    refine (l10Asked_any _ _ _ _ _ _ _ _ _ _ _ _ hn hm HS h hL).mono ?_
    rintro _ w1 ⟨rfl, hb1⟩
    rw [h1]
    go_wp2
    refine bodyPost_ret (v := .tuple #[.int .i64 0, .int .i64 0, .bool false]) (by simp only [results, Tryd.results24]; go_simp) rfl ⟨rfl, ?_⟩
    exact gr hb0 hb1
  · obtain ⟨h2, p, rfl, hp⟩ := askB_at h1
    obtain ⟨h3, ⟨x1, x2⟩, rfl, h4⟩ := liqB_at h2
    obtain ⟨-, g1, g2⟩ := (kindsB_at h3).2 p hp
    obtain ⟨s1, s2⟩ := h4 p hp
    obtain ⟨v1, v2, v3, v4⟩ := fullV_bd (x := x) g1 s1 s2 x1
    have V3 := hide v3
    have V4 := hide v4
    clear v3 v4
    have HF := hide (show ∀ k, k < m → (1 ≤ F k 2) ∧ 0 ≤ L k 0 ∧ L k 0 ≤ 1000000 from fun k hk => ⟨((kindsB_at h3).2 k hk).2.1, h4 k hk⟩)
    have HG := hide (show ∀ k, k < m → F k 2 ≤ 1000 from fun k hk => ((kindsB_at h3).2 k hk).2.2)
    have HR := hide (show pureR S F m x m L p = if pureHi F L x p m < fullV (F p 2) (L p 0) x then (0, 0, false) else (fullV (F p 2) (L p 0) x, pureHi F L x p m, true) by unfold pureR; rw [if_pos h1]; simp)
    generalize pureR S F m x m L p = R at HR ⊢
    clear h2 h3 h4
    have hb0 : Below w.heap.size w (w.alloc (.cells #[.int .i64 x, .slice B m d] 27)) := (Below.refl _ _).alloc (Nat.le_refl _) _
    have hs0 : w.heap.size < (w.alloc (.cells #[.int .i64 x, .slice B m d] 27)).heap.size := by simp
    have e0 : World.cell? (w.alloc (.cells #[.int .i64 x, .slice B m d] 27)) ⟨w.heap.size, 0, none⟩ = some (.int .i64 x) := by rw [World.cell?_alloc_new]; rfl
    have e1 : World.cell? (w.alloc (.cells #[.int .i64 x, .slice B m d] 27)) ⟨w.heap.size, 1, none⟩ = some (.slice B m d) := by rw [World.cell?_alloc_new]; rfl
    replace h := Rd.below h hb0
    replace hL := Rd.below hL hb0
    go_enter Tryd.func24, Tryd.ntmps24
    go_wp2_with fail
    go_at_call 60
    refine (l10Asked_any _ _ _ _ _ _ _ _ _ _ _ _ hn hm HS h hL).mono ?_
    rintro _ w1 ⟨rfl, hb1⟩
    rw [h1]
    clear h1
    have c0 := (hb1.cell (by exact hs0)).trans e0
    have c1 := (hb1.cell (by exact hs0)).trans e1
    have hz : w.heap.size < w1.heap.size := Nat.lt_of_lt_of_le hs0 hb1.size
    clear e0 e1
    replace h := Rd.below h hb1
    replace hL := Rd.below hL hb1
    obtain ⟨b, off, rfl, hbw, hk⟩ := kd_at h (Below.refl _ _) (by omega)
    obtain ⟨b', off', rfl, hbw', hk'⟩ := li_at hL (Below.refl _ _) (by omega)
    have d0 := fun x : After w1 => x.cell c0 hz
    have d1 := fun x : After w1 => x.cell c1 hz
    have q0 := fun x : After w1 => x.cell (hk p hp).1 hbw
    have q1 := fun x : After w1 => x.cell (hk p hp).2.1 hbw
    have q2 := fun x : After w1 => x.cell (hk p hp).2.2 hbw
    have q3 := fun x : After w1 => x.cell (hk' p hp) hbw'
    clear hk hk'
    go_wp2
    refine region_after (by kernel_rfl) (by kernel_rfl) ?_
    repeat (go_big_quiet_step ((first | (go_at_call 57; exact Calls.after (l10Dry_any _ _ _ _ _ _ g1 g2 x1 x2 s1 s2)))))
    refine wpQuiet_nil ?_
    rintro _ ⟨y, rfl⟩
    clear d0 d1 q0 q1 q2 q3
    replace c0 := (y.h.cell (by exact hz)).trans c0
    replace c1 := (y.h.cell (by exact hz)).trans c1
    replace hb1 := gr hb1 y.h
    replace hz := Nat.lt_of_lt_of_le hz y.h.size
    replace h := Rd.below h y.h
    replace hL := Rd.below hL y.h
    generalize y.w = w2 at *
    clear y hbw hbw'
    obtain ⟨y1, y2⟩ := dryV_bd (x := x) g1 s1 s2 x1
    have HD0 := hide (show L p 0 = 0 → fullV (F p 2) (L p 0) x = x + 1 ∧ dryV (F p 2) (L p 0) x = -1 from V4.out)
    have HD1 := hide (show L p 0 ≠ 0 → fullV (F p 2) (L p 0) x = dryV (F p 2) (L p 0) x from fun h => (V3.out h).2)
    clear V3 V4
    generalize fullV (F p 2) (L p 0) x = V at v1 v2 HR HD0 HD1
    generalize dryV (F p 2) (L p 0) x = D at y1 y2 HD0 HD1 ⊢
    go_wp2
    go_loopw [10, 11, 12] (fun q i _ wr => ∃ k : Nat, k ≤ m ∧ i = .int .i64 k ∧ q = .int .i64 (pureHi F L x p k) ∧ Below w2.heap.size w2 wr) (fun _ i _ _ => m - (intOf i).toNat)
    case atStart => exact ⟨0, by omega, rfl, rfl, Below.refl _ _⟩
    case round =>
      obtain ⟨k, hk, rfl, rfl, hb⟩ := hrel
      obtain ⟨u1, u2⟩ := pureHi_bd (p : Int) x1 HF.out k hk
      have HP := hide (show pureHi F L x p (k + 1) = if (k : Int) = (p : Int) then pureHi F L x p k else min (pureHi F L x p k) (fullV (F k 2) (L k 0) x - 1) from rfl)
      by_cases hlt : k < m
      · have c0 := (hb.cell (by exact hz)).trans c0
        have c1 := (hb.cell (by exact hz)).trans c1
        have hzr : w.heap.size < wr.heap.size := Nat.lt_of_lt_of_le hz hb.size
        obtain ⟨bb, oo, ee, hbr, hk⟩ := kd_at h hb (by omega)
        obtain ⟨rfl, rfl⟩ : b = bb ∧ off = oo := by injection ee with ee; injection ee with h1 h2; exact ⟨h1, h2⟩
        obtain ⟨bb', oo', ee', hbr', hk'⟩ := li_at hL hb (by omega)
        obtain ⟨rfl, rfl⟩ : b' = bb' ∧ off' = oo' := by injection ee' with ee'; injection ee' with h1 h2; exact ⟨h1, h2⟩
        clear ee ee'
        obtain ⟨G1, S1, S2⟩ := HF.out k hlt
        have G2 := HG.out k hlt
        have d0 := fun x : After wr => x.cell c0 hzr
        have d1 := fun x : After wr => x.cell c1 hzr
        have q0 := fun x : After wr => x.cell (hk k hlt).1 hbr
        have q1 := fun x : After wr => x.cell (hk k hlt).2.1 hbr
        have q2 := fun x : After wr => x.cell (hk k hlt).2.2 hbr
        have q3 := fun x : After wr => x.cell (hk' k hlt) hbr'
        clear hk hk' c0 c1
        obtain ⟨z1, z2⟩ := dryV_bd (x := x) G1 S1 S2 x1
        obtain ⟨v5, v6, v7, v8⟩ := fullV_bd (x := x) G1 S1 S2 x1
        have V7 := hide v7
        have V8 := hide v8
        clear v7 v8
        go_wp2
        refine region_after (by kernel_rfl) (by kernel_rfl) ?_
        repeat (go_big_quiet_step ((first | (go_at_call 57; exact Calls.after (l10Dry_any _ _ _ _ _ _ G1 G2 x1 x2 S1 S2)))))
        refine wpQuiet_nil ?_
        rintro _ ⟨y, rfl⟩
        have hbx := gr hb y.h
        clear d0 d1 q0 q1 q2 q3
        by_cases hkp : k = p
        · have HP' := hide (HP.out.trans (if_pos (by omega)))
          have a1 : ((k : Int) != (p : Int)) = false := by simp [hkp]
          have a2 : (k != p) = false := by simp [hkp]
          have a3 : decide (k = p) = true := by simp [hkp]
          have a4 : decide ((k : Int) = (p : Int)) = true := by simp [hkp]
          have a5 : (k == p) = true := by simp [hkp]
          have a6 : ((k : Int) == (p : Int)) = true := by simp [hkp]
          clear hkp HP V7 V8
          generalize pureHi F L x p k = T at u1 u2 HP' ⊢
          generalize dryV (F k 2) (L k 0) x = W' at z1 z2 ⊢
          go_wp2
          go_roundw
          case rel => exact ⟨k + 1, by omega, by go_num, by rw [HP'.out], hbx⟩
          case measure => simp [intOf]; omega
        · have HP' := hide (HP.out.trans (if_neg (by omega)))
          have a1 : ((k : Int) != (p : Int)) = true := by simp; omega
          have a2 : (k != p) = true := by simp [hkp]
          have a3 : decide (k = p) = false := by simp [hkp]
          have a4 : decide ((k : Int) = (p : Int)) = false := by simp; omega
          have a5 : (k == p) = false := by simp [hkp]
          have a6 : ((k : Int) == (p : Int)) = false := by simp; omega
          clear hkp HP
          by_cases h0 : L k 0 = 0
          · obtain ⟨t1, t2⟩ := V8.out h0
            have HP2 := hide (show pureHi F L x p (k + 1) = pureHi F L x p k by rw [HP'.out, t1]; omega)
            rw [t2]
            clear V7 V8 t1 t2 h0 HP' v5 v6 z1 z2
            generalize pureHi F L x p k = T at u1 u2 HP2 ⊢
            go_wp2
            go_roundw
            case rel => exact ⟨k + 1, by omega, by go_num, by rw [HP2.out], hbx⟩
            case measure => simp [intOf]; omega
          · obtain ⟨t1, t2⟩ := V7.out h0
            rw [← t2]
            clear V7 V8 t2 h0 z1 z2
            generalize pureHi F L x p k = T at u1 u2 HP' ⊢
            generalize fullV (F k 2) (L k 0) x = V' at v5 v6 t1 HP' ⊢
            go_wp2_with (first | (go_at_call 61; refine (l1Least_any _ _ _).mono ?_; rintro _ _ ⟨rfl, rfl⟩))
            go_roundw
            case rel => exact ⟨k + 1, by omega, by go_num, by rw [HP'.out], hbx⟩
            case measure => simp [intOf]; omega
      · have HE := hide (show k = m by omega)
        have HR' := hide (show R = if pureHi F L x p k < V then (0, 0, false) else (V, pureHi F L x p k, true) by rw [HR.out, HE.out])
        clear HP HR
        generalize pureHi F L x p k = T at u1 u2 HR' ⊢
        by_cases h0 : L p 0 = 0
        · obtain ⟨t1, t2⟩ := HD0.out h0
          obtain rfl : R = (0, 0, false) := HR'.out.trans (if_pos (by omega))
          subst t2
          clear HD0 HD1 t1 h0
          go_wp2
          refine bodyPost_ret (v := .tuple #[.int .i64 0, .int .i64 0, .bool false]) (by simp only [results, Tryd.results24]; go_simp) rfl ⟨rfl, ?_⟩
          exact gr hb0 (gr hb1 hb)
        · have t1 := HD1.out h0
          subst t1
          clear HD0 HD1 h0
          have hd : decide (V < 0) = false := by simp; omega
          by_cases hT : T < V
          · obtain rfl : R = (0, 0, false) := HR'.out.trans (if_pos hT)
            go_wp2
            refine bodyPost_ret (v := .tuple #[.int .i64 0, .int .i64 0, .bool false]) (by simp only [results, Tryd.results24]; go_simp) rfl ⟨rfl, ?_⟩
            exact gr hb0 (gr hb1 hb)
          · obtain rfl : R = (V, T, true) := HR'.out.trans (if_neg hT)
            go_wp2
            refine bodyPost_ret (v := .tuple #[.int .i64 V, .int .i64 T, .bool true]) (by simp only [results, Tryd.results24]; go_simp) rfl ⟨rfl, ?_⟩
            exact gr hb0 (gr hb1 hb)
end Go.Proofs.YtnmpfojcmedpeaaDoor
