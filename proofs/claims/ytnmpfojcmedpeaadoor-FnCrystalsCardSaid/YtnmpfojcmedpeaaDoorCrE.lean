/-
  Contracts on liquors: of which kind there is too much first, of the program and of the reference. Conditions: lengths up to 2^20.
-/
import Derived.Test.YtnmpfojcmedpeaaDoorCrD
namespace Go.Proofs.YtnmpfojcmedpeaaDoor
open Go.RowKit

def ffB : Option (Nat × Int) → Int
  | some p => p.1
  | none => 0
def ffL (x : Int) : Option (Nat × Int) → Int
  | some p => p.2
  | none => x + 1
def ffB' : Option (Nat × Int) → Int
  | some p => p.1
  | none => -1
def ffL' : Option (Nat × Int) → Int
  | some p => p.2
  | none => 0
theorem firstF_bd {F L : Nat → Nat → Int} {x : Int} {n : Nat} (hx : 0 ≤ x) (h : ∀ k, k < n → (1 ≤ F k 2) ∧ 0 ≤ L k 0 ∧ L k 0 ≤ 1000000) : ∀ k, k ≤ n → ∀ p, firstF F L x k = some p → p.1 < k ∧ 0 ≤ p.2 ∧ p.2 ≤ x := by
  intro k
  induction k with
  | zero => intro _ p hp; simp [firstF] at hp
  | succ k ih =>
    intro hk p hp
    obtain ⟨g1, s1, s2⟩ := h k (by omega)
    obtain ⟨v1, v2, v3, v4⟩ := fullV_bd (x := x) g1 s1 s2 hx
    have ih' := ih (by omega)
    simp only [firstF] at hp
    split at hp
    · split at hp
      · cases hp
      · rename_i h0
        have := v3 h0
        injection hp with hp
        subst hp
        exact ⟨Nat.lt_succ_self _, v1, this.1⟩
    · rename_i q hq
      have hb := ih' q hq
      split at hp
      · rename_i h0
        have := v3 h0.1
        injection hp with hp
        subst hp
        exact ⟨Nat.lt_succ_self _, v1, this.1⟩
      · injection hp with hp
        subst hp
        exact ⟨by omega, hb.2.1, hb.2.2⟩
theorem firstF_impl {F L : Nat → Nat → Int} {x : Int} {n k : Nat} (hx : 0 ≤ x) (h : ∀ k, k < n → (1 ≤ F k 2) ∧ 0 ≤ L k 0 ∧ L k 0 ≤ 1000000) (hk : k < n) :
    firstF F L x (k + 1) = if fullV (F k 2) (L k 0) x < ffL x (firstF F L x k) then some (k, fullV (F k 2) (L k 0) x) else firstF F L x k := by
  obtain ⟨g1, s1, s2⟩ := h k hk
  obtain ⟨v1, v2, v3, v4⟩ := fullV_bd (x := x) g1 s1 s2 hx
  have hbd := firstF_bd hx h k (by omega)
  simp only [firstF]
  cases ho : firstF F L x k with
  | none =>
    simp only
    rw [show ffL x none = x + 1 from rfl]
    by_cases h0 : L k 0 = 0
    · have := v4 h0; rw [if_pos h0, if_neg (by omega)]
    · have := v3 h0; rw [if_neg h0, if_pos (by omega)]
  | some p =>
    have := hbd p ho
    simp only
    rw [show ffL x (some p) = p.2 from rfl]
    by_cases h0 : L k 0 = 0
    · have := v4 h0; rw [if_neg (by omega), if_neg (by omega)]
    · by_cases h1 : fullV (F k 2) (L k 0) x < p.2
      · rw [if_pos ⟨h0, h1⟩, if_pos h1]
      · rw [if_neg (fun hh => h1 hh.2), if_neg h1]
theorem firstF_spec {F L : Nat → Nat → Int} {x : Int} {n k : Nat} (hx : 0 ≤ x) (h : ∀ k, k < n → (1 ≤ F k 2) ∧ 0 ≤ L k 0 ∧ L k 0 ≤ 1000000) (hk : k < n) :
    firstF F L x (k + 1) = if 0 ≤ dryV (F k 2) (L k 0) x ∧ (ffB' (firstF F L x k) < 0 ∨ dryV (F k 2) (L k 0) x < ffL' (firstF F L x k)) then some (k, dryV (F k 2) (L k 0) x) else firstF F L x k := by
  obtain ⟨g1, s1, s2⟩ := h k hk
  obtain ⟨v1, v2, v3, v4⟩ := fullV_bd (x := x) g1 s1 s2 hx
  simp only [firstF]
  by_cases h0 : L k 0 = 0
  · obtain ⟨-, t2⟩ := v4 h0
    have hn : ¬ (0 ≤ (-1 : Int) ∧ (ffB' (firstF F L x k) < 0 ∨ -1 < ffL' (firstF F L x k))) := fun hh => absurd hh.1 (by decide)
    rw [t2, if_neg hn]
    cases ho : firstF F L x k with
    | none => simp only; rw [if_pos h0]
    | some p => simp only; rw [if_neg (fun hh => hh.1 h0)]
  · obtain ⟨-, t2⟩ := v3 h0
    rw [← t2]
    cases ho : firstF F L x k with
    | none =>
      simp only
      rw [show ffB' none = -1 from rfl, show ffL' none = 0 from rfl, if_neg h0, if_pos ⟨v1, Or.inl (by omega)⟩]
    | some p =>
      simp only
      rw [show ffB' (some p) = (p.1 : Int) from rfl, show ffL' (some p) = p.2 from rfl]
      by_cases h1 : fullV (F k 2) (L k 0) x < p.2
      · rw [if_pos ⟨h0, h1⟩, if_pos ⟨v1, Or.inr h1⟩]
      · rw [if_neg (fun hh => h1 hh.2), if_neg (fun hh => h1 (hh.2.resolve_left (by omega)))]

set_option maxRecDepth 20000 in
set_option maxHeartbeats 2000000 in
theorem FirstToFall_any (A : Option Addr) (n c : Nat) (S : Nat → ByteArray) (F : Nat → Nat → Int) (x : Int) (B : Option Addr) (m d : Nat) (L : Nat → Nat → Int) (w : World) (hn : n ≤ 1048576) (hm : m ≤ 1048576) (HS : Hid (∀ i, i < n → (S i).size ≤ 9223372036854775807)) (h : Rd w A n 3 (kdC S F)) (hL : Rd w B m 1 (ints L)) :
    Calls Tryd.prog 16 #[.slice A n c, .agg #[.int .i64 x, .slice B m d]] w fun e w' => e = .returned (.tuple #[.int .i64 (firstFR S F n x m L).1, .int .i64 (firstFR S F n x m L).2.1, .bool (firstFR S F n x m L).2.2]) ∧ Below w.heap.size w w' := by
  cases h1 : liqB S F n x m L
  · have HR := hide (show firstFR S F n x m L = (0, 0, false) by simp [firstFR, h1])
    rw [HR.out]
    have hb0 : Below w.heap.size w (w.alloc (.cells #[.int .i64 x, .slice B m d] 27)) := (Below.refl _ _).alloc (Nat.le_refl _) _
    have hs0 : w.heap.size < (w.alloc (.cells #[.int .i64 x, .slice B m d] 27)).heap.size := by simp
    have e0 : World.cell? (w.alloc (.cells #[.int .i64 x, .slice B m d] 27)) ⟨w.heap.size, 0, none⟩ = some (.int .i64 x) := by rw [World.cell?_alloc_new]; rfl
    have e1 : World.cell? (w.alloc (.cells #[.int .i64 x, .slice B m d] 27)) ⟨w.heap.size, 1, none⟩ = some (.slice B m d) := by rw [World.cell?_alloc_new]; rfl
    have h := Rd.below h hb0
    have hL := Rd.below hL hb0
    go_enter Tryd.func16, Tryd.ntmps16
    go_wp2_with fail
    go_at_call 30
    refine (IsLiquor_any _ _ _ _ _ _ _ _ _ _ _ hn hm HS h hL).mono ?_
    rintro _ w1 ⟨rfl, hb1⟩
    rw [h1]
    go_wp2
    refine bodyPost_ret (v := .tuple #[.int .i64 0, .int .i64 0, .bool false]) (by simp only [results, Tryd.results16]; go_simp) rfl ⟨rfl, ?_⟩
    exact gr hb0 hb1
  · obtain ⟨h3, ⟨x1, x2⟩, rfl, h4⟩ := liqB_at h1
    have hK := kindsB_at h3
    have HF := hide (show ∀ k, k < m → (1 ≤ F k 2) ∧ 0 ≤ L k 0 ∧ L k 0 ≤ 1000000 from fun k hk => ⟨(hK.2 k hk).2.1, h4 k hk⟩)
    have HG := hide (show ∀ k, k < m → F k 2 ≤ 1000 from fun k hk => (hK.2 k hk).2.2)
    have HR := hide (show firstFR S F m x m L = (match firstF F L x m with | some p => ((p.1 : Int), p.2, true) | none => (0, 0, false)) by unfold firstFR; rw [if_pos h1]; rfl)
    have hpos : 0 < m := by have := hK.1; omega
    generalize firstFR S F m x m L = R at HR ⊢
    clear h3 h4 hK
    have hb0 : Below w.heap.size w (w.alloc (.cells #[.int .i64 x, .slice B m d] 27)) := (Below.refl _ _).alloc (Nat.le_refl _) _
    have hs0 : w.heap.size < (w.alloc (.cells #[.int .i64 x, .slice B m d] 27)).heap.size := by simp
    have e0 : World.cell? (w.alloc (.cells #[.int .i64 x, .slice B m d] 27)) ⟨w.heap.size, 0, none⟩ = some (.int .i64 x) := by rw [World.cell?_alloc_new]; rfl
    have e1 : World.cell? (w.alloc (.cells #[.int .i64 x, .slice B m d] 27)) ⟨w.heap.size, 1, none⟩ = some (.slice B m d) := by rw [World.cell?_alloc_new]; rfl
    have h := Rd.below h hb0
    have hL := Rd.below hL hb0
    go_enter Tryd.func16, Tryd.ntmps16
    go_wp2_with fail
    go_at_call 30
    refine (IsLiquor_any _ _ _ _ _ _ _ _ _ _ _ hn hm HS h hL).mono ?_
    rintro _ w1 ⟨rfl, hb1⟩
    rw [h1]
    clear h1
    have c0 := (hb1.cell (by exact hs0)).trans e0
    have c1 := (hb1.cell (by exact hs0)).trans e1
    have hz : w.heap.size < w1.heap.size := Nat.lt_of_lt_of_le hs0 hb1.size
    have h := Rd.below h hb1
    have hL := Rd.below hL hb1
    clear e0 e1
    have f0 := fun x : After w1 => x.cell c0 hz
    go_wp2
    refine region_after (by kernel_rfl) (by kernel_rfl) ?_
    repeat (go_big_quiet_step ((first | fail)))
    refine wpQuiet_nil ?_
    rintro _ ⟨y, rfl⟩
    replace c0 := (y.h.cell (by exact hz)).trans c0
    replace c1 := (y.h.cell (by exact hz)).trans c1
    replace hb1 := gr hb1 y.h
    replace hz := Nat.lt_of_lt_of_le hz y.h.size
    replace h := Rd.below h y.h
    replace hL := Rd.below hL y.h
    clear f0
    generalize y.w = w2 at *
    clear y
    go_wp2
    go_loopw [7, 8, 21] (fun q l i wr => ∃ k : Nat, k ≤ m ∧ i = .int .i64 k ∧ q = .int .i64 (ffB (firstF F L x k)) ∧ l = .int .i64 (ffL x (firstF F L x k)) ∧ Below w2.heap.size w2 wr) (fun _ _ i _ => m - (intOf i).toNat)
    case atStart => exact ⟨0, by omega, rfl, rfl, rfl, Below.refl _ _⟩
    case round =>
      obtain ⟨k, hk, rfl, rfl, rfl, hb⟩ := hrel
      by_cases hlt : k < m
      · have HI := hide (firstF_impl x1 HF.out hlt)
        have c0 := (hb.cell (by exact hz)).trans c0
        have c1 := (hb.cell (by exact hz)).trans c1
        have hzr : w.heap.size < wr.heap.size := Nat.lt_of_lt_of_le hz hb.size
        obtain ⟨b, off, rfl, hbw, hk⟩ := kd_at h hb (by omega)
        obtain ⟨b', off', rfl, hbw', hk'⟩ := li_at hL hb (by omega)
        obtain ⟨g1, s1, s2⟩ := HF.out k hlt
        have g2 := HG.out k hlt
        obtain ⟨t0, t1, t2⟩ := hk k hlt
        have t3 := hk' k hlt
        generalize firstF F L x k = o at HI ⊢
        clear hk hk'
        go_wp2
        have hbW : Below wr.heap.size wr (wr.alloc (.cells #[.string (S k), .int .i64 (F k 1), .int .i64 (F k 2)] 46)) := (Below.refl _ _).alloc (Nat.le_refl _) _
        have hsW : wr.heap.size < (wr.alloc (.cells #[.string (S k), .int .i64 (F k 1), .int .i64 (F k 2)] 46)).heap.size := by simp
        have e0 : World.cell? (wr.alloc (.cells #[.string (S k), .int .i64 (F k 1), .int .i64 (F k 2)] 46)) ⟨wr.heap.size, 0, none⟩ = some (.string (S k)) := by rw [World.cell?_alloc_new]; rfl
        have e1 : World.cell? (wr.alloc (.cells #[.string (S k), .int .i64 (F k 1), .int .i64 (F k 2)] 46)) ⟨wr.heap.size, 1, none⟩ = some (.int .i64 (F k 1)) := by rw [World.cell?_alloc_new]; rfl
        have e2 : World.cell? (wr.alloc (.cells #[.string (S k), .int .i64 (F k 1), .int .i64 (F k 2)] 46)) ⟨wr.heap.size, 2, none⟩ = some (.int .i64 (F k 2)) := by rw [World.cell?_alloc_new]; rfl
        generalize wr.alloc (.cells #[.string (S k), .int .i64 (F k 1), .int .i64 (F k 2)] 46) = W2 at hbW hsW e0 e1 e2 ⊢
        have hz2 : w.heap.size < W2.heap.size := by omega
        have hbz' : b' < W2.heap.size := by omega
        have u0 := (hbW.cell (by exact hzr)).trans c0
        have u1 := (hbW.cell (by exact hzr)).trans c1
        have u3 := (hbW.cell (by exact hbw')).trans t3
        clear t0 t1 t2 t3 c0 c1
        have d0 := fun x : After W2 => x.cell e0 hsW
        have d1 := fun x : After W2 => x.cell e1 hsW
        have d2 := fun x : After W2 => x.cell e2 hsW
        have d3 := fun x : After W2 => x.cell u0 hz2
        have d4 := fun x : After W2 => x.cell u1 hz2
        have d5 := fun x : After W2 => x.cell u3 hbz'
        clear e0 e1 e2 u0 u1 u3
        have hbx := fun x : After W2 => gr hb (gr hbW x.h)
        refine region_after (by kernel_rfl) (by kernel_rfl) ?_
        repeat (go_big_quiet_step ((first | (go_at_call 55; exact Calls.after (fullAfter_any _ _ _ _ _ _ g1 g2 x1 x2 s1 s2)))))
        refine wpQuiet_nil ?_
        rintro _ ⟨y, rfl⟩
        generalize fullV (F k 2) (L k 0) x = V at HI
        by_cases hV : V < ffL x o
        · have HI' := hide (HI.out.trans (if_pos hV))
          go_wp2
          go_roundw
          case rel => exact ⟨k + 1, by omega, by go_num, by rw [HI'.out]; rfl, by rw [HI'.out]; rfl, hbx y⟩
          case measure => simp [intOf]; omega
        · have HI' := hide (HI.out.trans (if_neg hV))
          go_wp2
          go_roundw
          case rel => exact ⟨k + 1, by omega, by go_num, by rw [HI'.out], by rw [HI'.out], hbx y⟩
          case measure => simp [intOf]; omega
      · have HE := hide (show k = m by omega)
        have hbd := firstF_bd x1 HF.out k hk
        have HB := hide hbd
        have c0 := (hb.cell (by exact hz)).trans c0
        have HR' := hide (show R = (match firstF F L x k with | some p => ((p.1 : Int), p.2, true) | none => (0, 0, false)) by rw [HR.out, HE.out])
        clear hbd
        generalize firstF F L x k = o at HB HR' ⊢
        cases o with
        | none =>
          obtain rfl : R = (0, 0, false) := HR'.out
          simp only [ffB, ffL]
          have hd : decide (x < x + 1) = true := by simp; omega
          go_wp2
          refine bodyPost_ret (v := .tuple #[.int .i64 0, .int .i64 0, .bool false]) (by simp only [results, Tryd.results16]; go_simp) rfl ⟨rfl, ?_⟩
          exact gr hb0 (gr hb1 hb)
        | some p =>
          obtain ⟨-, q1, q2⟩ := HB.out p rfl
          obtain rfl : R = ((p.1 : Int), p.2, true) := HR'.out
          simp only [ffB, ffL]
          have hd : decide (x < p.2) = false := by simp; omega
          go_wp2
          refine bodyPost_ret (v := .tuple #[.int .i64 p.1, .int .i64 p.2, .bool true]) (by simp only [results, Tryd.results16]; go_simp) rfl ⟨rfl, ?_⟩
          exact gr hb0 (gr hb1 hb)

set_option maxRecDepth 20000 in
set_option maxHeartbeats 2000000 in
theorem spec_FirstToFall_any (A : Option Addr) (n c : Nat) (S : Nat → ByteArray) (F : Nat → Nat → Int) (x : Int) (B : Option Addr) (m d : Nat) (L : Nat → Nat → Int) (w : World) (hn : n ≤ 1048576) (hm : m ≤ 1048576) (HS : Hid (∀ i, i < n → (S i).size ≤ 9223372036854775807)) (h : Rd w A n 3 (kdC S F)) (hL : Rd w B m 1 (ints L)) :
    Calls Tryd.prog 17 #[.slice A n c, .agg #[.int .i64 x, .slice B m d]] w fun e w' => e = .returned (.tuple #[.int .i64 (firstFR S F n x m L).1, .int .i64 (firstFR S F n x m L).2.1, .bool (firstFR S F n x m L).2.2]) ∧ Below w.heap.size w w' := by
  cases h1 : liqB S F n x m L
  · have HR := hide (show firstFR S F n x m L = (0, 0, false) by simp [firstFR, h1])
    rw [HR.out]
    have hb0 : Below w.heap.size w (w.alloc (.cells #[.int .i64 x, .slice B m d] 27)) := (Below.refl _ _).alloc (Nat.le_refl _) _
    have hs0 : w.heap.size < (w.alloc (.cells #[.int .i64 x, .slice B m d] 27)).heap.size := by simp
    have e0 : World.cell? (w.alloc (.cells #[.int .i64 x, .slice B m d] 27)) ⟨w.heap.size, 0, none⟩ = some (.int .i64 x) := by rw [World.cell?_alloc_new]; rfl
    have e1 : World.cell? (w.alloc (.cells #[.int .i64 x, .slice B m d] 27)) ⟨w.heap.size, 1, none⟩ = some (.slice B m d) := by rw [World.cell?_alloc_new]; rfl
    have h := Rd.below h hb0
    have hL := Rd.below hL hb0
    go_enter Tryd.func17, Tryd.ntmps17
    go_wp2_with fail
    go_at_call 56
    refine (l10Liquor_any _ _ _ _ _ _ _ _ _ _ _ hn hm HS h hL).mono ?_
    rintro _ w1 ⟨rfl, hb1⟩
    rw [h1]
    go_wp2
    refine bodyPost_ret (v := .tuple #[.int .i64 0, .int .i64 0, .bool false]) (by simp only [results, Tryd.results17]; go_simp) rfl ⟨rfl, ?_⟩
    exact gr hb0 hb1
  · obtain ⟨h3, ⟨x1, x2⟩, rfl, h4⟩ := liqB_at h1
    have hK := kindsB_at h3
    have HF := hide (show ∀ k, k < m → (1 ≤ F k 2) ∧ 0 ≤ L k 0 ∧ L k 0 ≤ 1000000 from fun k hk => ⟨(hK.2 k hk).2.1, h4 k hk⟩)
    have HG := hide (show ∀ k, k < m → F k 2 ≤ 1000 from fun k hk => (hK.2 k hk).2.2)
    have HR := hide (show firstFR S F m x m L = (match firstF F L x m with | some p => ((p.1 : Int), p.2, true) | none => (0, 0, false)) by unfold firstFR; rw [if_pos h1]; rfl)
    have hpos : 0 < m := by have := hK.1; omega
    generalize firstFR S F m x m L = R at HR ⊢
    clear h3 h4 hK
    have hb0 : Below w.heap.size w (w.alloc (.cells #[.int .i64 x, .slice B m d] 27)) := (Below.refl _ _).alloc (Nat.le_refl _) _
    have hs0 : w.heap.size < (w.alloc (.cells #[.int .i64 x, .slice B m d] 27)).heap.size := by simp
    have e0 : World.cell? (w.alloc (.cells #[.int .i64 x, .slice B m d] 27)) ⟨w.heap.size, 0, none⟩ = some (.int .i64 x) := by rw [World.cell?_alloc_new]; rfl
    have e1 : World.cell? (w.alloc (.cells #[.int .i64 x, .slice B m d] 27)) ⟨w.heap.size, 1, none⟩ = some (.slice B m d) := by rw [World.cell?_alloc_new]; rfl
    have h := Rd.below h hb0
    have hL := Rd.below hL hb0
    go_enter Tryd.func17, Tryd.ntmps17
    go_wp2_with fail
    go_at_call 56
    refine (l10Liquor_any _ _ _ _ _ _ _ _ _ _ _ hn hm HS h hL).mono ?_
    rintro _ w1 ⟨rfl, hb1⟩
    rw [h1]
    clear h1
    have c0 := (hb1.cell (by exact hs0)).trans e0
    have c1 := (hb1.cell (by exact hs0)).trans e1
    have hz : w.heap.size < w1.heap.size := Nat.lt_of_lt_of_le hs0 hb1.size
    have h := Rd.below h hb1
    have hL := Rd.below hL hb1
    clear e0 e1
    go_wp2
    go_loopw [7, 8, 9, 10] (fun q l i _ wr => ∃ k : Nat, k ≤ m ∧ i = .int .i64 k ∧ q = .int .i64 (ffB' (firstF F L x k)) ∧ l = .int .i64 (ffL' (firstF F L x k)) ∧ Below w1.heap.size w1 wr) (fun _ _ i _ _ => m - (intOf i).toNat)
    case atStart => exact ⟨0, by omega, rfl, rfl, rfl, Below.refl _ _⟩
    case round =>
      obtain ⟨k, hk, rfl, rfl, rfl, hb⟩ := hrel
      have hbd := firstF_bd x1 HF.out k hk
      by_cases hlt : k < m
      · have HI := hide (firstF_spec x1 HF.out hlt)
        have c0 := (hb.cell (by exact hz)).trans c0
        have c1 := (hb.cell (by exact hz)).trans c1
        have hzr : w.heap.size < wr.heap.size := Nat.lt_of_lt_of_le hz hb.size
        obtain ⟨b, off, rfl, hbw, hk⟩ := kd_at h hb (by omega)
        obtain ⟨b', off', rfl, hbw', hk'⟩ := li_at hL hb (by omega)
        obtain ⟨g1, s1, s2⟩ := HF.out k hlt
        have g2 := HG.out k hlt
        have d0 := fun x : After wr => x.cell c0 hzr
        have d1 := fun x : After wr => x.cell c1 hzr
        have q0 := fun x : After wr => x.cell (hk k hlt).1 hbw
        have q1 := fun x : After wr => x.cell (hk k hlt).2.1 hbw
        have q2 := fun x : After wr => x.cell (hk k hlt).2.2 hbw
        have q3 := fun x : After wr => x.cell (hk' k hlt) hbw'
        have HB := hide hbd
        clear hbd
        generalize firstF F L x k = o at HI HB ⊢
        clear hk hk' c0 c1
        go_wp2
        refine region_after (by kernel_rfl) (by kernel_rfl) ?_
        repeat (go_big_quiet_step ((first | (go_at_call 57; exact Calls.after (l10Dry_any _ _ _ _ _ _ g1 g2 x1 x2 s1 s2)))))
        refine wpQuiet_nil ?_
        rintro _ ⟨y, rfl⟩
        generalize dryV (F k 2) (L k 0) x = V at HI
        have hbx := gr hb y.h
        clear d0 d1 q0 q1 q2 q3
        by_cases hV : 0 ≤ V
        · cases o with
          | none =>
            have HI' := hide (HI.out.trans (if_pos ⟨hV, Or.inl (by simp [ffB'])⟩))
            simp only [ffB', ffL']
            go_wp2
            go_roundw
            case rel => exact ⟨k + 1, by omega, by go_num, by rw [HI'.out]; rfl, by rw [HI'.out]; rfl, hbx⟩
            case measure => simp [intOf]; omega
          | some p =>
            obtain ⟨-, q1, q2⟩ := HB.out p rfl
            rw [show ffB' (some p) = (p.1 : Int) from rfl, show ffL' (some p) = p.2 from rfl] at HI ⊢
            have hd : decide ((p.1 : Int) < 0) = false := by simp
            by_cases hl : V < p.2
            · have HI' := hide (HI.out.trans (if_pos ⟨hV, Or.inr hl⟩))
              go_wp2
              go_roundw
              case rel => exact ⟨k + 1, by omega, by go_num, by rw [HI'.out]; rfl, by rw [HI'.out]; rfl, hbx⟩
              case measure => simp [intOf]; omega
            · have HI' := hide (HI.out.trans (if_neg (fun hh => hl (hh.2.resolve_left (by omega)))))
              go_wp2
              go_roundw
              case rel => exact ⟨k + 1, by omega, by go_num, by rw [HI'.out]; rfl, by rw [HI'.out]; rfl, hbx⟩
              case measure => simp [intOf]; omega
        · have HI' := hide (HI.out.trans (if_neg (fun hh => hV hh.1)))
          have hd : decide (0 ≤ V) = false := by simpa using hV
          go_wp2
          go_roundw
          case rel => exact ⟨k + 1, by omega, by go_num, by rw [HI'.out], by rw [HI'.out], hbx⟩
          case measure => simp [intOf]; omega
      · have HE := hide (show k = m by omega)
        have HB := hide hbd
        have HR' := hide (show R = (match firstF F L x k with | some p => ((p.1 : Int), p.2, true) | none => (0, 0, false)) by rw [HR.out, HE.out])
        clear hbd
        generalize firstF F L x k = o at HB HR' ⊢
        cases o with
        | none =>
          obtain rfl : R = (0, 0, false) := HR'.out
          simp only [ffB', ffL']
          go_wp2
          refine bodyPost_ret (v := .tuple #[.int .i64 0, .int .i64 0, .bool false]) (by simp only [results, Tryd.results17]; go_simp) rfl ⟨rfl, ?_⟩
          exact gr hb0 (gr hb1 hb)
        | some p =>
          obtain ⟨-, q1, q2⟩ := HB.out p rfl
          obtain rfl : R = ((p.1 : Int), p.2, true) := HR'.out
          simp only [ffB', ffL']
          have hd : decide ((p.1 : Int) < 0) = false := by simp
          go_wp2
          refine bodyPost_ret (v := .tuple #[.int .i64 p.1, .int .i64 p.2, .bool true]) (by simp only [results, Tryd.results17]; go_simp) rfl ⟨rfl, ?_⟩
          exact gr hb0 (gr hb1 hb)
end Go.Proofs.YtnmpfojcmedpeaaDoor
