/-
  What falls out of a liquor: the plain numbers, one kind's fall, a copy of numbers. Conditions: lengths up to 2^20.
-/
import Derived.Test.YtnmpfojcmedpeaaDoorCrD
import Derived.Test.YtnmpfojcmedpeaaDoorApp
import Derived.Test.YtnmpfojcmedpeaaDoorInts
namespace Go.Proofs.YtnmpfojcmedpeaaDoor
open Go.RowKit

/-- What is more than stays dissolved. -/
def gonV (g s x : Int) : Int := max (s - keepsV g x) 0
/-- What falls out of a kind. -/
def fallN (g t s x : Int) : Int := if 0 < t then min (gonV g s x) ((10 * x + 9) / t) else gonV g s x
/-- The water while it falls. -/
def fallX (F L : Nat → Nat → Int) (x : Int) : Nat → Int
  | 0 => x
  | k + 1 => fallX F L x k - F k 1 * fallN (F k 2) (F k 1) (L k 0) (fallX F L x k) / 10
def fallG (F L : Nat → Nat → Int) (x : Int) : Nat → Nat → Int := fun i _ => fallN (F i 2) (F i 1) (L i 0) (fallX F L x i)
def fallS (F L : Nat → Nat → Int) (x : Int) : Nat → Nat → Int := fun i _ => L i 0 - fallG F L x i 0
theorem fallN_bd {g t s x : Int} (hg : 1 ≤ g) (hg2 : g ≤ 1000) (ht : 0 ≤ t) (ht2 : t ≤ 9) (hs : 0 ≤ s) (hs2 : s ≤ 1000000) (hx : 0 ≤ x) (hx2 : x ≤ 1000000) :
    (0 ≤ gonV g s x ∧ gonV g s x ≤ s) ∧ (0 < t → 0 ≤ (10 * x + 9) / t ∧ (10 * x + 9) / t ≤ 10000009) ∧ (0 ≤ fallN g t s x ∧ fallN g t s x ≤ s) ∧ (0 ≤ t * fallN g t s x ∧ t * fallN g t s x ≤ 9000000) ∧ 0 ≤ t * fallN g t s x / 10 ∧ t * fallN g t s x / 10 ≤ x := by
  obtain ⟨-, k1, k2⟩ := keeps_bd hg hg2 hx hx2
  have hG : 0 ≤ gonV g s x ∧ gonV g s x ≤ s := by unfold gonV; omega
  by_cases h0 : 0 < t
  · have q1 : 0 ≤ (10 * x + 9) / t := Int.ediv_nonneg (by omega) (by omega)
    have q2 : (10 * x + 9) / t ≤ 10 * x + 9 := Int.ediv_le_self _ (by omega)
    have q3 : t * ((10 * x + 9) / t) ≤ 10 * x + 9 := Int.mul_ediv_self_le (by omega)
    have hN : fallN g t s x = min (gonV g s x) ((10 * x + 9) / t) := by unfold fallN; rw [if_pos h0]
    have n1 : 0 ≤ fallN g t s x := by omega
    have n2 : fallN g t s x ≤ s := by omega
    have n3 : t * fallN g t s x ≤ t * ((10 * x + 9) / t) := Int.mul_le_mul_of_nonneg_left (by omega) (by omega)
    have n4 := mul_bd (show 0 ≤ t by omega) ht2 n1 (show fallN g t s x ≤ 1000000 by omega)
    generalize t * fallN g t s x = T at n3 n4 ⊢
    refine ⟨hG, fun _ => ⟨q1, by omega⟩, ⟨n1, n2⟩, ⟨n4.1, by omega⟩, by omega, by omega⟩
  · obtain rfl : t = 0 := by omega
    have hN : fallN g 0 s x = gonV g s x := by unfold fallN; rw [if_neg h0]
    rw [hN]
    refine ⟨hG, fun h => absurd h h0, hG, by simp, by simp, by simpa using hx⟩
theorem fallX_bd {F L : Nat → Nat → Int} {x : Int} {n : Nat} (hx : 0 ≤ x) (hx2 : x ≤ 1000000) (hF : ∀ k, k < n → (0 ≤ F k 1 ∧ F k 1 ≤ 9) ∧ 1 ≤ F k 2 ∧ F k 2 ≤ 1000) (hL : ∀ k, k < n → 0 ≤ L k 0 ∧ L k 0 ≤ 1000000) :
    ∀ k, k ≤ n → 0 ≤ fallX F L x k ∧ fallX F L x k ≤ 1000000 := by
  intro k
  induction k with
  | zero => intro _; exact ⟨hx, hx2⟩
  | succ k ih =>
    intro hk
    obtain ⟨i1, i2⟩ := ih (by omega)
    obtain ⟨⟨a1, a2⟩, a3, a4⟩ := hF k (by omega)
    obtain ⟨b1, b2⟩ := hL k (by omega)
    obtain ⟨-, -, -, -, f1, f2⟩ := fallN_bd a3 a4 a1 a2 b1 b2 i1 i2
    simp only [fallX]
    omega
/-- The liquor and what fell, after one call. -/
def dryB (S : Nat → ByteArray) (F : Nat → Nat → Int) (n : Nat) (x : Int) (m : Nat) (L : Nat → Nat → Int) (y : Int) : Bool := liqB S F n x m L && inB y 0 x
def dryN (S : Nat → ByteArray) (F : Nat → Nat → Int) (n : Nat) (x : Int) (m : Nat) (L : Nat → Nat → Int) (y : Int) : Nat := if dryB S F n x m L y then n else 0
def dryX (S : Nat → ByteArray) (F : Nat → Nat → Int) (n : Nat) (x : Int) (m : Nat) (L : Nat → Nat → Int) (y : Int) : Int := if dryB S F n x m L y then fallX F L (x - y) n else 0
theorem dryN_le {S : Nat → ByteArray} {F : Nat → Nat → Int} {n : Nat} {x : Int} {m : Nat} {L : Nat → Nat → Int} {y : Int} : dryN S F n x m L y ≤ 6 := by
  unfold dryN
  cases h : dryB S F n x m L y
  · simp
  · simp only [dryB, Bool.and_eq_true] at h
    have := (kindsB_at (liqB_at h.1).1).1
    simp; omega

set_option maxHeartbeats 1000000 in
theorem l10Falls_any (s : ByteArray) (t g sa x : Int) (w : World) (hg : 1 ≤ g) (hg2 : g ≤ 1000) (ht : 0 ≤ t) (ht2 : t ≤ 9) (hs : 0 ≤ sa) (hs2 : sa ≤ 1000000) (hx : 0 ≤ x) (hx2 : x ≤ 1000000) :
    Calls Tryd.prog 84 #[.agg #[.string s, .int .i64 t, .int .i64 g], .int .i64 sa, .int .i64 x] w fun e w' => e = .returned (.int .i64 (fallN g t sa x)) ∧ Below w.heap.size w w' := by
  obtain ⟨-, k1, k2⟩ := keeps_bd hg hg2 hx hx2
  obtain ⟨⟨u1, u2⟩, hq, -⟩ := fallN_bd hg hg2 ht ht2 hs hs2 hx hx2
  have HG := hide (show max 0 (sa - keepsV g x) = gonV g sa x by unfold gonV; omega)
  have hb0 : Below w.heap.size w (w.alloc (.cells #[.string s, .int .i64 t, .int .i64 g] 46)) := (Below.refl _ _).alloc (Nat.le_refl _) _
  have e1 : World.cell? (w.alloc (.cells #[.string s, .int .i64 t, .int .i64 g] 46)) ⟨w.heap.size, 1, none⟩ = some (.int .i64 t) := by rw [World.cell?_alloc_new]; rfl
  have hs0 : w.heap.size < (w.alloc (.cells #[.string s, .int .i64 t, .int .i64 g] 46)).heap.size := by simp
  by_cases h0 : 0 < t
  · have HR := hide (show fallN g t sa x = min (gonV g sa x) ((10 * x + 9) / t) by unfold fallN; rw [if_pos h0])
    obtain ⟨q1, q2⟩ := hq h0
    have hd : decide (0 < t) = true := by simpa using h0
    have ht0 : (t == 0) = false := by simp; omega
    have hdz : t ≠ 0 := by omega
    have HQ := hide (show Int.tdiv (10 * x + 9) t = (10 * x + 9) / t from Int.tdiv_eq_ediv_of_nonneg (by omega))
    clear hq
    generalize fallN g t sa x = R at HR ⊢
    go_enter Tryd.func84, Tryd.ntmps84
    go_wp2_with fail
    go_at_call 75
    refine (l10Keeps_any _ _ _ _ _ hg hg2 hx hx2).mono ?_
    rintro _ w1 ⟨rfl, hb1⟩
    go_wp2_with fail
    go_at_call 83
    refine (l1Most_any _ _ _).mono ?_
    rintro _ _ ⟨rfl, rfl⟩
    rw [HG.out]
    have c1 := (hb1.cell (by exact hs0)).trans e1
    have hz : w.heap.size < w1.heap.size := Nat.lt_of_lt_of_le hs0 hb1.size
    clear e1 HG k1 k2
    generalize gonV g sa x = G at u1 u2 HR ⊢
    go_wp2_with (first | (go_at_call 61; refine (l1Least_any _ _ _).mono ?_; rintro _ _ ⟨rfl, rfl⟩))
    go_ret
    exact ⟨ret_int HR.out.symm, gr hb0 hb1⟩
  · have HR := hide (show fallN g t sa x = gonV g sa x by unfold fallN; rw [if_neg h0])
    have hd : decide (0 < t) = false := by simpa using h0
    clear hq
    generalize fallN g t sa x = R at HR ⊢
    go_enter Tryd.func84, Tryd.ntmps84
    go_wp2_with fail
    go_at_call 75
    refine (l10Keeps_any _ _ _ _ _ hg hg2 hx hx2).mono ?_
    rintro _ w1 ⟨rfl, hb1⟩
    go_wp2_with fail
    go_at_call 83
    refine (l1Most_any _ _ _).mono ?_
    rintro _ _ ⟨rfl, rfl⟩
    rw [HG.out]
    have c1 := (hb1.cell (by exact hs0)).trans e1
    have hz : w.heap.size < w1.heap.size := Nat.lt_of_lt_of_le hs0 hb1.size
    clear e1 HG k1 k2
    generalize gonV g sa x = G at u1 u2 HR ⊢
    go_wp2
    go_ret
    exact ⟨ret_int HR.out.symm, gr hb0 hb1⟩

set_option maxHeartbeats 1000000 in
theorem cloneI_any (A : Option Addr) (n c : Nat) (F : Nat → Nat → Int) (w : World) (hn : n ≤ 1048576) (h : Rd w A n 1 (ints F)) :
    Calls Tryd.prog 91 #[.slice A n c] w (RowP w (fun A' c' => .slice A' n c') n 1 (ints F)) := by
  have q22 : ∀ (w : World) (a : Option Addr) (n c n' c' : Nat), (binOp .eql 25 (.slice a n c) (.slice none n' c')).run Tryd.prog w = .ok (.bool a.isNone) w := fun w a n c n' c' => Lib.run_eql_slice_nil w _ _ a n c n' c' Tryd.underlying25
  cases A with
  | none =>
    obtain rfl : n = 0 := by
      rcases Nat.eq_zero_or_pos n with h0 | h0
      · exact h0
      · obtain ⟨b, off, h, -⟩ := h h0
        cases h
    go_enter Tryd.func91, Tryd.ntmps91
    go_wp2
    go_ret
    exact ⟨none, 0, rfl, Ow.nil _ _ _ _ _ _, Below.refl _ _⟩
  | some ad =>
    obtain ⟨i0, hi0, hz0, hz1, hz2⟩ := info_parts info_int
    have hown := World.ownsRow_lit (base := w.heap.size) (e := 3) (size := 1) w #[] 0 (Nat.le_refl _) (Nat.zero_le _) rfl
    have h' := Rd.alloc h (.cells #[] 3)
    have hb1 : Below w.heap.size w (w.alloc (.cells #[] 3)) := (Below.refl _ _).alloc (Nat.le_refl _) _
    go_enter Tryd.func91, Tryd.ntmps91
    go_wp2_with (at_builtin; refine wpList_append_rd _ rfl (.tmp 5) (.tmp 6) 25 rfl w.heap.size 3 i0 _ 1 8 Tryd.underlying25 hi0 hz0 hz1 hz2 rfl (by decide) _ _ _ rfl hown _ _ (some ad) n c (ints F) rfl h' (fun _ _ _ _ => rfl) (by simp only [maxLen]; omega) (by omega) (by simp) ?_; intro v2 w2 hown2 hg2 _; have hb2 := grown_below hown hg2 (by simp); clear hg2)
    simp only [Nat.zero_add, List.nil_append] at hown2
    obtain ⟨A', c', rfl, hO⟩ := own_tab hown2
    go_ret
    exact ⟨A', c', rfl, hO, hb1.trans hb2⟩

/-- What a function leaves that returns two slices of its own, the one ahead of the other. -/
def FallI (w : World) (mk : Option Addr → Nat → Option Addr → Nat → Value) (n : Nat) (F1 F2 : Nat → Nat → Value) (e : Ending) (w' : World) : Prop :=
  ∃ A1 c1 A2 c2 mid, e = .returned (mk A1 c1 A2 c2) ∧ w.heap.size ≤ mid ∧ mid ≤ w'.heap.size ∧ Ow w' w.heap.size mid A1 n 1 F1 ∧ Ow w' mid w'.heap.size A2 n 1 F2 ∧ Below w.heap.size w w'
/-- The same of two slices that are read alone. -/
def FallR (w : World) (mk : Option Addr → Nat → Option Addr → Nat → Value) (n : Nat) (F1 F2 : Nat → Nat → Value) (e : Ending) (w' : World) : Prop :=
  ∃ A1 c1 A2 c2, e = .returned (mk A1 c1 A2 c2) ∧ Ow w' w.heap.size w'.heap.size A1 n 1 F1 ∧ Ow w' w.heap.size w'.heap.size A2 n 1 F2 ∧ Below w.heap.size w w'
def mixS (F L : Nat → Nat → Int) (x : Int) (k : Nat) : Nat → Nat → Int := fun i j => if i < k then fallS F L x i j else L i j
def mixG (F L : Nat → Nat → Int) (x : Int) (k : Nat) : Nat → Nat → Int := fun i j => if i < k then fallG F L x i j else 0
theorem Ow.cell_out {w : World} {lo hi : Nat} {A : Option Addr} {n sz : Nat} {F : Nat → Nat → Value} (h : Ow w lo hi A n sz F) {p : Addr} (hp : p.block < lo ∨ hi ≤ p.block) (u : Value) : Ow (w.setCell p u) lo hi A n sz F :=
  h.agr fun k h1 h2 => Below.heap_setCell _ _ _ _ (by omega)
set_option maxRecDepth 20000 in
set_option maxHeartbeats 4000000 in
theorem fallOut_any (A : Option Addr) (n c : Nat) (S : Nat → ByteArray) (F : Nat → Nat → Int) (x : Int) (B : Option Addr) (d : Nat) (L : Nat → Nat → Int) (w : World) (hn : n ≤ 6) (hx : 0 ≤ x) (hx2 : x ≤ 1000000)
    (HF : Hid (∀ k, k < n → (0 ≤ F k 1 ∧ F k 1 ≤ 9) ∧ 1 ≤ F k 2 ∧ F k 2 ≤ 1000)) (HL : Hid (∀ k, k < n → 0 ≤ L k 0 ∧ L k 0 ≤ 1000000)) (h : Rd w A n 3 (kdC S F)) (hL : Rd w B n 1 (ints L)) :
    Calls Tryd.prog 72 #[.slice A n c, .agg #[.int .i64 x, .slice B n d]] w (FallI w (fun A1 c1 A2 c2 => .tuple #[.agg #[.int .i64 (fallX F L x n), .slice A1 n c1], .slice A2 n c2]) n (ints (fallS F L x)) (ints (fallG F L x))) := by
  have HX := hide (fallX_bd hx hx2 HF.out HL.out)
  go_enter Tryd.func72, Tryd.ntmps72
  go_upto_region 1 with fail
  have hb_W : Below w.heap.size w ((w.alloc (.cells #[.int .i64 x, .slice B n d] 27)).alloc (.cells #[.int .i64 0, .slice none 0 0] 27)) := ((Below.refl _ _).alloc (Nat.le_refl _) _).alloc (by simp) _
  have gc1_W : World.cell? ((w.alloc (.cells #[.int .i64 x, .slice B n d] 27)).alloc (.cells #[.int .i64 0, .slice none 0 0] 27)) ⟨w.heap.size, 0, none⟩ = some (.int .i64 x) := by go_simp
  have gc2_W : World.cell? ((w.alloc (.cells #[.int .i64 x, .slice B n d] 27)).alloc (.cells #[.int .i64 0, .slice none 0 0] 27)) ⟨w.heap.size, 1, none⟩ = some (.slice B n d) := by go_simp
  have gc3_W : World.cell? ((w.alloc (.cells #[.int .i64 x, .slice B n d] 27)).alloc (.cells #[.int .i64 0, .slice none 0 0] 27)) ⟨w.heap.size + 1, 0, none⟩ = some (.int .i64 0) := by go_simp
  have gc4_W : World.cell? ((w.alloc (.cells #[.int .i64 x, .slice B n d] 27)).alloc (.cells #[.int .i64 0, .slice none 0 0] 27)) ⟨w.heap.size + 1, 1, none⟩ = some (.slice none 0 0) := by go_simp
  have gf5_W : World.frozen? ((w.alloc (.cells #[.int .i64 x, .slice B n d] 27)).alloc (.cells #[.int .i64 0, .slice none 0 0] 27)) ⟨w.heap.size + 1, 0, none⟩ = false := by go_simp
  have gf6_W : World.frozen? ((w.alloc (.cells #[.int .i64 x, .slice B n d] 27)).alloc (.cells #[.int .i64 0, .slice none 0 0] 27)) ⟨w.heap.size + 1, 1, none⟩ = false := by go_simp
  have hz_W : (w.heap.size + 1) < (World.heap ((w.alloc (.cells #[.int .i64 x, .slice B n d] 27)).alloc (.cells #[.int .i64 0, .slice none 0 0] 27))).size := by simp
  generalize (w.alloc (.cells #[.int .i64 x, .slice B n d] 27)).alloc (.cells #[.int .i64 0, .slice none 0 0] 27) = W at hb_W gc1_W gc2_W gc3_W gc4_W gf5_W gf6_W hz_W ⊢
  replace h := Rd.below h hb_W
  replace hL := Rd.below hL hb_W
  have hz0 : w.heap.size < W.heap.size := by omega
  have ha0 : ∀ w', Below W.heap.size W w' → w'.cell? ⟨w.heap.size, 0, none⟩ = some (.int .i64 x) := fun w' hb => (hb.cell (by exact hz0)).trans gc1_W
  have ha1 : ∀ w', Below W.heap.size W w' → w'.cell? ⟨w.heap.size, 1, none⟩ = some (.slice B n d) := fun w' hb => (hb.cell (by exact hz0)).trans gc2_W
  clear gc1_W gc2_W
  go_cut [6] (fun s wx => ∃ (e : Nat) (A1 : Option Addr) (c1 : Nat), s = .pointer (some ⟨e, 0, none⟩) ∧ Below W.heap.size W wx ∧ W.heap.size ≤ e ∧ e < wx.heap.size ∧
     wx.cell? ⟨e, 0, none⟩ = some (.int .i64 x) ∧ wx.cell? ⟨e, 1, none⟩ = some (.slice A1 n c1) ∧ wx.frozen? ⟨e, 0, none⟩ = false ∧ ∃ lo hi, W.heap.size ≤ lo ∧ hi ≤ wx.heap.size ∧ (e < lo ∨ hi ≤ e) ∧ Ow wx lo hi A1 n 1 (ints L))
  case first =>
    go_region_held3 (fun w' => Below W.heap.size W w') ((repeat' (first | exact Below.refl _ _ | assumption | refine Below.drew ?_ | refine Below.alloc ?_ (by first | omega | exact Below.size (by assumption) | (simp; done) | (simp; omega)) _ | refine Below.setCell ?_ (by first | omega | exact Below.size (by assumption) | (simp; done) | (simp; omega)) _)))
      (first | (go_at_call 91; refine (cloneI_any _ _ _ _ _ (by omega) (Rd.below hL (by assumption))).mono ?_; rintro _ w2 ⟨A1, c1, rfl, hO, hb2⟩; have B2 := gr (by assumption : Below W.heap.size W _) hb2; have s2 := hb2.size; (try simp at s2); have q2 := bcell hb2; (try have t2 : W.heap.size < w2.heap.size := by omega)))
    all_goals
      go_wp2_with fail
      go_meet
      refine ⟨_, A1, c1, rfl, by assumption, by first | omega | exact Nat.le_refl _ | (simp; done) | (simp; omega), by first | omega | (simp; done) | (simp; omega), by go_simp, by go_simp, by go_simp, ?_⟩
      first
        | exact ⟨W.heap.size, w2.heap.size, Nat.le_refl _, by simp, .inr (Nat.le_refl _), (hO.mono (by simp) (Nat.le_refl _)).alloc (Nat.le_refl _) _⟩
        | exact ⟨W.heap.size + 1, w2.heap.size, by omega, by simp, .inl (by omega), (hO.mono (by simp) (Nat.le_refl _)).agr fun k h1 h2 => (Below.heap_setCell _ _ _ _ (by simp; omega)).trans (Below.heap_setCell _ _ _ _ (by simp; omega))⟩
  case rest =>
    obtain ⟨e, A1, c1, rfl, hbA, hle, hlt, c0, c1', f0, lo, hi, hl1, hl2, hl3, hO⟩ := hcut
    clear ha0 ha1 hL
    have hmk := mk_int n (by omega)
    rw [Nat.mul_one] at hmk
    go_wp2
    have hM : Ow (wc.alloc (.cells (madeCells #[.int .i64 0] n) 3)) wc.heap.size (wc.heap.size + 1) (some ⟨wc.heap.size, 0, none⟩) n 1 (ints (mixG F L x 0)) := by
      have := Ow.made wc #[.int .i64 0] n 1 3 rfl
      rw [Nat.mul_one] at this
      exact this.congr fun i j hi hj => by obtain rfl : j = 0 := by omega
                                           simp [mixG]
    replace hO := (hO.alloc hl2 (.cells (madeCells #[.int .i64 0] n) 3)).congr (G := ints (mixS F L x 0)) fun i j hi hj => by simp [mixS]
    replace hbA := hbA.alloc hbA.size (.cells (madeCells #[.int .i64 0] n) 3)
    replace c0 := (World.cell?_alloc_past (w := wc) (.cells (madeCells #[.int .i64 0] n) 3) _ _ hlt).trans c0
    replace c1' := (World.cell?_alloc_past (w := wc) (.cells (madeCells #[.int .i64 0] n) 3) _ _ hlt).trans c1'
    replace f0 := (World.frozen?_alloc_past (w := wc) (.cells (madeCells #[.int .i64 0] n) 3) _ _ hlt).trans f0
    have hsz : wc.heap.size + 1 ≤ (wc.alloc (.cells (madeCells #[.int .i64 0] n) 3)).heap.size := by simp
    have hgW : W.heap.size ≤ wc.heap.size := by omega
    generalize wc.alloc (.cells (madeCells #[.int .i64 0] n) 3) = w1 at *
    generalize wc.heap.size = g at *
    clear wc hmk
    go_loopw [22] (fun i wr => ∃ k : Nat, k ≤ n ∧ i = .int .i64 k ∧ Below W.heap.size W wr ∧ wr.cell? ⟨e, 0, none⟩ = some (.int .i64 (fallX F L x k)) ∧ wr.cell? ⟨e, 1, none⟩ = some (.slice A1 n c1) ∧ wr.frozen? ⟨e, 0, none⟩ = false ∧ g + 1 ≤ wr.heap.size ∧
      Ow wr lo hi A1 n 1 (ints (mixS F L x k)) ∧ Ow wr g (g + 1) (some ⟨g, 0, none⟩) n 1 (ints (mixG F L x k))) (fun i _ => n - (intOf i).toNat)
    case atStart => exact ⟨0, by omega, rfl, hbA, c0, c1', f0, hsz, hO, hM⟩
    case round =>
      clear c0 c1' f0 hO hM hbA hsz
      obtain ⟨k, hk, rfl, hb, c0, c1', f0, hs, hO, hM⟩ := hrel
      by_cases hlk : k < n
      · obtain ⟨⟨t1, t2⟩, g1, g2⟩ := HF.out k hlk
        obtain ⟨s1, s2⟩ := HL.out k hlk
        obtain ⟨x1, x2⟩ := HX.out k hk
        obtain ⟨⟨u1, u2⟩, hq, ⟨n1, n2⟩, ⟨m1, m2⟩, v1, v2⟩ := fallN_bd g1 g2 t1 t2 s1 s2 x1 x2
        have HN := hide (show fallN (F k 2) (F k 1) (L k 0) (fallX F L x k) = if 0 < F k 1 then min (gonV (F k 2) (L k 0) (fallX F L x k)) ((10 * (fallX F L x k + 1) - 1) / F k 1) else gonV (F k 2) (L k 0) (fallX F L x k) by unfold fallN; rw [show 10 * (fallX F L x k + 1) - 1 = 10 * fallX F L x k + 9 by omega])
        obtain ⟨-, kb1, kb2⟩ := keeps_bd g1 g2 x1 x2
        have hq' : 0 < F k 1 → 0 ≤ (10 * (fallX F L x k + 1) - 1) / F k 1 ∧ (10 * (fallX F L x k + 1) - 1) / F k 1 ≤ 10000009 := by rw [show 10 * (fallX F L x k + 1) - 1 = 10 * fallX F L x k + 9 by omega]; exact hq
        have HX1 := hide (show fallX F L x (k + 1) = fallX F L x k - F k 1 * fallN (F k 2) (F k 1) (L k 0) (fallX F L x k) / 10 from rfl)
        have HGG := hide (show max (L k 0 - keepsV (F k 2) (fallX F L x k)) 0 = gonV (F k 2) (L k 0) (fallX F L x k) from rfl)
        have HS1 := hide (show ∀ i j, i < n → j < 1 → upd (ints (mixS F L x k)) k 0 (.int .i64 (L k 0 - fallN (F k 2) (F k 1) (L k 0) (fallX F L x k))) i j = ints (mixS F L x (k + 1)) i j by
          intro i j hi hj
          obtain rfl : j = 0 := by omega
          unfold upd
          by_cases hik : i = k
          · subst hik; simp [mixS, fallS, fallG]
          · have : i < k ↔ i < k + 1 := by omega
            simp [hik, mixS, this])
        have HG1 := hide (show ∀ i j, i < n → j < 1 → upd (ints (mixG F L x k)) k 0 (.int .i64 (fallN (F k 2) (F k 1) (L k 0) (fallX F L x k))) i j = ints (mixG F L x (k + 1)) i j by
          intro i j hi hj
          obtain rfl : j = 0 := by omega
          unfold upd
          by_cases hik : i = k
          · subst hik; simp [mixG, fallG]
          · have : i < k ↔ i < k + 1 := by omega
            simp [hik, mixG, this])
        obtain ⟨b1, o1, rfl, hb1, hb1', -⟩ := hO.sl (by omega)
        obtain ⟨-, -, p1, p2⟩ := hO.at_ hlk
        have p10 := p1 0 (by omega)
        have p20 := p2 0 (by omega)
        obtain ⟨-, -, r1, r2⟩ := hM.at_ hlk
        have r10 := r1 0 (by omega)
        have r20 := r2 0 (by omega)
        simp only [ints, mixS, mixG, Nat.lt_irrefl, if_false, Nat.mul_one, Nat.add_zero, Nat.zero_add] at p10 p20 r10 r20
        clear p1 p2 r1 r2 hq
        obtain ⟨b, off, rfl, hbw, hkd⟩ := kd_at h hb (by omega)
        obtain ⟨q0, q1, q2⟩ := hkd k hlk
        clear hkd
        go_upto_region 6 with fail
        have hb_V : Below wr.heap.size wr (wr.alloc (.cells #[.string (S k), .int .i64 (F k 1), .int .i64 (F k 2)] 46)) := (Below.refl _ _).alloc (Nat.le_refl _) _
        have gc1_V : World.cell? (wr.alloc (.cells #[.string (S k), .int .i64 (F k 1), .int .i64 (F k 2)] 46)) ⟨wr.heap.size, 0, none⟩ = some (.string (S k)) := by go_simp
        have gc2_V : World.cell? (wr.alloc (.cells #[.string (S k), .int .i64 (F k 1), .int .i64 (F k 2)] 46)) ⟨wr.heap.size, 1, none⟩ = some (.int .i64 (F k 1)) := by go_simp
        have gc3_V : World.cell? (wr.alloc (.cells #[.string (S k), .int .i64 (F k 1), .int .i64 (F k 2)] 46)) ⟨wr.heap.size, 2, none⟩ = some (.int .i64 (F k 2)) := by go_simp
        have hz_V : wr.heap.size < (World.heap (wr.alloc (.cells #[.string (S k), .int .i64 (F k 1), .int .i64 (F k 2)] 46))).size := by simp
        generalize wr.alloc (.cells #[.string (S k), .int .i64 (F k 1), .int .i64 (F k 2)] 46) = V at hb_V gc1_V gc2_V gc3_V hz_V ⊢
        have hes : e < wr.heap.size := by omega
        have hgs : g < wr.heap.size := by omega
        have hbs1 : b1 < wr.heap.size := by omega
        have d0 := fun y : After V => y.cell ((hb_V.cell (p := ⟨e, 0, none⟩) hes).trans c0) (Nat.lt_trans hes hz_V)
        have d1 := fun y : After V => y.cell ((hb_V.cell (p := ⟨e, 1, none⟩) hes).trans c1') (Nat.lt_trans hes hz_V)
        have d2 := fun y : After V => y.cell ((hb_V.cell (p := ⟨b1, o1 + k, none⟩) hbs1).trans p10) (Nat.lt_trans hbs1 hz_V)
        have d3 := fun y : After V => y.cell gc1_V hz_V
        have d4 := fun y : After V => y.cell gc2_V hz_V
        have d5 := fun y : After V => y.cell gc3_V hz_V
        refine region_after (by kernel_rfl) (by kernel_rfl) ?_
        repeat (go_big_quiet_step ((first | (go_at_call 59; exact Calls.after (keeps_any _ _ _ _ _ g1 g2 x1 x2)))))
        refine wpQuiet_nil ?_
        rintro _ ⟨y, rfl⟩
        rw [HGG.out]
        clear d0 d1 d2 d3 d4 d5
        have hbY : Below wr.heap.size wr y.w := hb_V.trans (y.h.mono hb_V.size)
        have k0 := (hbY.cell (p := ⟨e, 0, none⟩) hes).trans c0
        have k1 := (hbY.cell (p := ⟨e, 1, none⟩) hes).trans c1'
        have k2 := (hbY.frozen (p := ⟨e, 0, none⟩) hes).trans f0
        have k3 := (hbY.cell (p := ⟨b1, o1 + k, none⟩) hbs1).trans p10
        have k4 := (hbY.frozen (p := ⟨b1, o1 + k, none⟩) hbs1).trans p20
        have k5 := (hbY.cell (p := ⟨g, k, none⟩) hgs).trans r10
        have k6 := (hbY.frozen (p := ⟨g, k, none⟩) hgs).trans r20
        have k7 := y.cell gc2_V hz_V
        replace hO := hO.below hbY (by omega)
        replace hM := hM.below hbY (by omega)
        replace hb := hb.trans (hbY.mono hb.size)
        have hsY := hbY.size
        have hzY : wr.heap.size < y.w.heap.size := Nat.lt_of_lt_of_le hz_V y.h.size
        clear c0 c1' f0 p10 p20 r10 r20 gc1_V gc2_V gc3_V hbY q0 q1 q2
        generalize y.w = Y at *
        clear y hb_V hz_V
        generalize fallX F L x k = X at *
        generalize fallN (F k 2) (F k 1) (L k 0) X = N at *
        generalize gonV (F k 2) (L k 0) X = G at *
        have hne1 : g ≠ e := by omega
        have hne2 : b1 ≠ e := by omega
        have hne3 : b1 ≠ g := by omega
        have hne4 : wr.heap.size ≠ e := by omega
        have hne5 : wr.heap.size ≠ g := by omega
        have hne6 : wr.heap.size ≠ b1 := by omega
        by_cases h0 : 0 < F k 1
        · obtain ⟨w1', w2'⟩ := hq' h0
          have HN1 := hide (HN.out.trans (if_pos h0)).symm
          have hd : decide (0 < F k 1) = true := by simpa using h0
          have hd0 : (F k 1 == 0) = false := by simp; omega
          have hdn : F k 1 ≠ 0 := by omega
          clear HN hq'
          go_upto_region 9 with fail
          rw [HN1.out]
          go_wp2
          go_roundw
          case rel =>
            refine ⟨k + 1, by omega, by go_num, ((hb.setCell (p := ⟨g, k, none⟩) (by exact hgW) _).setCell (p := ⟨b1, o1 + k, none⟩) (by exact (by omega : W.heap.size ≤ b1)) _).setCell (p := ⟨e, 0, none⟩) (by exact hle) _, ?_, ?_, ?_, by simp; omega, ?_, ?_⟩
            · rw [HX1.out]; go_simp
            · go_simp
            · go_simp
            · exact (((hO.cell_out (p := ⟨g, k, none⟩) (.inr hl2) _).set hlk (j0 := 0) (o := o1 + k) (by omega) (by omega) _).cell_out (p := ⟨e, 0, none⟩) hl3 _).congr HS1.out
            · exact (((hM.set hlk (j0 := 0) (o := k) (by omega) (by omega) _).cell_out (p := ⟨b1, o1 + k, none⟩) (.inl (by exact (by omega : b1 < g))) _).cell_out (p := ⟨e, 0, none⟩) (.inl hlt) _).congr HG1.out
          case measure => simp [intOf]; omega
        · have HN1 := hide (HN.out.trans (if_neg h0)).symm
          have hd : decide (0 < F k 1) = false := by simpa using h0
          clear HN hq'
          go_upto_region 9 with fail
          rw [HN1.out]
          go_wp2
          go_roundw
          case rel =>
            refine ⟨k + 1, by omega, by go_num, ((hb.setCell (p := ⟨g, k, none⟩) (by exact hgW) _).setCell (p := ⟨b1, o1 + k, none⟩) (by exact (by omega : W.heap.size ≤ b1)) _).setCell (p := ⟨e, 0, none⟩) (by exact hle) _, ?_, ?_, ?_, by simp; omega, ?_, ?_⟩
            · rw [HX1.out]; go_simp
            · go_simp
            · go_simp
            · exact (((hO.cell_out (p := ⟨g, k, none⟩) (.inr hl2) _).set hlk (j0 := 0) (o := o1 + k) (by omega) (by omega) _).cell_out (p := ⟨e, 0, none⟩) hl3 _).congr HS1.out
            · exact (((hM.set hlk (j0 := 0) (o := k) (by omega) (by omega) _).cell_out (p := ⟨b1, o1 + k, none⟩) (.inl (by exact (by omega : b1 < g))) _).cell_out (p := ⟨e, 0, none⟩) (.inl hlt) _).congr HG1.out
          case measure => simp [intOf]; omega
      · obtain rfl : k = n := by omega
        have z0 := (hb.cell (p := ⟨w.heap.size + 1, 0, none⟩) hz_W).trans gc3_W
        have z1 := (hb.cell (p := ⟨w.heap.size + 1, 1, none⟩) hz_W).trans gc4_W
        have z2 := (hb.frozen (p := ⟨w.heap.size + 1, 0, none⟩) hz_W).trans gf5_W
        have z3 := (hb.frozen (p := ⟨w.heap.size + 1, 1, none⟩) hz_W).trans gf6_W
        have hsb := hb.size
        have hbF := hb_W.trans (hb.mono hb_W.size)
        have hsW := hb_W.size
        replace hO := ((hO.cell_out (p := ⟨w.heap.size + 1, 0, none⟩) (.inl (by exact (by omega : w.heap.size + 1 < lo))) (.int .i64 (fallX F L x k))).cell_out (p := ⟨w.heap.size + 1, 1, none⟩) (.inl (by exact (by omega : w.heap.size + 1 < lo))) (.slice A1 k c1)).mono (show w.heap.size ≤ lo by omega) hl2
        replace hM := ((hM.cell_out (p := ⟨w.heap.size + 1, 0, none⟩) (.inl (by exact (by omega : w.heap.size + 1 < g))) (.int .i64 (fallX F L x k))).cell_out (p := ⟨w.heap.size + 1, 1, none⟩) (.inl (by exact (by omega : w.heap.size + 1 < g))) (.slice A1 k c1))
        replace hO := hO.congr (G := ints (fallS F L x)) fun i j hi hj => by simp [mixS, hi]
        replace hM := hM.congr (G := ints (fallG F L x)) fun i j hi hj => by simp [mixG, hi]
        replace hbF := (hbF.setCell (p := ⟨w.heap.size + 1, 0, none⟩) (Nat.le_succ _) (.int .i64 (fallX F L x k))).setCell (p := ⟨w.heap.size + 1, 1, none⟩) (Nat.le_succ _) (.slice A1 k c1)
        go_wp2
        refine bodyPost_ret (v := .tuple #[.agg #[.int .i64 (fallX F L x k), .slice A1 k c1], .slice (some ⟨g, 0, none⟩) k k]) (by simp only [results, Tryd.results72]; go_simp) rfl ⟨_, _, _, _, g, rfl, by omega, by simp; omega, hO, hM.mono (Nat.le_refl _) (by simp; omega), hbF⟩
end Go.Proofs.YtnmpfojcmedpeaaDoor
