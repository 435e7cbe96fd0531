/-
  Rows of numbers of the call's own: copies, a beginning of a row, a store. Conditions: lengths up to 2^20.
-/
import Derived.Test.YtbmlglkdlialgaaDoorApp
import Derived.Test.YtbmlglkdlialgaaDoorInts
namespace Go.Proofs.YtbmlglkdlialgaaDoor
open Go.RowKit

/-- The beginning of a row of the call's own. -/
theorem own_take {w : World} {B : Nat} {e : TypeId} {sz n c : Nat} {A : Option Addr} {xs : List Value} (h : w.ownsRow B e sz (.slice A n c) n xs) {k : Nat} (hk : k ≤ n) :
    w.ownsRow B e sz (.slice A k c) k (xs.take (k * sz)) := by
  have hm : k * sz ≤ n * sz := Nat.mul_le_mul_right _ hk
  refine ⟨by rw [List.length_take, h.1]; omega, ?_⟩
  rcases h.2 with ⟨e1, e2⟩ | ⟨g, cap, cur, e1, h1, h2, h3, h4, h5, h6⟩
  · injection e1 with e1 e3 e4
    subst e1 e4
    exact .inl ⟨by rw [show k = 0 by omega], by omega⟩
  · injection e1 with e1 e3 e4
    subst e1 e4
    refine .inr ⟨g, c, cur, rfl, h1, h2, by omega, h4, h5, ?_⟩
    rw [← h6, List.take_take, Nat.min_eq_left hm]
theorem own_mono {w : World} {B B' : Nat} {e : TypeId} {sz n : Nat} {v : Value} {xs : List Value} (h : w.ownsRow B e sz v n xs) (hb : B' ≤ B) : w.ownsRow B' e sz v n xs :=
  ⟨h.1, h.2.imp id fun ⟨g, cap, cur, e1, h1, r⟩ => ⟨g, cap, cur, e1, Nat.le_trans hb h1, r⟩⟩
/-- The form of a row of the call's own. -/
theorem own_form {w : World} {B : Nat} {e : TypeId} {sz n : Nat} {v : Value} {xs : List Value} (h : w.ownsRow B e sz v n xs) :
    ∃ A c, v = .slice A n c ∧ n ≤ c ∧ (A = none ∨ ∃ g, A = some ⟨g, 0, none⟩ ∧ B ≤ g ∧ g < w.heap.size) := by
  rcases h.2 with ⟨e1, e2⟩ | ⟨g, cap, cur, e1, h1, h2, h3, h4, h5, h6⟩
  · subst e2; exact ⟨none, 0, e1, Nat.le_refl _, .inl rfl⟩
  · exact ⟨_, cap, e1, h3, .inr ⟨g, rfl, h1, (Array.getElem?_eq_some_iff.1 h2).1⟩⟩
theorem rowL_take (F : Nat → Nat → Value) (n sz k : Nat) (hk : k ≤ n) : (rowL F n sz).take (k * sz) = rowL F k sz := by
  simp only [rowL]
  rw [← List.map_take, List.take_range, Nat.min_eq_left (Nat.mul_le_mul_right _ hk)]
theorem rowL_congr {F G : Nat → Nat → Value} {n sz : Nat} (h : ∀ i j, i < n → j < sz → F i j = G i j) : rowL F n sz = rowL G n sz := by
  refine List.map_congr_left fun t ht => ?_
  have ht : t < n * sz := List.mem_range.1 ht
  have hz : 0 < sz := by rcases Nat.eq_zero_or_pos sz with e | e; · subst e; simp at ht
                         · exact e
  exact h _ _ ((Nat.div_lt_iff_lt_mul hz).2 ht) (Nat.mod_lt _ hz)
theorem l1Own_own (A : Option Addr) (n c : Nat) (F : Nat → Nat → Int) (w : World) (hn : n ≤ 1048576) (h : Rd w A n 1 (ints F)) :
    Calls Tryd.prog 71 #[.slice A n c] w fun e w' => ∃ v, e = .returned v ∧ w'.ownsRow w.heap.size 3 1 v n (rowL (ints F) n 1) ∧ Below w.heap.size w w' := by
  obtain ⟨i0, hi0, hz0, hz1, hz2⟩ := info_parts info_int
  have hown := World.ownsRow_lit (base := w.heap.size) (e := 3) (size := 1) w #[] 0 (Nat.le_refl _) (Nat.zero_le _) rfl
  have h' := Rd.alloc h (.cells #[] 3)
  have hb1 : Below w.heap.size w (w.alloc (.cells #[] 3)) := (Below.refl _ _).alloc (Nat.le_refl _) _
  go_enter Tryd.func71, Tryd.ntmps71
  go_wp2_with (at_builtin; refine wpList_append_rd _ rfl (.tmp 3) (.tmp 4) 22 rfl w.heap.size 3 i0 _ 1 8 Tryd.underlying22 hi0 hz0 hz1 hz2 rfl (by decide) _ _ _ rfl hown _ _ A n c (ints F) rfl h' (fun _ _ _ _ => rfl) (by simp only [maxLen]; omega) (by omega) (by simp) ?_; intro v2 w2 hown2 hg2 _; have hb2 := grown_below hown hg2 (by simp); clear hg2)
  simp only [Nat.zero_add, List.nil_append] at hown2
  go_ret
  exact ⟨_, rfl, hown2, hb1.trans hb2⟩
set_option maxHeartbeats 1000000 in
theorem sumOf_any (B : Option Addr) (n c : Nat) (L : Nat → Nat → Int) (w : World) (hn : n ≤ 1048576) (h : Rd w B n 1 (ints L)) (HB : Hid (∀ k, k ≤ n → 0 ≤ sumI (fun j => L j 0) k ∧ sumI (fun j => L j 0) k ≤ 1000000000000)) :
    Calls Tryd.prog 48 #[.slice B n c] w fun e w' => e = .returned (.int .i64 (sumI (fun j => L j 0) n)) ∧ w = w' := by
  go_enter Tryd.func48, Tryd.ntmps48
  go_wp2
  go_loop [3, 8] (fun s i => ∃ k : Nat, k ≤ n ∧ i = .int .i64 k ∧ s = .int .i64 (sumI (fun j => L j 0) k)) (fun _ i => n - (intOf i).toNat)
  case atStart => exact ⟨0, by omega, rfl, rfl⟩
  case round =>
    obtain ⟨k, hk, rfl, rfl⟩ := hrel
    by_cases hlt : k < n
    · obtain ⟨b, off, rfl, -, hbw, hc⟩ := h (by omega)
      have hc0 := hc k 0 hlt (by omega)
      simp only [Nat.add_zero, Nat.mul_one] at hc0
      clear hc
      obtain ⟨g1, g2⟩ := HB.out k hk
      obtain ⟨g3, g4⟩ := HB.out (k + 1) (by omega)
      have HS := hide (show sumI (fun j => L j 0) (k + 1) = sumI (fun j => L j 0) k + L k 0 from rfl)
      rw [HS.out] at g3 g4
      generalize sumI (fun j => L j 0) k = S at g1 g2 g3 g4 HS ⊢
      go_wp2
      go_round
      case rel => exact ⟨k + 1, by omega, by go_num, by rw [HS.out]⟩
      case measure => simp [intOf]; omega
    · obtain rfl : k = n := by omega
      go_wp2
      go_ret
      exact ⟨rfl, rfl⟩
end Go.Proofs.YtbmlglkdlialgaaDoor
