/-
  Rows of numbers of the call's own: copies, a beginning of a row, a store. Conditions: lengths up to 2^20.
-/
import Derived.Test.YtajmebclmippeaaApp
import Derived.Test.YtajmebclmippeaaInts
namespace Go.Proofs.Ytajmebclmippeaa
open Go.RowKit

/-- The beginning of a row of the call's own. -/
theorem own_take {w : World} {B : Nat} {e : TypeId} {sz n c : Nat} {A : Option Addr} {xs : List Value} (h : w.ownsRow B e sz (.slice A n c) n xs) {k : Nat} (hk : k ≤ n) :
    w.ownsRow B e sz (.slice A k c) k (xs.take (k * sz)) := by
  have hm : k * sz ≤ n * sz := Nat.mul_le_mul_right _ hk
  refine ⟨by rw [List.length_take, h.1]; omega, ?_⟩
  rcases h.2 with ⟨e1, e2⟩ | ⟨g, cap, cur, e1, h1, h2, h3, h4, h5, h6⟩
  · injection e1 with e1 e3 e4
    subst e1 e4
    exact .inl ⟨by rw [show k = 0 by omega], by omega⟩
  · injection e1 with e1 e3 e4
    subst e1 e4
    refine .inr ⟨g, c, cur, rfl, h1, h2, by omega, h4, h5, ?_⟩
    rw [← h6, List.take_take, Nat.min_eq_left hm]
theorem own_mono {w : World} {B B' : Nat} {e : TypeId} {sz n : Nat} {v : Value} {xs : List Value} (h : w.ownsRow B e sz v n xs) (hb : B' ≤ B) : w.ownsRow B' e sz v n xs :=
  ⟨h.1, h.2.imp id fun ⟨g, cap, cur, e1, h1, r⟩ => ⟨g, cap, cur, e1, Nat.le_trans hb h1, r⟩⟩
/-- The form of a row of the call's own. -/
theorem own_form {w : World} {B : Nat} {e : TypeId} {sz n : Nat} {v : Value} {xs : List Value} (h : w.ownsRow B e sz v n xs) :
    ∃ A c, v = .slice A n c ∧ n ≤ c ∧ (A = none ∨ ∃ g, A = some ⟨g, 0, none⟩ ∧ B ≤ g ∧ g < w.heap.size) := by
  rcases h.2 with ⟨e1, e2⟩ | ⟨g, cap, cur, e1, h1, h2, h3, h4, h5, h6⟩
  · subst e2; exact ⟨none, 0, e1, Nat.le_refl _, .inl rfl⟩
  · exact ⟨_, cap, e1, h3, .inr ⟨g, rfl, h1, (Array.getElem?_eq_some_iff.1 h2).1⟩⟩
theorem rowL_take (F : Nat → Nat → Value) (n sz k : Nat) (hk : k ≤ n) : (rowL F n sz).take (k * sz) = rowL F k sz := by
  simp only [rowL]
  rw [← List.map_take, List.take_range, Nat.min_eq_left (Nat.mul_le_mul_right _ hk)]
theorem rowL_congr {F G : Nat → Nat → Value} {n sz : Nat} (h : ∀ i j, i < n → j < sz → F i j = G i j) : rowL F n sz = rowL G n sz := by
  refine List.map_congr_left fun t ht => ?_
  have ht : t < n * sz := List.mem_range.1 ht
  have hz : 0 < sz := by rcases Nat.eq_zero_or_pos sz with e | e; · subst e; simp at ht
                         · exact e
  exact h _ _ ((Nat.div_lt_iff_lt_mul hz).2 ht) (Nat.mod_lt _ hz)
end Go.Proofs.Ytajmebclmippeaa
