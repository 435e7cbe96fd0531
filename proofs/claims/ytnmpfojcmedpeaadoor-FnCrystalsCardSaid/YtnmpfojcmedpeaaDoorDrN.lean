/-
  Contracts: the arguments that are drawn for the laws on crystals. Conditions: codes of bytes.
-/
import Derived.Test.YtnmpfojcmedpeaaDoorDrK
import Derived.Test.YtnmpfojcmedpeaaDoorDrL
namespace Go.Proofs.YtnmpfojcmedpeaaDoor
open Go.RowKit

/-- What a draw of kinds and a liquor leaves. -/
def DrawKL (w : World) (e : Ending) (w' : World) : Prop :=
  ∃ A n c S F x B m d L, e = .returned (.tuple #[.slice A n c, .agg #[.int .i64 x, .slice B m d]]) ∧ n ≤ 5 ∧ m ≤ 200 ∧ Hid (∀ i, i < n → (S i).size ≤ 9223372036854775807) ∧ Sl w' w.heap.size w'.heap.size A n 3 (kdC S F) ∧ Sl w' w.heap.size w'.heap.size B m 1 (ints L) ∧ Below w.heap.size w w'
/-- .. and a number. -/
def DrawKLi (w : World) (e : Ending) (w' : World) : Prop :=
  ∃ A n c S F x B m d L i, e = .returned (.tuple #[.slice A n c, .agg #[.int .i64 x, .slice B m d], .int .i64 i]) ∧ n ≤ 5 ∧ m ≤ 200 ∧ Hid (∀ i, i < n → (S i).size ≤ 9223372036854775807) ∧ Sl w' w.heap.size w'.heap.size A n 3 (kdC S F) ∧ Sl w' w.heap.size w'.heap.size B m 1 (ints L) ∧ Below w.heap.size w w'
set_option maxRecDepth 20000 in
set_option maxHeartbeats 2000000 in
theorem DrawIsLiquor_any (A : Option Addr) (n c : Nat) (B : Nat → Int) (w : World) (h : CodeR w A n B) :
    Calls Tryd.prog 54 #[.slice A n c] w (DrawKL w) := by
  go_enter Tryd.func54, Tryd.ntmps54
  go_upto_region 1 with fail
  have hX := Box2.new w 27 (.int .i64 0) (.slice none 0 0)
  have hcd := h.below (w' := w.alloc (.cells #[.int .i64 0, .slice none 0 0] 27)) ((Below.refl _ _).alloc (Nat.le_refl _) _)
  have hs1 : (w.alloc (.cells #[.int .i64 0, .slice none 0 0] 27)).heap.size = w.heap.size + 1 := by simp
  have hbA : Below w.heap.size w (w.alloc (.cells #[.int .i64 0, .slice none 0 0] 27)) := (Below.refl _ _).alloc (Nat.le_refl _) _
  generalize w.alloc (.cells #[.int .i64 0, .slice none 0 0] 27) = W1 at hX hcd hs1 hbA ⊢
  go_upto_region 2 with fail
  have hC := Cur.new hcd c 76
  replace hX := hX.alloc (.cells #[.slice A n c, .int .i64 0, .int .u64 0] 76)
  replace hbA := hbA.alloc (show _ ≤ _ by omega) (.cells #[.slice A n c, .int .i64 0, .int .u64 0] 76)
  rw [hs1] at hC
  generalize W1.alloc (.cells #[.slice A n c, .int .i64 0, .int .u64 0] 76) = W2 at hX hbA hC ⊢
  clear hcd
  have hD := DrS.start hC
  have hcu := hC.lt
  clear hC hs1
  go_wp2_with fail
  go_at_call 69
  refine (kinds10_any _ _ _ (by omega) hD.cur).mono ?_
  rintro _ w3 ⟨A5, n5, c5, S5, F5, rfl, hn5, hO, hS5, hDx⟩
  have HS5 := hide hS5
  clear hS5
  have hsO := hD.size
  replace hX := hX.tch hDx.tch (by omega)
  replace hD := hD.trans hDx
  clear hDx
  go_wp2_with fail
  go_at_call 70
  refine (liquor_any _ _ _ _ _ _ (by omega) (by omega) hD.cur).mono ?_
  rintro _ w4 ⟨x, B5, m5, d5, L5, rfl, hm5, hQ, hDx⟩
  have hsQ := hD.size
  have hzq := hDx.size
  replace hX := hX.tch hDx.tch (by omega)
  replace hO := hO.tch hDx.tch (by omega) (by omega)
  replace hD := hD.trans hDx
  clear hDx
  have hz := hD.size
  have hbE := ((hbA.trans (hD.tch.below (by omega) (by omega))).setCell (p := ⟨w.heap.size, 0, none⟩) (Nat.le_refl _) (.int .i64 x)).setCell (p := ⟨w.heap.size, 1, none⟩) (Nat.le_refl _) (.slice B5 m5 d5)
  have hO' : Sl ((w4.setCell ⟨w.heap.size, 0, none⟩ (.int .i64 x)).setCell ⟨w.heap.size, 1, none⟩ (.slice B5 m5 d5)) w.heap.size ((w4.setCell ⟨w.heap.size, 0, none⟩ (.int .i64 x)).setCell ⟨w.heap.size, 1, none⟩ (.slice B5 m5 d5)).heap.size A5 n5 3 (kdC S5 F5) :=
    (hO.agr fun k h1 h2 => (Below.heap_setCell _ _ _ _ (by show k ≠ w.heap.size; omega)).trans (Below.heap_setCell _ _ _ _ (by show k ≠ w.heap.size; omega))).sl.mono (by omega) (by first | (simp; done) | (simp; omega))
  have hQ' : Sl ((w4.setCell ⟨w.heap.size, 0, none⟩ (.int .i64 x)).setCell ⟨w.heap.size, 1, none⟩ (.slice B5 m5 d5)) w.heap.size ((w4.setCell ⟨w.heap.size, 0, none⟩ (.int .i64 x)).setCell ⟨w.heap.size, 1, none⟩ (.slice B5 m5 d5)).heap.size B5 m5 1 (ints L5) :=
    (hQ.agr fun k h1 h2 => (Below.heap_setCell _ _ _ _ (by show k ≠ w.heap.size; omega)).trans (Below.heap_setCell _ _ _ _ (by show k ≠ w.heap.size; omega))).sl.mono (by omega) (by first | (simp; done) | (simp; omega))
  obtain ⟨x0, x1, x2, x3, x4⟩ := hX
  clear hD hbA hO hQ
  go_wp2
  refine bodyPost_ret (v := .tuple #[.slice A5 n5 c5, .agg #[.int .i64 x, .slice B5 m5 d5]]) (by simp only [results, Tryd.results54]; go_simp) rfl ⟨A5, n5, c5, S5, F5, x, B5, m5, d5, L5, rfl, hn5, hm5, HS5, hO', hQ', hbE⟩
set_option maxRecDepth 20000 in
set_option maxHeartbeats 2000000 in
theorem DrawIsFull_any (A : Option Addr) (n c : Nat) (B : Nat → Int) (w : World) (h : CodeR w A n B) :
    Calls Tryd.prog 38 #[.slice A n c] w (DrawKLi w) := by
  go_enter Tryd.func38, Tryd.ntmps38
  go_upto_region 1 with fail
  have hX := Box2.new w 27 (.int .i64 0) (.slice none 0 0)
  have hcd := h.below (w' := w.alloc (.cells #[.int .i64 0, .slice none 0 0] 27)) ((Below.refl _ _).alloc (Nat.le_refl _) _)
  have hs1 : (w.alloc (.cells #[.int .i64 0, .slice none 0 0] 27)).heap.size = w.heap.size + 1 := by simp
  have hbA : Below w.heap.size w (w.alloc (.cells #[.int .i64 0, .slice none 0 0] 27)) := (Below.refl _ _).alloc (Nat.le_refl _) _
  generalize w.alloc (.cells #[.int .i64 0, .slice none 0 0] 27) = W1 at hX hcd hs1 hbA ⊢
  go_upto_region 2 with fail
  have hC := Cur.new hcd c 76
  replace hX := hX.alloc (.cells #[.slice A n c, .int .i64 0, .int .u64 0] 76)
  replace hbA := hbA.alloc (show _ ≤ _ by omega) (.cells #[.slice A n c, .int .i64 0, .int .u64 0] 76)
  rw [hs1] at hC
  generalize W1.alloc (.cells #[.slice A n c, .int .i64 0, .int .u64 0] 76) = W2 at hX hbA hC ⊢
  clear hcd
  have hD := DrS.start hC
  have hcu := hC.lt
  clear hC hs1
  go_wp2_with fail
  go_at_call 69
  refine (kinds10_any _ _ _ (by omega) hD.cur).mono ?_
  rintro _ w3 ⟨A5, n5, c5, S5, F5, rfl, hn5, hO, hS5, hDx⟩
  have HS5 := hide hS5
  clear hS5
  have hsO := hD.size
  replace hX := hX.tch hDx.tch (by omega)
  replace hD := hD.trans hDx
  clear hDx
  go_wp2_with fail
  go_at_call 70
  refine (liquor_any _ _ _ _ _ _ (by omega) (by omega) hD.cur).mono ?_
  rintro _ w4 ⟨x, B5, m5, d5, L5, rfl, hm5, hQ, hDx⟩
  have hsQ := hD.size
  have hzq := hDx.size
  replace hX := hX.tch hDx.tch (by omega)
  replace hO := hO.tch hDx.tch (by omega) (by omega)
  replace hD := hD.trans hDx
  clear hDx
  go_wp2_with fail
  go_at_call 74
  refine (indexOf_any _ _ _ _ (by omega) (by omega) hD.cur).mono ?_
  rintro _ w5 ⟨i, rfl, hc, ht⟩
  replace hX := hX.tch ht (by omega)
  have hz5 := ht.size
  replace hO := hO.tch ht (by omega) (by omega)
  replace hQ := hQ.tch ht (by omega) (by omega)
  replace hD := hD.draw hc ht
  clear hc ht
  have hz := hD.size
  have hbE := ((hbA.trans (hD.tch.below (by omega) (by omega))).setCell (p := ⟨w.heap.size, 0, none⟩) (Nat.le_refl _) (.int .i64 x)).setCell (p := ⟨w.heap.size, 1, none⟩) (Nat.le_refl _) (.slice B5 m5 d5)
  have hO' : Sl ((w5.setCell ⟨w.heap.size, 0, none⟩ (.int .i64 x)).setCell ⟨w.heap.size, 1, none⟩ (.slice B5 m5 d5)) w.heap.size ((w5.setCell ⟨w.heap.size, 0, none⟩ (.int .i64 x)).setCell ⟨w.heap.size, 1, none⟩ (.slice B5 m5 d5)).heap.size A5 n5 3 (kdC S5 F5) :=
    (hO.agr fun k h1 h2 => (Below.heap_setCell _ _ _ _ (by show k ≠ w.heap.size; omega)).trans (Below.heap_setCell _ _ _ _ (by show k ≠ w.heap.size; omega))).sl.mono (by omega) (by first | (simp; done) | (simp; omega))
  have hQ' : Sl ((w5.setCell ⟨w.heap.size, 0, none⟩ (.int .i64 x)).setCell ⟨w.heap.size, 1, none⟩ (.slice B5 m5 d5)) w.heap.size ((w5.setCell ⟨w.heap.size, 0, none⟩ (.int .i64 x)).setCell ⟨w.heap.size, 1, none⟩ (.slice B5 m5 d5)).heap.size B5 m5 1 (ints L5) :=
    (hQ.agr fun k h1 h2 => (Below.heap_setCell _ _ _ _ (by show k ≠ w.heap.size; omega)).trans (Below.heap_setCell _ _ _ _ (by show k ≠ w.heap.size; omega))).sl.mono (by omega) (by first | (simp; done) | (simp; omega))
  obtain ⟨x0, x1, x2, x3, x4⟩ := hX
  clear hD hbA hO hQ
  go_wp2
  refine bodyPost_ret (v := .tuple #[.slice A5 n5 c5, .agg #[.int .i64 x, .slice B5 m5 d5], .int .i64 i]) (by simp only [results, Tryd.results38]; go_simp) rfl ⟨A5, n5, c5, S5, F5, x, B5, m5, d5, L5, i, rfl, hn5, hm5, HS5, hO', hQ', hbE⟩
set_option maxHeartbeats 1000000 in
theorem DrawFallOut_any (A : Option Addr) (n c : Nat) (B : Nat → Int) (w : World) (h : CodeR w A n B) :
    Calls Tryd.prog 25 #[.slice A n c] w (DrawKL w) := by
  go_enter Tryd.func25, Tryd.ntmps25
  go_upto_region 1 with fail
  have hX := Box2.new w 27 (.int .i64 0) (.slice none 0 0)
  have hcd := h.below (w' := w.alloc (.cells #[.int .i64 0, .slice none 0 0] 27)) ((Below.refl _ _).alloc (Nat.le_refl _) _)
  have hbA : Below w.heap.size w (w.alloc (.cells #[.int .i64 0, .slice none 0 0] 27)) := (Below.refl _ _).alloc (Nat.le_refl _) _
  generalize w.alloc (.cells #[.int .i64 0, .slice none 0 0] 27) = W1 at hX hcd hbA ⊢
  have hsz : w.heap.size < W1.heap.size := hX.lt
  go_wp2_with fail
  go_at_call 54
  refine (DrawIsLiquor_any _ _ _ _ _ hcd).mono ?_
  rintro _ w4 ⟨A5, n5, c5, S5, F5, x, B5, m5, d5, L5, rfl, hn5, hm5, HS5, hO, hQ, hb⟩
  have hOx := hO
  have hQx := hQ
  clear hO hQ
  replace hX := hX.below hb
  replace hbA := gr hbA hb
  have hs4 := hX.lt
  have hbE := (hbA.setCell (p := ⟨w.heap.size, 0, none⟩) (Nat.le_refl _) (.int .i64 x)).setCell (p := ⟨w.heap.size, 1, none⟩) (Nat.le_refl _) (.slice B5 m5 d5)
  have hO' : Sl ((w4.setCell ⟨w.heap.size, 0, none⟩ (.int .i64 x)).setCell ⟨w.heap.size, 1, none⟩ (.slice B5 m5 d5)) w.heap.size ((w4.setCell ⟨w.heap.size, 0, none⟩ (.int .i64 x)).setCell ⟨w.heap.size, 1, none⟩ (.slice B5 m5 d5)).heap.size A5 n5 3 (kdC S5 F5) :=
    (hOx.agr fun k h1 h2 => (Below.heap_setCell _ _ _ _ (by show k ≠ w.heap.size; omega)).trans (Below.heap_setCell _ _ _ _ (by show k ≠ w.heap.size; omega))).mono (by omega) (by first | (simp; done) | (simp; omega))
  have hQ' : Sl ((w4.setCell ⟨w.heap.size, 0, none⟩ (.int .i64 x)).setCell ⟨w.heap.size, 1, none⟩ (.slice B5 m5 d5)) w.heap.size ((w4.setCell ⟨w.heap.size, 0, none⟩ (.int .i64 x)).setCell ⟨w.heap.size, 1, none⟩ (.slice B5 m5 d5)).heap.size B5 m5 1 (ints L5) :=
    (hQx.agr fun k h1 h2 => (Below.heap_setCell _ _ _ _ (by show k ≠ w.heap.size; omega)).trans (Below.heap_setCell _ _ _ _ (by show k ≠ w.heap.size; omega))).mono (by omega) (by first | (simp; done) | (simp; omega))
  obtain ⟨x0, x1, x2, x3, x4⟩ := hX
  clear hOx hQx hbA hb
  go_wp2
  refine bodyPost_ret (v := .tuple #[.slice A5 n5 c5, .agg #[.int .i64 x, .slice B5 m5 d5]]) (by simp only [results, Tryd.results25]; go_simp) rfl ⟨A5, n5, c5, S5, F5, x, B5, m5, d5, L5, rfl, hn5, hm5, HS5, hO', hQ', hbE⟩
set_option maxHeartbeats 1000000 in
theorem DrawFirstToFall_any (A : Option Addr) (n c : Nat) (B : Nat → Int) (w : World) (h : CodeR w A n B) :
    Calls Tryd.prog 15 #[.slice A n c] w (DrawKL w) := by
  go_enter Tryd.func15, Tryd.ntmps15
  go_upto_region 1 with fail
  have hX := Box2.new w 27 (.int .i64 0) (.slice none 0 0)
  have hcd := h.below (w' := w.alloc (.cells #[.int .i64 0, .slice none 0 0] 27)) ((Below.refl _ _).alloc (Nat.le_refl _) _)
  have hbA : Below w.heap.size w (w.alloc (.cells #[.int .i64 0, .slice none 0 0] 27)) := (Below.refl _ _).alloc (Nat.le_refl _) _
  generalize w.alloc (.cells #[.int .i64 0, .slice none 0 0] 27) = W1 at hX hcd hbA ⊢
  have hsz : w.heap.size < W1.heap.size := hX.lt
  go_wp2_with fail
  go_at_call 54
  refine (DrawIsLiquor_any _ _ _ _ _ hcd).mono ?_
  rintro _ w4 ⟨A5, n5, c5, S5, F5, x, B5, m5, d5, L5, rfl, hn5, hm5, HS5, hO, hQ, hb⟩
  have hOx := hO
  have hQx := hQ
  clear hO hQ
  replace hX := hX.below hb
  replace hbA := gr hbA hb
  have hs4 := hX.lt
  have hbE := (hbA.setCell (p := ⟨w.heap.size, 0, none⟩) (Nat.le_refl _) (.int .i64 x)).setCell (p := ⟨w.heap.size, 1, none⟩) (Nat.le_refl _) (.slice B5 m5 d5)
  have hO' : Sl ((w4.setCell ⟨w.heap.size, 0, none⟩ (.int .i64 x)).setCell ⟨w.heap.size, 1, none⟩ (.slice B5 m5 d5)) w.heap.size ((w4.setCell ⟨w.heap.size, 0, none⟩ (.int .i64 x)).setCell ⟨w.heap.size, 1, none⟩ (.slice B5 m5 d5)).heap.size A5 n5 3 (kdC S5 F5) :=
    (hOx.agr fun k h1 h2 => (Below.heap_setCell _ _ _ _ (by show k ≠ w.heap.size; omega)).trans (Below.heap_setCell _ _ _ _ (by show k ≠ w.heap.size; omega))).mono (by omega) (by first | (simp; done) | (simp; omega))
  have hQ' : Sl ((w4.setCell ⟨w.heap.size, 0, none⟩ (.int .i64 x)).setCell ⟨w.heap.size, 1, none⟩ (.slice B5 m5 d5)) w.heap.size ((w4.setCell ⟨w.heap.size, 0, none⟩ (.int .i64 x)).setCell ⟨w.heap.size, 1, none⟩ (.slice B5 m5 d5)).heap.size B5 m5 1 (ints L5) :=
    (hQx.agr fun k h1 h2 => (Below.heap_setCell _ _ _ _ (by show k ≠ w.heap.size; omega)).trans (Below.heap_setCell _ _ _ _ (by show k ≠ w.heap.size; omega))).mono (by omega) (by first | (simp; done) | (simp; omega))
  obtain ⟨x0, x1, x2, x3, x4⟩ := hX
  clear hOx hQx hbA hb
  go_wp2
  refine bodyPost_ret (v := .tuple #[.slice A5 n5 c5, .agg #[.int .i64 x, .slice B5 m5 d5]]) (by simp only [results, Tryd.results15]; go_simp) rfl ⟨A5, n5, c5, S5, F5, x, B5, m5, d5, L5, rfl, hn5, hm5, HS5, hO', hQ', hbE⟩
set_option maxHeartbeats 1000000 in
theorem DrawLiquorMass_any (A : Option Addr) (n c : Nat) (B : Nat → Int) (w : World) (h : CodeR w A n B) :
    Calls Tryd.prog 40 #[.slice A n c] w (DrawKL w) := by
  go_enter Tryd.func40, Tryd.ntmps40
  go_upto_region 1 with fail
  have hX := Box2.new w 27 (.int .i64 0) (.slice none 0 0)
  have hcd := h.below (w' := w.alloc (.cells #[.int .i64 0, .slice none 0 0] 27)) ((Below.refl _ _).alloc (Nat.le_refl _) _)
  have hbA : Below w.heap.size w (w.alloc (.cells #[.int .i64 0, .slice none 0 0] 27)) := (Below.refl _ _).alloc (Nat.le_refl _) _
  generalize w.alloc (.cells #[.int .i64 0, .slice none 0 0] 27) = W1 at hX hcd hbA ⊢
  have hsz : w.heap.size < W1.heap.size := hX.lt
  go_wp2_with fail
  go_at_call 54
  refine (DrawIsLiquor_any _ _ _ _ _ hcd).mono ?_
  rintro _ w4 ⟨A5, n5, c5, S5, F5, x, B5, m5, d5, L5, rfl, hn5, hm5, HS5, hO, hQ, hb⟩
  have hOx := hO
  have hQx := hQ
  clear hO hQ
  replace hX := hX.below hb
  replace hbA := gr hbA hb
  have hs4 := hX.lt
  have hbE := (hbA.setCell (p := ⟨w.heap.size, 0, none⟩) (Nat.le_refl _) (.int .i64 x)).setCell (p := ⟨w.heap.size, 1, none⟩) (Nat.le_refl _) (.slice B5 m5 d5)
  have hO' : Sl ((w4.setCell ⟨w.heap.size, 0, none⟩ (.int .i64 x)).setCell ⟨w.heap.size, 1, none⟩ (.slice B5 m5 d5)) w.heap.size ((w4.setCell ⟨w.heap.size, 0, none⟩ (.int .i64 x)).setCell ⟨w.heap.size, 1, none⟩ (.slice B5 m5 d5)).heap.size A5 n5 3 (kdC S5 F5) :=
    (hOx.agr fun k h1 h2 => (Below.heap_setCell _ _ _ _ (by show k ≠ w.heap.size; omega)).trans (Below.heap_setCell _ _ _ _ (by show k ≠ w.heap.size; omega))).mono (by omega) (by first | (simp; done) | (simp; omega))
  have hQ' : Sl ((w4.setCell ⟨w.heap.size, 0, none⟩ (.int .i64 x)).setCell ⟨w.heap.size, 1, none⟩ (.slice B5 m5 d5)) w.heap.size ((w4.setCell ⟨w.heap.size, 0, none⟩ (.int .i64 x)).setCell ⟨w.heap.size, 1, none⟩ (.slice B5 m5 d5)).heap.size B5 m5 1 (ints L5) :=
    (hQx.agr fun k h1 h2 => (Below.heap_setCell _ _ _ _ (by show k ≠ w.heap.size; omega)).trans (Below.heap_setCell _ _ _ _ (by show k ≠ w.heap.size; omega))).mono (by omega) (by first | (simp; done) | (simp; omega))
  obtain ⟨x0, x1, x2, x3, x4⟩ := hX
  clear hOx hQx hbA hb
  go_wp2
  refine bodyPost_ret (v := .tuple #[.slice A5 n5 c5, .agg #[.int .i64 x, .slice B5 m5 d5]]) (by simp only [results, Tryd.results40]; go_simp) rfl ⟨A5, n5, c5, S5, F5, x, B5, m5, d5, L5, rfl, hn5, hm5, HS5, hO', hQ', hbE⟩
set_option maxHeartbeats 1000000 in
theorem DrawDryToKeep_any (A : Option Addr) (n c : Nat) (B : Nat → Int) (w : World) (h : CodeR w A n B) :
    Calls Tryd.prog 19 #[.slice A n c] w (DrawKLi w) := by
  go_enter Tryd.func19, Tryd.ntmps19
  go_upto_region 1 with fail
  have hX := Box2.new w 27 (.int .i64 0) (.slice none 0 0)
  have hcd := h.below (w' := w.alloc (.cells #[.int .i64 0, .slice none 0 0] 27)) ((Below.refl _ _).alloc (Nat.le_refl _) _)
  have hbA : Below w.heap.size w (w.alloc (.cells #[.int .i64 0, .slice none 0 0] 27)) := (Below.refl _ _).alloc (Nat.le_refl _) _
  generalize w.alloc (.cells #[.int .i64 0, .slice none 0 0] 27) = W1 at hX hcd hbA ⊢
  have hsz : w.heap.size < W1.heap.size := hX.lt
  go_wp2_with fail
  go_at_call 38
  refine (DrawIsFull_any _ _ _ _ _ hcd).mono ?_
  rintro _ w4 ⟨A5, n5, c5, S5, F5, x, B5, m5, d5, L5, i, rfl, hn5, hm5, HS5, hO, hQ, hb⟩
  have hOx := hO
  have hQx := hQ
  clear hO hQ
  replace hX := hX.below hb
  replace hbA := gr hbA hb
  have hs4 := hX.lt
  have hbE := (hbA.setCell (p := ⟨w.heap.size, 0, none⟩) (Nat.le_refl _) (.int .i64 x)).setCell (p := ⟨w.heap.size, 1, none⟩) (Nat.le_refl _) (.slice B5 m5 d5)
  have hO' : Sl ((w4.setCell ⟨w.heap.size, 0, none⟩ (.int .i64 x)).setCell ⟨w.heap.size, 1, none⟩ (.slice B5 m5 d5)) w.heap.size ((w4.setCell ⟨w.heap.size, 0, none⟩ (.int .i64 x)).setCell ⟨w.heap.size, 1, none⟩ (.slice B5 m5 d5)).heap.size A5 n5 3 (kdC S5 F5) :=
    (hOx.agr fun k h1 h2 => (Below.heap_setCell _ _ _ _ (by show k ≠ w.heap.size; omega)).trans (Below.heap_setCell _ _ _ _ (by show k ≠ w.heap.size; omega))).mono (by omega) (by first | (simp; done) | (simp; omega))
  have hQ' : Sl ((w4.setCell ⟨w.heap.size, 0, none⟩ (.int .i64 x)).setCell ⟨w.heap.size, 1, none⟩ (.slice B5 m5 d5)) w.heap.size ((w4.setCell ⟨w.heap.size, 0, none⟩ (.int .i64 x)).setCell ⟨w.heap.size, 1, none⟩ (.slice B5 m5 d5)).heap.size B5 m5 1 (ints L5) :=
    (hQx.agr fun k h1 h2 => (Below.heap_setCell _ _ _ _ (by show k ≠ w.heap.size; omega)).trans (Below.heap_setCell _ _ _ _ (by show k ≠ w.heap.size; omega))).mono (by omega) (by first | (simp; done) | (simp; omega))
  obtain ⟨x0, x1, x2, x3, x4⟩ := hX
  clear hOx hQx hbA hb
  go_wp2
  refine bodyPost_ret (v := .tuple #[.slice A5 n5 c5, .agg #[.int .i64 x, .slice B5 m5 d5], .int .i64 i]) (by simp only [results, Tryd.results19]; go_simp) rfl ⟨A5, n5, c5, S5, F5, x, B5, m5, d5, L5, i, rfl, hn5, hm5, HS5, hO', hQ', hbE⟩
set_option maxHeartbeats 1000000 in
theorem DrawPureBetween_any (A : Option Addr) (n c : Nat) (B : Nat → Int) (w : World) (h : CodeR w A n B) :
    Calls Tryd.prog 22 #[.slice A n c] w (DrawKLi w) := by
  go_enter Tryd.func22, Tryd.ntmps22
  go_upto_region 1 with fail
  have hX := Box2.new w 27 (.int .i64 0) (.slice none 0 0)
  have hcd := h.below (w' := w.alloc (.cells #[.int .i64 0, .slice none 0 0] 27)) ((Below.refl _ _).alloc (Nat.le_refl _) _)
  have hbA : Below w.heap.size w (w.alloc (.cells #[.int .i64 0, .slice none 0 0] 27)) := (Below.refl _ _).alloc (Nat.le_refl _) _
  generalize w.alloc (.cells #[.int .i64 0, .slice none 0 0] 27) = W1 at hX hcd hbA ⊢
  have hsz : w.heap.size < W1.heap.size := hX.lt
  go_wp2_with fail
  go_at_call 38
  refine (DrawIsFull_any _ _ _ _ _ hcd).mono ?_
  rintro _ w4 ⟨A5, n5, c5, S5, F5, x, B5, m5, d5, L5, i, rfl, hn5, hm5, HS5, hO, hQ, hb⟩
  have hOx := hO
  have hQx := hQ
  clear hO hQ
  replace hX := hX.below hb
  replace hbA := gr hbA hb
  have hs4 := hX.lt
  have hbE := (hbA.setCell (p := ⟨w.heap.size, 0, none⟩) (Nat.le_refl _) (.int .i64 x)).setCell (p := ⟨w.heap.size, 1, none⟩) (Nat.le_refl _) (.slice B5 m5 d5)
  have hO' : Sl ((w4.setCell ⟨w.heap.size, 0, none⟩ (.int .i64 x)).setCell ⟨w.heap.size, 1, none⟩ (.slice B5 m5 d5)) w.heap.size ((w4.setCell ⟨w.heap.size, 0, none⟩ (.int .i64 x)).setCell ⟨w.heap.size, 1, none⟩ (.slice B5 m5 d5)).heap.size A5 n5 3 (kdC S5 F5) :=
    (hOx.agr fun k h1 h2 => (Below.heap_setCell _ _ _ _ (by show k ≠ w.heap.size; omega)).trans (Below.heap_setCell _ _ _ _ (by show k ≠ w.heap.size; omega))).mono (by omega) (by first | (simp; done) | (simp; omega))
  have hQ' : Sl ((w4.setCell ⟨w.heap.size, 0, none⟩ (.int .i64 x)).setCell ⟨w.heap.size, 1, none⟩ (.slice B5 m5 d5)) w.heap.size ((w4.setCell ⟨w.heap.size, 0, none⟩ (.int .i64 x)).setCell ⟨w.heap.size, 1, none⟩ (.slice B5 m5 d5)).heap.size B5 m5 1 (ints L5) :=
    (hQx.agr fun k h1 h2 => (Below.heap_setCell _ _ _ _ (by show k ≠ w.heap.size; omega)).trans (Below.heap_setCell _ _ _ _ (by show k ≠ w.heap.size; omega))).mono (by omega) (by first | (simp; done) | (simp; omega))
  obtain ⟨x0, x1, x2, x3, x4⟩ := hX
  clear hOx hQx hbA hb
  go_wp2
  refine bodyPost_ret (v := .tuple #[.slice A5 n5 c5, .agg #[.int .i64 x, .slice B5 m5 d5], .int .i64 i]) (by simp only [results, Tryd.results22]; go_simp) rfl ⟨A5, n5, c5, S5, F5, x, B5, m5, d5, L5, i, rfl, hn5, hm5, HS5, hO', hQ', hbE⟩
end Go.Proofs.YtnmpfojcmedpeaaDoor
