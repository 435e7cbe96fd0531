/-
  Contracts: the cursor that draws numbers from bytes. Conditions: fewer than 2^40 draws.
-/
import Derived.Test.YtbmlglkdlialgaaDoorTail
import Derived.Test.YtbmlglkdlialgaaDoorChecked
import Derived.Laws.Bits64b
namespace Go.Proofs.YtbmlglkdlialgaaDoor
open Go.RowKit

/-- A cursor in block cu, at most m bytes on. -/
structure Cur (w : World) (cu : Nat) (m : Nat) : Prop where
  lt : cu < w.heap.size
  ex : ∃ (A : Option Addr) (n c a : Nat) (s : Int) (B : Nat → Int), n ≤ maxLen ∧ a ≤ m ∧ 0 ≤ s ∧ s < 18446744073709551616 ∧
    w.cell? ⟨cu, 0, none⟩ = some (.slice A n c) ∧ w.cell? ⟨cu, 1, none⟩ = some (.int .i64 a) ∧ w.cell? ⟨cu, 2, none⟩ = some (.int .u64 s) ∧
    w.frozen? ⟨cu, 1, none⟩ = false ∧ w.frozen? ⟨cu, 2, none⟩ = false ∧
    (∀ i, 0 ≤ B i ∧ B i ≤ 255) ∧ Sl w 0 cu A n 1 (fun i _ => .int .u8 (B i))
theorem Cur.more {w : World} {cu m m' : Nat} (h : Cur w cu m) (hm : m ≤ m') : Cur w cu m' := by
  obtain ⟨h1, A, n, c, a, s, B, hn, ha, r⟩ := h
  exact ⟨h1, A, n, c, a, s, B, hn, by omega, r⟩
theorem Cur.agr {w w' : World} {cu m : Nat} (h : Cur w cu m) (ha : Agr 0 (cu + 1) w w') (hs : w.heap.size ≤ w'.heap.size) : Cur w' cu m := by
  obtain ⟨hcu, A, n, c, a, s, B, hn, h1, h2, h3, c0, c1, c2, f1, f2, hB, hS⟩ := h
  have k : ∀ o v, w.cell? ⟨cu, o, none⟩ = v → w'.cell? ⟨cu, o, none⟩ = v := fun o v e => (ha.cell (p := ⟨cu, o, none⟩) (Nat.zero_le _) (Nat.lt_succ_self _)).trans e
  have k' : ∀ o v, w.frozen? ⟨cu, o, none⟩ = v → w'.frozen? ⟨cu, o, none⟩ = v := fun o v e => (ha.frozen (p := ⟨cu, o, none⟩) (Nat.zero_le _) (Nat.lt_succ_self _)).trans e
  exact ⟨Nat.lt_of_lt_of_le hcu hs, A, n, c, a, s, B, hn, h1, h2, h3, k _ _ c0, k _ _ c1, k _ _ c2, k' _ _ f1, k' _ _ f2, hB, hS.agr fun j h1 h2 => ha j h1 (by omega)⟩
theorem Cur.below {w w' : World} {cu m : Nat} (h : Cur w cu m) (hb : Below w.heap.size w w') : Cur w' cu m :=
  h.agr (Below.agr hb h.lt) hb.size
theorem Cur.alloc {w : World} {cu m : Nat} (h : Cur w cu m) (o : Obj) : Cur (w.alloc o) cu m := h.below ((Below.refl _ _).alloc (Nat.le_refl _) _)
theorem Cur.setCell {w : World} {cu m : Nat} (h : Cur w cu m) {p : Addr} (hp : cu < p.block) (v : Value) : Cur (w.setCell p v) cu m :=
  h.agr (fun k _ h2 => Below.heap_setCell _ _ _ _ (by omega)) (by simp)
/-- What a draw leaves: a number from lo to hi; only the cursor's block has turned. -/
def DrawP (w : World) (cu m : Nat) (lo hi : Int) (e : Ending) (w' : World) : Prop :=
  ∃ r : Int, e = .returned (.int .i64 r) ∧ lo ≤ r ∧ r ≤ hi ∧ Cur w' cu m ∧ Tch cu (cu + 1) w w'

theorem cur_set {w : World} {cu : Nat} {v0 u1 u2 : Value} (v1 v2 : Value) (c0 : w.cell? ⟨cu, 0, none⟩ = some v0) (c1 : w.cell? ⟨cu, 1, none⟩ = some u1) (c2 : w.cell? ⟨cu, 2, none⟩ = some u2) :
    ((w.setCell ⟨cu, 1, none⟩ v1).setCell ⟨cu, 2, none⟩ v2).cell? ⟨cu, 0, none⟩ = some v0 ∧ ((w.setCell ⟨cu, 1, none⟩ v1).setCell ⟨cu, 2, none⟩ v2).cell? ⟨cu, 1, none⟩ = some v1 ∧ ((w.setCell ⟨cu, 1, none⟩ v1).setCell ⟨cu, 2, none⟩ v2).cell? ⟨cu, 2, none⟩ = some v2 := by
  have o1 : ∀ (w : World) (i j : Nat) (v : Value), i ≠ j → (w.setCell ⟨cu, i, none⟩ v).cell? ⟨cu, j, none⟩ = w.cell? ⟨cu, j, none⟩ := fun w i j v h => World.cell?_setCell_other _ _ _ _ (fun e => h (by injection e))
  exact ⟨(o1 _ 2 0 _ (by decide)).trans ((o1 _ 1 0 _ (by decide)).trans c0), (o1 _ 2 1 _ (by decide)).trans (World.cell?_setCell_same _ _ _ c1), World.cell?_setCell_same _ _ _ ((o1 _ 1 2 _ (by decide)).trans c2)⟩

theorem byte_bd {S : Int} (h0 : 0 ≤ S) (h1 : S < 18446744073709551616) : 0 ≤ wrap64 (bits BinOp.and IntKind.u64 (S / 1099511627776) 255) ∧ wrap64 (bits BinOp.and IntKind.u64 (S / 1099511627776) 255) ≤ 255 := by
  obtain ⟨q, hq⟩ : ∃ q : Nat, S / 1099511627776 = q := ⟨(S / 1099511627776).toNat, by omega⟩
  have e := bits_and_u64_nat q 255 (by omega) (by omega)
  rw [hq, show (255 : Int) = ((255 : Nat) : Int) from rfl, e]
  have : q &&& 255 ≤ 255 := Nat.and_le_right
  unfold wrap64
  omega
set_option maxHeartbeats 2000000 in
theorem next_any (cu m : Nat) (w : World) (hm : m ≤ 1099511627776) (h : Cur w cu m) :
    Calls Tryd.prog 65 #[.pointer (some ⟨cu, 0, none⟩)] w (DrawP w cu (m + 1) 0 255) := by
  obtain ⟨hcu, A, n, c, a, s, B, hn, ha, hs, hs2, c0, c1, c2, f1, f2, hB, hS⟩ := h
  have hn2 : n ≤ 9223372036854775807 := by simpa [maxLen] using hn
  go_enter Tryd.func65, Tryd.ntmps65
  by_cases hlt : a < n
  · obtain ⟨b, off, rfl, -, hbc, hc⟩ := hS (by omega)
    have hc0 := hc a 0 hlt (by omega)
    simp only [Nat.mul_one, Nat.add_zero] at hc0
    have hb := hB a
    have HB := hide hB
    have HC := hide hc
    clear hc hB
    have d0 := fun x : After w => x.cell c0 hcu
    have d1 := fun x : After w => x.cell c1 hcu
    go_wp2
    refine region_after (by kernel_rfl) (by kernel_rfl) ?_
    repeat (go_big_quiet_step ((first | fail)))
    refine wpQuiet_nil ?_
    rintro _ ⟨x, rfl⟩
    have hb1 := x.h
    replace c0 := d0 x
    replace c1 := d1 x
    replace c2 := (hb1.cell (p := ⟨cu, 2, none⟩) hcu).trans c2
    replace f1 := (hb1.frozen (p := ⟨cu, 1, none⟩) hcu).trans f1
    replace f2 := (hb1.frozen (p := ⟨cu, 2, none⟩) hcu).trans f2
    have hcu1 : cu < x.w.heap.size := Nat.lt_of_lt_of_le hcu hb1.size
    clear d0 d1
    generalize x.w = W1 at *
    clear x
    replace hc0 := (hb1.cell (p := ⟨b, off + a, none⟩) (by show b < _; omega)).trans hc0
    have d0 := fun x : After W1 => x.cell c0 hcu1
    have d1 := fun x : After W1 => x.cell c1 hcu1
    have d2 := fun x : After W1 => x.cell hc0 (by show b < _; omega)
    go_wp2
    refine region_after (by kernel_rfl) (by kernel_rfl) ?_
    repeat (go_big_quiet_step ((first | fail)))
    refine wpQuiet_nil ?_
    rintro _ ⟨x, rfl⟩
    have hb2 := x.h
    replace c0 := d0 x
    replace c1 := d1 x
    replace c2 := (hb2.cell (p := ⟨cu, 2, none⟩) hcu1).trans c2
    replace f1 := (hb2.frozen (p := ⟨cu, 1, none⟩) hcu1).trans f1
    replace f2 := (hb2.frozen (p := ⟨cu, 2, none⟩) hcu1).trans f2
    replace hcu1 : cu < x.w.heap.size := Nat.lt_of_lt_of_le hcu1 hb2.size
    have hbA := gr hb1 hb2
    clear d0 d1 d2 hc0 hb1 hb2
    generalize x.w = W2 at *
    clear x W1
    go_wp2
    obtain ⟨S, hS0, hS1, hSe⟩ : ∃ S : Int, 0 ≤ S ∧ S < 18446744073709551616 ∧ S = IntKind.u64.wrap (IntKind.u64.wrap (IntKind.u64.wrap (s * 6364136223846793005) + B a) + 101919) := ⟨_, by rw [IntKind.wrap_u64]; omega, by rw [IntKind.wrap_u64]; omega, rfl⟩
    rw [← hSe]
    clear hSe
    obtain ⟨e0, e1, e2⟩ := cur_set (.int .i64 (a + 1)) (.int .u64 S) c0 c1 c2
    have ht : Tch cu (cu + 1) W2 ((W2.setCell ⟨cu, 1, none⟩ (.int .i64 (a + 1))).setCell ⟨cu, 2, none⟩ (.int .u64 S)) := ((Tch.refl _ _ _).setCell (p := ⟨cu, 1, none⟩) (Nat.le_refl _) (Nat.lt_succ_self _) _).setCell (p := ⟨cu, 2, none⟩) (Nat.le_refl _) (Nat.lt_succ_self _) _
    have g1 : ((W2.setCell ⟨cu, 1, none⟩ (.int .i64 (a + 1))).setCell ⟨cu, 2, none⟩ (.int .u64 S)).frozen? ⟨cu, 1, none⟩ = false := by simpa using f1
    have g2 : ((W2.setCell ⟨cu, 1, none⟩ (.int .i64 (a + 1))).setCell ⟨cu, 2, none⟩ (.int .u64 S)).frozen? ⟨cu, 2, none⟩ = false := by simpa using f2
    have hcu3 : cu < ((W2.setCell ⟨cu, 1, none⟩ (.int .i64 (a + 1))).setCell ⟨cu, 2, none⟩ (.int .u64 S)).heap.size := by simpa using hcu1
    clear c0 c1 c2 f1 f2
    generalize (W2.setCell ⟨cu, 1, none⟩ (.int .i64 (a + 1))).setCell ⟨cu, 2, none⟩ (.int .u64 S) = W3 at *
    have d0 := fun x : After W3 => x.cell e0 hcu3
    have d1 := fun x : After W3 => x.cell e1 hcu3
    refine region_after (by kernel_rfl) (by kernel_rfl) ?_
    repeat (go_big_quiet_step ((first | fail)))
    refine wpQuiet_nil ?_
    rintro _ ⟨x, rfl⟩
    have hb3 := x.h
    have e2 := (hb3.cell (p := ⟨cu, 2, none⟩) hcu3).trans e2
    have e0 := d0 x
    have e1 := d1 x
    have g1 := (hb3.frozen (p := ⟨cu, 1, none⟩) hcu3).trans g1
    have g2 := (hb3.frozen (p := ⟨cu, 2, none⟩) hcu3).trans g2
    have hz := Nat.lt_of_lt_of_le hcu3 hb3.size
    clear d0 d1
    generalize x.w = W4 at *
    clear x
    go_wp2
    go_ret
    have ht2 := ((Tch.of_below (hbA.mono (Nat.le_refl _))).trans ht).trans (.of_below hb3)
    exact ⟨B a, rfl, hb.1, hb.2, ⟨hz, _, n, c, a + 1, S, B, hn, by omega, hS0, hS1, e0, e1, e2, g1, g2, HB.out, fun _ => ⟨b, off, rfl, Nat.zero_le _, hbc, fun i j hi hj => (Agr.cell (Tch.agr (l := 0) (h := cu) ht2 (by omega) (.inl (Nat.le_refl _))) (by exact Nat.zero_le _) (by exact hbc)).trans (HC.out i j hi hj)⟩⟩, ht2⟩
  · have HB := hide hB
    have HS := hide hS
    clear hB hS
    have d0 := fun x : After w => x.cell c0 hcu
    have d1 := fun x : After w => x.cell c1 hcu
    go_wp2
    refine region_after (by kernel_rfl) (by kernel_rfl) ?_
    repeat (go_big_quiet_step ((first | fail)))
    refine wpQuiet_nil ?_
    rintro _ ⟨x, rfl⟩
    have hb1 := x.h
    replace c0 := d0 x
    replace c1 := d1 x
    replace c2 := (hb1.cell (p := ⟨cu, 2, none⟩) hcu).trans c2
    replace f1 := (hb1.frozen (p := ⟨cu, 1, none⟩) hcu).trans f1
    replace f2 := (hb1.frozen (p := ⟨cu, 2, none⟩) hcu).trans f2
    have hcu1 : cu < x.w.heap.size := Nat.lt_of_lt_of_le hcu hb1.size
    clear d0 d1
    generalize x.w = W1 at *
    clear x
    go_wp2
    obtain ⟨S, hS0, hS1, hSe⟩ : ∃ S : Int, 0 ≤ S ∧ S < 18446744073709551616 ∧ S = IntKind.u64.wrap (IntKind.u64.wrap (IntKind.u64.wrap (s * 6364136223846793005)) + 101919) := ⟨_, by rw [IntKind.wrap_u64]; omega, by rw [IntKind.wrap_u64]; omega, rfl⟩
    rw [← hSe]
    clear hSe
    obtain ⟨e0, e1, e2⟩ := cur_set (.int .i64 (a + 1)) (.int .u64 S) c0 c1 c2
    have ht : Tch cu (cu + 1) W1 ((W1.setCell ⟨cu, 1, none⟩ (.int .i64 (a + 1))).setCell ⟨cu, 2, none⟩ (.int .u64 S)) := ((Tch.refl _ _ _).setCell (p := ⟨cu, 1, none⟩) (Nat.le_refl _) (Nat.lt_succ_self _) _).setCell (p := ⟨cu, 2, none⟩) (Nat.le_refl _) (Nat.lt_succ_self _) _
    have g1 : ((W1.setCell ⟨cu, 1, none⟩ (.int .i64 (a + 1))).setCell ⟨cu, 2, none⟩ (.int .u64 S)).frozen? ⟨cu, 1, none⟩ = false := by simpa using f1
    have g2 : ((W1.setCell ⟨cu, 1, none⟩ (.int .i64 (a + 1))).setCell ⟨cu, 2, none⟩ (.int .u64 S)).frozen? ⟨cu, 2, none⟩ = false := by simpa using f2
    have hcu3 : cu < ((W1.setCell ⟨cu, 1, none⟩ (.int .i64 (a + 1))).setCell ⟨cu, 2, none⟩ (.int .u64 S)).heap.size := by simpa using hcu1
    clear c0 c1 c2 f1 f2
    generalize (W1.setCell ⟨cu, 1, none⟩ (.int .i64 (a + 1))).setCell ⟨cu, 2, none⟩ (.int .u64 S) = W3 at *
    have d0 := fun x : After W3 => x.cell e0 hcu3
    have d1 := fun x : After W3 => x.cell e1 hcu3
    refine region_after (by kernel_rfl) (by kernel_rfl) ?_
    repeat (go_big_quiet_step ((first | fail)))
    refine wpQuiet_nil ?_
    rintro _ ⟨x, rfl⟩
    have hb3 := x.h
    have e2 := (hb3.cell (p := ⟨cu, 2, none⟩) hcu3).trans e2
    have e0 := d0 x
    have e1 := d1 x
    have g1 := (hb3.frozen (p := ⟨cu, 1, none⟩) hcu3).trans g1
    have g2 := (hb3.frozen (p := ⟨cu, 2, none⟩) hcu3).trans g2
    have hz := Nat.lt_of_lt_of_le hcu3 hb3.size
    clear d0 d1
    generalize x.w = W4 at *
    clear x
    go_wp2
    go_ret
    have ht2 := ((Tch.of_below (hb1.mono (Nat.le_refl _))).trans ht).trans (.of_below hb3)
    obtain ⟨r1, r2⟩ := byte_bd hS0 hS1
    refine ⟨_, rfl, r1, r2, ⟨hz, _, n, c, a + 1, S, B, hn, by omega, hS0, hS1, e0, e1, e2, g1, g2, HB.out, HS.out.agr (Tch.agr (l := 0) (h := cu) ht2 (by omega) (.inl (Nat.le_refl _)))⟩, ht2⟩
end Go.Proofs.YtbmlglkdlialgaaDoor
