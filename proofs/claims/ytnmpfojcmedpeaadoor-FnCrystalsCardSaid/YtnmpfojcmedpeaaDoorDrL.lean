/-
  Contracts: liquors and indices that are drawn. Conditions: fewer than 2^40 draws, at most 100 kinds.
-/
import Derived.Test.YtnmpfojcmedpeaaDoorDrJ
import Derived.Test.YtnmpfojcmedpeaaDoorInts
import Derived.Deep.RegionLaw
namespace Go.Proofs.YtnmpfojcmedpeaaDoor
open Go.RowKit

theorem Box2.lowB {w w' : World} {g B : Nat} {p q : Value} (h : Box2 w g p q) (hb : Below B w w') (hg : g < B) : Box2 w' g p q :=
  ⟨Nat.lt_of_lt_of_le h.lt hb.size, (hb.cell (p := ⟨g, 0, none⟩) hg).trans h.c0, (hb.cell (p := ⟨g, 1, none⟩) hg).trans h.c1, (hb.frozen (p := ⟨g, 0, none⟩) hg).trans h.f0, (hb.frozen (p := ⟨g, 1, none⟩) hg).trans h.f1⟩
/-- A box of a number and a row of numbers that grows. -/
structure LqS (w : World) (B gl : Nat) (t : TypeId) (x : Int) (v : Value) (k : Nat) : Prop where
  lt : gl < w.heap.size
  hB : B ≤ gl
  c0 : w.cell? ⟨gl, 0, none⟩ = some (.int .i64 x)
  c1 : w.cell? ⟨gl, 1, none⟩ = some v
  f0 : w.frozen? ⟨gl, 0, none⟩ = false
  f1 : w.frozen? ⟨gl, 1, none⟩ = false
  row : RowsI w B t 1 v k
  ne : v.ownBlock ≠ some gl
section
variable {w w' : World} {B gl k cu : Nat} {t : TypeId} {x : Int} {v : Value}
theorem LqS.below (h : LqS w B gl t x v k) (hb : Below w.heap.size w w') : LqS w' B gl t x v k :=
  ⟨Nat.lt_of_lt_of_le h.lt hb.size, h.hB, (hb.cell (p := ⟨gl, 0, none⟩) h.lt).trans h.c0, (hb.cell (p := ⟨gl, 1, none⟩) h.lt).trans h.c1, (hb.frozen (p := ⟨gl, 0, none⟩) h.lt).trans h.f0, (hb.frozen (p := ⟨gl, 1, none⟩) h.lt).trans h.f1, h.row.below hb, h.ne⟩
theorem LqS.alloc (h : LqS w B gl t x v k) (o : Obj) : LqS (w.alloc o) B gl t x v k := h.below ((Below.refl _ _).alloc (Nat.le_refl _) _)
theorem LqS.tch (h : LqS w B gl t x v k) (ht : Tch cu (cu + 1) w w') (hc : cu < B) : LqS w' B gl t x v k := by
  have hn : ¬(cu ≤ gl ∧ gl < cu + 1) := by have := h.hB; omega
  exact ⟨Nat.lt_of_lt_of_le h.lt ht.size, h.hB, (ht.cell_ne (p := ⟨gl, 0, none⟩) h.lt hn).trans h.c0, (ht.cell_ne (p := ⟨gl, 1, none⟩) h.lt hn).trans h.c1, (ht.frozen_ne (p := ⟨gl, 0, none⟩) h.lt hn).trans h.f0, (ht.frozen_ne (p := ⟨gl, 1, none⟩) h.lt hn).trans h.f1, h.row.tch ht hc, h.ne⟩
theorem LqS.far (h : LqS w B gl t x v k) (hg : w.grownBy w' v.ownBlock) : gl < w'.heap.size ∧ w'.cell? ⟨gl, 0, none⟩ = some (.int .i64 x) ∧ w'.cell? ⟨gl, 1, none⟩ = some v ∧ w'.frozen? ⟨gl, 0, none⟩ = false ∧ w'.frozen? ⟨gl, 1, none⟩ = false :=
  ⟨Nat.lt_of_lt_of_le h.lt hg.size, (hg.cell_far ⟨gl, 0, none⟩ h.lt (Ne.symm h.ne)).trans h.c0, (hg.cell_far ⟨gl, 1, none⟩ h.lt (Ne.symm h.ne)).trans h.c1, (hg.frozen_far ⟨gl, 0, none⟩ h.lt (Ne.symm h.ne)).trans h.f0, (hg.frozen_far ⟨gl, 1, none⟩ h.lt (Ne.symm h.ne)).trans h.f1⟩
theorem LqS.app (h : LqS w B gl t x v k) {g cap : Nat} {xs : List Value} {z : Int} (hx : ∀ u ∈ xs, ∃ z, u = Value.int .i64 z) (ho : w'.ownsRow B t 1 (.slice (some ⟨g, 0, none⟩) (k + 1) cap) (k + 1) (xs ++ [.int .i64 z]))
    (hg : w.grownBy w' v.ownBlock) (hat : v.ownBlock = some g ∨ g = w.heap.size) : LqS (w'.setCell ⟨gl, 1, none⟩ (.slice (some ⟨g, 0, none⟩) (k + 1) cap)) B gl t x (.slice (some ⟨g, 0, none⟩) (k + 1) cap) (k + 1) := by
  obtain ⟨l1, l2, l3, l4, l5⟩ := h.far hg
  have hne : g ≠ gl := by
    rcases hat with e | e
    · intro e2; subst e2; exact h.ne e
    · have := h.lt; omega
  have hset : w'.grownBy (w'.setCell ⟨gl, 1, none⟩ (.slice (some ⟨g, 0, none⟩) (k + 1) cap)) (some gl) := ⟨rfl, rfl, rfl, by simp, fun k hk hn => Below.heap_setCell _ _ _ _ (by intro h; exact hn (by rw [h]))⟩
  have hn2 : (Value.slice (some ⟨g, 0, none⟩) (k + 1) cap).ownBlock ≠ some gl := by intro e; injection e with e; exact hne e
  refine ⟨by simpa using l1, h.hB, ?_, ?_, ?_, ?_, ⟨_, ho.kept hset (.inr hn2), fun u hu => ?_⟩, hn2⟩
  · go_simp
  · go_simp
  · go_simp
  · go_simp
  · rcases List.mem_append.1 hu with h1 | h1
    · exact hx u h1
    · exact ⟨z, by simpa using h1⟩
theorem LqS.setX (h : LqS w B gl t x v k) (y : Int) : LqS (w.setCell ⟨gl, 0, none⟩ (.int .i64 y)) B gl t y v k := by
  obtain ⟨xs, h1, h2⟩ := h.row
  have l1 := h.c0
  have l2 := h.c1
  have l3 := h.f0
  have l4 := h.f1
  have hset : w.grownBy (w.setCell ⟨gl, 0, none⟩ (.int .i64 y)) (some gl) := ⟨rfl, rfl, rfl, by simp, fun k hk hn => Below.heap_setCell _ _ _ _ (by intro h; exact hn (by rw [h]))⟩
  refine ⟨by simpa using h.lt, h.hB, ?_, ?_, ?_, ?_, ⟨xs, h1.kept hset (.inr h.ne), h2⟩, h.ne⟩
  · go_simp
  · go_simp
  · go_simp
  · go_simp
end
/-- What a draw of a liquor leaves. -/
def DrawLq (w : World) (cu m : Nat) (e : Ending) (w' : World) : Prop :=
  ∃ x A n c L, e = .returned (.agg #[.int .i64 x, .slice A n c]) ∧ n ≤ 200 ∧ Ow w' w.heap.size w'.heap.size A n 1 (ints L) ∧ DrS w w' cu m
set_option maxHeartbeats 1000000 in
theorem indexOf_any (cu m : Nat) (n : Nat) (w : World) (hm : m ≤ 1099511600000) (hn : n ≤ 100) (h : Cur w cu m) :
    Calls Tryd.prog 74 #[.pointer (some ⟨cu, 0, none⟩), .int .i64 n] w (Draw0 w cu (m + 2)) := by
  have hD := DrS.start h
  go_enter Tryd.func74, Tryd.ntmps74
  go_wp2_with fail
  go_at_call 89
  refine (pick_any _ _ _ _ (by omega) (by omega) hD.cur).mono ?_
  rintro _ w3 ⟨r, rfl, ra, rb, hc, ht⟩
  replace hD := hD.draw hc ht
  clear hc ht ra rb
  go_wp2_with fail
  go_at_call 89
  refine (pick_any _ _ _ _ (by omega) (by decide) hD.cur).mono ?_
  rintro _ w4 ⟨q, rfl, qa, qb, hc, ht⟩
  replace hD := hD.draw hc ht
  clear hc ht qa qb
  go_wp2
  go_ret
  exact ⟨_, rfl, hD.cur, hD.tch⟩
set_option maxRecDepth 20000 in
set_option maxHeartbeats 4000000 in
theorem liquor_any (cu m : Nat) (A : Option Addr) (n c : Nat) (w : World) (hm : m ≤ 1099511600000) (hn : n ≤ 100) (h : Cur w cu m) :
    Calls Tryd.prog 70 #[.pointer (some ⟨cu, 0, none⟩), .slice A n c] w (DrawLq w cu (m + 300)) := by
  obtain ⟨i1, hi1, hy0, hy1, hy2⟩ := info_parts info_int
  have hcu := h.lt
  have hD := DrS.start h
  go_enter Tryd.func70, Tryd.ntmps70
  go_upto_region 1 with fail
  have hX := Box2.new w 27 (.int .i64 0) (.slice none 0 0)
  replace hD := hD.alloc (.cells #[.int .i64 0, .slice none 0 0] 27)
  have hs1 : (w.alloc (.cells #[.int .i64 0, .slice none 0 0] 27)).heap.size = w.heap.size + 1 := by simp
  generalize w.alloc (.cells #[.int .i64 0, .slice none 0 0] 27) = W1 at hX hD hs1 ⊢
  have HS1 := hide hs1
  clear hs1
  go_wp2_with fail
  go_at_call 71
  refine (among0_any cu _ _ _ _ _ (by omega) (by decide) (by decide) (Nat.ne_of_gt hD.cur.lt) (Lits0.new _ _ _ (by rfl) (by rfl)) (hD.cur.alloc _)).mono ?_
  rintro _ w2 ⟨xw, rfl, hc, ht⟩
  replace hD := (hD.alloc _).draw hc ht
  replace hX := (hX.alloc _).tch ht (by omega)
  have hz2 : w.heap.size + 1 ≤ w2.heap.size := by have h1 := ht.size; have h2 := HS1.out; first | omega | (simp at h1; omega)
  clear hc ht HS1
  go_upto_region 2 with fail
  have hL : LqS ((w2.alloc (.cells #[] 3)).alloc (.cells #[.int .i64 xw, .slice (some ⟨w2.heap.size, 0, none⟩) 0 0] 27)) (w.heap.size + 1) (w2.heap.size + 1) 3 xw (.slice (some ⟨w2.heap.size, 0, none⟩) 0 0) 0 := by
    have hb := Box2.new (w2.alloc (.cells #[] 3)) 27 (.int .i64 xw) (.slice (some ⟨w2.heap.size, 0, none⟩) 0 0)
    have e1 : (w2.alloc (.cells #[] 3)).heap.size = w2.heap.size + 1 := by simp
    rw [e1] at hb
    exact ⟨hb.lt, by omega, hb.c0, hb.c1, hb.f0, hb.f1, (RowsI.new hz2).alloc _, fun e => absurd (Option.some.inj e) (by show ¬ w2.heap.size = w2.heap.size + 1; omega)⟩
  replace hX := (hX.alloc (.cells #[] 3)).alloc (.cells #[.int .i64 xw, .slice (some ⟨w2.heap.size, 0, none⟩) 0 0] 27)
  replace hD := (hD.alloc (.cells #[] 3)).alloc (.cells #[.int .i64 xw, .slice (some ⟨w2.heap.size, 0, none⟩) 0 0] 27)
  generalize (w2.alloc (.cells #[] 3)).alloc (.cells #[.int .i64 xw, .slice (some ⟨w2.heap.size, 0, none⟩) 0 0] 27) = W2 at hL hX hD ⊢
  generalize Value.slice (some ⟨w2.heap.size, 0, none⟩) 0 0 = v0 at hL ⊢
  generalize w2.heap.size + 1 = gl at hL ⊢
  have hgl := hL.hB
  go_wp2
  go_loopw [6] (fun i wr => ∃ (k : Nat) (v : Value), i = .int .i64 k ∧ k ≤ n ∧ LqS wr (w.heap.size + 1) gl 3 xw v k ∧ Box2 wr w.heap.size (.int .i64 0) (.slice none 0 0) ∧ DrS w wr cu (m + 1 + k)) (fun i _ => n - (intOf i).toNat)
  case atStart => exact ⟨0, v0, rfl, by omega, hL, hX, hD⟩
  case round =>
    clear hL hX hD hz2
    obtain ⟨k, v, rfl, hk, hL, hX, hD⟩ := hrel
    by_cases hlt : k < n
    · go_upto_region 5 with fail
      have hsW := hD.size
      have hcW := hD.cur.lt
      have hlW := hL.lt
      have x0 := hL.c1
      have xf := hL.f1
      go_region_law (first | (have L1' := L1; clear L1'; obtain ⟨xs, ho, hx⟩ := L1.row; refine step_append_lies _ (by rfl) _ _ _ (by rfl) (w.heap.size + 1) 3 i1 _ 1 8 Tryd.underlying25 hi1 hy0 hy1 hy2 rfl (by omega) _ k _ (by rfl) (ho.alloc _) ⟨v1.heap.size, 0, none⟩ 1 1 [.int .i64 wa] (by rfl) (by rfl) (World.news_of_block (cs := #[.int .i64 wa]) (t := 3) (fr := (0, 0)) (heap_alloc_new v1 _)) (by simp [Value.oneCell']) (by omega) (by simp only [maxLen]; omega) (by omega) (by simp; omega) (v1.alloc (.cells #[.int .i64 wa] 3)).heap.size rfl ?_; intro gg cap w5 hown5 hg5 hat5 _; have hb5 := grown_below (ho.alloc _) hg5 (by simp; omega); have hfar := (L1.alloc (.cells #[.int .i64 wa] 3)).far hg5; obtain ⟨y1, y2, y3, y4, y5⟩ := hfar; have HAT := hide hat5; clear hat5) | (go_simp; go_at_call 71; refine (among0_any _ _ _ 9 _ _ (by omega) (by decide) (by decide) (by first | omega | (simp; done) | (simp; omega)) (by (first | ((with_reducible refine Lits0.drew ?_); (first | ((with_reducible refine Lits0.new' _ _ _ ?hg ?hn ?ha); (case hg => (first | with_reducible rfl | (simp; done))); (case hn => rfl); (case ha => rfl)) | ((with_reducible refine Lits0.alloc ?_ _); ((with_reducible refine Lits0.new' _ _ _ ?hg ?hn ?ha); (case hg => (first | with_reducible rfl | (simp; done))); (case hn => rfl); (case ha => rfl))))) | (first | ((with_reducible refine Lits0.new' _ _ _ ?hg ?hn ?ha); (case hg => (first | with_reducible rfl | (simp; done))); (case hn => rfl); (case ha => rfl)) | ((with_reducible refine Lits0.alloc ?_ _); ((with_reducible refine Lits0.new' _ _ _ ?hg ?hn ?ha); (case hg => (first | with_reducible rfl | (simp; done))); (case hn => rfl); (case ha => rfl)))))) (Cur.below hD.cur (by (repeat' (first | exact Below.refl _ _ | assumption | refine Below.drew ?_ | refine Below.alloc ?_ (by first | omega | exact Below.size (by assumption) | (simp; done) | (simp; omega)) _ | refine Below.setCell ?_ (by first | omega | exact Below.size (by assumption) | (simp; done) | (simp; omega)) _))))).mono ?_; rintro _ v1 ⟨wa, rfl, hc1, ht1⟩; have L1 := LqS.tch (LqS.below hL (by (repeat' (first | exact Below.refl _ _ | assumption | refine Below.drew ?_ | refine Below.alloc ?_ (by first | omega | exact Below.size (by assumption) | (simp; done) | (simp; omega)) _ | refine Below.setCell ?_ (by first | omega | exact Below.size (by assumption) | (simp; done) | (simp; omega)) _)))) ht1 (by omega); have X1 := (Box2.below hX (by (repeat' (first | exact Below.refl _ _ | assumption | refine Below.drew ?_ | refine Below.alloc ?_ (by first | omega | exact Below.size (by assumption) | (simp; done) | (simp; omega)) _ | refine Below.setCell ?_ (by first | omega | exact Below.size (by assumption) | (simp; done) | (simp; omega)) _)))).tch ht1 (by omega); have D1 := DrS.draw (DrS.grow hD (Below.mono (show Below (World.heap wr).size wr _ from (by (repeat' (first | exact Below.refl _ _ | assumption | refine Below.drew ?_ | refine Below.alloc ?_ (by first | omega | exact Below.size (by assumption) | (simp; done) | (simp; omega)) _ | refine Below.setCell ?_ (by first | omega | exact Below.size (by assumption) | (simp; done) | (simp; omega)) _)))) hsW)) hc1 ht1; have z1 : (World.heap wr).size ≤ v1.heap.size := Nat.le_trans (Below.size (show Below (World.heap wr).size wr _ from (by (repeat' (first | exact Below.refl _ _ | assumption | refine Below.drew ?_ | refine Below.alloc ?_ (by first | omega | exact Below.size (by assumption) | (simp; done) | (simp; omega)) _ | refine Below.setCell ?_ (by first | omega | exact Below.size (by assumption) | (simp; done) | (simp; omega)) _))))) ht1.size; have x1 := L1.c1; have x2 := L1.lt; have x3 := L1.f1))
      all_goals
        have L5 := (L1.alloc (.cells #[.int .i64 wa] 3)).app hx hown5 hg5 HAT.out
        have X5 := ((X1.alloc (.cells #[.int .i64 wa] 3)).lowB hb5 (Nat.lt_succ_self _)).lowB ((Below.refl (w.heap.size + 1) w5).setCell (p := ⟨gl, 1, none⟩) hgl (.slice (some ⟨gg, 0, none⟩) (k + 1) cap)) (Nat.lt_succ_self _)
        have D5 := ((DrS.alloc D1 (.cells #[.int .i64 wa] 3)).grow (hb5.mono (Nat.le_succ _))).set (p := ⟨gl, 1, none⟩) (by show w.heap.size ≤ gl; omega) (.slice (some ⟨gg, 0, none⟩) (k + 1) cap)
        clear L1 X1 D1 hL hX hD hc1 ht1 x0 x1 ho hown5 hg5 HAT hx
      all_goals
        go_wp2
        go_roundw
        case rel => exact ⟨k + 1, _, by go_num, by omega, L5, X5, D5.more (by omega)⟩
        case measure => simp [intOf]; omega
    · obtain rfl : k = n := by omega
      clear hk hlt
      go_wp2_with fail
      go_at_call 89
      refine (pick_any _ _ _ _ (by omega) (by decide) hD.cur).mono ?_
      rintro _ w3 ⟨r, rfl, ra, rb, hc, ht⟩
      replace hD := hD.draw hc ht
      replace hL := hL.tch ht (by omega)
      replace hX := hX.tch ht (by omega)
      clear hc ht ra rb
      by_cases hr0 : r = 0
      · subst hr0
        go_wp2_with fail
        go_at_call 71
        refine (among0_any cu _ _ _ _ _ (by omega) (by decide) (by decide) (Nat.ne_of_gt hD.cur.lt) (Lits0.new _ _ _ (by rfl) (by rfl)) (hD.cur.alloc _)).mono ?_
        rintro _ w4 ⟨xy, rfl, hc, ht⟩
        replace hD := (hD.alloc _).draw hc ht
        replace hL := (hL.alloc _).tch ht (by omega)
        replace hX := (hX.alloc _).tch ht (by omega)
        clear hc ht
        have y0 := hL.c0
        have y1 := hL.f0
        have y2 := hL.lt
        replace hL := hL.setX xy
        replace hX := hX.lowB ((Below.refl (w.heap.size + 1) w4).setCell (p := ⟨gl, 0, none⟩) hgl (.int .i64 xy)) (Nat.lt_succ_self _)
        replace hD := hD.set (p := ⟨gl, 0, none⟩) (by show w.heap.size ≤ gl; omega) (.int .i64 xy)
        go_upto_region 11 with fail
        clear y0 y1 y2
        generalize w4.setCell ⟨gl, 0, none⟩ (.int .i64 xy) = w5 at hL hX hD ⊢
        obtain ⟨A6, c6, F6, rfl, hO⟩ := hL.row.out
        skip
        obtain ⟨x0, x1, x2, x3, x4⟩ := hX
        have y0 := hL.c0
        have y1 := hL.c1
        have y2 := hL.lt
        have hsz := hD.size
        have hO2 : Ow ((w5.setCell ⟨w.heap.size, 0, none⟩ (.int .i64 xy)).setCell ⟨w.heap.size, 1, none⟩ (.slice A6 k c6)) w.heap.size ((w5.setCell ⟨w.heap.size, 0, none⟩ (.int .i64 xy)).setCell ⟨w.heap.size, 1, none⟩ (.slice A6 k c6)).heap.size (A6) k 1 (ints F6) :=
          (hO.agr fun q h1 h2 => (Below.heap_setCell _ _ _ _ (by show q ≠ w.heap.size; omega)).trans (Below.heap_setCell _ _ _ _ (by show q ≠ w.heap.size; omega))).mono (Nat.le_succ _) (by simp)
        have hD2 := ((hD.set (p := ⟨w.heap.size, 0, none⟩) (Nat.le_refl _) (.int .i64 xy)).set (p := ⟨w.heap.size, 1, none⟩) (Nat.le_refl _) (.slice A6 k c6)).more (m' := m + 300) (by omega)
        clear hD hO hL
        go_wp2
        refine bodyPost_ret (v := .agg #[.int .i64 xy, .slice A6 k c6]) (by simp only [results, Tryd.results70]; go_simp) rfl ⟨xy, A6, k, c6, F6, rfl, by omega, hO2, hD2⟩
      have hr0' : (r == 0) = false := by simpa using hr0
      clear hr0
      by_cases hr1 : r = 1
      · subst hr1
        clear hr0'
        go_upto_region 10 with fail
        have hsW := hD.size
        have hcW := hD.cur.lt
        have hlW := hL.lt
        have x0 := hL.c1
        have xf := hL.f1
        go_region_law (first | (have L1' := L1; clear L1'; obtain ⟨xs, ho, hx⟩ := L1.row; refine step_append_lies _ (by rfl) _ _ _ (by rfl) (w.heap.size + 1) 3 i1 _ 1 8 Tryd.underlying25 hi1 hy0 hy1 hy2 rfl (by omega) _ k _ (by rfl) (ho.alloc _) ⟨v1.heap.size, 0, none⟩ 1 1 [.int .i64 wa] (by rfl) (by rfl) (World.news_of_block (cs := #[.int .i64 wa]) (t := 3) (fr := (0, 0)) (heap_alloc_new v1 _)) (by simp [Value.oneCell']) (by omega) (by simp only [maxLen]; omega) (by omega) (by simp; omega) (v1.alloc (.cells #[.int .i64 wa] 3)).heap.size rfl ?_; intro gg cap w5 hown5 hg5 hat5 _; have hb5 := grown_below (ho.alloc _) hg5 (by simp; omega); have hfar := (L1.alloc (.cells #[.int .i64 wa] 3)).far hg5; obtain ⟨y1, y2, y3, y4, y5⟩ := hfar; have HAT := hide hat5; clear hat5) | (go_simp; go_at_call 71; refine (among0_any _ _ _ 2 _ _ (by omega) (by decide) (by decide) (by first | omega | (simp; done) | (simp; omega)) (by (first | ((with_reducible refine Lits0.drew ?_); (first | ((with_reducible refine Lits0.new' _ _ _ ?hg ?hn ?ha); (case hg => (first | with_reducible rfl | (simp; done))); (case hn => rfl); (case ha => rfl)) | ((with_reducible refine Lits0.alloc ?_ _); ((with_reducible refine Lits0.new' _ _ _ ?hg ?hn ?ha); (case hg => (first | with_reducible rfl | (simp; done))); (case hn => rfl); (case ha => rfl))))) | (first | ((with_reducible refine Lits0.new' _ _ _ ?hg ?hn ?ha); (case hg => (first | with_reducible rfl | (simp; done))); (case hn => rfl); (case ha => rfl)) | ((with_reducible refine Lits0.alloc ?_ _); ((with_reducible refine Lits0.new' _ _ _ ?hg ?hn ?ha); (case hg => (first | with_reducible rfl | (simp; done))); (case hn => rfl); (case ha => rfl)))))) (Cur.below hD.cur (by (repeat' (first | exact Below.refl _ _ | assumption | refine Below.drew ?_ | refine Below.alloc ?_ (by first | omega | exact Below.size (by assumption) | (simp; done) | (simp; omega)) _ | refine Below.setCell ?_ (by first | omega | exact Below.size (by assumption) | (simp; done) | (simp; omega)) _))))).mono ?_; rintro _ v1 ⟨wa, rfl, hc1, ht1⟩; have L1 := LqS.tch (LqS.below hL (by (repeat' (first | exact Below.refl _ _ | assumption | refine Below.drew ?_ | refine Below.alloc ?_ (by first | omega | exact Below.size (by assumption) | (simp; done) | (simp; omega)) _ | refine Below.setCell ?_ (by first | omega | exact Below.size (by assumption) | (simp; done) | (simp; omega)) _)))) ht1 (by omega); have X1 := (Box2.below hX (by (repeat' (first | exact Below.refl _ _ | assumption | refine Below.drew ?_ | refine Below.alloc ?_ (by first | omega | exact Below.size (by assumption) | (simp; done) | (simp; omega)) _ | refine Below.setCell ?_ (by first | omega | exact Below.size (by assumption) | (simp; done) | (simp; omega)) _)))).tch ht1 (by omega); have D1 := DrS.draw (DrS.grow hD (Below.mono (show Below (World.heap w3).size w3 _ from (by (repeat' (first | exact Below.refl _ _ | assumption | refine Below.drew ?_ | refine Below.alloc ?_ (by first | omega | exact Below.size (by assumption) | (simp; done) | (simp; omega)) _ | refine Below.setCell ?_ (by first | omega | exact Below.size (by assumption) | (simp; done) | (simp; omega)) _)))) hsW)) hc1 ht1; have z1 : (World.heap w3).size ≤ v1.heap.size := Nat.le_trans (Below.size (show Below (World.heap w3).size w3 _ from (by (repeat' (first | exact Below.refl _ _ | assumption | refine Below.drew ?_ | refine Below.alloc ?_ (by first | omega | exact Below.size (by assumption) | (simp; done) | (simp; omega)) _ | refine Below.setCell ?_ (by first | omega | exact Below.size (by assumption) | (simp; done) | (simp; omega)) _))))) ht1.size; have x1 := L1.c1; have x2 := L1.lt; have x3 := L1.f1))
        all_goals
          have L5 := (L1.alloc (.cells #[.int .i64 wa] 3)).app hx hown5 hg5 HAT.out
          have X5 := ((X1.alloc (.cells #[.int .i64 wa] 3)).lowB hb5 (Nat.lt_succ_self _)).lowB ((Below.refl (w.heap.size + 1) w5).setCell (p := ⟨gl, 1, none⟩) hgl (.slice (some ⟨gg, 0, none⟩) (k + 1) cap)) (Nat.lt_succ_self _)
          have D5 := ((DrS.alloc D1 (.cells #[.int .i64 wa] 3)).grow (hb5.mono (Nat.le_succ _))).set (p := ⟨gl, 1, none⟩) (by show w.heap.size ≤ gl; omega) (.slice (some ⟨gg, 0, none⟩) (k + 1) cap)
          clear L1 X1 D1 hL hX hD hc1 ht1 x0 x1 ho hown5 hg5 HAT hx
        all_goals
          generalize w5.setCell ⟨gl, 1, none⟩ (.slice (some ⟨gg, 0, none⟩) (k + 1) cap) = w6 at L5 X5 D5 ⊢
          have hL := L5
          have hX := X5
          have hD := D5
          clear L5 X5 D5
          obtain ⟨A6, c6, F6, e6, hO⟩ := hL.row.out
          (injection e6 with e6 _ e7; subst e6 e7)
          obtain ⟨x0, x1, x2, x3, x4⟩ := hX
          have y0 := hL.c0
          have y1 := hL.c1
          have y2 := hL.lt
          have hsz := hD.size
          have hO2 : Ow ((w6.setCell ⟨w.heap.size, 0, none⟩ (.int .i64 xw)).setCell ⟨w.heap.size, 1, none⟩ (.slice (some ⟨gg, 0, none⟩) (k + 1) cap)) w.heap.size ((w6.setCell ⟨w.heap.size, 0, none⟩ (.int .i64 xw)).setCell ⟨w.heap.size, 1, none⟩ (.slice (some ⟨gg, 0, none⟩) (k + 1) cap)).heap.size ((some ⟨gg, 0, none⟩)) (k + 1) 1 (ints F6) :=
            (hO.agr fun q h1 h2 => (Below.heap_setCell _ _ _ _ (by show q ≠ w.heap.size; omega)).trans (Below.heap_setCell _ _ _ _ (by show q ≠ w.heap.size; omega))).mono (Nat.le_succ _) (by simp)
          have hD2 := ((hD.set (p := ⟨w.heap.size, 0, none⟩) (Nat.le_refl _) (.int .i64 xw)).set (p := ⟨w.heap.size, 1, none⟩) (Nat.le_refl _) (.slice (some ⟨gg, 0, none⟩) (k + 1) cap)).more (m' := m + 300) (by omega)
          clear hD hO hL
          go_wp2
          refine bodyPost_ret (v := .agg #[.int .i64 xw, .slice (some ⟨gg, 0, none⟩) (k + 1) cap]) (by simp only [results, Tryd.results70]; go_simp) rfl ⟨xw, _, k + 1, cap, F6, rfl, by omega, hO2, hD2⟩
      · have hr1' : (r == 1) = false := by simpa using hr1
        clear hr1
        go_upto_region 11 with fail
        obtain ⟨A6, c6, F6, rfl, hO⟩ := hL.row.out
        skip
        obtain ⟨x0, x1, x2, x3, x4⟩ := hX
        have y0 := hL.c0
        have y1 := hL.c1
        have y2 := hL.lt
        have hsz := hD.size
        have hO2 : Ow ((w3.setCell ⟨w.heap.size, 0, none⟩ (.int .i64 xw)).setCell ⟨w.heap.size, 1, none⟩ (.slice A6 k c6)) w.heap.size ((w3.setCell ⟨w.heap.size, 0, none⟩ (.int .i64 xw)).setCell ⟨w.heap.size, 1, none⟩ (.slice A6 k c6)).heap.size (A6) k 1 (ints F6) :=
          (hO.agr fun q h1 h2 => (Below.heap_setCell _ _ _ _ (by show q ≠ w.heap.size; omega)).trans (Below.heap_setCell _ _ _ _ (by show q ≠ w.heap.size; omega))).mono (Nat.le_succ _) (by simp)
        have hD2 := ((hD.set (p := ⟨w.heap.size, 0, none⟩) (Nat.le_refl _) (.int .i64 xw)).set (p := ⟨w.heap.size, 1, none⟩) (Nat.le_refl _) (.slice A6 k c6)).more (m' := m + 300) (by omega)
        clear hD hO hL
        go_wp2
        refine bodyPost_ret (v := .agg #[.int .i64 xw, .slice A6 k c6]) (by simp only [results, Tryd.results70]; go_simp) rfl ⟨xw, A6, k, c6, F6, rfl, by omega, hO2, hD2⟩
end Go.Proofs.YtnmpfojcmedpeaaDoor
