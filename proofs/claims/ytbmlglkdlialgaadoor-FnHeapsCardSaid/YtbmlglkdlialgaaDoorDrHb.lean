/-
  Contract: a heap that is drawn. Conditions: fewer than 2^40 draws.
-/
import Derived.Test.YtbmlglkdlialgaaDoorDrHa
import Derived.Deep.RegionLaw
namespace Go.Proofs.YtbmlglkdlialgaaDoor
open Go.RowKit

set_option maxRecDepth 20000 in
set_option maxHeartbeats 4000000 in
theorem heap_any (cu m : Nat) (id : Int) (w : World) (hm : m ≤ 1099511600000) (h : Cur w cu m) :
    Calls Tryd.prog 64 #[.pointer (some ⟨cu, 0, none⟩), .int .i64 id] w (DrawHe w cu (m + 100)) := by
  obtain ⟨i1, hi1, hy0, hy1, hy2⟩ := info_parts info_int
  have hcu := h.lt
  have hD := DrS.start h
  go_enter Tryd.func64, Tryd.ntmps64
  go_upto_region 1 with fail
  have hX := Box4.new w 28 (.int .i64 0) (.int .i64 0) (.slice none 0 0) (.bool false)
  replace hD := hD.alloc (.cells #[.int .i64 0, .int .i64 0, .slice none 0 0, .bool false] 28)
  have hs1 : w.heap.size + 1 ≤ (w.alloc (.cells #[.int .i64 0, .int .i64 0, .slice none 0 0, .bool false] 28)).heap.size := by simp
  generalize w.alloc (.cells #[.int .i64 0, .int .i64 0, .slice none 0 0, .bool false] 28) = W1 at hX hD hs1 ⊢
  go_wp2_with fail
  go_at_call 57
  refine (among_any cu _ _ _ _ 1 4 _ (by omega) (by decide) (by decide) (Nat.ne_of_gt hD.cur.lt) (Lits.new _ _ _ (by rfl) (by decide)) (hD.cur.alloc _)).mono ?_
  rintro _ w2 ⟨gr, rfl, -, -, hc, ht⟩
  replace hD := (hD.alloc _).draw hc ht
  replace hX := (hX.alloc _).tch ht (by omega)
  have hz2 := ht.size
  simp at hz2
  clear hc ht
  go_wp2_with fail
  go_at_call 35
  refine (one_any _ _ _ _ (by omega) (by decide) hD.cur).mono ?_
  rintro _ w3 ⟨cv, rfl, hc, ht⟩
  replace hD := hD.draw hc ht
  replace hX := hX.tch ht (by omega)
  have hz3 := ht.size
  clear hc ht
  go_upto_region 2 with fail
  have hL : HeS (w3.alloc (.cells #[.int .i64 id, .int .i64 gr, .slice none 0 0, .bool cv] 28)) (w.heap.size + 1) w3.heap.size 3 id gr (.slice none 0 0) 0 cv :=
    ⟨by omega, Box4.new w3 _ _ _ _ _, ⟨[], World.ownsRow_nil _ _ _ _, fun u hu => by simp at hu⟩, by simp [Value.ownBlock]⟩
  replace hX := hX.alloc (.cells #[.int .i64 id, .int .i64 gr, .slice none 0 0, .bool cv] 28)
  replace hD := hD.alloc (.cells #[.int .i64 id, .int .i64 gr, .slice none 0 0, .bool cv] 28)
  generalize w3.alloc (.cells #[.int .i64 id, .int .i64 gr, .slice none 0 0, .bool cv] 28) = W4 at hL hX hD ⊢
  generalize w3.heap.size = gh at hL ⊢
  have hgh := hL.hB
  clear hz2 hz3 hs1
  go_wp2_with fail
  go_at_call 57
  refine (among_any cu _ _ _ _ (40) (500) _ (by omega) (by decide) (by decide) (Nat.ne_of_gt hD.cur.lt) (Lits.new _ _ _ (by rfl) (by decide)) (hD.cur.alloc _)).mono ?_
  rintro _ w5 ⟨tp, rfl, tpa, tpb, hc, ht⟩
  replace hD := (hD.alloc _).draw hc ht
  replace hL := (hL.alloc _).tch ht (by omega)
  replace hX := (hX.alloc _).tch ht (by omega)
  clear hc ht
  go_wp2_with fail
  go_at_call 36
  refine (pick_any _ _ _ _ (by omega) (by decide) hD.cur).mono ?_
  rintro _ w6 ⟨N0, rfl, N0a, N0b, hc, ht⟩
  rw [if_neg (by decide)] at N0b
  replace hD := hD.draw hc ht
  replace hL := hL.tch ht (by omega)
  replace hX := hX.tch ht (by omega)
  clear hc ht
  obtain ⟨N1, rfl⟩ : ∃ N1 : Nat, N0 = N1 := ⟨N0.toNat, by omega⟩
  go_wp2
  go_loopw [6, 7] (fun t i wr => ∃ (k N : Nat) (T : Int) (v : Value), t = .int .i64 T ∧ i = .int .i64 N ∧ k + N ≤ 4 ∧ 0 ≤ T ∧ T ≤ 500 ∧ HeS wr (w.heap.size + 1) gh 3 id gr v k cv ∧ Box4 wr w.heap.size (.int .i64 0) (.int .i64 0) (.slice none 0 0) (.bool false) ∧ DrS w wr cu (m + 4 + 2 * k)) (fun _ i _ => (intOf i).toNat)
  case atStart => exact ⟨0, N1, tp, _, rfl, rfl, by omega, by omega, by omega, hL, hX, hD.more (by omega)⟩
  case round =>
    clear hL hX hD N0a N0b tpa tpb
    obtain ⟨k, N, T, v, rfl, rfl, hkN, hT0, hT1, hL, hX, hD⟩ := hrel
    by_cases hlt : 0 < N ∧ 0 < T
    · obtain ⟨hN0, hT2⟩ := hlt
      obtain ⟨N', rfl⟩ : ∃ N', N = N' + 1 := ⟨N - 1, by omega⟩
      have hd : decide ((0 : Int) < ((N' + 1 : Nat) : Int)) = true := decide_eq_true (by omega)
      have hd2 : decide ((0 : Int) < T) = true := decide_eq_true hT2
      have hrow := hL.row
      obtain ⟨xs, ho, hx⟩ := hrow
      have ho2 := ho.alloc (.cells #[.int .i64 (T)] 3)
      have y2 := hL.box.c2
      have y3 := hL.box.f2
      have yl := hL.box.lt
      have hsD := hD.size
      obtain ⟨A9, c9, rfl, -⟩ := own_form ho
      go_upto_region 7 with (at_builtin; refine wpList_append_own_at _ rfl _ _ 22 rfl (w.heap.size + 1) 3 i1 (.int .i64 0) 1 8 Tryd.underlying22 hi1 hy0 hy1 hy2 rfl (by decide) _ k _ rfl ho2 ⟨wr.heap.size, 0, none⟩ 1 1 [.int .i64 (T)] rfl rfl (World.news_of_block (cs := #[.int .i64 (T)]) (t := 3) (fr := (0, 0)) (heap_alloc_new wr _)) (by simp [Value.oneCell']) (by simp only [maxLen]; omega) (by omega) (by simp; omega) ?_; intro v5 w5 hown5 hg5 _ hat5; obtain ⟨g5, cap5, hv5, hgl5, hgh5⟩ := hown5.form (by omega); subst hv5; have hB5 := (hL.alloc (.cells #[.int .i64 (T)] 3)).box.grown hg5 hL.ne; have y4 := hB5.c2; have y5 := hB5.f2; have y6 := hB5.lt)
      have hb5 := grown_below ho2 hg5 (by simp; omega)
      have hL5 := (hL.alloc (.cells #[.int .i64 (T)] 3)).app hx hown5 hg5 hat5
      have hX5 := ((hX.alloc (.cells #[.int .i64 (T)] 3)).agr hg5.size (hb5.block _ (Nat.lt_succ_self _))).other (e := gh) (o := 2) (by have := hL.hB; omega) (.slice (some ⟨g5, 0, none⟩) (k + 1) cap5)
      have hD5 := ((hD.alloc (.cells #[.int .i64 (T)] 3)).grow (hb5.mono (Nat.le_succ _))).set (p := ⟨gh, 2, none⟩) (by show w.heap.size ≤ gh; have := hL.hB; omega) (.slice (some ⟨g5, 0, none⟩) (k + 1) cap5)
      have hne5 : g5 ≠ gh := fun e => hL5.ne (by rw [e]; rfl)
      have hlast : (w5.setCell ⟨gh, 2, none⟩ (.slice (some ⟨g5, 0, none⟩) (k + 1) cap5)).cell? ⟨g5, k, none⟩ = some (.int .i64 T) := by
        rw [World.cell?_setCell_other _ _ _ _ (by intro e; injection e with e1; exact hne5 e1.symm), hown5.cellAt k (by omega), List.getElem?_append_right (by rw [ho.1]; omega), ho.1]
        simp
      have hg5l : g5 < (w5.setCell ⟨gh, 2, none⟩ (.slice (some ⟨g5, 0, none⟩) (k + 1) cap5)).heap.size := by simpa using hgh5
      clear ho ho2 hx hown5 hg5 hat5 hb5 y2 y3 y4 y5 y6 yl hB5 hL hX hD
      generalize w5.setCell ⟨gh, 2, none⟩ (.slice (some ⟨g5, 0, none⟩) (k + 1) cap5) = w6 at hL5 hX5 hD5 hlast hg5l ⊢
      have hL := hL5
      have hX := hX5
      have hD := hD5
      clear hL5 hX5 hD5
      have hT3 : T / 2 ≤ 500 := by omega
      have hT4 : 0 ≤ T / 2 := by omega
      have hlit : Lits (w6.alloc (.cells #[.int .i64 T, .int .i64 (T - 1), .int .i64 (T / 2), .int .i64 5] 3)) w6.heap.size 4 0 500 := Lits.new _ _ _ rfl (by simp [litB]; omega)
      go_wp2_with fail
      go_at_call 57
      refine (among_any cu _ _ _ _ 0 500 _ (by omega) (by decide) (by decide) (Nat.ne_of_gt hD.cur.lt) hlit (hD.cur.alloc _)).mono ?_
      rintro _ w7 ⟨T2, rfl, T2a, T2b, hc, ht⟩
      have hsz6 : w6.heap.size ≤ w7.heap.size := by have := ht.size; simp at this; omega
      have hlast7 := (ht.cell_ne (p := ⟨g5, k, none⟩) (by simp; omega) (by show ¬(cu ≤ g5 ∧ g5 < cu + 1); omega)).trans ((World.cell?_alloc_past (w := w6) _ _ _ hg5l).trans hlast)
      replace hD := (hD.alloc _).draw hc ht
      replace hL := (hL.alloc _).tch ht (by omega)
      replace hX := (hX.alloc _).tch ht (by omega)
      clear hc ht hlast hlit
      have y2 := hL.box.c2
      have yl := hL.box.lt
      have hg7 : g5 < w7.heap.size := by omega
      have hk1 : (k : Int) + 1 - 1 = k := by omega
      have HK1 := hide hk1
      clear hk1
      by_cases hc2 : T < T2
      · have hc3 : decide (T < T2) = true := decide_eq_true hc2
        go_wp2
        go_roundw
        case rel => exact ⟨k + 1, N', T, _, rfl, by go_num, by omega, by omega, by omega, hL, hX, hD.more (by omega)⟩
        case measure => simp [intOf]
      · have hc3 : decide (T < T2) = false := decide_eq_false hc2
        go_wp2
        go_roundw
        case rel => exact ⟨k + 1, N', T2, _, rfl, by go_num, by omega, by omega, by omega, hL, hX, hD.more (by omega)⟩
        case measure => simp [intOf]
    · have hx : N = 0 ∨ (0 < N ∧ T = 0) := by omega
      rcases hx with rfl | ⟨hN0, rfl⟩
      · replace hD := hD.more (m' := m + 20) (by omega)
        have hk4 : k ≤ 4 := by omega
        clear hlt hkN hT0 hT1
        go_wp2_with fail
        go_at_call 36
        refine (pick_any _ _ _ _ (by omega) (by decide) hD.cur).mono ?_
        rintro _ w8 ⟨r, rfl, ra, rb, hc, ht⟩
        replace hD := hD.draw hc ht
        replace hL := hL.tch ht (by omega)
        replace hX := hX.tch ht (by omega)
        clear hc ht
        clear ra rb
        by_cases hr0 : r = 0
        · subst hr0
          go_wp2_with fail
          go_at_call 57
          refine (among_any cu _ _ _ _ (0) (100) _ (by omega) (by decide) (by decide) (Nat.ne_of_gt hD.cur.lt) (Lits.new _ _ _ (by rfl) (by decide)) (hD.cur.alloc _)).mono ?_
          rintro _ w9 ⟨q, rfl, qa, qb, hc, ht⟩
          replace hD := (hD.alloc _).draw hc ht
          replace hL := (hL.alloc _).tch ht (by omega)
          replace hX := (hX.alloc _).tch ht (by omega)
          clear hc ht
          have y0 := hL.box.c0
          have y1 := hL.box.f0
          have y2 := hL.box.lt
          replace hL := hL.set0 q
          replace hX := hX.other (e := gh) (o := 0) (by omega) (.int .i64 q)
          replace hD := hD.set (p := ⟨gh, 0, none⟩) (by show w.heap.size ≤ gh; omega) (.int .i64 q)
          go_upto_region 24 with fail
          clear y0 y1 y2
          generalize w9.setCell ⟨gh, 0, none⟩ (.int .i64 q) = W at hL hX hD ⊢
          obtain ⟨A6, c6, F6, rfl, hO⟩ := hL.row.out
          skip
          obtain ⟨x0, x1, x2, x3, x4, x5, x6, x7, x8⟩ := hX
          obtain ⟨y0, y1, y2, y3, y4, -, -, -, -⟩ := hL.box
          have hsz := hD.size
          have hO2 := (hO.agr (w' := (((W.setCell ⟨w.heap.size, 0, none⟩ (.int .i64 q)).setCell ⟨w.heap.size, 1, none⟩ (.int .i64 gr)).setCell ⟨w.heap.size, 2, none⟩ (.slice A6 k c6)).setCell ⟨w.heap.size, 3, none⟩ (.bool cv)) fun q h1 h2 => (Below.heap_setCell _ _ _ _ (by show q ≠ w.heap.size; omega)).trans ((Below.heap_setCell _ _ _ _ (by show q ≠ w.heap.size; omega)).trans ((Below.heap_setCell _ _ _ _ (by show q ≠ w.heap.size; omega)).trans (Below.heap_setCell _ _ _ _ (by show q ≠ w.heap.size; omega))))).mono (lo' := w.heap.size) (hi' := (((W.setCell ⟨w.heap.size, 0, none⟩ (.int .i64 q)).setCell ⟨w.heap.size, 1, none⟩ (.int .i64 gr)).setCell ⟨w.heap.size, 2, none⟩ (.slice A6 k c6)).setCell ⟨w.heap.size, 3, none⟩ (.bool cv) |>.heap.size) (Nat.le_succ _) (by simp)
          have hD2 := ((((hD.set (p := ⟨w.heap.size, 0, none⟩) (Nat.le_refl _) (.int .i64 q)).set (p := ⟨w.heap.size, 1, none⟩) (Nat.le_refl _) (.int .i64 gr)).set (p := ⟨w.heap.size, 2, none⟩) (Nat.le_refl _) (.slice A6 k c6)).set (p := ⟨w.heap.size, 3, none⟩) (Nat.le_refl _) (.bool cv)).more (m' := m + 100) (by omega)
          clear hD hO hL
          go_wp2
          refine bodyPost_ret (v := .agg #[.int .i64 q, .int .i64 gr, .slice A6 k c6, .bool cv]) (by simp only [results, Tryd.results64]; go_simp) rfl ⟨q, gr, _, _, _, F6, cv, rfl, by omega, hO2, hD2⟩
        have hr0' : (r == 0) = false := by simpa using hr0
        clear hr0
        by_cases hr1 : r = 1
        · subst hr1
          clear hr0'
          go_wp2_with fail
          go_at_call 57
          refine (among_any cu _ _ _ _ (0) (5) _ (by omega) (by decide) (by decide) (Nat.ne_of_gt hD.cur.lt) (Lits.new _ _ _ (by rfl) (by decide)) (hD.cur.alloc _)).mono ?_
          rintro _ w9 ⟨q, rfl, qa, qb, hc, ht⟩
          replace hD := (hD.alloc _).draw hc ht
          replace hL := (hL.alloc _).tch ht (by omega)
          replace hX := (hX.alloc _).tch ht (by omega)
          clear hc ht
          have y0 := hL.box.c1
          have y1 := hL.box.f1
          have y2 := hL.box.lt
          replace hL := hL.set1 q
          replace hX := hX.other (e := gh) (o := 1) (by omega) (.int .i64 q)
          replace hD := hD.set (p := ⟨gh, 1, none⟩) (by show w.heap.size ≤ gh; omega) (.int .i64 q)
          go_upto_region 24 with fail
          clear y0 y1 y2
          generalize w9.setCell ⟨gh, 1, none⟩ (.int .i64 q) = W at hL hX hD ⊢
          obtain ⟨A6, c6, F6, rfl, hO⟩ := hL.row.out
          skip
          obtain ⟨x0, x1, x2, x3, x4, x5, x6, x7, x8⟩ := hX
          obtain ⟨y0, y1, y2, y3, y4, -, -, -, -⟩ := hL.box
          have hsz := hD.size
          have hO2 := (hO.agr (w' := (((W.setCell ⟨w.heap.size, 0, none⟩ (.int .i64 id)).setCell ⟨w.heap.size, 1, none⟩ (.int .i64 q)).setCell ⟨w.heap.size, 2, none⟩ (.slice A6 k c6)).setCell ⟨w.heap.size, 3, none⟩ (.bool cv)) fun q h1 h2 => (Below.heap_setCell _ _ _ _ (by show q ≠ w.heap.size; omega)).trans ((Below.heap_setCell _ _ _ _ (by show q ≠ w.heap.size; omega)).trans ((Below.heap_setCell _ _ _ _ (by show q ≠ w.heap.size; omega)).trans (Below.heap_setCell _ _ _ _ (by show q ≠ w.heap.size; omega))))).mono (lo' := w.heap.size) (hi' := (((W.setCell ⟨w.heap.size, 0, none⟩ (.int .i64 id)).setCell ⟨w.heap.size, 1, none⟩ (.int .i64 q)).setCell ⟨w.heap.size, 2, none⟩ (.slice A6 k c6)).setCell ⟨w.heap.size, 3, none⟩ (.bool cv) |>.heap.size) (Nat.le_succ _) (by simp)
          have hD2 := ((((hD.set (p := ⟨w.heap.size, 0, none⟩) (Nat.le_refl _) (.int .i64 id)).set (p := ⟨w.heap.size, 1, none⟩) (Nat.le_refl _) (.int .i64 q)).set (p := ⟨w.heap.size, 2, none⟩) (Nat.le_refl _) (.slice A6 k c6)).set (p := ⟨w.heap.size, 3, none⟩) (Nat.le_refl _) (.bool cv)).more (m' := m + 100) (by omega)
          clear hD hO hL
          go_wp2
          refine bodyPost_ret (v := .agg #[.int .i64 id, .int .i64 q, .slice A6 k c6, .bool cv]) (by simp only [results, Tryd.results64]; go_simp) rfl ⟨id, q, _, _, _, F6, cv, rfl, by omega, hO2, hD2⟩
        have hr1' : (r == 1) = false := by simpa using hr1
        clear hr1
        by_cases hr2 : r = 2
        · subst hr2
          clear hr0' hr1'
          go_upto_region 17 with fail
          have hsW := hD.size
          have x0 := hL.box.c2
          have xf := hL.box.f2
          have xl := hL.box.lt
          go_region_law (first | (have L1' := L1; clear L1'; obtain ⟨xs, ho, hx⟩ := L1.row; refine step_append_lies _ (by rfl) _ _ _ (by rfl) (w.heap.size + 1) 3 i1 _ 1 8 Tryd.underlying22 hi1 hy0 hy1 hy2 rfl (by omega) _ k _ (by rfl) (ho.alloc _) ⟨v1.heap.size, 0, none⟩ 1 1 [.int .i64 wa] (by rfl) (by rfl) (World.news_of_block (cs := #[.int .i64 wa]) (t := 3) (fr := (0, 0)) (heap_alloc_new v1 _)) (by simp [Value.oneCell']) (by omega) (by simp only [maxLen]; omega) (by omega) (by simp; omega) (v1.alloc (.cells #[.int .i64 wa] 3)).heap.size rfl ?_; intro gg cap w5 hown5 hg5 hat5 _; have hb5 := grown_below (ho.alloc _) hg5 (by simp; omega); have hB5 := (L1.alloc (.cells #[.int .i64 wa] 3)).box.grown hg5 L1.ne; have y2 := hB5.c2; have y3 := hB5.f2; have y4 := hB5.lt; have HAT := hide hat5; clear hat5) | (go_simp; go_at_call 57; refine (among0_any _ _ _ 3 _ _ (by omega) (by decide) (by decide) (by first | omega | (simp; done) | (simp; omega)) (by (first | ((with_reducible refine Lits0.drew ?_); (first | ((with_reducible refine Lits0.new' _ _ _ ?hg ?hn ?ha); (case hg => (first | with_reducible rfl | (simp; done))); (case hn => rfl); (case ha => rfl)) | ((with_reducible refine Lits0.alloc ?_ _); ((with_reducible refine Lits0.new' _ _ _ ?hg ?hn ?ha); (case hg => (first | with_reducible rfl | (simp; done))); (case hn => rfl); (case ha => rfl))))) | (first | ((with_reducible refine Lits0.new' _ _ _ ?hg ?hn ?ha); (case hg => (first | with_reducible rfl | (simp; done))); (case hn => rfl); (case ha => rfl)) | ((with_reducible refine Lits0.alloc ?_ _); ((with_reducible refine Lits0.new' _ _ _ ?hg ?hn ?ha); (case hg => (first | with_reducible rfl | (simp; done))); (case hn => rfl); (case ha => rfl)))))) (Cur.below hD.cur (by (repeat' (first | exact Below.refl _ _ | assumption | refine Below.drew ?_ | refine Below.alloc ?_ (by first | omega | exact Below.size (by assumption) | (simp; done) | (simp; omega)) _ | refine Below.setCell ?_ (by first | omega | exact Below.size (by assumption) | (simp; done) | (simp; omega)) _))))).mono ?_; rintro _ v1 ⟨wa, rfl, hc1, ht1⟩; have L1 := HeS.tch (HeS.below hL (by (repeat' (first | exact Below.refl _ _ | assumption | refine Below.drew ?_ | refine Below.alloc ?_ (by first | omega | exact Below.size (by assumption) | (simp; done) | (simp; omega)) _ | refine Below.setCell ?_ (by first | omega | exact Below.size (by assumption) | (simp; done) | (simp; omega)) _)))) ht1 (by omega); have X1 := (Box4.below hX (by (repeat' (first | exact Below.refl _ _ | assumption | refine Below.drew ?_ | refine Below.alloc ?_ (by first | omega | exact Below.size (by assumption) | (simp; done) | (simp; omega)) _ | refine Below.setCell ?_ (by first | omega | exact Below.size (by assumption) | (simp; done) | (simp; omega)) _)))).tch ht1 (by omega); have D1 := DrS.draw (DrS.grow hD (Below.mono (show Below (World.heap w8).size w8 _ from (by (repeat' (first | exact Below.refl _ _ | assumption | refine Below.drew ?_ | refine Below.alloc ?_ (by first | omega | exact Below.size (by assumption) | (simp; done) | (simp; omega)) _ | refine Below.setCell ?_ (by first | omega | exact Below.size (by assumption) | (simp; done) | (simp; omega)) _)))) hsW)) hc1 ht1; have z1 : (World.heap w8).size ≤ v1.heap.size := Nat.le_trans (Below.size (show Below (World.heap w8).size w8 _ from (by (repeat' (first | exact Below.refl _ _ | assumption | refine Below.drew ?_ | refine Below.alloc ?_ (by first | omega | exact Below.size (by assumption) | (simp; done) | (simp; omega)) _ | refine Below.setCell ?_ (by first | omega | exact Below.size (by assumption) | (simp; done) | (simp; omega)) _))))) ht1.size; have x1 := L1.box.c2; have x2 := L1.box.lt; have x3 := L1.box.f2))
          all_goals
            have hat : (Value.slice (some ⟨gg, 0, none⟩) (k + 1) cap).ownBlock = v.ownBlock ∨ (Value.slice (some ⟨gg, 0, none⟩) (k + 1) cap).ownBlock = some (v1.alloc (.cells #[.int .i64 wa] 3)).heap.size := by
              rcases HAT.out with e | e
              · exact .inl e.symm
              · exact .inr (by rw [e]; rfl)
            have L5 := (L1.alloc (.cells #[.int .i64 wa] 3)).app hx hown5 hg5 hat
            have X5 := ((X1.alloc (.cells #[.int .i64 wa] 3)).agr hg5.size (hb5.block _ (Nat.lt_succ_self _))).other (e := gh) (o := 2) (by omega) (.slice (some ⟨gg, 0, none⟩) (k + 1) cap)
            have D5 := ((DrS.alloc D1 (.cells #[.int .i64 wa] 3)).grow (hb5.mono (Nat.le_succ _))).set (p := ⟨gh, 2, none⟩) (by show w.heap.size ≤ gh; omega) (.slice (some ⟨gg, 0, none⟩) (k + 1) cap)
            clear L1 X1 D1 hL hX hD hc1 ht1 x0 x1 ho hown5 hg5 HAT hat hx hB5 y2 y3 y4
            generalize w5.setCell ⟨gh, 2, none⟩ (.slice (some ⟨gg, 0, none⟩) (k + 1) cap) = w6 at L5 X5 D5 ⊢
            have hL := L5
            have hX := X5
            have hD := D5
            clear L5 X5 D5
            go_upto_region 24 with fail
            obtain ⟨A6, c6, F6, e6, hO⟩ := hL.row.out
            (injection e6 with e6 _ e7; subst e6 e7)
            obtain ⟨x0, x1, x2, x3, x4, x5, x6, x7, x8⟩ := hX
            obtain ⟨y0, y1, y2, y3, y4, -, -, -, -⟩ := hL.box
            have hsz := hD.size
            have hO2 := (hO.agr (w' := (((w6.setCell ⟨w.heap.size, 0, none⟩ (.int .i64 id)).setCell ⟨w.heap.size, 1, none⟩ (.int .i64 gr)).setCell ⟨w.heap.size, 2, none⟩ (.slice (some ⟨gg, 0, none⟩) (k + 1) cap)).setCell ⟨w.heap.size, 3, none⟩ (.bool cv)) fun q h1 h2 => (Below.heap_setCell _ _ _ _ (by show q ≠ w.heap.size; omega)).trans ((Below.heap_setCell _ _ _ _ (by show q ≠ w.heap.size; omega)).trans ((Below.heap_setCell _ _ _ _ (by show q ≠ w.heap.size; omega)).trans (Below.heap_setCell _ _ _ _ (by show q ≠ w.heap.size; omega))))).mono (lo' := w.heap.size) (hi' := (((w6.setCell ⟨w.heap.size, 0, none⟩ (.int .i64 id)).setCell ⟨w.heap.size, 1, none⟩ (.int .i64 gr)).setCell ⟨w.heap.size, 2, none⟩ (.slice (some ⟨gg, 0, none⟩) (k + 1) cap)).setCell ⟨w.heap.size, 3, none⟩ (.bool cv) |>.heap.size) (Nat.le_succ _) (by simp)
            have hD2 := ((((hD.set (p := ⟨w.heap.size, 0, none⟩) (Nat.le_refl _) (.int .i64 id)).set (p := ⟨w.heap.size, 1, none⟩) (Nat.le_refl _) (.int .i64 gr)).set (p := ⟨w.heap.size, 2, none⟩) (Nat.le_refl _) (.slice (some ⟨gg, 0, none⟩) (k + 1) cap)).set (p := ⟨w.heap.size, 3, none⟩) (Nat.le_refl _) (.bool cv)).more (m' := m + 100) (by omega)
            clear hD hO hL
            go_wp2
            refine bodyPost_ret (v := .agg #[.int .i64 id, .int .i64 gr, .slice (some ⟨gg, 0, none⟩) (k + 1) cap, .bool cv]) (by simp only [results, Tryd.results64]; go_simp) rfl ⟨id, gr, _, _, _, F6, cv, rfl, by omega, hO2, hD2⟩
        have hr2' : (r == 2) = false := by simpa using hr2
        clear hr2
        by_cases hr3 : r = 3
        · subst hr3
          clear hr0' hr1' hr2'
          have hsD := hD.size
          have hgw : w.heap.size + 1 ≤ w8.heap.size := by have := hX.lt; omega
          have y2 := hL.box.c2
          have y3 := hL.box.f2
          have y4 := hL.box.lt
          replace hL := hL.fresh hgw
          replace hX := (hX.alloc (.cells #[] 3)).other (e := gh) (o := 2) (by omega) (.slice (some ⟨w8.heap.size, 0, none⟩) 0 0)
          replace hD := (hD.alloc (.cells #[] 3)).set (p := ⟨gh, 2, none⟩) (by show w.heap.size ≤ gh; omega) (.slice (some ⟨w8.heap.size, 0, none⟩) 0 0)
          go_upto_region 20 with fail
          have hcomm : (w8.alloc (.cells #[] 3)).setCell ⟨gh, 2, none⟩ (.slice (some ⟨w8.heap.size, 0, none⟩) 0 0) = (w8.setCell ⟨gh, 2, none⟩ (.slice (some ⟨w8.heap.size, 0, none⟩) 0 0)).alloc (.cells #[] 3) := by go_simp
          rw [hcomm] at hL hX hD
          clear hcomm y2 y3 y4
          generalize (w8.setCell ⟨gh, 2, none⟩ (.slice (some ⟨w8.heap.size, 0, none⟩) 0 0)).alloc (.cells #[] 3) = w10 at hL hX hD ⊢
          generalize Value.slice (some ⟨w8.heap.size, 0, none⟩) 0 0 = v0 at hL ⊢
          clear hgw hsD hk4
          go_wp2
          go_loopw [9] (fun i wr => ∃ (k : Nat) (v : Value), i = .int .i64 k ∧ k ≤ 13 ∧ HeS wr (w.heap.size + 1) gh 3 id gr v k cv ∧ Box4 wr w.heap.size (.int .i64 0) (.int .i64 0) (.slice none 0 0) (.bool false) ∧ DrS w wr cu (m + 40 + k)) (fun i _ => 14 - (intOf i).toNat)
          case atStart => exact ⟨0, v0, rfl, by omega, hL, hX, hD.more (by omega)⟩
          case round =>
            clear hL hX hD
            obtain ⟨k, v, rfl, hk, hL, hX, hD⟩ := hrel
            go_wp2_with fail
            go_at_call 36
            refine (pick_any _ _ _ _ (by omega) (by decide) hD.cur).mono ?_
            rintro _ w11 ⟨q, rfl, qa, qb, hc, ht⟩
            rw [if_neg (by decide)] at qb
            replace hD := hD.draw hc ht
            replace hL := hL.tch ht (by omega)
            replace hX := hX.tch ht (by omega)
            clear hc ht
            by_cases hlt : (k : Int) < 12 + q
            · have hrow := hL.row
              obtain ⟨xs, ho, hx⟩ := hrow
              have ho2 := ho.alloc (.cells #[.int .i64 (30 - (k : Int))] 3)
              have y2 := hL.box.c2
              have y3 := hL.box.f2
              have yl := hL.box.lt
              have hsD := hD.size
              obtain ⟨A9, c9, rfl, -⟩ := own_form ho
              go_upto_region 22 with (at_builtin; refine wpList_append_own_at _ rfl _ _ 22 rfl (w.heap.size + 1) 3 i1 (.int .i64 0) 1 8 Tryd.underlying22 hi1 hy0 hy1 hy2 rfl (by decide) _ k _ rfl ho2 ⟨w11.heap.size, 0, none⟩ 1 1 [.int .i64 (30 - (k : Int))] rfl rfl (World.news_of_block (cs := #[.int .i64 (30 - (k : Int))]) (t := 3) (fr := (0, 0)) (heap_alloc_new w11 _)) (by simp [Value.oneCell']) (by simp only [maxLen]; omega) (by omega) (by simp; omega) ?_; intro v5 w5 hown5 hg5 _ hat5; obtain ⟨g5, cap5, hv5, hgl5, hgh5⟩ := hown5.form (by omega); subst hv5; have hB5 := (hL.alloc (.cells #[.int .i64 (30 - (k : Int))] 3)).box.grown hg5 hL.ne; have y4 := hB5.c2; have y5 := hB5.f2; have y6 := hB5.lt)
              have hb5 := grown_below ho2 hg5 (by simp; omega)
              have hL5 := (hL.alloc (.cells #[.int .i64 (30 - (k : Int))] 3)).app hx hown5 hg5 hat5
              have hX5 := ((hX.alloc (.cells #[.int .i64 (30 - (k : Int))] 3)).agr hg5.size (hb5.block _ (Nat.lt_succ_self _))).other (e := gh) (o := 2) (by have := hL.hB; omega) (.slice (some ⟨g5, 0, none⟩) (k + 1) cap5)
              have hD5 := ((hD.alloc (.cells #[.int .i64 (30 - (k : Int))] 3)).grow (hb5.mono (Nat.le_succ _))).set (p := ⟨gh, 2, none⟩) (by show w.heap.size ≤ gh; have := hL.hB; omega) (.slice (some ⟨g5, 0, none⟩) (k + 1) cap5)
              go_wp2
              go_roundw
              case rel => exact ⟨k + 1, _, by go_num, by omega, hL5, hX5, hD5.more (by omega)⟩
              case measure => simp [intOf]; omega
            · go_upto_region 24 with fail
              obtain ⟨A6, c6, F6, rfl, hO⟩ := hL.row.out
              skip
              obtain ⟨x0, x1, x2, x3, x4, x5, x6, x7, x8⟩ := hX
              obtain ⟨y0, y1, y2, y3, y4, -, -, -, -⟩ := hL.box
              have hsz := hD.size
              have hO2 := (hO.agr (w' := (((w11.setCell ⟨w.heap.size, 0, none⟩ (.int .i64 id)).setCell ⟨w.heap.size, 1, none⟩ (.int .i64 gr)).setCell ⟨w.heap.size, 2, none⟩ (.slice A6 k c6)).setCell ⟨w.heap.size, 3, none⟩ (.bool cv)) fun q h1 h2 => (Below.heap_setCell _ _ _ _ (by show q ≠ w.heap.size; omega)).trans ((Below.heap_setCell _ _ _ _ (by show q ≠ w.heap.size; omega)).trans ((Below.heap_setCell _ _ _ _ (by show q ≠ w.heap.size; omega)).trans (Below.heap_setCell _ _ _ _ (by show q ≠ w.heap.size; omega))))).mono (lo' := w.heap.size) (hi' := (((w11.setCell ⟨w.heap.size, 0, none⟩ (.int .i64 id)).setCell ⟨w.heap.size, 1, none⟩ (.int .i64 gr)).setCell ⟨w.heap.size, 2, none⟩ (.slice A6 k c6)).setCell ⟨w.heap.size, 3, none⟩ (.bool cv) |>.heap.size) (Nat.le_succ _) (by simp)
              have hD2 := ((((hD.set (p := ⟨w.heap.size, 0, none⟩) (Nat.le_refl _) (.int .i64 id)).set (p := ⟨w.heap.size, 1, none⟩) (Nat.le_refl _) (.int .i64 gr)).set (p := ⟨w.heap.size, 2, none⟩) (Nat.le_refl _) (.slice A6 k c6)).set (p := ⟨w.heap.size, 3, none⟩) (Nat.le_refl _) (.bool cv)).more (m' := m + 100) (by omega)
              clear hD hO hL
              go_wp2
              refine bodyPost_ret (v := .agg #[.int .i64 id, .int .i64 gr, .slice A6 k c6, .bool cv]) (by simp only [results, Tryd.results64]; go_simp) rfl ⟨id, gr, _, _, _, F6, cv, rfl, by omega, hO2, hD2⟩
        have hr3' : (r == 3) = false := by simpa using hr3
        clear hr3
        go_upto_region 24 with fail
        obtain ⟨A6, c6, F6, rfl, hO⟩ := hL.row.out
        skip
        obtain ⟨x0, x1, x2, x3, x4, x5, x6, x7, x8⟩ := hX
        obtain ⟨y0, y1, y2, y3, y4, -, -, -, -⟩ := hL.box
        have hsz := hD.size
        have hO2 := (hO.agr (w' := (((w8.setCell ⟨w.heap.size, 0, none⟩ (.int .i64 id)).setCell ⟨w.heap.size, 1, none⟩ (.int .i64 gr)).setCell ⟨w.heap.size, 2, none⟩ (.slice A6 k c6)).setCell ⟨w.heap.size, 3, none⟩ (.bool cv)) fun q h1 h2 => (Below.heap_setCell _ _ _ _ (by show q ≠ w.heap.size; omega)).trans ((Below.heap_setCell _ _ _ _ (by show q ≠ w.heap.size; omega)).trans ((Below.heap_setCell _ _ _ _ (by show q ≠ w.heap.size; omega)).trans (Below.heap_setCell _ _ _ _ (by show q ≠ w.heap.size; omega))))).mono (lo' := w.heap.size) (hi' := (((w8.setCell ⟨w.heap.size, 0, none⟩ (.int .i64 id)).setCell ⟨w.heap.size, 1, none⟩ (.int .i64 gr)).setCell ⟨w.heap.size, 2, none⟩ (.slice A6 k c6)).setCell ⟨w.heap.size, 3, none⟩ (.bool cv) |>.heap.size) (Nat.le_succ _) (by simp)
        have hD2 := ((((hD.set (p := ⟨w.heap.size, 0, none⟩) (Nat.le_refl _) (.int .i64 id)).set (p := ⟨w.heap.size, 1, none⟩) (Nat.le_refl _) (.int .i64 gr)).set (p := ⟨w.heap.size, 2, none⟩) (Nat.le_refl _) (.slice A6 k c6)).set (p := ⟨w.heap.size, 3, none⟩) (Nat.le_refl _) (.bool cv)).more (m' := m + 100) (by omega)
        clear hD hO hL
        go_wp2
        refine bodyPost_ret (v := .agg #[.int .i64 id, .int .i64 gr, .slice A6 k c6, .bool cv]) (by simp only [results, Tryd.results64]; go_simp) rfl ⟨id, gr, _, _, _, F6, cv, rfl, by omega, hO2, hD2⟩
      · obtain ⟨N', rfl⟩ : ∃ N', N = N' + 1 := ⟨N - 1, by omega⟩
        have hd : decide ((0 : Int) < ((N' + 1 : Nat) : Int)) = true := decide_eq_true (by omega)
        replace hD := hD.more (m' := m + 20) (by omega)
        have hk4 : k ≤ 4 := by omega
        clear hlt hkN hT0 hT1
        go_wp2_with fail
        go_at_call 36
        refine (pick_any _ _ _ _ (by omega) (by decide) hD.cur).mono ?_
        rintro _ w8 ⟨r, rfl, ra, rb, hc, ht⟩
        replace hD := hD.draw hc ht
        replace hL := hL.tch ht (by omega)
        replace hX := hX.tch ht (by omega)
        clear hc ht
        clear ra rb
        by_cases hr0 : r = 0
        · subst hr0
          go_wp2_with fail
          go_at_call 57
          refine (among_any cu _ _ _ _ (0) (100) _ (by omega) (by decide) (by decide) (Nat.ne_of_gt hD.cur.lt) (Lits.new _ _ _ (by rfl) (by decide)) (hD.cur.alloc _)).mono ?_
          rintro _ w9 ⟨q, rfl, qa, qb, hc, ht⟩
          replace hD := (hD.alloc _).draw hc ht
          replace hL := (hL.alloc _).tch ht (by omega)
          replace hX := (hX.alloc _).tch ht (by omega)
          clear hc ht
          have y0 := hL.box.c0
          have y1 := hL.box.f0
          have y2 := hL.box.lt
          replace hL := hL.set0 q
          replace hX := hX.other (e := gh) (o := 0) (by omega) (.int .i64 q)
          replace hD := hD.set (p := ⟨gh, 0, none⟩) (by show w.heap.size ≤ gh; omega) (.int .i64 q)
          go_upto_region 24 with fail
          clear y0 y1 y2
          generalize w9.setCell ⟨gh, 0, none⟩ (.int .i64 q) = W at hL hX hD ⊢
          obtain ⟨A6, c6, F6, rfl, hO⟩ := hL.row.out
          skip
          obtain ⟨x0, x1, x2, x3, x4, x5, x6, x7, x8⟩ := hX
          obtain ⟨y0, y1, y2, y3, y4, -, -, -, -⟩ := hL.box
          have hsz := hD.size
          have hO2 := (hO.agr (w' := (((W.setCell ⟨w.heap.size, 0, none⟩ (.int .i64 q)).setCell ⟨w.heap.size, 1, none⟩ (.int .i64 gr)).setCell ⟨w.heap.size, 2, none⟩ (.slice A6 k c6)).setCell ⟨w.heap.size, 3, none⟩ (.bool cv)) fun q h1 h2 => (Below.heap_setCell _ _ _ _ (by show q ≠ w.heap.size; omega)).trans ((Below.heap_setCell _ _ _ _ (by show q ≠ w.heap.size; omega)).trans ((Below.heap_setCell _ _ _ _ (by show q ≠ w.heap.size; omega)).trans (Below.heap_setCell _ _ _ _ (by show q ≠ w.heap.size; omega))))).mono (lo' := w.heap.size) (hi' := (((W.setCell ⟨w.heap.size, 0, none⟩ (.int .i64 q)).setCell ⟨w.heap.size, 1, none⟩ (.int .i64 gr)).setCell ⟨w.heap.size, 2, none⟩ (.slice A6 k c6)).setCell ⟨w.heap.size, 3, none⟩ (.bool cv) |>.heap.size) (Nat.le_succ _) (by simp)
          have hD2 := ((((hD.set (p := ⟨w.heap.size, 0, none⟩) (Nat.le_refl _) (.int .i64 q)).set (p := ⟨w.heap.size, 1, none⟩) (Nat.le_refl _) (.int .i64 gr)).set (p := ⟨w.heap.size, 2, none⟩) (Nat.le_refl _) (.slice A6 k c6)).set (p := ⟨w.heap.size, 3, none⟩) (Nat.le_refl _) (.bool cv)).more (m' := m + 100) (by omega)
          clear hD hO hL
          go_wp2
          refine bodyPost_ret (v := .agg #[.int .i64 q, .int .i64 gr, .slice A6 k c6, .bool cv]) (by simp only [results, Tryd.results64]; go_simp) rfl ⟨q, gr, _, _, _, F6, cv, rfl, by omega, hO2, hD2⟩
        have hr0' : (r == 0) = false := by simpa using hr0
        clear hr0
        by_cases hr1 : r = 1
        · subst hr1
          clear hr0'
          go_wp2_with fail
          go_at_call 57
          refine (among_any cu _ _ _ _ (0) (5) _ (by omega) (by decide) (by decide) (Nat.ne_of_gt hD.cur.lt) (Lits.new _ _ _ (by rfl) (by decide)) (hD.cur.alloc _)).mono ?_
          rintro _ w9 ⟨q, rfl, qa, qb, hc, ht⟩
          replace hD := (hD.alloc _).draw hc ht
          replace hL := (hL.alloc _).tch ht (by omega)
          replace hX := (hX.alloc _).tch ht (by omega)
          clear hc ht
          have y0 := hL.box.c1
          have y1 := hL.box.f1
          have y2 := hL.box.lt
          replace hL := hL.set1 q
          replace hX := hX.other (e := gh) (o := 1) (by omega) (.int .i64 q)
          replace hD := hD.set (p := ⟨gh, 1, none⟩) (by show w.heap.size ≤ gh; omega) (.int .i64 q)
          go_upto_region 24 with fail
          clear y0 y1 y2
          generalize w9.setCell ⟨gh, 1, none⟩ (.int .i64 q) = W at hL hX hD ⊢
          obtain ⟨A6, c6, F6, rfl, hO⟩ := hL.row.out
          skip
          obtain ⟨x0, x1, x2, x3, x4, x5, x6, x7, x8⟩ := hX
          obtain ⟨y0, y1, y2, y3, y4, -, -, -, -⟩ := hL.box
          have hsz := hD.size
          have hO2 := (hO.agr (w' := (((W.setCell ⟨w.heap.size, 0, none⟩ (.int .i64 id)).setCell ⟨w.heap.size, 1, none⟩ (.int .i64 q)).setCell ⟨w.heap.size, 2, none⟩ (.slice A6 k c6)).setCell ⟨w.heap.size, 3, none⟩ (.bool cv)) fun q h1 h2 => (Below.heap_setCell _ _ _ _ (by show q ≠ w.heap.size; omega)).trans ((Below.heap_setCell _ _ _ _ (by show q ≠ w.heap.size; omega)).trans ((Below.heap_setCell _ _ _ _ (by show q ≠ w.heap.size; omega)).trans (Below.heap_setCell _ _ _ _ (by show q ≠ w.heap.size; omega))))).mono (lo' := w.heap.size) (hi' := (((W.setCell ⟨w.heap.size, 0, none⟩ (.int .i64 id)).setCell ⟨w.heap.size, 1, none⟩ (.int .i64 q)).setCell ⟨w.heap.size, 2, none⟩ (.slice A6 k c6)).setCell ⟨w.heap.size, 3, none⟩ (.bool cv) |>.heap.size) (Nat.le_succ _) (by simp)
          have hD2 := ((((hD.set (p := ⟨w.heap.size, 0, none⟩) (Nat.le_refl _) (.int .i64 id)).set (p := ⟨w.heap.size, 1, none⟩) (Nat.le_refl _) (.int .i64 q)).set (p := ⟨w.heap.size, 2, none⟩) (Nat.le_refl _) (.slice A6 k c6)).set (p := ⟨w.heap.size, 3, none⟩) (Nat.le_refl _) (.bool cv)).more (m' := m + 100) (by omega)
          clear hD hO hL
          go_wp2
          refine bodyPost_ret (v := .agg #[.int .i64 id, .int .i64 q, .slice A6 k c6, .bool cv]) (by simp only [results, Tryd.results64]; go_simp) rfl ⟨id, q, _, _, _, F6, cv, rfl, by omega, hO2, hD2⟩
        have hr1' : (r == 1) = false := by simpa using hr1
        clear hr1
        by_cases hr2 : r = 2
        · subst hr2
          clear hr0' hr1'
          go_upto_region 17 with fail
          have hsW := hD.size
          have x0 := hL.box.c2
          have xf := hL.box.f2
          have xl := hL.box.lt
          go_region_law (first | (have L1' := L1; clear L1'; obtain ⟨xs, ho, hx⟩ := L1.row; refine step_append_lies _ (by rfl) _ _ _ (by rfl) (w.heap.size + 1) 3 i1 _ 1 8 Tryd.underlying22 hi1 hy0 hy1 hy2 rfl (by omega) _ k _ (by rfl) (ho.alloc _) ⟨v1.heap.size, 0, none⟩ 1 1 [.int .i64 wa] (by rfl) (by rfl) (World.news_of_block (cs := #[.int .i64 wa]) (t := 3) (fr := (0, 0)) (heap_alloc_new v1 _)) (by simp [Value.oneCell']) (by omega) (by simp only [maxLen]; omega) (by omega) (by simp; omega) (v1.alloc (.cells #[.int .i64 wa] 3)).heap.size rfl ?_; intro gg cap w5 hown5 hg5 hat5 _; have hb5 := grown_below (ho.alloc _) hg5 (by simp; omega); have hB5 := (L1.alloc (.cells #[.int .i64 wa] 3)).box.grown hg5 L1.ne; have y2 := hB5.c2; have y3 := hB5.f2; have y4 := hB5.lt; have HAT := hide hat5; clear hat5) | (go_simp; go_at_call 57; refine (among0_any _ _ _ 3 _ _ (by omega) (by decide) (by decide) (by first | omega | (simp; done) | (simp; omega)) (by (first | ((with_reducible refine Lits0.drew ?_); (first | ((with_reducible refine Lits0.new' _ _ _ ?hg ?hn ?ha); (case hg => (first | with_reducible rfl | (simp; done))); (case hn => rfl); (case ha => rfl)) | ((with_reducible refine Lits0.alloc ?_ _); ((with_reducible refine Lits0.new' _ _ _ ?hg ?hn ?ha); (case hg => (first | with_reducible rfl | (simp; done))); (case hn => rfl); (case ha => rfl))))) | (first | ((with_reducible refine Lits0.new' _ _ _ ?hg ?hn ?ha); (case hg => (first | with_reducible rfl | (simp; done))); (case hn => rfl); (case ha => rfl)) | ((with_reducible refine Lits0.alloc ?_ _); ((with_reducible refine Lits0.new' _ _ _ ?hg ?hn ?ha); (case hg => (first | with_reducible rfl | (simp; done))); (case hn => rfl); (case ha => rfl)))))) (Cur.below hD.cur (by (repeat' (first | exact Below.refl _ _ | assumption | refine Below.drew ?_ | refine Below.alloc ?_ (by first | omega | exact Below.size (by assumption) | (simp; done) | (simp; omega)) _ | refine Below.setCell ?_ (by first | omega | exact Below.size (by assumption) | (simp; done) | (simp; omega)) _))))).mono ?_; rintro _ v1 ⟨wa, rfl, hc1, ht1⟩; have L1 := HeS.tch (HeS.below hL (by (repeat' (first | exact Below.refl _ _ | assumption | refine Below.drew ?_ | refine Below.alloc ?_ (by first | omega | exact Below.size (by assumption) | (simp; done) | (simp; omega)) _ | refine Below.setCell ?_ (by first | omega | exact Below.size (by assumption) | (simp; done) | (simp; omega)) _)))) ht1 (by omega); have X1 := (Box4.below hX (by (repeat' (first | exact Below.refl _ _ | assumption | refine Below.drew ?_ | refine Below.alloc ?_ (by first | omega | exact Below.size (by assumption) | (simp; done) | (simp; omega)) _ | refine Below.setCell ?_ (by first | omega | exact Below.size (by assumption) | (simp; done) | (simp; omega)) _)))).tch ht1 (by omega); have D1 := DrS.draw (DrS.grow hD (Below.mono (show Below (World.heap w8).size w8 _ from (by (repeat' (first | exact Below.refl _ _ | assumption | refine Below.drew ?_ | refine Below.alloc ?_ (by first | omega | exact Below.size (by assumption) | (simp; done) | (simp; omega)) _ | refine Below.setCell ?_ (by first | omega | exact Below.size (by assumption) | (simp; done) | (simp; omega)) _)))) hsW)) hc1 ht1; have z1 : (World.heap w8).size ≤ v1.heap.size := Nat.le_trans (Below.size (show Below (World.heap w8).size w8 _ from (by (repeat' (first | exact Below.refl _ _ | assumption | refine Below.drew ?_ | refine Below.alloc ?_ (by first | omega | exact Below.size (by assumption) | (simp; done) | (simp; omega)) _ | refine Below.setCell ?_ (by first | omega | exact Below.size (by assumption) | (simp; done) | (simp; omega)) _))))) ht1.size; have x1 := L1.box.c2; have x2 := L1.box.lt; have x3 := L1.box.f2))
          all_goals
            have hat : (Value.slice (some ⟨gg, 0, none⟩) (k + 1) cap).ownBlock = v.ownBlock ∨ (Value.slice (some ⟨gg, 0, none⟩) (k + 1) cap).ownBlock = some (v1.alloc (.cells #[.int .i64 wa] 3)).heap.size := by
              rcases HAT.out with e | e
              · exact .inl e.symm
              · exact .inr (by rw [e]; rfl)
            have L5 := (L1.alloc (.cells #[.int .i64 wa] 3)).app hx hown5 hg5 hat
            have X5 := ((X1.alloc (.cells #[.int .i64 wa] 3)).agr hg5.size (hb5.block _ (Nat.lt_succ_self _))).other (e := gh) (o := 2) (by omega) (.slice (some ⟨gg, 0, none⟩) (k + 1) cap)
            have D5 := ((DrS.alloc D1 (.cells #[.int .i64 wa] 3)).grow (hb5.mono (Nat.le_succ _))).set (p := ⟨gh, 2, none⟩) (by show w.heap.size ≤ gh; omega) (.slice (some ⟨gg, 0, none⟩) (k + 1) cap)
            clear L1 X1 D1 hL hX hD hc1 ht1 x0 x1 ho hown5 hg5 HAT hat hx hB5 y2 y3 y4
            generalize w5.setCell ⟨gh, 2, none⟩ (.slice (some ⟨gg, 0, none⟩) (k + 1) cap) = w6 at L5 X5 D5 ⊢
            have hL := L5
            have hX := X5
            have hD := D5
            clear L5 X5 D5
            go_upto_region 24 with fail
            obtain ⟨A6, c6, F6, e6, hO⟩ := hL.row.out
            (injection e6 with e6 _ e7; subst e6 e7)
            obtain ⟨x0, x1, x2, x3, x4, x5, x6, x7, x8⟩ := hX
            obtain ⟨y0, y1, y2, y3, y4, -, -, -, -⟩ := hL.box
            have hsz := hD.size
            have hO2 := (hO.agr (w' := (((w6.setCell ⟨w.heap.size, 0, none⟩ (.int .i64 id)).setCell ⟨w.heap.size, 1, none⟩ (.int .i64 gr)).setCell ⟨w.heap.size, 2, none⟩ (.slice (some ⟨gg, 0, none⟩) (k + 1) cap)).setCell ⟨w.heap.size, 3, none⟩ (.bool cv)) fun q h1 h2 => (Below.heap_setCell _ _ _ _ (by show q ≠ w.heap.size; omega)).trans ((Below.heap_setCell _ _ _ _ (by show q ≠ w.heap.size; omega)).trans ((Below.heap_setCell _ _ _ _ (by show q ≠ w.heap.size; omega)).trans (Below.heap_setCell _ _ _ _ (by show q ≠ w.heap.size; omega))))).mono (lo' := w.heap.size) (hi' := (((w6.setCell ⟨w.heap.size, 0, none⟩ (.int .i64 id)).setCell ⟨w.heap.size, 1, none⟩ (.int .i64 gr)).setCell ⟨w.heap.size, 2, none⟩ (.slice (some ⟨gg, 0, none⟩) (k + 1) cap)).setCell ⟨w.heap.size, 3, none⟩ (.bool cv) |>.heap.size) (Nat.le_succ _) (by simp)
            have hD2 := ((((hD.set (p := ⟨w.heap.size, 0, none⟩) (Nat.le_refl _) (.int .i64 id)).set (p := ⟨w.heap.size, 1, none⟩) (Nat.le_refl _) (.int .i64 gr)).set (p := ⟨w.heap.size, 2, none⟩) (Nat.le_refl _) (.slice (some ⟨gg, 0, none⟩) (k + 1) cap)).set (p := ⟨w.heap.size, 3, none⟩) (Nat.le_refl _) (.bool cv)).more (m' := m + 100) (by omega)
            clear hD hO hL
            go_wp2
            refine bodyPost_ret (v := .agg #[.int .i64 id, .int .i64 gr, .slice (some ⟨gg, 0, none⟩) (k + 1) cap, .bool cv]) (by simp only [results, Tryd.results64]; go_simp) rfl ⟨id, gr, _, _, _, F6, cv, rfl, by omega, hO2, hD2⟩
        have hr2' : (r == 2) = false := by simpa using hr2
        clear hr2
        by_cases hr3 : r = 3
        · subst hr3
          clear hr0' hr1' hr2'
          have hsD := hD.size
          have hgw : w.heap.size + 1 ≤ w8.heap.size := by have := hX.lt; omega
          have y2 := hL.box.c2
          have y3 := hL.box.f2
          have y4 := hL.box.lt
          replace hL := hL.fresh hgw
          replace hX := (hX.alloc (.cells #[] 3)).other (e := gh) (o := 2) (by omega) (.slice (some ⟨w8.heap.size, 0, none⟩) 0 0)
          replace hD := (hD.alloc (.cells #[] 3)).set (p := ⟨gh, 2, none⟩) (by show w.heap.size ≤ gh; omega) (.slice (some ⟨w8.heap.size, 0, none⟩) 0 0)
          go_upto_region 20 with fail
          have hcomm : (w8.alloc (.cells #[] 3)).setCell ⟨gh, 2, none⟩ (.slice (some ⟨w8.heap.size, 0, none⟩) 0 0) = (w8.setCell ⟨gh, 2, none⟩ (.slice (some ⟨w8.heap.size, 0, none⟩) 0 0)).alloc (.cells #[] 3) := by go_simp
          rw [hcomm] at hL hX hD
          clear hcomm y2 y3 y4
          generalize (w8.setCell ⟨gh, 2, none⟩ (.slice (some ⟨w8.heap.size, 0, none⟩) 0 0)).alloc (.cells #[] 3) = w10 at hL hX hD ⊢
          generalize Value.slice (some ⟨w8.heap.size, 0, none⟩) 0 0 = v0 at hL ⊢
          clear hgw hsD hk4
          go_wp2
          go_loopw [9] (fun i wr => ∃ (k : Nat) (v : Value), i = .int .i64 k ∧ k ≤ 13 ∧ HeS wr (w.heap.size + 1) gh 3 id gr v k cv ∧ Box4 wr w.heap.size (.int .i64 0) (.int .i64 0) (.slice none 0 0) (.bool false) ∧ DrS w wr cu (m + 40 + k)) (fun i _ => 14 - (intOf i).toNat)
          case atStart => exact ⟨0, v0, rfl, by omega, hL, hX, hD.more (by omega)⟩
          case round =>
            clear hL hX hD
            obtain ⟨k, v, rfl, hk, hL, hX, hD⟩ := hrel
            go_wp2_with fail
            go_at_call 36
            refine (pick_any _ _ _ _ (by omega) (by decide) hD.cur).mono ?_
            rintro _ w11 ⟨q, rfl, qa, qb, hc, ht⟩
            rw [if_neg (by decide)] at qb
            replace hD := hD.draw hc ht
            replace hL := hL.tch ht (by omega)
            replace hX := hX.tch ht (by omega)
            clear hc ht
            by_cases hlt : (k : Int) < 12 + q
            · have hrow := hL.row
              obtain ⟨xs, ho, hx⟩ := hrow
              have ho2 := ho.alloc (.cells #[.int .i64 (30 - (k : Int))] 3)
              have y2 := hL.box.c2
              have y3 := hL.box.f2
              have yl := hL.box.lt
              have hsD := hD.size
              obtain ⟨A9, c9, rfl, -⟩ := own_form ho
              go_upto_region 22 with (at_builtin; refine wpList_append_own_at _ rfl _ _ 22 rfl (w.heap.size + 1) 3 i1 (.int .i64 0) 1 8 Tryd.underlying22 hi1 hy0 hy1 hy2 rfl (by decide) _ k _ rfl ho2 ⟨w11.heap.size, 0, none⟩ 1 1 [.int .i64 (30 - (k : Int))] rfl rfl (World.news_of_block (cs := #[.int .i64 (30 - (k : Int))]) (t := 3) (fr := (0, 0)) (heap_alloc_new w11 _)) (by simp [Value.oneCell']) (by simp only [maxLen]; omega) (by omega) (by simp; omega) ?_; intro v5 w5 hown5 hg5 _ hat5; obtain ⟨g5, cap5, hv5, hgl5, hgh5⟩ := hown5.form (by omega); subst hv5; have hB5 := (hL.alloc (.cells #[.int .i64 (30 - (k : Int))] 3)).box.grown hg5 hL.ne; have y4 := hB5.c2; have y5 := hB5.f2; have y6 := hB5.lt)
              have hb5 := grown_below ho2 hg5 (by simp; omega)
              have hL5 := (hL.alloc (.cells #[.int .i64 (30 - (k : Int))] 3)).app hx hown5 hg5 hat5
              have hX5 := ((hX.alloc (.cells #[.int .i64 (30 - (k : Int))] 3)).agr hg5.size (hb5.block _ (Nat.lt_succ_self _))).other (e := gh) (o := 2) (by have := hL.hB; omega) (.slice (some ⟨g5, 0, none⟩) (k + 1) cap5)
              have hD5 := ((hD.alloc (.cells #[.int .i64 (30 - (k : Int))] 3)).grow (hb5.mono (Nat.le_succ _))).set (p := ⟨gh, 2, none⟩) (by show w.heap.size ≤ gh; have := hL.hB; omega) (.slice (some ⟨g5, 0, none⟩) (k + 1) cap5)
              go_wp2
              go_roundw
              case rel => exact ⟨k + 1, _, by go_num, by omega, hL5, hX5, hD5.more (by omega)⟩
              case measure => simp [intOf]; omega
            · go_upto_region 24 with fail
              obtain ⟨A6, c6, F6, rfl, hO⟩ := hL.row.out
              skip
              obtain ⟨x0, x1, x2, x3, x4, x5, x6, x7, x8⟩ := hX
              obtain ⟨y0, y1, y2, y3, y4, -, -, -, -⟩ := hL.box
              have hsz := hD.size
              have hO2 := (hO.agr (w' := (((w11.setCell ⟨w.heap.size, 0, none⟩ (.int .i64 id)).setCell ⟨w.heap.size, 1, none⟩ (.int .i64 gr)).setCell ⟨w.heap.size, 2, none⟩ (.slice A6 k c6)).setCell ⟨w.heap.size, 3, none⟩ (.bool cv)) fun q h1 h2 => (Below.heap_setCell _ _ _ _ (by show q ≠ w.heap.size; omega)).trans ((Below.heap_setCell _ _ _ _ (by show q ≠ w.heap.size; omega)).trans ((Below.heap_setCell _ _ _ _ (by show q ≠ w.heap.size; omega)).trans (Below.heap_setCell _ _ _ _ (by show q ≠ w.heap.size; omega))))).mono (lo' := w.heap.size) (hi' := (((w11.setCell ⟨w.heap.size, 0, none⟩ (.int .i64 id)).setCell ⟨w.heap.size, 1, none⟩ (.int .i64 gr)).setCell ⟨w.heap.size, 2, none⟩ (.slice A6 k c6)).setCell ⟨w.heap.size, 3, none⟩ (.bool cv) |>.heap.size) (Nat.le_succ _) (by simp)
              have hD2 := ((((hD.set (p := ⟨w.heap.size, 0, none⟩) (Nat.le_refl _) (.int .i64 id)).set (p := ⟨w.heap.size, 1, none⟩) (Nat.le_refl _) (.int .i64 gr)).set (p := ⟨w.heap.size, 2, none⟩) (Nat.le_refl _) (.slice A6 k c6)).set (p := ⟨w.heap.size, 3, none⟩) (Nat.le_refl _) (.bool cv)).more (m' := m + 100) (by omega)
              clear hD hO hL
              go_wp2
              refine bodyPost_ret (v := .agg #[.int .i64 id, .int .i64 gr, .slice A6 k c6, .bool cv]) (by simp only [results, Tryd.results64]; go_simp) rfl ⟨id, gr, _, _, _, F6, cv, rfl, by omega, hO2, hD2⟩
        have hr3' : (r == 3) = false := by simpa using hr3
        clear hr3
        go_upto_region 24 with fail
        obtain ⟨A6, c6, F6, rfl, hO⟩ := hL.row.out
        skip
        obtain ⟨x0, x1, x2, x3, x4, x5, x6, x7, x8⟩ := hX
        obtain ⟨y0, y1, y2, y3, y4, -, -, -, -⟩ := hL.box
        have hsz := hD.size
        have hO2 := (hO.agr (w' := (((w8.setCell ⟨w.heap.size, 0, none⟩ (.int .i64 id)).setCell ⟨w.heap.size, 1, none⟩ (.int .i64 gr)).setCell ⟨w.heap.size, 2, none⟩ (.slice A6 k c6)).setCell ⟨w.heap.size, 3, none⟩ (.bool cv)) fun q h1 h2 => (Below.heap_setCell _ _ _ _ (by show q ≠ w.heap.size; omega)).trans ((Below.heap_setCell _ _ _ _ (by show q ≠ w.heap.size; omega)).trans ((Below.heap_setCell _ _ _ _ (by show q ≠ w.heap.size; omega)).trans (Below.heap_setCell _ _ _ _ (by show q ≠ w.heap.size; omega))))).mono (lo' := w.heap.size) (hi' := (((w8.setCell ⟨w.heap.size, 0, none⟩ (.int .i64 id)).setCell ⟨w.heap.size, 1, none⟩ (.int .i64 gr)).setCell ⟨w.heap.size, 2, none⟩ (.slice A6 k c6)).setCell ⟨w.heap.size, 3, none⟩ (.bool cv) |>.heap.size) (Nat.le_succ _) (by simp)
        have hD2 := ((((hD.set (p := ⟨w.heap.size, 0, none⟩) (Nat.le_refl _) (.int .i64 id)).set (p := ⟨w.heap.size, 1, none⟩) (Nat.le_refl _) (.int .i64 gr)).set (p := ⟨w.heap.size, 2, none⟩) (Nat.le_refl _) (.slice A6 k c6)).set (p := ⟨w.heap.size, 3, none⟩) (Nat.le_refl _) (.bool cv)).more (m' := m + 100) (by omega)
        clear hD hO hL
        go_wp2
        refine bodyPost_ret (v := .agg #[.int .i64 id, .int .i64 gr, .slice A6 k c6, .bool cv]) (by simp only [results, Tryd.results64]; go_simp) rfl ⟨id, gr, _, _, _, F6, cv, rfl, by omega, hO2, hD2⟩
end Go.Proofs.YtbmlglkdlialgaaDoor
