/-
  Contracts on heaps: a layer put on a heap, of the reference. Conditions: lengths up to 2^20.
-/
import Derived.Test.YtbmlglkdlialgaaDoorHpJ
namespace Go.Proofs.YtbmlglkdlialgaaDoor
open Go.RowKit

set_option maxRecDepth 20000 in
set_option maxHeartbeats 4000000 in
theorem spec_PutLayer_any (A : Option Addr) (n c : Nat) (H : Nat → HeapD) (id gd t : Int) (w : World) (hn : n ≤ 1048576) (hln : ∀ i, i < n → (H i).n ≤ 1048576) (h : HpR w A n H) :
    Calls Tryd.prog 13 #[.slice A n c, .int .i64 id, .int .i64 gd, .int .i64 t] w (HpP w (putR H n id gd t)) := by
  cases h1 : heapsB H n
  · rw [show putR H n id gd t = noH by simp [putR, h1]]
    go_enter Tryd.func13, Tryd.ntmps13
    go_wp2_with fail
    go_at_call 43
    refine (l7Find_any _ _ _ _ _ _ hn hln h).mono ?_
    rintro _ w1 ⟨rfl, hb1⟩
    rw [show findV H n id = -1 by simp [findV, h1]]
    go_wp2
    refine bodyPost_ret (v := .tuple #[.slice (some ⟨w1.heap.size, 0, none⟩) 0 0, .bool false]) (by simp only [results, Tryd.results13]; go_simp) rfl ⟨_, _, rfl, HpO.nil _ _ _ _ _, Below.alloc hb1 (Below.size hb1) _⟩
  cases hf : firstB (idB H id) n with
  | none =>
    rw [show putR H n id gd t = noH by simp [putR, h1, hf]]
    go_enter Tryd.func13, Tryd.ntmps13
    go_wp2_with fail
    go_at_call 43
    refine (l7Find_any _ _ _ _ _ _ hn hln h).mono ?_
    rintro _ w1 ⟨rfl, hb1⟩
    rw [show findV H n id = -1 by simp [findV, h1, hf, idxV]]
    go_wp2
    refine bodyPost_ret (v := .tuple #[.slice (some ⟨w1.heap.size, 0, none⟩) 0 0, .bool false]) (by simp only [results, Tryd.results13]; go_simp) rfl ⟨_, _, rfl, HpO.nil _ _ _ _ _, Below.alloc hb1 (Below.size hb1) _⟩
  | some a =>
    obtain ⟨ha, -, -⟩ := firstB_some hf
    have hh := h
    obtain ⟨B, cc, hS, hL⟩ := h
    have HLa := (hL a ha).1
    clear hL
    have hpos : 0 < n := by omega
    have ha0 : decide ((a : Int) < 0) = false := decide_eq_false (by omega)
    have HB := hide ((heapsB_at h1).2 a ha).1
    have HFV := hide (show findV H n id = (a : Int) by simp [findV, h1, hf, idxV])
    cases ht : takesB (H a) gd t
    · rw [show putR H n id gd t = noH by simp [putR, h1, hf, ht]]
      have ht' : takesB ⟨(H a).id, (H a).gr, (H a).n, (H a).L, (H a).cov⟩ gd t = false := ht
      go_enter Tryd.func13, Tryd.ntmps13
      go_wp2_with fail
      go_at_call 43
      refine (l7Find_any _ _ _ _ _ _ hn hln hh).mono ?_
      rintro _ w1 ⟨rfl, hb1⟩
      rw [HFV.out]
      obtain ⟨b, off, rfl, hbw, hc⟩ := hp_at hS hb1 hpos
      obtain ⟨c0, c1, c2, c3⟩ := hc a ha
      clear hc h1 hf
      go_wp2_with fail
      go_at_call 44
      refine (l7Can_any _ _ _ _ _ _ _ _ _ _ HB (Rd.below HLa hb1)).mono ?_
      rintro _ w3 ⟨rfl, hb3⟩
      rw [ht']
      have hbX := gr hb1 hb3
      go_wp2
      refine bodyPost_ret (v := .tuple #[.slice (some ⟨w3.heap.size, 0, none⟩) 0 0, .bool false]) (by simp only [results, Tryd.results13]; go_simp) rfl ⟨_, _, rfl, HpO.nil _ _ _ _ _, Below.alloc hbX (Below.size hbX) _⟩
    · rw [show putR H n id gd t = ⟨n, setH H a (putD (H a) t), true⟩ by simp [putR, h1, hf, ht]]
      have ht' : takesB ⟨(H a).id, (H a).gr, (H a).n, (H a).L, (H a).cov⟩ gd t = true := ht
      have hn12 := takesB_n ht
      obtain ⟨i0, hi0, hz0, hz1, hz2⟩ := info_parts info_int
      go_enter Tryd.func13, Tryd.ntmps13
      go_wp2_with fail
      go_at_call 43
      refine (l7Find_any _ _ _ _ _ _ hn hln hh).mono ?_
      rintro _ w1 ⟨rfl, hb1⟩
      rw [HFV.out]
      obtain ⟨b, off, rfl, hbw, hc⟩ := hp_at hS hb1 hpos
      obtain ⟨c0, c1, c2, c3⟩ := hc a ha
      clear hc h1 hf
      go_wp2_with fail
      go_at_call 44
      refine (l7Can_any _ _ _ _ _ _ _ _ _ _ HB (Rd.below HLa hb1)).mono ?_
      rintro _ w3 ⟨rfl, hb3⟩
      rw [ht']
      clear c0 c1 c2 c3 ht ht' HLa hS
      have hbB := gr hb1 hb3
      go_wp2_with fail
      go_at_call 45
      refine (l7Own_any _ _ _ _ _ hn hln (HpR.below hh hbB)).mono ?_
      rintro _ w4 ⟨A4, c4, V, rfl, hX, hb4⟩
      clear hh hb1 hb3 hbw
      have hsB := hbB.size
      obtain ⟨g, rfl, hg1, hg2⟩ := hX.form.resolve_left (by omega)
      have HX := hide hX
      obtain ⟨-, -, x1, x2⟩ := hX.top.at_ ha
      have e0 := x1 0 (by omega)
      have e1 := x1 1 (by omega)
      have e2 := x1 2 (by omega)
      have e3 := x1 3 (by omega)
      have f0 := x2 0 (by omega)
      have f1 := x2 1 (by omega)
      have f2 := x2 2 (by omega)
      have f3 := x2 3 (by omega)
      have ho := hX.lay.own a ha
      have hnp := hX.lay.np a ha
      have hlt := fun q => hX.lay.lt ha (g := q)
      simp only [Nat.zero_add, Nat.add_zero, hpV] at e0 e1 e2 e3 f0 f1 f2 f3
      clear x1 x2 hX
      obtain ⟨A5, c5, hVa, -⟩ := own_tab ho
      have HVa := hide hVa
      rw [hVa] at e2
      have ho5 := hVa ▸ ho
      have hnp' : Value.ownBlock (.slice A5 (H a).n c5) ≠ some g := hVa ▸ hnp
      have hlt' : ∀ q, Value.ownBlock (.slice A5 (H a).n c5) = some q → q < w4.heap.size := fun q hq => hlt q (hVa ▸ hq)
      clear ho hVa hnp hlt
      have hs4 := hb4.size
      go_upto_region 6 with fail
      have hbW : Below w4.heap.size w4 (w4.alloc (.cells #[.int .i64 (H a).id, .int .i64 (H a).gr, .slice A5 (H a).n c5, .bool (H a).cov] 28)) := (Below.refl _ _).alloc (Nat.le_refl _) _
      have hsW : (w4.alloc (.cells #[.int .i64 (H a).id, .int .i64 (H a).gr, .slice A5 (H a).n c5, .bool (H a).cov] 28)).heap.size = w4.heap.size + 1 := by simp
      have b0 : World.cell? (w4.alloc (.cells #[.int .i64 (H a).id, .int .i64 (H a).gr, .slice A5 (H a).n c5, .bool (H a).cov] 28)) ⟨w4.heap.size, 0, none⟩ = some (.int .i64 (H a).id) := by rw [World.cell?_alloc_new]; rfl
      have b1 : World.cell? (w4.alloc (.cells #[.int .i64 (H a).id, .int .i64 (H a).gr, .slice A5 (H a).n c5, .bool (H a).cov] 28)) ⟨w4.heap.size, 1, none⟩ = some (.int .i64 (H a).gr) := by rw [World.cell?_alloc_new]; rfl
      have b2 : World.cell? (w4.alloc (.cells #[.int .i64 (H a).id, .int .i64 (H a).gr, .slice A5 (H a).n c5, .bool (H a).cov] 28)) ⟨w4.heap.size, 2, none⟩ = some (.slice A5 (H a).n c5) := by rw [World.cell?_alloc_new]; rfl
      have b3 : World.cell? (w4.alloc (.cells #[.int .i64 (H a).id, .int .i64 (H a).gr, .slice A5 (H a).n c5, .bool (H a).cov] 28)) ⟨w4.heap.size, 3, none⟩ = some (.bool (H a).cov) := by rw [World.cell?_alloc_new]; rfl
      have p2 : World.frozen? (w4.alloc (.cells #[.int .i64 (H a).id, .int .i64 (H a).gr, .slice A5 (H a).n c5, .bool (H a).cov] 28)) ⟨w4.heap.size, 2, none⟩ = false := by exact World.frozen?_alloc_new _ _ _ _
      generalize w4.alloc (.cells #[.int .i64 (H a).id, .int .i64 (H a).gr, .slice A5 (H a).n c5, .bool (H a).cov] 28) = W6 at hbW hsW b0 b1 b2 b3 p2 ⊢
      clear e0 e1 e2 e3
      have g0 := (hbW.frozen (p := ⟨g, a * 4, none⟩) hg2).trans f0
      have g1 := (hbW.frozen (p := ⟨g, a * 4 + 1, none⟩) hg2).trans f1
      have g2 := (hbW.frozen (p := ⟨g, a * 4 + 2, none⟩) hg2).trans f2
      have g3 := (hbW.frozen (p := ⟨g, a * 4 + 3, none⟩) hg2).trans f3
      obtain ⟨-, -, y1, -⟩ := (HX.out.below hbW).top.at_ ha
      have t0 := y1 0 (by omega)
      have t1 := y1 1 (by omega)
      have t2 := y1 2 (by omega)
      have t3 := y1 3 (by omega)
      simp only [Nat.zero_add, Nat.add_zero, hpV, HVa.out] at t0 t1 t2 t3
      clear f0 f1 f2 f3 y1
      have hX6 := HX.out.below hbW
      have hev : ∀ i, i < n → (V i).ownBlock ≠ some w4.heap.size := fun i hi e => by have := HX.out.lay.lt hi e; omega
      have hne : w4.heap.size ≠ g := by omega
      have HX6 := hide hX6
      have HEV := hide hev
      clear hX6 hev HX
      have HSN := hide (rowL_snoc (H a).n (H a).L t)
      have ho6 := (own_below ho5 hbW).alloc (.cells #[.int .i64 t] 3)
      clear ho5
      have hz6 : w4.heap.size < W6.heap.size := by omega
      have hg6 : g < W6.heap.size := by omega
      have hnw : Value.ownBlock (.slice A5 (H a).n c5) ≠ some w4.heap.size := fun e => by have := hlt' _ e; omega
      have hs6 : w3.heap.size ≤ W6.heap.size := by omega
      clear hsW
      go_wp2_with (at_builtin; refine wpList_append_own_at _ rfl _ _ 22 rfl w3.heap.size 3 i0 (.int .i64 0) 1 8 Tryd.underlying22 hi0 hz0 hz1 hz2 rfl (by decide) _ (H a).n _ rfl ho6 ⟨W6.heap.size, 0, none⟩ 1 1 [.int .i64 t] rfl rfl (World.news_of_block (cs := #[.int .i64 t]) (t := 3) (fr := (0, 0)) (heap_alloc_new W6 _)) (by simp [Value.oneCell']) (by simp only [maxLen]; omega) (by omega) (by simp <;> omega) ?_; intro v5 w5 hown5 hg5 _ hv5; have hb5 := grown_below ho6 hg5 (by simp <;> omega); rw [← HSN.out] at hown5; have FR := fun (q j : Nat) (u : Value) (hq : q < W6.heap.size) (hr : Value.ownBlock (.slice A5 (H a).n c5) ≠ some q) (hu : W6.cell? ⟨q, j, none⟩ = some u) => (hg5.cell_far ⟨q, j, none⟩ (by simp <;> omega) (fun e => hr e.symm)).trans ((World.cell?_alloc_past (w := W6) _ _ _ hq).trans hu); have FF := fun (q j : Nat) (hq : q < W6.heap.size) (hr : Value.ownBlock (.slice A5 (H a).n c5) ≠ some q) (hu : W6.frozen? ⟨q, j, none⟩ = false) => (hg5.frozen_far ⟨q, j, none⟩ (by simp <;> omega) (fun e => hr e.symm)).trans ((World.frozen?_alloc_past (w := W6) _ _ _ hq).trans hu); have q0 := FR _ _ _ hz6 hnw b0; have q1 := FR _ _ _ hz6 hnw b1; have q2 := FR _ _ _ hz6 hnw b2; have q3 := FR _ _ _ hz6 hnw b3; have q4 := FF _ _ hz6 hnw p2; have r0 := FF _ _ hg6 hnp' g0; have r1 := FF _ _ hg6 hnp' g1; have r2 := FF _ _ hg6 hnp' g2; have r3 := FF _ _ hg6 hnp' g3; have s0 := FR _ _ _ hg6 hnp' t0; have s1 := FR _ _ _ hg6 hnp' t1; have s2 := FR _ _ _ hg6 hnp' t2; have s3 := FR _ _ _ hg6 hnp' t3; clear FR FF; obtain ⟨A6, c6, rfl, -⟩ := own_tab hown5)
      have hX7 := HX6.out.below ((Below.refl _ _).alloc (Nat.le_refl _) (.cells #[.int .i64 t] 3))
      have hgr5 : World.grownBy (W6.alloc (.cells #[.int .i64 t] 3)) w5 (V a).ownBlock := by rw [HVa.out]; exact hg5
      have hXE := hX7.turn4 (d := putD (H a) t) (e := w4.heap.size) ha hgr5 hown5 (fun q hq => by
        rw [HVa.out]
        rcases hv5 with hv | hv
        · exact .inl (hv.symm.trans hq)
        · rw [hv] at hq; injection hq with hq; exact .inr (by omega)) rfl rfl rfl (by simp; omega) HEV.out hne
      have hbE : Below w.heap.size w w5 := (((gr hbB hb4).trans (hbW.mono (by omega))).alloc (by omega) (.cells #[.int .i64 t] 3)).trans (hb5.mono hsB)
      have hbE2 := ((((hbE.setCell (p := ⟨w4.heap.size, 2, none⟩) (by show _ ≤ w4.heap.size; omega) (.slice A6 ((H a).n + 1) c6)).setCell (p := ⟨g, a * 4, none⟩) (by show _ ≤ g; omega) (.int .i64 (H a).id)).setCell (p := ⟨g, a * 4 + 1, none⟩) (by show _ ≤ g; omega) (.int .i64 (H a).gr)).setCell (p := ⟨g, a * 4 + 2, none⟩) (by show _ ≤ g; omega) (.slice A6 ((H a).n + 1) c6)).setCell (p := ⟨g, a * 4 + 3, none⟩) (by show _ ≤ g; omega) (.bool (H a).cov)
      refine bodyPost_ret (v := .tuple #[.slice (some ⟨g, 0, none⟩) n c4, .bool true]) (by simp only [results, Tryd.results13]; go_simp) rfl ⟨_, _, rfl, hXE.hpO.mono hsB (Nat.le_refl _), hbE2⟩
end Go.Proofs.YtbmlglkdlialgaaDoor
