/-
  Contracts on heaps: tons taken from a heap, of the reference. Conditions: lengths up to 2^20.
-/
import Derived.Test.YtbmlglkdlialgaaDoorHpN
namespace Go.Proofs.YtbmlglkdlialgaaDoor
open Go.RowKit

set_option maxRecDepth 20000 in
set_option maxHeartbeats 4000000 in
theorem spec_TakeTons_any (A : Option Addr) (n c : Nat) (H : Nat → HeapD) (id t : Int) (w : World) (hn : n ≤ 1048576) (hln : ∀ i, i < n → (H i).n ≤ 1048576) (h : HpR w A n H) :
    Calls Tryd.prog 22 #[.slice A n c, .int .i64 id, .int .i64 t] w (HpP w (takeR H n id t)) := by
  cases h1 : heapsB H n
  · rw [show takeR H n id t = noH by simp [takeR, h1]]
    go_enter Tryd.func22, Tryd.ntmps22
    go_wp2_with fail
    go_at_call 43
    refine (l7Find_any _ _ _ _ _ _ hn hln h).mono ?_
    rintro _ w1 ⟨rfl, hb1⟩
    rw [show findV H n id = -1 by simp [findV, h1]]
    go_wp2
    refine bodyPost_ret (v := .tuple #[.slice (some ⟨w1.heap.size, 0, none⟩) 0 0, .bool false]) (by simp only [results, Tryd.results22]; go_simp) rfl ⟨_, _, rfl, HpO.nil _ _ _ _ _, Below.alloc hb1 (Below.size hb1) _⟩
  cases hf : firstB (idB H id) n with
  | none =>
    rw [show takeR H n id t = noH by simp [takeR, h1, hf]]
    go_enter Tryd.func22, Tryd.ntmps22
    go_wp2_with fail
    go_at_call 43
    refine (l7Find_any _ _ _ _ _ _ hn hln h).mono ?_
    rintro _ w1 ⟨rfl, hb1⟩
    rw [show findV H n id = -1 by simp [findV, h1, hf, idxV]]
    go_wp2
    refine bodyPost_ret (v := .tuple #[.slice (some ⟨w1.heap.size, 0, none⟩) 0 0, .bool false]) (by simp only [results, Tryd.results22]; go_simp) rfl ⟨_, _, rfl, HpO.nil _ _ _ _ _, Below.alloc hb1 (Below.size hb1) _⟩
  | some a =>
    obtain ⟨ha, -, -⟩ := firstB_some hf
    have hh := h
    obtain ⟨B, cc, hS, hL⟩ := h
    have HLa := (hL a ha).1
    clear hL
    have hpos : 0 < n := by omega
    have ha0 : decide ((a : Int) < 0) = false := decide_eq_false (by omega)
    have HT := tons_hid h1 ha
    have HLL := lay_hid h1 ha
    have hla := hln a ha
    have HFV := hide (show findV H n id = (a : Int) by simp [findV, h1, hf, idxV])
    cases h2 : inB t 1 6000
    · rw [show takeR H n id t = noH by simp [takeR, h1, hf, h2]]
      clear h1 hf
      go_enter Tryd.func22, Tryd.ntmps22
      go_wp2_with fail
      go_at_call 43
      refine (l7Find_any _ _ _ _ _ _ hn hln hh).mono ?_
      rintro _ w1 ⟨rfl, hb1⟩
      rw [HFV.out]
      go_wp2_with fail
      go_at_call 55
      refine (l1In_any _ _ _ _).mono ?_
      rintro _ _ ⟨rfl, rfl⟩
      rw [h2]
      go_wp2
      refine bodyPost_ret (v := .tuple #[.slice (some ⟨w1.heap.size, 0, none⟩) 0 0, .bool false]) (by simp only [results, Tryd.results22]; go_simp) rfl ⟨_, _, rfl, HpO.nil _ _ _ _ _, Below.alloc hb1 (Below.size hb1) _⟩
    · obtain ⟨ht1, ht2⟩ := inB_true h2
      by_cases h3 : t ≤ tonsH (H a).n (H a).L
      rotate_left
      · rw [show takeR H n id t = noH by simp [takeR, h1, hf, h2, h3]]
        have h3' : decide (tonsH (H a).n (H a).L < t) = true := decide_eq_true (by omega)
        clear h3 h1 hf
        go_enter Tryd.func22, Tryd.ntmps22
        go_wp2_with fail
        go_at_call 43
        refine (l7Find_any _ _ _ _ _ _ hn hln hh).mono ?_
        rintro _ w1 ⟨rfl, hb1⟩
        rw [HFV.out]
        go_wp2_with fail
        go_at_call 55
        refine (l1In_any _ _ _ _).mono ?_
        rintro _ _ ⟨rfl, rfl⟩
        rw [h2]
        obtain ⟨b, off, rfl, hbw, hc⟩ := hp_at hS hb1 hpos
        obtain ⟨c0, c1, c2, c3⟩ := hc a ha
        clear hc
        go_wp2_with fail
        go_at_call 58
        refine (l7Tons_any _ _ _ _ _ _ _ _ hla (Rd.below HLa hb1) HT).mono ?_
        rintro _ w3 ⟨rfl, hb3⟩
        generalize tonsH (H a).n (H a).L = S at h3' ⊢
        have hbX := gr hb1 hb3
        go_wp2
        refine bodyPost_ret (v := .tuple #[.slice (some ⟨w3.heap.size, 0, none⟩) 0 0, .bool false]) (by simp only [results, Tryd.results22]; go_simp) rfl ⟨_, _, rfl, HpO.nil _ _ _ _ _, Below.alloc hbX (Below.size hbX) _⟩
      · rw [show takeR H n id t = ⟨n, setH H a (takeD (H a) t), true⟩ by simp [takeR, h1, hf, h2, h3]]
        have h3' : decide (tonsH (H a).n (H a).L < t) = false := decide_eq_false (by omega)
        clear h3 h1 hf
        go_enter Tryd.func22, Tryd.ntmps22
        go_wp2_with fail
        go_at_call 43
        refine (l7Find_any _ _ _ _ _ _ hn hln hh).mono ?_
        rintro _ w1 ⟨rfl, hb1⟩
        rw [HFV.out]
        go_wp2_with fail
        go_at_call 55
        refine (l1In_any _ _ _ _).mono ?_
        rintro _ _ ⟨rfl, rfl⟩
        rw [h2]
        obtain ⟨b, off, rfl, hbw, hc⟩ := hp_at hS hb1 hpos
        obtain ⟨c0, c1, c2, c3⟩ := hc a ha
        clear hc
        go_wp2_with fail
        go_at_call 58
        refine (l7Tons_any _ _ _ _ _ _ _ _ hla (Rd.below HLa hb1) HT).mono ?_
        rintro _ w3 ⟨rfl, hb3⟩
        generalize tonsH (H a).n (H a).L = S at h3' ⊢
        clear c0 c1 c2 c3 h2 HLa hS HT
        have hbB := gr hb1 hb3
        go_wp2_with fail
        go_at_call 45
        refine (l7Own_any _ _ _ _ _ hn hln (HpR.below hh hbB)).mono ?_
        rintro _ w4 ⟨A4, c4, V, rfl, hX, hb4⟩
        clear hh hb1 hb3 hbw
        have hsB := hbB.size
        obtain ⟨g, rfl, hg1, hg2⟩ := hX.form.resolve_left (by omega)
        have HX := hide hX
        obtain ⟨-, -, x1, x2⟩ := hX.top.at_ ha
        have e0 := x1 0 (by omega)
        have e1 := x1 1 (by omega)
        have e2 := x1 2 (by omega)
        have e3 := x1 3 (by omega)
        have f0 := x2 0 (by omega)
        have f1 := x2 1 (by omega)
        have f2 := x2 2 (by omega)
        have f3 := x2 3 (by omega)
        have ho := hX.lay.own a ha
        have hnp := hX.lay.np a ha
        have hlt := fun q => hX.lay.lt ha (g := q)
        simp only [Nat.zero_add, Nat.add_zero, hpV] at e0 e1 e2 e3 f0 f1 f2 f3
        clear x1 x2 hX
        obtain ⟨A5, c5, hVa, -⟩ := own_tab ho
        have HVa := hide hVa
        rw [hVa] at e2
        have ho5 := hVa ▸ ho
        have hnp' : Value.ownBlock (.slice A5 (H a).n c5) ≠ some g := hVa ▸ hnp
        have hlt' : ∀ q, Value.ownBlock (.slice A5 (H a).n c5) = some q → q < w4.heap.size := fun q hq => hlt q (hVa ▸ hq)
        clear ho hVa hnp hlt
        have hs4 := hb4.size
        go_upto_region 6 with fail
        have hbW : Below w4.heap.size w4 (w4.alloc (.cells #[.int .i64 (H a).id, .int .i64 (H a).gr, .slice A5 (H a).n c5, .bool (H a).cov] 28)) := (Below.refl _ _).alloc (Nat.le_refl _) _
        have hsW : (w4.alloc (.cells #[.int .i64 (H a).id, .int .i64 (H a).gr, .slice A5 (H a).n c5, .bool (H a).cov] 28)).heap.size = w4.heap.size + 1 := by simp
        have b0 : World.cell? (w4.alloc (.cells #[.int .i64 (H a).id, .int .i64 (H a).gr, .slice A5 (H a).n c5, .bool (H a).cov] 28)) ⟨w4.heap.size, 0, none⟩ = some (.int .i64 (H a).id) := by rw [World.cell?_alloc_new]; rfl
        have b1 : World.cell? (w4.alloc (.cells #[.int .i64 (H a).id, .int .i64 (H a).gr, .slice A5 (H a).n c5, .bool (H a).cov] 28)) ⟨w4.heap.size, 1, none⟩ = some (.int .i64 (H a).gr) := by rw [World.cell?_alloc_new]; rfl
        have b2 : World.cell? (w4.alloc (.cells #[.int .i64 (H a).id, .int .i64 (H a).gr, .slice A5 (H a).n c5, .bool (H a).cov] 28)) ⟨w4.heap.size, 2, none⟩ = some (.slice A5 (H a).n c5) := by rw [World.cell?_alloc_new]; rfl
        have b3 : World.cell? (w4.alloc (.cells #[.int .i64 (H a).id, .int .i64 (H a).gr, .slice A5 (H a).n c5, .bool (H a).cov] 28)) ⟨w4.heap.size, 3, none⟩ = some (.bool (H a).cov) := by rw [World.cell?_alloc_new]; rfl
        have p2 : World.frozen? (w4.alloc (.cells #[.int .i64 (H a).id, .int .i64 (H a).gr, .slice A5 (H a).n c5, .bool (H a).cov] 28)) ⟨w4.heap.size, 2, none⟩ = false := by exact World.frozen?_alloc_new _ _ _ _
        generalize w4.alloc (.cells #[.int .i64 (H a).id, .int .i64 (H a).gr, .slice A5 (H a).n c5, .bool (H a).cov] 28) = W6 at hbW hsW b0 b1 b2 b3 p2 ⊢
        clear e0 e1 e2 e3
        have g0 := (hbW.frozen (p := ⟨g, a * 4, none⟩) hg2).trans f0
        have g1 := (hbW.frozen (p := ⟨g, a * 4 + 1, none⟩) hg2).trans f1
        have g2 := (hbW.frozen (p := ⟨g, a * 4 + 2, none⟩) hg2).trans f2
        have g3 := (hbW.frozen (p := ⟨g, a * 4 + 3, none⟩) hg2).trans f3
        obtain ⟨-, -, y1, -⟩ := (HX.out.below hbW).top.at_ ha
        have t0 := y1 0 (by omega)
        have t1 := y1 1 (by omega)
        have t2 := y1 2 (by omega)
        have t3 := y1 3 (by omega)
        simp only [Nat.zero_add, Nat.add_zero, hpV, HVa.out] at t0 t1 t2 t3
        clear f0 f1 f2 f3 y1
        have hX6 := HX.out.below hbW
        have hev : ∀ i, i < n → (V i).ownBlock ≠ some w4.heap.size := fun i hi e => by have := HX.out.lay.lt hi e; omega
        have hne : w4.heap.size ≠ g := by omega
        have HX6 := hide hX6
        have HEV := hide hev
        clear hX6 hev HX
        have hz6 : w4.heap.size < W6.heap.size := by omega
        have hg6 : g < W6.heap.size := by omega
        have hnw : Value.ownBlock (.slice A5 (H a).n c5) ≠ some w4.heap.size := fun e => by have := hlt' _ e; omega
        have hs6 : w3.heap.size ≤ W6.heap.size := by omega
        obtain ⟨A9, c9, e9, hO5⟩ := own_tab ho5
        injection e9 with e9 _ e10
        subst e9 e10
        have hr5 := Rd.below (hO5.sl.rd (Nat.le_refl _)) hbW
        clear hO5 ho5 hsW
        go_wp2_with fail
        go_at_call 59
        refine (l7Take_any _ _ _ _ _ _ hla (by omega) ht2 HLL hr5).mono ?_
        rintro _ w5 ⟨v5, rfl, hown5, hb5⟩
        clear hr5
        have FR := fun (q j : Nat) (u : Value) (hq : q < W6.heap.size) (hu : W6.cell? ⟨q, j, none⟩ = some u) => (hb5.cell (p := ⟨q, j, none⟩) hq).trans hu
        have FF := fun (q j : Nat) (hq : q < W6.heap.size) (hu : W6.frozen? ⟨q, j, none⟩ = false) => (hb5.frozen (p := ⟨q, j, none⟩) hq).trans hu
        have q0 := FR _ _ _ hz6 b0
        have q1 := FR _ _ _ hz6 b1
        have q2 := FR _ _ _ hz6 b2
        have q3 := FR _ _ _ hz6 b3
        have q4 := FF _ _ hz6 p2
        have r0 := FF _ _ hg6 g0
        have r1 := FF _ _ hg6 g1
        have r2 := FF _ _ hg6 g2
        have r3 := FF _ _ hg6 g3
        have s0 := FR _ _ _ hg6 t0
        have s1 := FR _ _ _ hg6 t1
        have s2 := FR _ _ _ hg6 t2
        have s3 := FR _ _ _ hg6 t3
        clear FR FF b0 b1 b2 b3 p2 g0 g1 g2 g3 t0 t1 t2 t3
        obtain ⟨A6, c6, rfl, -⟩ := own_tab hown5
        have hXE := HX6.out.turn4 (d := takeD (H a) t) (e := w4.heap.size) ha (grown_of_below hb5 _) (own_mono hown5 (by omega)) (fun q hq => .inr (hown5.lt q hq).1) rfl rfl rfl hz6 HEV.out hne
        have hbE : Below w.heap.size w w5 := ((gr hbB hb4).trans (hbW.mono (by omega))).trans (hb5.mono (by omega))
        have hbE2 := ((((hbE.setCell (p := ⟨w4.heap.size, 2, none⟩) (by show _ ≤ w4.heap.size; omega) (.slice A6 (takeF (H a).L (H a).n t).1 c6)).setCell (p := ⟨g, a * 4, none⟩) (by show _ ≤ g; omega) (.int .i64 (H a).id)).setCell (p := ⟨g, a * 4 + 1, none⟩) (by show _ ≤ g; omega) (.int .i64 (H a).gr)).setCell (p := ⟨g, a * 4 + 2, none⟩) (by show _ ≤ g; omega) (.slice A6 (takeF (H a).L (H a).n t).1 c6)).setCell (p := ⟨g, a * 4 + 3, none⟩) (by show _ ≤ g; omega) (.bool (H a).cov)
        have hg7 : g < w5.heap.size := by have := hb5.size; omega
        have hz7 : w4.heap.size < w5.heap.size := by have := hb5.size; omega
        clear hown5
        go_wp2
        refine bodyPost_ret (v := .tuple #[.slice (some ⟨g, 0, none⟩) n c4, .bool true]) (by simp only [results, Tryd.results22]; go_simp) rfl ⟨_, _, rfl, hXE.hpO.mono hsB (Nat.le_refl _), hbE2⟩
end Go.Proofs.YtbmlglkdlialgaaDoor
