/-
  Contracts on heaps: tons taken from a heap, of the program and of the reference. Conditions: lengths up to 2^20.
-/
import Derived.Test.YtbmlglkdlialgaaDoorHpK
import Derived.Test.YtbmlglkdlialgaaDoorHpI
namespace Go.Proofs.YtbmlglkdlialgaaDoor
open Go.RowKit

theorem grown_of_below {w w' : World} (h : Below w.heap.size w w') (row : Option Nat) : w.grownBy w' row := ⟨h.os, h.tape, h.output, h.size, fun k hk _ => h.block k hk⟩
theorem lay_hid {H : Nat → HeapD} {n a : Nat} (h : heapsB H n = true) (ha : a < n) : Hid (∀ k, k < (H a).n → 1 ≤ (H a).L k 0 ∧ (H a).L k 0 ≤ 500) :=
  hide fun k hk => ((heapB_at ((heapsB_at h).2 a ha).1).2.2.2 k hk).1

set_option maxRecDepth 20000 in
set_option maxHeartbeats 4000000 in
theorem TakeTons_any (A : Option Addr) (n c : Nat) (H : Nat → HeapD) (id t : Int) (w : World) (hn : n ≤ 1048576) (hln : ∀ i, i < n → (H i).n ≤ 1048576) (h : HpR w A n H) :
    Calls Tryd.prog 16 #[.slice A n c, .int .i64 id, .int .i64 t] w (HpP w (takeR H n id t)) := by
  cases h1 : heapsB H n
  · rw [show takeR H n id t = noH by simp [takeR, h1]]
    go_enter Tryd.func16, Tryd.ntmps16
    go_wp2_with fail
    go_at_call 40
    refine (heapAt_any _ _ _ _ _ _ hn h).mono ?_
    rintro _ w1 ⟨rfl, hb1⟩
    generalize idxV (firstB (idB H id) n) = r
    go_wp2_with fail
    go_at_call 17
    refine (AreHeaps_any _ _ _ _ _ hn hln (HpR.below h hb1)).mono ?_
    rintro _ w2 ⟨rfl, hb2⟩
    rw [h1]
    go_wp2
    refine bodyPost_ret (v := .tuple #[.slice none 0 0, .bool false]) (by simp only [results, Tryd.results16]; go_simp) rfl ⟨_, _, rfl, HpO.nil _ _ _ _ _, gr hb1 hb2⟩
  cases hf : firstB (idB H id) n with
  | none =>
    rw [show takeR H n id t = noH by simp [takeR, h1, hf]]
    go_enter Tryd.func16, Tryd.ntmps16
    go_wp2_with fail
    go_at_call 40
    refine (heapAt_any _ _ _ _ _ _ hn h).mono ?_
    rintro _ w1 ⟨rfl, hb1⟩
    rw [hf, show idxV none = -1 from rfl]
    go_wp2_with fail
    go_at_call 17
    refine (AreHeaps_any _ _ _ _ _ hn hln (HpR.below h hb1)).mono ?_
    rintro _ w2 ⟨rfl, hb2⟩
    rw [h1]
    go_wp2
    refine bodyPost_ret (v := .tuple #[.slice none 0 0, .bool false]) (by simp only [results, Tryd.results16]; go_simp) rfl ⟨_, _, rfl, HpO.nil _ _ _ _ _, gr hb1 hb2⟩
  | some a =>
    obtain ⟨ha, -, -⟩ := firstB_some hf
    have hh := h
    obtain ⟨B, cc, hS, hL⟩ := h
    have HLa := (hL a ha).1
    clear hL
    have hpos : 0 < n := by omega
    have ha0 : decide ((a : Int) < 0) = false := decide_eq_false (by omega)
    have HT := tons_hid h1 ha
    have HLL := lay_hid h1 ha
    cases h2 : inB t 1 6000
    · rw [show takeR H n id t = noH by simp [takeR, h1, hf, h2]]
      go_enter Tryd.func16, Tryd.ntmps16
      go_wp2_with fail
      go_at_call 40
      refine (heapAt_any _ _ _ _ _ _ hn hh).mono ?_
      rintro _ w1 ⟨rfl, hb1⟩
      rw [hf, show idxV (some a) = (a : Int) from rfl]
      go_wp2_with fail
      go_at_call 17
      refine (AreHeaps_any _ _ _ _ _ hn hln (HpR.below hh hb1)).mono ?_
      rintro _ w2 ⟨rfl, hb2⟩
      rw [h1]
      have hbA := gr hb1 hb2
      go_wp2_with fail
      go_at_call 49
      refine (within_any _ _ _ _).mono ?_
      rintro _ _ ⟨rfl, rfl⟩
      rw [h2]
      go_wp2
      refine bodyPost_ret (v := .tuple #[.slice none 0 0, .bool false]) (by simp only [results, Tryd.results16]; go_simp) rfl ⟨_, _, rfl, HpO.nil _ _ _ _ _, hbA⟩
    · obtain ⟨ht1, ht2⟩ := inB_true h2
      have hla := hln a ha
      by_cases h3 : t ≤ tonsH (H a).n (H a).L
      rotate_left
      · rw [show takeR H n id t = noH by simp [takeR, h1, hf, h2, h3]]
        have h3' : decide (sumI (fun j => (H a).L j 0) (H a).n < t) = true := decide_eq_true (by unfold tonsH at h3; omega)
        clear h3
        go_enter Tryd.func16, Tryd.ntmps16
        go_wp2_with fail
        go_at_call 40
        refine (heapAt_any _ _ _ _ _ _ hn hh).mono ?_
        rintro _ w1 ⟨rfl, hb1⟩
        rw [hf, show idxV (some a) = (a : Int) from rfl]
        go_wp2_with fail
        go_at_call 17
        refine (AreHeaps_any _ _ _ _ _ hn hln (HpR.below hh hb1)).mono ?_
        rintro _ w2 ⟨rfl, hb2⟩
        rw [h1]
        have hbA := gr hb1 hb2
        go_wp2_with fail
        go_at_call 49
        refine (within_any _ _ _ _).mono ?_
        rintro _ _ ⟨rfl, rfl⟩
        rw [h2]
        obtain ⟨b, off, rfl, hbw, hc⟩ := hp_at hS hbA hpos
        obtain ⟨c0, c1, c2, c3⟩ := hc a ha
        clear hc
        go_wp2_with fail
        go_at_call 48
        refine (sumOf_any _ _ _ _ _ hla (Rd.below HLa hbA) HT).mono ?_
        rintro _ _ ⟨rfl, rfl⟩
        generalize sumI (fun j => (H a).L j 0) (H a).n = S at h3'
        go_wp2
        refine bodyPost_ret (v := .tuple #[.slice none 0 0, .bool false]) (by simp only [results, Tryd.results16]; go_simp) rfl ⟨_, _, rfl, HpO.nil _ _ _ _ _, hbA⟩
      · rw [show takeR H n id t = ⟨n, setH H a (takeD (H a) t), true⟩ by simp [takeR, h1, hf, h2, h3]]
        have h3' : decide (sumI (fun j => (H a).L j 0) (H a).n < t) = false := decide_eq_false (by unfold tonsH at h3; omega)
        clear h3
        go_enter Tryd.func16, Tryd.ntmps16
        go_wp2_with fail
        go_at_call 40
        refine (heapAt_any _ _ _ _ _ _ hn hh).mono ?_
        rintro _ w1 ⟨rfl, hb1⟩
        rw [hf, show idxV (some a) = (a : Int) from rfl]
        go_wp2_with fail
        go_at_call 17
        refine (AreHeaps_any _ _ _ _ _ hn hln (HpR.below hh hb1)).mono ?_
        rintro _ w2 ⟨rfl, hb2⟩
        rw [h1]
        have hbB := gr hb1 hb2
        go_wp2_with fail
        go_at_call 49
        refine (within_any _ _ _ _).mono ?_
        rintro _ _ ⟨rfl, rfl⟩
        rw [h2]
        obtain ⟨b, off, rfl, hbw, hc⟩ := hp_at hS hbB hpos
        obtain ⟨c0, c1, c2, c3⟩ := hc a ha
        clear hc
        go_wp2_with fail
        go_at_call 48
        refine (sumOf_any _ _ _ _ _ hla (Rd.below HLa hbB) HT).mono ?_
        rintro _ _ ⟨rfl, rfl⟩
        generalize sumI (fun j => (H a).L j 0) (H a).n = S at h3'
        clear c0 c1 c2 c3 h1 h2 hf HLa hS HT
        go_wp2_with fail
        go_at_call 42
        refine (copyHeaps_any _ _ _ _ _ hn hln (HpR.below hh hbB)).mono ?_
        rintro _ w4 ⟨A4, c4, V, rfl, hX, hb4⟩
        clear hh hb1 hb2 hbw
        obtain ⟨g, rfl, hg1, hg2⟩ := hX.form.resolve_left (by omega)
        have HX := hide hX
        obtain ⟨-, -, x1, x2⟩ := hX.top.at_ ha
        have e2 := x1 2 (by omega)
        have f2 := x2 2 (by omega)
        have ho := hX.lay.own a ha
        simp only [Nat.zero_add, hpV] at e2 f2
        clear x1 x2 hX
        obtain ⟨A5, c5, hVa, hO5⟩ := own_tab ho
        have HVa := hide hVa
        rw [hVa] at e2
        clear ho hVa
        have hr5 := hO5.sl.rd (Nat.le_refl _)
        clear hO5
        have hsB := hbB.size
        have hs4 := hb4.size
        go_wp2_with fail
        go_at_call 50
        refine (without_any _ _ _ _ _ _ hla (by omega) ht2 HLL hr5).mono ?_
        rintro _ w5 ⟨v5, rfl, hown5, hb5⟩
        have e5 := (hb5.cell (p := ⟨g, a * 4 + 2, none⟩) hg2).trans e2
        have f5 := (hb5.frozen (p := ⟨g, a * 4 + 2, none⟩) hg2).trans f2
        clear e2 f2 hr5
        obtain ⟨A6, c6, rfl, -⟩ := own_tab hown5
        have hXE := HX.out.turn (d := takeD (H a) t) ha (grown_of_below hb5 _) (own_mono hown5 (by omega)) (fun q hq => .inr (hown5.lt q hq).1) rfl rfl rfl
        have hg6 : g < w5.heap.size := by have := hb5.size; omega
        have hbE : Below w.heap.size w (w5.setCell ⟨g, a * 4 + 2, none⟩ (.slice A6 (takeF (H a).L (H a).n t).1 c6)) := ((gr hbB hb4).trans (hb5.mono (by omega))).setCell (p := ⟨g, a * 4 + 2, none⟩) (by show _ ≤ g; omega) _
        clear hown5
        go_wp2
        refine bodyPost_ret (v := .tuple #[.slice (some ⟨g, 0, none⟩) n c4, .bool true]) (by simp only [results, Tryd.results16]; go_simp) rfl ⟨_, _, rfl, hXE.hpO.mono hsB (Nat.le_refl _), hbE⟩
end Go.Proofs.YtbmlglkdlialgaaDoor
