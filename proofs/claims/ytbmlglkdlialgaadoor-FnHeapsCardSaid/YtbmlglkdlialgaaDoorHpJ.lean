/-
  Contracts on heaps: a layer put on a heap, of the program and of the reference. Conditions: lengths up to 2^20.
-/
import Derived.Test.YtbmlglkdlialgaaDoorHpH
namespace Go.Proofs.YtbmlglkdlialgaaDoor
open Go.RowKit

theorem Ow.tight {w : World} {lo hi g off n sz : Nat} {F : Nat → Nat → Value} (h : Ow w lo hi (some ⟨g, off, none⟩) n sz F) : Ow w g (g + 1) (some ⟨g, off, none⟩) n sz F :=
  ⟨fun h0 => by
    obtain ⟨b, o, e, -, -, hc⟩ := h.sl h0
    injection e with e; injection e with e1 e2
    subst e1 e2
    exact ⟨g, off, rfl, Nat.le_refl _, Nat.lt_succ_self _, hc⟩, h.wr⟩
theorem Ow.grown {w w' : World} {lo hi g off n sz : Nat} {F : Nat → Nat → Value} {row : Option Nat} (h : Ow w lo hi (some ⟨g, off, none⟩) n sz F) (hg : w.grownBy w' row) (hl : g < w.heap.size) (hr : row ≠ some g) : Ow w' g (g + 1) (some ⟨g, off, none⟩) n sz F :=
  h.tight.agr fun k h1 h2 => by
    obtain rfl : k = g := by omega
    exact hg.block k hl (fun e => hr e.symm)
/-- One heap's layers turned. -/
theorem LyX.turn {w w1 : World} {lo : Nat} {H : Nat → HeapD} {V : Nat → Value} {n p a : Nat} {d : HeapD} {v : Value} (h : LyX w lo H V n p) (ha : a < n) (hp : p < w.heap.size) (hg : w.grownBy w1 (V a).ownBlock)
    (hv : w1.ownsRow lo 3 1 v d.n (rowL (ints d.L) d.n 1)) (hb : ∀ q, v.ownBlock = some q → (V a).ownBlock = some q ∨ w.heap.size ≤ q) : LyX w1 lo (setH H a d) (setV V a v) n p := by
  have key : ∀ j, j < n → j ≠ a → ∀ q, v.ownBlock = some q → (V j).ownBlock ≠ some q := fun j hj hja q hq e => by
    rcases hb q hq with h1 | h1
    · rcases h.ne a j ha hj (fun e => hja e.symm) with h2 | h2
      · rw [h2] at h1; cases h1
      · exact h2 (by rw [h1, e])
    · have := h.lt hj e; omega
  refine ⟨fun i hi => ?_, fun i j hi hj hij => ?_, fun i hi => ?_⟩
  · by_cases e : i = a
    · subst e; simp only [setH, setV, if_true]; exact hv
    · simp only [setH, setV, if_neg e]; exact (h.own i hi).kept hg (h.ne i a hi ha e)
  · by_cases e : i = a
    · subst e
      simp only [setV, if_true, if_neg (fun e => hij e.symm : j ≠ i)]
      cases hq : v.ownBlock with
      | none => exact .inl rfl
      | some q => exact .inr fun e => key j hj (fun e => hij e.symm) q hq e.symm
    · by_cases e2 : j = a
      · subst e2
        simp only [setV, if_true, if_neg e]
        cases hq : (V i).ownBlock with
        | none => exact .inl rfl
        | some q => exact .inr fun e' => key i hi e q e'.symm hq
      · simp only [setV, if_neg e, if_neg e2]; exact h.ne i j hi hj hij
  · by_cases e : i = a
    · subst e
      simp only [setV, if_true]
      intro e
      rcases hb p e with h1 | h1
      · exact h.np i hi h1
      · omega
    · simp only [setV, if_neg e]; exact h.np i hi
theorem setV_ne {n a e : Nat} {V : Nat → Value} {v : Value} (h : ∀ i, i < n → (V i).ownBlock ≠ some e) (hv : v.ownBlock ≠ some e) : ∀ i, i < n → (setV V a v i).ownBlock ≠ some e := fun i hi => by
  unfold setV
  split
  · exact hv
  · exact h i hi
/-- The top row with one heap turned. -/
theorem hpV_turn {H : Nat → HeapD} {V : Nat → Value} {a : Nat} {d : HeapD} {v : Value} (h0 : d.id = (H a).id) (h1 : d.gr = (H a).gr) (h3 : d.cov = (H a).cov) (i j : Nat) (hj : j < 4) : upd (hpV H V) a 2 v i j = hpV (setH H a d) (setV V a v) i j := by
  unfold upd
  by_cases e : i = a
  · subst e
    match j, hj with
    | 0, _ => simp [hpV, setH, h0]
    | 1, _ => simp [hpV, setH, h1]
    | 2, _ => simp [hpV, setV]
    | 3, _ => simp [hpV, setH, h3]
  · match j, hj with
    | 0, _ => simp [hpV, setH, e]
    | 1, _ => simp [hpV, setH, e]
    | 2, _ => simp [hpV, setV, e]
    | 3, _ => simp [hpV, setH, e]
theorem hpV_turn4 {H : Nat → HeapD} {V : Nat → Value} {a : Nat} {d : HeapD} {v : Value} (h0 : d.id = (H a).id) (h1 : d.gr = (H a).gr) (h3 : d.cov = (H a).cov) (i j : Nat) (hj : j < 4) :
    upd (upd (upd (upd (hpV H V) a 0 (.int .i64 (H a).id)) a 1 (.int .i64 (H a).gr)) a 2 v) a 3 (.bool (H a).cov) i j = hpV (setH H a d) (setV V a v) i j := by
  unfold upd
  by_cases e : i = a
  · subst e
    match j, hj with
    | 0, _ => simp [hpV, setH, h0]
    | 1, _ => simp [hpV, setH, h1]
    | 2, _ => simp [hpV, setV]
    | 3, _ => simp [hpV, setH, h3]
  · match j, hj with
    | 0, _ => simp [hpV, setH, e]
    | 1, _ => simp [hpV, setH, e]
    | 2, _ => simp [hpV, setV, e]
    | 3, _ => simp [hpV, setH, e]

theorem HpX.turn {w w1 : World} {lo g n a : Nat} {H : Nat → HeapD} {V : Nat → Value} {d : HeapD} {v : Value} (h : HpX w lo (some ⟨g, 0, none⟩) n H V) (ha : a < n) (hg : w.grownBy w1 (V a).ownBlock)
    (hv : w1.ownsRow lo 3 1 v d.n (rowL (ints d.L) d.n 1)) (hb : ∀ q, v.ownBlock = some q → (V a).ownBlock = some q ∨ w.heap.size ≤ q) (h0 : d.id = (H a).id) (h1 : d.gr = (H a).gr) (h3 : d.cov = (H a).cov) :
    HpX (w1.setCell ⟨g, a * 4 + 2, none⟩ v) lo (some ⟨g, 0, none⟩) n (setH H a d) (setV V a v) := by
  obtain ⟨g', e, hg1, hg2⟩ := h.form.resolve_left (by omega)
  obtain rfl : g = g' := by injection e with e; injection e
  have hL := h.lay.turn ha hg2 hg hv hb
  have hz := hg.size
  refine ⟨?_, hL.set (fun i hi => hL.np i hi) v, .inr ⟨g, rfl, hg1, by simp; omega⟩⟩
  exact (((h.top.grown hg hg2 (h.lay.np a ha)).set ha (j0 := 2) (o := a * 4 + 2) (by omega) (by omega) v).congr fun i j _ hj => hpV_turn h0 h1 h3 i j hj).mono hg1 (by simp; omega)
theorem HpX.turn4 {w w1 : World} {lo g n a e : Nat} {H : Nat → HeapD} {V : Nat → Value} {d : HeapD} {v : Value} (h : HpX w lo (some ⟨g, 0, none⟩) n H V) (ha : a < n) (hg : w.grownBy w1 (V a).ownBlock)
    (hv : w1.ownsRow lo 3 1 v d.n (rowL (ints d.L) d.n 1)) (hb : ∀ q, v.ownBlock = some q → (V a).ownBlock = some q ∨ w.heap.size ≤ q) (h0 : d.id = (H a).id) (h1 : d.gr = (H a).gr) (h3 : d.cov = (H a).cov)
    (he : e < w.heap.size) (hev : ∀ i, i < n → (V i).ownBlock ≠ some e) (heg : e ≠ g) :
    HpX (((((w1.setCell ⟨e, 2, none⟩ v).setCell ⟨g, a * 4, none⟩ (.int .i64 (H a).id)).setCell ⟨g, a * 4 + 1, none⟩ (.int .i64 (H a).gr)).setCell ⟨g, a * 4 + 2, none⟩ v).setCell ⟨g, a * 4 + 3, none⟩ (.bool (H a).cov)) lo (some ⟨g, 0, none⟩) n (setH H a d) (setV V a v) := by
  obtain ⟨g', e', hg1, hg2⟩ := h.form.resolve_left (by omega)
  obtain rfl : g = g' := by injection e' with e'; injection e'
  have hL := h.lay.turn ha hg2 hg hv hb
  have hz := hg.size
  have hve : v.ownBlock ≠ some e := fun hq => by
    rcases hb e hq with hq | hq
    · exact hev a ha hq
    · omega
  refine ⟨?_, ?_, .inr ⟨g, rfl, hg1, by simp; omega⟩⟩
  · have hT : Ow (w1.setCell ⟨e, 2, none⟩ v) g (g + 1) (some ⟨g, 0, none⟩) n 4 (hpV H V) := (h.top.grown hg hg2 (h.lay.np a ha)).agr fun k k1 k2 => Below.heap_setCell _ _ _ _ (by show k ≠ e; omega)
    exact (((((hT.set ha (j0 := 0) (o := a * 4) (by omega) (by omega) (.int .i64 (H a).id)).set ha (j0 := 1) (o := a * 4 + 1) (by omega) (by omega) (.int .i64 (H a).gr)).set ha (j0 := 2) (o := a * 4 + 2) (by omega) (by omega) v).set ha (j0 := 3) (o := a * 4 + 3) (by omega) (by omega) (.bool (H a).cov)).congr fun i j _ hj => hpV_turn4 h0 h1 h3 i j hj).mono hg1 (by simp; omega)
  · exact ((((hL.set (setV_ne hev hve) v).set hL.np _).set hL.np _).set hL.np _).set hL.np _
/-- What a function leaves that returns turned heaps. -/
def HpP (w : World) (R : HpRes) (e : Ending) (w' : World) : Prop :=
  ∃ A' c', e = .returned (.tuple #[.slice A' R.n c', .bool R.ok]) ∧ HpO w' w.heap.size w'.heap.size A' R.n R.H ∧ Below w.heap.size w w'
theorem takesB_n {h : HeapD} {g t : Int} (hh : takesB h g t = true) : h.n < 12 := by
  simp only [takesB, bearsB, Bool.and_eq_true, decide_eq_true_eq] at hh
  omega

set_option maxRecDepth 20000 in
set_option maxHeartbeats 4000000 in
theorem PutLayer_any (A : Option Addr) (n c : Nat) (H : Nat → HeapD) (id gd t : Int) (w : World) (hn : n ≤ 1048576) (hln : ∀ i, i < n → (H i).n ≤ 1048576) (h : HpR w A n H) :
    Calls Tryd.prog 12 #[.slice A n c, .int .i64 id, .int .i64 gd, .int .i64 t] w (HpP w (putR H n id gd t)) := by
  cases h1 : heapsB H n
  · rw [show putR H n id gd t = noH by simp [putR, h1]]
    go_enter Tryd.func12, Tryd.ntmps12
    go_wp2_with fail
    go_at_call 40
    refine (heapAt_any _ _ _ _ _ _ hn h).mono ?_
    rintro _ w1 ⟨rfl, hb1⟩
    generalize idxV (firstB (idB H id) n) = r
    go_wp2_with fail
    go_at_call 17
    refine (AreHeaps_any _ _ _ _ _ hn hln (HpR.below h hb1)).mono ?_
    rintro _ w2 ⟨rfl, hb2⟩
    rw [h1]
    go_wp2
    refine bodyPost_ret (v := .tuple #[.slice none 0 0, .bool false]) (by simp only [results, Tryd.results12]; go_simp) rfl ⟨_, _, rfl, HpO.nil _ _ _ _ _, gr hb1 hb2⟩
  cases hf : firstB (idB H id) n with
  | none =>
    rw [show putR H n id gd t = noH by simp [putR, h1, hf]]
    go_enter Tryd.func12, Tryd.ntmps12
    go_wp2_with fail
    go_at_call 40
    refine (heapAt_any _ _ _ _ _ _ hn h).mono ?_
    rintro _ w1 ⟨rfl, hb1⟩
    rw [hf, show idxV none = -1 from rfl]
    go_wp2_with fail
    go_at_call 17
    refine (AreHeaps_any _ _ _ _ _ hn hln (HpR.below h hb1)).mono ?_
    rintro _ w2 ⟨rfl, hb2⟩
    rw [h1]
    go_wp2
    refine bodyPost_ret (v := .tuple #[.slice none 0 0, .bool false]) (by simp only [results, Tryd.results12]; go_simp) rfl ⟨_, _, rfl, HpO.nil _ _ _ _ _, gr hb1 hb2⟩
  | some a =>
    obtain ⟨ha, -, -⟩ := firstB_some hf
    have hh := h
    obtain ⟨B, cc, hS, hL⟩ := h
    have HLa := (hL a ha).1
    clear hL
    have hpos : 0 < n := by omega
    have ha0 : decide ((a : Int) < 0) = false := decide_eq_false (by omega)
    cases ht : takesB (H a) gd t
    · rw [show putR H n id gd t = noH by simp [putR, h1, hf, ht]]
      have ht' : takesB ⟨(H a).id, (H a).gr, (H a).n, (H a).L, (H a).cov⟩ gd t = false := ht
      go_enter Tryd.func12, Tryd.ntmps12
      go_wp2_with fail
      go_at_call 40
      refine (heapAt_any _ _ _ _ _ _ hn hh).mono ?_
      rintro _ w1 ⟨rfl, hb1⟩
      rw [hf, show idxV (some a) = (a : Int) from rfl]
      go_wp2_with fail
      go_at_call 17
      refine (AreHeaps_any _ _ _ _ _ hn hln (HpR.below hh hb1)).mono ?_
      rintro _ w2 ⟨rfl, hb2⟩
      rw [h1]
      have hbA := gr hb1 hb2
      obtain ⟨b, off, rfl, hbw, hc⟩ := hp_at hS hbA hpos
      obtain ⟨c0, c1, c2, c3⟩ := hc a ha
      clear hc
      go_wp2_with fail
      go_at_call 41
      refine (takes_any _ _ _ _ _ _ _ _ _ _ (hln a ha) (Rd.below HLa hbA)).mono ?_
      rintro _ w3 ⟨rfl, hb3⟩
      rw [ht']
      go_wp2
      refine bodyPost_ret (v := .tuple #[.slice none 0 0, .bool false]) (by simp only [results, Tryd.results12]; go_simp) rfl ⟨_, _, rfl, HpO.nil _ _ _ _ _, gr hbA hb3⟩
    · rw [show putR H n id gd t = ⟨n, setH H a (putD (H a) t), true⟩ by simp [putR, h1, hf, ht]]
      have ht' : takesB ⟨(H a).id, (H a).gr, (H a).n, (H a).L, (H a).cov⟩ gd t = true := ht
      have hn12 := takesB_n ht
      obtain ⟨i0, hi0, hz0, hz1, hz2⟩ := info_parts info_int
      go_enter Tryd.func12, Tryd.ntmps12
      go_wp2_with fail
      go_at_call 40
      refine (heapAt_any _ _ _ _ _ _ hn hh).mono ?_
      rintro _ w1 ⟨rfl, hb1⟩
      rw [hf, show idxV (some a) = (a : Int) from rfl]
      go_wp2_with fail
      go_at_call 17
      refine (AreHeaps_any _ _ _ _ _ hn hln (HpR.below hh hb1)).mono ?_
      rintro _ w2 ⟨rfl, hb2⟩
      rw [h1]
      have hbA := gr hb1 hb2
      obtain ⟨b, off, rfl, hbw, hc⟩ := hp_at hS hbA hpos
      obtain ⟨c0, c1, c2, c3⟩ := hc a ha
      clear hc
      go_wp2_with fail
      go_at_call 41
      refine (takes_any _ _ _ _ _ _ _ _ _ _ (hln a ha) (Rd.below HLa hbA)).mono ?_
      rintro _ w3 ⟨rfl, hb3⟩
      rw [ht']
      clear c0 c1 c2 c3 h1 ht ht' hf HLa hS
      have hbB := gr hbA hb3
      go_wp2_with fail
      go_at_call 42
      refine (copyHeaps_any _ _ _ _ _ hn hln (HpR.below hh hbB)).mono ?_
      rintro _ w4 ⟨A4, c4, V, rfl, hX, hb4⟩
      clear hh hb1 hb2 hbA hb3 hbw
      obtain ⟨g, rfl, hg1, hg2⟩ := hX.form.resolve_left (by omega)
      have HX := hide hX
      obtain ⟨-, -, x1, x2⟩ := hX.top.at_ ha
      have e2 := x1 2 (by omega)
      have f2 := x2 2 (by omega)
      have ho := hX.lay.own a ha
      have hnp := hX.lay.np a ha
      simp only [Nat.zero_add, hpV] at e2 f2
      clear x1 x2 hX
      obtain ⟨A5, c5, hVa, -⟩ := own_tab ho
      have HVa := hide hVa
      rw [hVa] at e2
      have ho5 := hVa ▸ ho
      have hnp' : Value.ownBlock (.slice A5 (H a).n c5) ≠ some g := hVa ▸ hnp
      clear ho hVa
      have hsB := hbB.size
      have HSN := hide (rowL_snoc (H a).n (H a).L t)
      have ho6 := ho5.alloc (.cells #[.int .i64 t] 3)
      have hs4 := hb4.size
      go_wp2_with (at_builtin; refine wpList_append_own_at _ rfl _ _ 22 rfl w3.heap.size 3 i0 (.int .i64 0) 1 8 Tryd.underlying22 hi0 hz0 hz1 hz2 rfl (by decide) _ (H a).n _ rfl ho6 ⟨w4.heap.size, 0, none⟩ 1 1 [.int .i64 t] rfl rfl (World.news_of_block (cs := #[.int .i64 t]) (t := 3) (fr := (0, 0)) (heap_alloc_new w4 _)) (by simp [Value.oneCell']) (by simp only [maxLen]; omega) (by omega) (by simp; omega) ?_; intro v5 w5 hown5 hg5 _ hv5; have hb5 := grown_below ho6 hg5 (by simp; omega); have hg5b := hg5.size; rw [← HSN.out] at hown5; have e5 := (hg5.cell_far ⟨g, a * 4 + 2, none⟩ (by simp; omega) (by intro e; exact hnp' e.symm)).trans ((World.cell?_alloc_past (w := w4) _ _ _ hg2).trans e2); have f5 := (hg5.frozen_far ⟨g, a * 4 + 2, none⟩ (by simp; omega) (by intro e; exact hnp' e.symm)).trans ((World.frozen?_alloc_past (w := w4) _ _ _ hg2).trans f2); obtain ⟨A6, c6, rfl, -⟩ := own_tab hown5)
      have hX5 := HX.out.below ((Below.refl _ _).alloc (Nat.le_refl _) (.cells #[.int .i64 t] 3))
      have hgr5 : World.grownBy (w4.alloc (.cells #[.int .i64 t] 3)) w5 (V a).ownBlock := by rw [HVa.out]; exact hg5
      have hXE := hX5.turn (d := putD (H a) t) ha hgr5 hown5 (fun q hq => by
        rw [HVa.out]
        rcases hv5 with hv | hv
        · exact .inl (hv.symm.trans hq)
        · rw [hv] at hq; injection hq with hq; exact .inr (by omega)) rfl rfl rfl
      have hg6 : g < w5.heap.size := by have := hgr5.size; simp at this; omega
      have hbE : Below w.heap.size w (w5.setCell ⟨g, a * 4 + 2, none⟩ (.slice A6 ((H a).n + 1) c6)) := ((gr hbB hb4).trans (((Below.refl w4.heap.size w4).alloc (Nat.le_refl _) (.cells #[.int .i64 t] 3)).mono (by omega)) |>.trans (hb5.mono hsB)).setCell (p := ⟨g, a * 4 + 2, none⟩) (by show _ ≤ g; omega) _
      go_wp2
      refine bodyPost_ret (v := .tuple #[.slice (some ⟨g, 0, none⟩) n c4, .bool true]) (by simp only [results, Tryd.results12]; go_simp) rfl ⟨_, _, rfl, hXE.hpO.mono hsB (Nat.le_refl _), hbE⟩
end Go.Proofs.YtbmlglkdlialgaaDoor
