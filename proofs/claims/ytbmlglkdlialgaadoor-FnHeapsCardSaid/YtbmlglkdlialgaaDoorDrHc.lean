/-
  Contract: heaps that are drawn. Conditions: fewer than 2^40 draws.
-/
import Derived.Test.YtbmlglkdlialgaaDoorDrHb
import Derived.Test.YtbmlglkdlialgaaDoorHpH
namespace Go.Proofs.YtbmlglkdlialgaaDoor
open Go.RowKit

/-- Heaps that grow: their cells a row of the call's own, their layers anywhere else in the call's memory. -/
def HsS (w : World) (B : Nat) (t : TypeId) (v : Value) (k : Nat) : Prop :=
  ∃ (H : Nat → HeapD) (C : Nat → Option Addr) (c : Nat → Nat), w.ownsRow B t 4 v k (rowL (hpC H C c) k 4) ∧ ∀ i, i < k → (H i).n ≤ 20 ∧ Sl w B w.heap.size (C i) (H i).n 1 (ints (H i).L) ∧ (0 < (H i).n → v.ownBlock ≠ some (blkO (C i)))
theorem sl_grown {w w' : World} {lo n sz : Nat} {A : Option Addr} {F : Nat → Nat → Value} {row : Option Nat} (h : Sl w lo w.heap.size A n sz F) (hg : w.grownBy w' row) (hn : 0 < n → row ≠ some (blkO A)) : Sl w' lo w'.heap.size A n sz F := fun h0 => by
  obtain ⟨b, off, rfl, h1, h2, hc⟩ := h h0
  have hb := hg.block b h2 (fun e => hn h0 e.symm)
  exact ⟨b, off, rfl, h1, Nat.lt_of_lt_of_le h2 hg.size, fun i j hi hj => (World.cell?_of_block hb).trans (hc i j hi hj)⟩
theorem HsS.new {w : World} {B : Nat} {t : TypeId} (hB : B ≤ w.heap.size) : HsS (w.alloc (.cells #[] t)) B t (.slice (some ⟨w.heap.size, 0, none⟩) 0 0) 0 :=
  ⟨fun _ => ⟨0, 0, 0, fun _ _ => 0, false⟩, fun _ => none, fun _ => 0, World.ownsRow_lit (base := B) (e := t) (size := 4) w #[] 0 hB (Nat.zero_le _) (by simp), fun i hi => absurd hi (Nat.not_lt_zero _)⟩
theorem HsS.kept {w w' : World} {B : Nat} {t : TypeId} {v : Value} {k : Nat} {row : Option Nat} (h : HsS w B t v k) (hg : w.grownBy w' row) (hr : ∀ q, row = some q → q < B) : HsS w' B t v k := by
  obtain ⟨H, C, c, h1, h2⟩ := h
  refine ⟨H, C, c, h1.kept hg ?_, fun i hi => ⟨(h2 i hi).1, sl_grown (h2 i hi).2.1 hg fun h0 e => ?_, (h2 i hi).2.2⟩⟩
  · cases hv : v.ownBlock with
    | none => exact .inl rfl
    | some q => exact .inr fun e => by have := hr q e.symm; have := (h1.lt q hv).1; omega
  · obtain ⟨b, off, e2, h3, -, -⟩ := (h2 i hi).2.1 h0
    have := hr _ e
    rw [e2] at this
    have h5 : b < B := this
    omega
theorem HsS.below {w w' : World} {B : Nat} {t : TypeId} {v : Value} {k : Nat} (h : HsS w B t v k) (hb : Below w.heap.size w w') : HsS w' B t v k :=
  h.kept (row := none) ⟨hb.os, hb.tape, hb.output, hb.size, fun i hi _ => hb.block i hi⟩ (fun q e => by cases e)
theorem HsS.alloc {w : World} {B : Nat} {t : TypeId} {v : Value} {k : Nat} (h : HsS w B t v k) (o : Obj) : HsS (w.alloc o) B t v k := h.below ((Below.refl _ _).alloc (Nat.le_refl _) _)
theorem HsS.tch {w w' : World} {B cu : Nat} {t : TypeId} {v : Value} {k : Nat} (h : HsS w B t v k) (ht : Tch cu (cu + 1) w w') (hc : cu < B) : HsS w' B t v k :=
  h.kept (row := some cu) ⟨ht.os, ht.tape, ht.output, ht.size, fun i hi hn => ht.block i hi (by intro h; exact hn (by congr 1; omega))⟩ (fun q e => by injection e with e; omega)
/-- One heap more. -/
theorem HsS.app {w w' : World} {B : Nat} {t : TypeId} {v v' : Value} {k : Nat} {H : Nat → HeapD} {C : Nat → Option Addr} {c : Nat → Nat} {d : HeapD} {A : Option Addr} {cA : Nat}
    (h2 : ∀ i, i < k → (H i).n ≤ 20 ∧ Sl w B w.heap.size (C i) (H i).n 1 (ints (H i).L) ∧ (0 < (H i).n → v.ownBlock ≠ some (blkO (C i))))
    (ho : w'.ownsRow B t 4 v' (k + 1) (rowL (hpC H C c) k 4 ++ [.int .i64 d.id, .int .i64 d.gr, .slice A d.n cA, .bool d.cov])) (hg : w.grownBy w' v.ownBlock) (hat : v'.ownBlock = v.ownBlock ∨ v'.ownBlock = some w.heap.size)
    (hd : d.n ≤ 20) (hl : Sl w B w.heap.size A d.n 1 (ints d.L)) (hne : 0 < d.n → v.ownBlock ≠ some (blkO A)) : HsS w' B t v' (k + 1) := by
  have hlt : ∀ {X : Option Addr} {n : Nat} {F : Nat → Nat → Value}, Sl w B w.heap.size X n 1 F → 0 < n → blkO X < w.heap.size := fun hs h0 => by
    obtain ⟨b, off, e, -, h4, -⟩ := hs h0
    rw [e]; exact h4
  have hne' : ∀ {X : Option Addr} {n : Nat} {F : Nat → Nat → Value}, Sl w B w.heap.size X n 1 F → (0 < n → v.ownBlock ≠ some (blkO X)) → 0 < n → v'.ownBlock ≠ some (blkO X) := fun hs hv h0 => by
    rcases hat with e | e
    · rw [e]; exact hv h0
    · rw [e]; intro e2; injection e2 with e2; have := hlt hs h0; omega
  refine ⟨fun i => if i = k then d else H i, fun i => if i = k then A else C i, fun i => if i = k then cA else c i, ?_, fun i hi => ?_⟩
  · have e : rowL (hpC (fun i => if i = k then d else H i) (fun i => if i = k then A else C i) (fun i => if i = k then cA else c i)) (k + 1) 4 = rowL (hpC H C c) k 4 ++ [.int .i64 d.id, .int .i64 d.gr, .slice A d.n cA, .bool d.cov] := by
      rw [rowL_snoc4]
      congr 1
      · exact rowL_congr fun i j hi hj => by
          match j with
          | 0 => simp [hpC, show i ≠ k by omega]
          | 1 => simp [hpC, show i ≠ k by omega]
          | 2 => simp [hpC, show i ≠ k by omega]
          | _ + 3 => simp [hpC, show i ≠ k by omega]
      · simp [hpC]
    rw [e]; exact ho
  · by_cases e : i = k
    · subst e
      simp only [if_true]
      exact ⟨hd, sl_grown hl hg hne, hne' hl hne⟩
    · simp only [if_neg e]
      obtain ⟨a1, a2, a3⟩ := h2 i (by omega)
      exact ⟨a1, sl_grown a2 hg a3, hne' a2 a3⟩
theorem HsS.out {w : World} {B : Nat} {t : TypeId} {v : Value} {k : Nat} (h : HsS w B t v k) : ∃ A c H, v = .slice A k c ∧ Hp w B w.heap.size A k H ∧ ∀ i, i < k → (H i).n ≤ 20 := by
  obtain ⟨H, C, c, h1, h2⟩ := h
  obtain ⟨A, cA, e, hO⟩ := own_tab h1
  exact ⟨A, cA, H, e, ⟨C, c, hO.sl, fun i hi => ⟨(h2 i hi).2.1, by have := (h2 i hi).1; simp only [maxLen]; omega⟩⟩, fun i hi => (h2 i hi).1⟩
/-- What a draw of heaps leaves. -/
def DrawHs (w : World) (cu m : Nat) (e : Ending) (w' : World) : Prop :=
  ∃ A n c H, e = .returned (.slice A n c) ∧ n ≤ 20 ∧ (∀ i, i < n → (H i).n ≤ 20) ∧ Hp w' w.heap.size w'.heap.size A n H ∧ DrS w w' cu m
set_option maxRecDepth 20000 in
set_option maxHeartbeats 4000000 in
theorem heaps_any (cu m : Nat) (w : World) (hm : m ≤ 1099511000000) (h : Cur w cu m) :
    Calls Tryd.prog 34 #[.pointer (some ⟨cu, 0, none⟩)] w (DrawHs w cu (m + 1500)) := by
  obtain ⟨i1, hi1, hy0, hy1, hy2⟩ := info_parts info_heap
  have hcu := h.lt
  have hD := DrS.start h
  go_enter Tryd.func34, Tryd.ntmps34
  go_upto_region 2 with fail
  have hR := HsS.new (w := w) (B := w.heap.size) (t := 28) (Nat.le_refl _)
  replace hD := hD.alloc (.cells #[] 28)
  generalize w.alloc (.cells #[] 28) = W1 at hR hD ⊢
  go_wp2_with fail
  go_at_call 36
  refine (pick_any _ _ _ _ (by omega) (by decide) hD.cur).mono ?_
  rintro _ w3 ⟨N0, rfl, N0a, N0b, hc, ht⟩
  rw [if_neg (by decide)] at N0b
  replace hD := hD.draw hc ht
  replace hR := hR.tch ht hcu
  clear hc ht
  obtain ⟨N1, rfl⟩ : ∃ N1 : Nat, N0 = N1 := ⟨N0.toNat, by omega⟩
  go_wp2
  go_loopw [3, 4, 5] (fun v d n wr => ∃ (k N : Nat) (D : Int), HsS wr w.heap.size 28 v k ∧ d = .int .i64 D ∧ n = .int .i64 N ∧ k + N ≤ 7 ∧ -10 * k ≤ D ∧ D ≤ 10 * k ∧ DrS w wr cu (m + 2 + 110 * k)) (fun _ _ n _ => (intOf n).toNat)
  case atStart => exact ⟨0, N1, 0, hR, rfl, rfl, by omega, by omega, by omega, hD.more (by omega)⟩
  case round =>
    clear hR hD N0a N0b
    obtain ⟨k, N, D, hR, rfl, rfl, hkN, hD0, hD1, hD⟩ := hrel
    have hsz := hD.size
    by_cases hlt : 0 < N
    · obtain ⟨N', rfl⟩ : ∃ N', N = N' + 1 := ⟨N - 1, by omega⟩
      have hd : decide ((0 : Int) < ((N' + 1 : Nat) : Int)) = true := decide_eq_true (by omega)
      go_wp2_with fail
      go_at_call 36
      refine (pick_any _ _ _ _ (by omega) (by decide) hD.cur).mono ?_
      rintro _ w4 ⟨q2, rfl, q2a, q2b, hc, ht⟩
      rw [if_neg (by decide)] at q2b
      replace hD := hD.draw hc ht
      replace hR := hR.tch ht hcu
      clear hc ht
      go_wp2_with fail
      go_at_call 36
      refine (pick_any _ _ _ _ (by omega) (by decide) hD.cur).mono ?_
      rintro _ w8 ⟨q3, rfl, q3a, q3b, hc, ht⟩
      rw [if_neg (by decide)] at q3b
      replace hD := hD.draw hc ht
      replace hR := hR.tch ht hcu
      clear hc ht
      have hq3 : q3 / 119 = 0 ∨ q3 / 119 = 1 := by omega
      have hsz5 := hD.size
      have hvb : ∀ q, u3.ownBlock = some q → q < w8.heap.size := fun q hq => by obtain ⟨_, _, _, ho, -⟩ := hR; exact (ho.lt q hq).2
      go_wp2_with fail
      go_at_call 64
      refine (heap_any _ _ _ _ (by omega) hD.cur).mono ?_
      rintro _ w6 ⟨id, gr, A5, n5, c5, L5, cv, rfl, hn5, hO, hDx⟩
      have hzx := hDx.size
      replace hR : HsS w6 w.heap.size 28 u3 k := hR.kept (row := some cu) ⟨hDx.tch.os, hDx.tch.tape, hDx.tch.output, hDx.tch.size, fun i hi hn => hDx.tch.block i hi (by intro h; exact hn (by congr 1; omega))⟩ (fun q e => by injection e with e; omega)
      have hlt5 : ∀ q, u3.ownBlock = some q → q < w8.heap.size := hvb
      replace hD := hD.trans hDx
      have hsz6 := hD.size
      clear hDx
      obtain ⟨Hh, Ch, ch, ho, hh⟩ := hR
      have ho2 := ho.alloc (.cells #[.int .i64 (id), .int .i64 (gr), .slice A5 n5 c5, .bool cv] 28)
      have hh2 := fun i (hi : i < k) => (⟨(hh i hi).1, (hh i hi).2.1.agr (Below.agr ((Below.refl w6.heap.size w6).alloc (Nat.le_refl _) (.cells #[.int .i64 (id), .int .i64 (gr), .slice A5 n5 c5, .bool cv] 28)) (Nat.le_refl _)) |>.mono (Nat.le_refl _) (by simp), (hh i hi).2.2⟩ : (Hh i).n ≤ 20 ∧ Sl (w6.alloc (.cells #[.int .i64 (id), .int .i64 (gr), .slice A5 n5 c5, .bool cv] 28)) w.heap.size (w6.alloc (.cells #[.int .i64 (id), .int .i64 (gr), .slice A5 n5 c5, .bool cv] 28)).heap.size (Ch i) (Hh i).n 1 (ints (Hh i).L) ∧ (0 < (Hh i).n → u3.ownBlock ≠ some (blkO (Ch i))))
      go_upto_region 7 with (at_builtin; refine wpList_append_own_at _ rfl _ _ 34 rfl w.heap.size 28 i1 (.agg #[.int .i64 0, .int .i64 0, .slice none 0 0, .bool false]) 4 48 Tryd.underlying34 hi1 hy0 hy1 hy2 rfl (by decide) _ k _ rfl ho2 ⟨w6.heap.size, 0, none⟩ 1 1 [.int .i64 (id), .int .i64 (gr), .slice A5 n5 c5, .bool cv] rfl rfl (World.news_of_block (cs := #[.int .i64 (id), .int .i64 (gr), .slice A5 n5 c5, .bool cv]) (t := 28) (fr := (0, 0)) (heap_alloc_new w6 _)) (by simp [Value.oneCell']) (by simp only [maxLen]; omega) (by omega) (by simp; omega) ?_; intro v5 w5 hown5 hg5 _ hat5)
      have hb5 := grown_below ho2 hg5 (by simp; omega)
      have hlay : Sl (w6.alloc (.cells #[.int .i64 id, .int .i64 gr, .slice A5 n5 c5, .bool cv] 28)) w.heap.size (w6.alloc (.cells #[.int .i64 id, .int .i64 gr, .slice A5 n5 c5, .bool cv] 28)).heap.size A5 n5 1 (ints L5) :=
        (hO.sl.agr (Below.agr ((Below.refl w6.heap.size w6).alloc (Nat.le_refl _) (.cells #[.int .i64 id, .int .i64 gr, .slice A5 n5 c5, .bool cv] 28)) (Nat.le_refl _))).mono (by omega) (by simp)
      have hln : 0 < n5 → u3.ownBlock ≠ some (blkO A5) := fun h0 e => by
        obtain ⟨b, off, e2, h3, -, -⟩ := hO.sl h0
        have := hlt5 _ e
        rw [e2] at this
        have h6 : b < w8.heap.size := this
        omega
      have hR5 := HsS.app (d := ⟨id, gr, n5, L5, cv⟩) hh2 hown5 hg5 hat5 hn5 hlay hln
      have hD5 := (hD.alloc (.cells #[.int .i64 id, .int .i64 gr, .slice A5 n5 c5, .bool cv] 28)).grow hb5
      clear hD ho ho2 hh hh2 hown5 hg5 hat5 hb5 hlay hln hlt5 hO
      rcases hq3 with e3 | e3
      all_goals
        go_wp2
        go_roundw
        case rel => exact ⟨k + 1, N', D + 1 + q2 - q3 / 119, hR5, by go_num, by go_num, by omega, by omega, by omega, hD5.more (by omega)⟩
        case measure => simp [intOf]
    · obtain rfl : N = 0 := by omega
      replace hD := hD.more (m' := m + 900) (by omega)
      have hk7 : k ≤ 7 := by omega
      clear hkN hD0 hD1 hlt
      go_wp2_with fail
      go_at_call 35
      refine (one_any _ _ _ _ (by omega) (by decide) hD.cur).mono ?_
      rintro _ w4 ⟨bb, rfl, hc, ht⟩
      replace hD := hD.draw hc ht
      replace hR := hR.tch ht hcu
      clear hc ht
      cases bb
      · obtain ⟨A6, c6, H6, rfl, hHp, hl6⟩ := hR.out
        go_wp2
        go_ret
        exact ⟨A6, k, c6, H6, rfl, by omega, hl6, hHp, hD.more (by omega)⟩
      · clear hR hk7
        have hsz4 := hD.size
        go_upto_region 10 with fail
        have hR := HsS.new (w := w4) (B := w.heap.size) (t := 28) hsz4
        replace hD := hD.alloc (.cells #[] 28)
        generalize w4.alloc (.cells #[] 28) = W9 at hR hD ⊢
        go_wp2
        go_loopw [3, 6] (fun v i wx => ∃ k : Nat, HsS wx w.heap.size 28 v k ∧ i = .int .i64 k ∧ k ≤ 11 ∧ DrS w wx cu (m + 910 + k)) (fun _ i _ => 12 - (intOf i).toNat)
        case atStart => exact ⟨0, hR, rfl, by omega, hD.more (by omega)⟩
        case round =>
          clear hR hD
          obtain ⟨k, hR, rfl, hk, hD⟩ := hrel
          have hsz := hD.size
          go_wp2_with fail
          go_at_call 36
          refine (pick_any _ _ _ _ (by omega) (by decide) hD.cur).mono ?_
          rintro _ w8 ⟨q, rfl, qa, qb, hc, ht⟩
          rw [if_neg (by decide)] at qb
          replace hD := hD.draw hc ht
          replace hR := hR.tch ht hcu
          clear hc ht
          by_cases hlt : (k : Int) < 10 + q
          · have hsz8 := hD.size
            have hvb : ∀ q, u3.ownBlock = some q → q < w8.heap.size := fun q hq => by obtain ⟨_, _, _, ho, -⟩ := hR; exact (ho.lt q hq).2
            have HX := (hR.alloc (.cells #[.int .i64 50, .int .i64 20] 3)).alloc (.cells #[.int .i64 ((k : Int) + 1), .int .i64 (1 + (k : Int) % 4), .slice (some ⟨w8.heap.size, 0, none⟩) 2 2, .bool false] 28)
            obtain ⟨Hh, Ch, ch, ho2, hh2⟩ := HX
            have hnw : ∀ j u, ([.int .i64 ((k : Int) + 1), .int .i64 (1 + (k : Int) % 4), .slice (some ⟨w8.heap.size, 0, none⟩) 2 2, .bool false] : List Value)[j]? = some u → ((w8.alloc (.cells #[.int .i64 50, .int .i64 20] 3)).alloc (.cells #[.int .i64 ((k : Int) + 1), .int .i64 (1 + (k : Int) % 4), .slice (some ⟨w8.heap.size, 0, none⟩) 2 2, .bool false] 28)).cell? ((⟨w8.heap.size + 1, 0, none⟩ : Addr).add j) = some u := by
              have e : (w8.alloc (.cells #[.int .i64 50, .int .i64 20] 3)).heap.size = w8.heap.size + 1 := by simp
              have h1 := heap_alloc_new (w8.alloc (.cells #[.int .i64 50, .int .i64 20] 3)) (.cells #[.int .i64 ((k : Int) + 1), .int .i64 (1 + (k : Int) % 4), .slice (some ⟨w8.heap.size, 0, none⟩) 2 2, .bool false] 28)
              rw [e] at h1
              exact World.news_of_block h1
            have hlay : Sl ((w8.alloc (.cells #[.int .i64 50, .int .i64 20] 3)).alloc (.cells #[.int .i64 ((k : Int) + 1), .int .i64 (1 + (k : Int) % 4), .slice (some ⟨w8.heap.size, 0, none⟩) 2 2, .bool false] 28)) w.heap.size ((w8.alloc (.cells #[.int .i64 50, .int .i64 20] 3)).alloc (.cells #[.int .i64 ((k : Int) + 1), .int .i64 (1 + (k : Int) % 4), .slice (some ⟨w8.heap.size, 0, none⟩) 2 2, .bool false] 28)).heap.size (some ⟨w8.heap.size, 0, none⟩) 2 1 (ints fun i _ => if i = 0 then 50 else 20) := fun _ => ⟨w8.heap.size, 0, rfl, by omega, by simp <;> omega, fun i j hi hj => by
              obtain rfl : j = 0 := by omega
              rcases (show i = 0 ∨ i = 1 by omega) with rfl | rfl <;> go_simp⟩
            have hln : 0 < 2 → u3.ownBlock ≠ some (blkO (some ⟨w8.heap.size, 0, none⟩)) := fun _ e => Nat.lt_irrefl _ (hvb _ e)
            go_upto_region 12 with (at_builtin; refine wpList_append_own_at _ rfl _ _ 34 rfl w.heap.size 28 i1 (.agg #[.int .i64 0, .int .i64 0, .slice none 0 0, .bool false]) 4 48 Tryd.underlying34 hi1 hy0 hy1 hy2 rfl (by decide) _ k _ rfl ho2 ⟨w8.heap.size + 1, 0, none⟩ 1 1 [.int .i64 ((k : Int) + 1), .int .i64 (1 + (k : Int) % 4), .slice (some ⟨w8.heap.size, 0, none⟩) 2 2, .bool false] rfl rfl hnw (by simp [Value.oneCell']) (by simp only [maxLen]; omega) (by omega) (by simp; omega) ?_; intro v5 w5 hown5 hg5 _ hat5)
            have hb5 := grown_below ho2 hg5 (by simp; omega)
            have hR5 := HsS.app (d := ⟨(k : Int) + 1, 1 + (k : Int) % 4, 2, fun i _ => if i = 0 then 50 else 20, false⟩) hh2 hown5 hg5 hat5 (by show 2 ≤ 20; omega) hlay hln
            have hD5 := ((hD.alloc (.cells #[.int .i64 50, .int .i64 20] 3)).alloc (.cells #[.int .i64 ((k : Int) + 1), .int .i64 (1 + (k : Int) % 4), .slice (some ⟨w8.heap.size, 0, none⟩) 2 2, .bool false] 28)).grow hb5
            clear hR hD ho2 hh2 hown5 hg5 hat5 hb5 hlay hln hnw hvb
            go_wp2
            go_roundw
            case rel => exact ⟨k + 1, hR5, by go_num, by omega, hD5.more (by omega)⟩
            case measure => simp [intOf]; omega
          · obtain ⟨A6, c6, H6, rfl, hHp, hl6⟩ := hR.out
            go_wp2
            go_ret
            exact ⟨A6, k, c6, H6, rfl, by omega, hl6, hHp, hD.more (by omega)⟩
end Go.Proofs.YtbmlglkdlialgaaDoor
