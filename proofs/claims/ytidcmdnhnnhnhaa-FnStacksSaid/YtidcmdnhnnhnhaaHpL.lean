/-
  Contracts of the laws' helpers on heaps: marks, and whether the marks are held. Conditions: lengths up to 2^20.
-/
import Derived.Test.YtidcmdnhnnhnhaaHpM
import Derived.Test.YtidcmdnhnnhnhaaHpU
namespace Go.Proofs.Ytidcmdnhnnhnhaa
open Go.RowKit

theorem Ow.bd {w : World} {lo hi n sz : Nat} {A : Option Addr} {F : Nat → Nat → Value} (h : Ow w lo hi A n sz F) (h0 : 0 < n) : lo ≤ blkO A ∧ blkO A < hi := by
  obtain ⟨b, off, rfl, h1, h2, -⟩ := h.sl h0
  exact ⟨h1, h2⟩
theorem Ow.tightB {w : World} {lo hi n sz : Nat} {A : Option Addr} {F : Nat → Nat → Value} (h : Ow w lo hi A n sz F) : Ow w (blkO A) (blkO A + 1) A n sz F :=
  ⟨fun h0 => by
    obtain ⟨b, o, e, -, -, hc⟩ := h.sl h0
    subst e
    exact ⟨b, o, rfl, Nat.le_refl _, Nat.lt_succ_self _, hc⟩, h.wr⟩
theorem Ow.loose {w : World} {lo hi l h' n sz : Nat} {A : Option Addr} {F : Nat → Nat → Value} (h : Ow w l h' A n sz F) (hb : 0 < n → lo ≤ blkO A ∧ blkO A < hi) : Ow w lo hi A n sz F :=
  ⟨fun h0 => by
    obtain ⟨b, o, e, -, -, hc⟩ := h.sl h0
    subst e
    exact ⟨b, o, rfl, (hb h0).1, (hb h0).2, hc⟩, h.wr⟩
theorem Ow.far {w w' : World} {lo hi n sz : Nat} {A : Option Addr} {F : Nat → Nat → Value} (h : Ow w lo hi A n sz F) (hk : 0 < n → w'.heap[blkO A]? = w.heap[blkO A]?) : Ow w' lo hi A n sz F := by
  rcases Nat.eq_zero_or_pos n with h0 | h0
  · subst h0; exact Ow.nil _ _ _ _ _ _
  · refine (h.tightB.agr (w' := w') fun k h1 h2 => ?_).loose fun _ => h.bd h0
    obtain rfl : k = blkO A := by omega
    exact hk h0
theorem Tch.wide {l h lo hi : Nat} {w w' : World} (t : Tch l h w w') (hb : l < h → lo ≤ l ∧ h ≤ hi) : Tch lo hi w w' :=
  ⟨t.os, t.tape, t.output, t.size, fun k hk hn => t.block k hk fun h' => hn (by have := hb (by omega); omega)⟩
theorem mixM_at (k0 : Int) (H : Nat → HeapD) (k : Nat) : mixM k0 H (k + 1) k = mkH k0 H k := by simp [mixM]
theorem mixM_ne (k0 : Int) (H : Nat → HeapD) {k i : Nat} (h : i ≠ k) : mixM k0 H (k + 1) i = mixM k0 H k i := by
  have : i < k + 1 ↔ i < k := by omega
  simp [mixM, this]
theorem mixM_n (k0 : Int) (H : Nat → HeapD) (k i : Nat) : (mixM k0 H k i).n = (H i).n := by
  unfold mixM; split <;> rfl
theorem mark_top (H : Nat → HeapD) (B : Nat → Option Addr) (cc : Nat → Nat) (k : Nat) (i j : Nat) (hj : j < 4) :
    upd (upd (upd (hpC (mixM 1 H k) B cc) k 0 (.int .i64 (mkK 1 H k))) k 1 (.int .i64 (mkK 1 H k + 1))) k 3 (.bool ((mkK 1 H k + 1 + 1 + (H k).n) % 3 == 0)) i j = hpC (mixM 1 H (k + 1)) B cc i j := by
  unfold upd
  by_cases e : i = k
  · subst e
    match j, hj with
    | 0, _ => simp [hpC, mixM_at, mkH]
    | 1, _ => simp [hpC, mixM_at, mkH]
    | 2, _ => simp [hpC, mixM_n]
    | 3, _ => simp [hpC, mixM_at, mkH]
  · match j, hj with
    | 0, _ => simp [hpC, mixM_ne 1 H e, e]
    | 1, _ => simp [hpC, mixM_ne 1 H e, e]
    | 2, _ => simp [hpC, mixM_n, e]
    | 3, _ => simp [hpC, mixM_ne 1 H e, e]
set_option maxRecDepth 20000 in
set_option maxHeartbeats 4000000 in
theorem markHeapS_any (lo hi : Nat) (A : Option Addr) (n c : Nat) (H : Nat → HeapD) (w : World) (hn : n ≤ 1048576) (hln : ∀ i, i < n → (H i).n ≤ 1048576) (hh : hi ≤ w.heap.size) (h : HpO w lo hi A n H) :
    Calls Try.prog 40 #[.slice A n c, .int .i64 1] w fun e w' => e = .returned (.int .i64 (mkK 1 H n)) ∧ Tch lo hi w w' ∧ HpO w' lo hi A n (mkH 1 H) := by
  have HN := hide hln
  have HK := hide (mkK_bd (k0 := 1) hln)
  clear hln
  obtain ⟨B, cc, hT, hL, hne, hnA⟩ := h
  have HL := hide hL
  have HNE := hide hne
  have HNA := hide hnA
  clear hL hne hnA
  go_enter Try.func40, Try.ntmps40
  go_wp2
  go_loopw [1, 5] (fun q i wr => ∃ k : Nat, k ≤ n ∧ i = .int .i64 k ∧ q = .int .i64 (mkK 1 H k) ∧ Tch lo hi w wr ∧ Ow wr lo hi A n 4 (hpC (mixM 1 H k) B cc) ∧ Hid (∀ i, i < n → Ow wr lo hi (B i) (H i).n 1 (ints (mixM 1 H k i).L) ∧ (H i).n ≤ maxLen)) (fun _ i _ => n - (intOf i).toNat)
  case atStart => exact ⟨0, by omega, rfl, rfl, Tch.refl _ _ _, hT.congr fun i j _ _ => by simp [mixM, hpC], hide fun i hi => by simpa [mixM] using HL.out i hi⟩
  case round =>
    clear hT HL
    obtain ⟨k, hk, rfl, rfl, ht, hT, HL⟩ := hrel
    obtain ⟨k1, k2⟩ := HK.out k hk
    have HS := hide (show mkK 1 H (k + 1) = mkK 1 H k + 3 + (H k).n from rfl)
    by_cases hlt : k < n
    · obtain ⟨b, off, rfl, hb1, hb2, -⟩ := hT.sl (by omega)
      obtain ⟨-, -, x1, x2⟩ := hT.at_ hlt
      have e0 := x1 0 (by omega)
      have e1 := x1 1 (by omega)
      have e2 := x1 2 (by omega)
      have e3 := x1 3 (by omega)
      have f0 := x2 0 (by omega)
      have f1 := x2 1 (by omega)
      have f2 := x2 2 (by omega)
      have f3 := x2 3 (by omega)
      simp only [Nat.add_zero, hpC, mixM, Nat.lt_irrefl, if_false] at e0 e1 e2 e3 f0 f1 f2 f3
      clear x1 x2
      obtain ⟨hlO, hlm⟩ := HL.out k hlt
      have hlk := HN.out k hlt
      have hsz := ht.size
      have hbs : b < wr.heap.size := by omega
      have hnb : 0 < (H k).n → blkO (B k) ≠ b := fun h0 => HNA.out k hlt h0
      have hbB : 0 < (H k).n → blkO (B k) < wr.heap.size := fun h0 => by have := (hlO.bd h0).2; omega
      obtain ⟨l, hi', hl0, hl1, hl2, hl3⟩ : ∃ l hi', Ow wr l hi' (B k) (H k).n 1 (ints (mixM 1 H k k).L) ∧ hi' ≤ wr.heap.size ∧ (∀ q, l ≤ q → q < hi' → 0 < (H k).n ∧ q = blkO (B k)) ∧ (l < hi' → lo ≤ l ∧ hi' ≤ hi) := by
        rcases Nat.eq_zero_or_pos (H k).n with h0 | h0
        · exact ⟨0, 0, by rw [h0]; exact Ow.nil _ _ _ _ _ _, Nat.zero_le _, fun q h1 h2 => by omega, fun h => by omega⟩
        · have h2 := hlO.bd h0
          exact ⟨blkO (B k), blkO (B k) + 1, hlO.tightB, by have := hbB h0; omega, fun q h1 h2 => ⟨h0, by omega⟩, fun _ => ⟨h2.1, h2.2⟩⟩
      have hset : ∀ (W : World) (o : Nat) (u : Value) (q : Nat), q ≠ b → (W.setCell ⟨b, o, none⟩ u).heap[q]? = W.heap[q]? := fun W o u q hq => Below.heap_setCell _ _ _ _ hq
      generalize hK : mkK 1 H k = K at *
      have HKK := hide hK
      clear hK
      have hO1 : Ow ((wr.setCell ⟨b, off + k * 4, none⟩ (.int .i64 K)).setCell ⟨b, off + k * 4 + 1, none⟩ (.int .i64 (K + 1))) l hi' (B k) (H k).n 1 (ints (mixM 1 H k k).L) :=
        hl0.far fun h0 => (hset _ _ _ _ (hnb h0)).trans (hset _ _ _ _ (hnb h0))
      have hz1 : hi' ≤ ((wr.setCell ⟨b, off + k * 4, none⟩ (.int .i64 K)).setCell ⟨b, off + k * 4 + 1, none⟩ (.int .i64 (K + 1))).heap.size := by simpa using hl1
      go_wp2_with fail
      go_at_call 24
      refine (markIntS_any l hi' _ _ _ (K + 1 + 1) _ _ hlk (by omega) (by omega) hz1 hO1).mono ?_
      rintro _ w2 ⟨rfl, ht2, hO2⟩
      have hnl : ¬ (l ≤ b ∧ b < hi') := fun h => by have := hl2 b h.1 h.2; exact hnb this.1 this.2.symm
      have hs2 := ht2.size
      simp at hs2
      have fr : ∀ o, World.frozen? wr ⟨b, o, none⟩ = false → World.frozen? w2 ⟨b, o, none⟩ = false := fun o h => (World.frozen?_of_block (a := ⟨b, o, none⟩) (ht2.block b (by simpa using hbs) hnl)).trans (by simpa using h)
      have f3' := fr _ f3
      have c3' : w2.cell? ⟨b, off + k * 4 + 3, none⟩ = some (.bool (H k).cov) := (World.cell?_of_block (a := ⟨b, off + k * 4 + 3, none⟩) (ht2.block b (by simpa using hbs) hnl)).trans (by go_simp)
      clear e0 e1 e2 e3 f0 f1 f2 f3 fr
      have hbs2 : b < w2.heap.size := by omega
      have HT2 := hide ht2
      have HO2 := hide hO2
      have HO1 := hide hl0
      have HT := hide hT
      have HH2 := hide hl2
      have HH3 := hide hl3
      clear ht2 hO2 hO1 hl0 hT hlO hl2 hl3 hset
      go_wp2
      go_roundw
      case rel =>
        have hbk : w2.heap[b]? = ((wr.setCell ⟨b, off + k * 4, none⟩ (.int .i64 K)).setCell ⟨b, off + k * 4 + 1, none⟩ (.int .i64 (K + 1))).heap[b]? := HT2.out.block b (by simpa using hbs) hnl
        have T1 := (HT.out.set hlt (j0 := 0) (o := off + k * 4) (by omega) (by omega) (.int .i64 K)).set hlt (j0 := 1) (o := off + k * 4 + 1) (by omega) (by omega) (.int .i64 (K + 1))
        have T3 := (T1.far (w' := w2) fun _ => hbk).set hlt (j0 := 3) (o := off + k * 4 + 3) (by omega) (by omega) (.bool ((K + 1 + 1 + (H k).n) % 3 == 0))
        have hset : ∀ (W : World) (o : Nat) (u : Value) (q : Nat), q ≠ b → (W.setCell ⟨b, o, none⟩ u).heap[q]? = W.heap[q]? := fun W o u q hq => Below.heap_setCell _ _ _ _ hq
        refine ⟨k + 1, by omega, by go_num, by rw [HS.out]; congr 1; omega, ?_, ?_, hide fun i hin => ⟨?_, (HL.out i hin).2⟩⟩
        · exact ((((ht.setCell (p := ⟨b, off + k * 4, none⟩) hb1 hb2 _).setCell (p := ⟨b, off + k * 4 + 1, none⟩) hb1 hb2 _).trans (HT2.out.wide HH3.out)).setCell (p := ⟨b, off + k * 4 + 3, none⟩) hb1 hb2 _)
        · refine T3.congr fun i j _ hj => ?_
          rw [← HKK.out]
          exact mark_top H B cc k i j hj
        · by_cases e : i = k
          · subst e
            rw [mixM_at]
            have hO2 := (HO2.out.loose (lo := lo) (hi := hi) fun h0 => (HL.out i hin).1.bd h0).far (w' := w2.setCell ⟨b, off + i * 4 + 3, none⟩ (.bool ((K + 1 + 1 + (H i).n) % 3 == 0))) fun h0 => hset _ _ _ _ (hnb h0)
            simp only [mkH, HKK.out]
            exact hO2
          · rw [mixM_ne 1 H e]
            refine (HL.out i hin).1.far fun h0 => ?_
            have hib : blkO (B i) ≠ b := HNA.out i hin h0
            have hil := ((HL.out i hin).1.bd h0).2
            refine (hset _ _ _ _ hib).trans ((HT2.out.block (blkO (B i)) (by simp; omega) fun hx => ?_).trans ((hset _ _ _ _ hib).trans (hset _ _ _ _ hib)))
            obtain ⟨q1, q2⟩ := HH2.out _ hx.1 hx.2
            exact HNE.out i k hin hlt e h0 q1 q2
      case measure => simp [intOf]; omega
    · obtain rfl : k = n := by omega
      go_wp2
      go_ret
      exact ⟨rfl, ht, B, cc, hT.congr fun i j hi hj => by simp [mixM, hi, hpC], fun i hi => by simpa [mixM, hi, mkH] using HL.out i hi, fun i j hi hj hij h1 h2 => HNE.out i j hi hj hij h1 h2, fun i hi h1 => HNA.out i hi h1⟩
set_option maxRecDepth 20000 in
set_option maxHeartbeats 4000000 in
theorem heldHeapS_any (A : Option Addr) (n c : Nat) (H : Nat → HeapD) (w : World) (hn : n ≤ 1048576) (hln : ∀ i, i < n → (H i).n ≤ 1048576) (h : HpR w A n (mkH 1 H)) :
    Calls Try.prog 41 #[.slice A n c, .int .i64 1] w fun e w' => e = .returned (.int .i64 (mkK 1 H n)) ∧ w = w' := by
  have HN := hide hln
  have HK := hide (mkK_bd (k0 := 1) hln)
  clear hln
  obtain ⟨B, cc, hS, hL⟩ := h
  have HL := hide hL
  clear hL
  go_enter Try.func41, Try.ntmps41
  go_wp2
  go_loop [1, 5] (fun q i => ∃ k : Nat, k ≤ n ∧ i = .int .i64 k ∧ q = .int .i64 (mkK 1 H k)) (fun _ i => n - (intOf i).toNat)
  case atStart => exact ⟨0, by omega, rfl, rfl⟩
  case round =>
    obtain ⟨k, hk, rfl, rfl⟩ := hrel
    obtain ⟨k1, k2⟩ := HK.out k hk
    have HS := hide (show mkK 1 H (k + 1) = mkK 1 H k + 3 + (H k).n from rfl)
    by_cases hlt : k < n
    · obtain ⟨b, off, rfl, hbw, hc⟩ := hp_at hS (Below.refl _ _) (by omega)
      obtain ⟨c0, c1, c2, c3⟩ := hc k hlt
      have hl := (HL.out k hlt).1
      have hlk := HN.out k hlt
      simp only [mkH] at c0 c1 c2 c3 hl
      clear hc
      generalize hK : mkK 1 H k = K at *
      have HKK := hide hK
      clear hK
      go_wp2_with fail
      go_at_call 65
      refine (heldIntS_any _ _ _ (K + 1 + 1) _ hlk (by omega) (by omega) hl).mono ?_
      rintro _ _ ⟨rfl, rfl⟩
      have hd : decide (K + 1 + 1 + ((H k).n : Int) < 0) = false := decide_eq_false (by omega)
      cases hm : ((K + 1 + 1 + ((H k).n : Int)) % 3 == 0)
      · rw [hm] at c3
        go_wp2
        go_round
        case rel => exact ⟨k + 1, by omega, by go_num, by rw [HS.out]; congr 1; omega⟩
        case measure => simp [intOf]; omega
      · rw [hm] at c3
        go_wp2
        go_round
        case rel => exact ⟨k + 1, by omega, by go_num, by rw [HS.out]; congr 1; omega⟩
        case measure => simp [intOf]; omega
    · obtain rfl : k = n := by omega
      go_wp2
      go_ret
      exact ⟨rfl, rfl⟩
end Go.Proofs.Ytidcmdnhnnhnhaa
