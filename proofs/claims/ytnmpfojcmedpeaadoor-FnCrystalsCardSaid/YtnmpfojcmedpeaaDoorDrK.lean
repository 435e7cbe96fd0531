/-
  Contracts: kinds of salt that are drawn. Conditions: fewer than 2^40 draws.
-/
import Derived.Test.YtnmpfojcmedpeaaDoorDrJ
namespace Go.Proofs.YtnmpfojcmedpeaaDoor
open Go.RowKit

/-- What a draw of kinds leaves. -/
def DrawK (w : World) (cu m : Nat) (e : Ending) (w' : World) : Prop :=
  ∃ A n c S F, e = .returned (.slice A n c) ∧ n ≤ 5 ∧ Ow w' w.heap.size w'.heap.size A n 3 (kdC S F) ∧ (∀ i, i < n → (S i).size ≤ 9223372036854775807) ∧ DrS w w' cu m
set_option maxRecDepth 20000 in
set_option maxHeartbeats 4000000 in
theorem kinds10_any (cu m : Nat) (w : World) (hm : m ≤ 1099511600000) (h : Cur w cu m) :
    Calls Tryd.prog 69 #[.pointer (some ⟨cu, 0, none⟩)] w (DrawK w cu (m + 40)) := by
  obtain ⟨i1, hi1, hy0, hy1, hy2⟩ := info_parts info_kind
  have hcu := h.lt
  have hcB : cu < w.heap.size + 1 := by omega
  have hD := DrS.start h
  go_enter Tryd.func69, Tryd.ntmps69
  go_upto_region 2 with fail
  have hN : ∀ t, Strs (w.alloc (.cells #[.string ⟨#[98, 105, 116, 116, 101, 114]⟩, .string ⟨#[103, 121, 112, 115]⟩, .string ⟨#[104, 97, 108, 105, 116, 101]⟩, .string ⟨#[107, 97, 108, 105]⟩, .string ⟨#[109, 97, 103, 110, 101, 115]⟩] t)) w.heap.size 5 := fun t => Strs.new _ _ _ (by rfl) (by decide)
  replace hN := hN 9
  replace hD := hD.alloc (.cells #[.string ⟨#[98, 105, 116, 116, 101, 114]⟩, .string ⟨#[103, 121, 112, 115]⟩, .string ⟨#[104, 97, 108, 105, 116, 101]⟩, .string ⟨#[107, 97, 108, 105]⟩, .string ⟨#[109, 97, 103, 110, 101, 115]⟩] 9)
  have hs1 : (w.alloc (.cells #[.string ⟨#[98, 105, 116, 116, 101, 114]⟩, .string ⟨#[103, 121, 112, 115]⟩, .string ⟨#[104, 97, 108, 105, 116, 101]⟩, .string ⟨#[107, 97, 108, 105]⟩, .string ⟨#[109, 97, 103, 110, 101, 115]⟩] 9)).heap.size = w.heap.size + 1 := by simp
  generalize w.alloc (.cells #[.string ⟨#[98, 105, 116, 116, 101, 114]⟩, .string ⟨#[103, 121, 112, 115]⟩, .string ⟨#[104, 97, 108, 105, 116, 101]⟩, .string ⟨#[107, 97, 108, 105]⟩, .string ⟨#[109, 97, 103, 110, 101, 115]⟩] 9) = W0 at hN hD hs1 ⊢
  have hR := RowsK.new (w := W0) (B := w.heap.size + 1) (e := 46) (by omega)
  rw [hs1] at hR
  replace hD := hD.alloc (.cells #[] 46)
  replace hN := hN.below ((Below.refl _ _).alloc (Nat.le_refl _) (.cells #[] 46))
  generalize W0.alloc (.cells #[] 46) = W1 at hR hD hN ⊢
  clear hs1
  go_wp2
  go_loopw [4, 5] (fun v i wr => ∃ (k j : Nat), RowsK wr (w.heap.size + 1) 46 v k ∧ i = .int .i64 j ∧ j ≤ 5 ∧ k ≤ j ∧ (2 < j → 1 ≤ k) ∧ Strs wr w.heap.size 5 ∧ DrS w wr cu (m + 3 * j)) (fun _ i _ => 5 - (intOf i).toNat)
  case atStart => exact ⟨0, 0, hR, rfl, by omega, by omega, by omega, hN, hD.more (by omega)⟩
  case round =>
    clear hR hD hN
    obtain ⟨k, j, hR, rfl, hj, hkj, hj2, hN, hD⟩ := hrel
    by_cases hlt : j < 5
    · go_wp2_with fail
      go_at_call 88
      refine (one_any _ _ _ _ (by omega) (by decide) hD.cur).mono ?_
      rintro _ W ⟨bb, rfl, hc, ht⟩
      replace hD := hD.draw hc ht
      replace hR := hR.tch ht hcB
      replace hN := hN.tch ht (by omega)
      clear hc ht
      cases bb
      · by_cases h2 : j = 2
        · have h2' : ((j : Int) == 2) = true := by simp; omega
          have hj3 : j < 3 := by omega
          clear h2
          go_upto_region 6 with fail
          obtain ⟨s, hcell, hsz⟩ := hN.at_ j (by omega)
          have hgW := hN.lt
          have hsW := hD.size
          have hcW := hD.cur.lt
          have d0 : ∀ w', Kp w.heap.size W w' → w'.cell? ⟨w.heap.size, j, none⟩ = some (.string s) := fun w' ha => (ha.agr.cell (p := ⟨w.heap.size, j, none⟩) (Nat.le_refl _) (Nat.lt_succ_self _)).trans hcell
          clear hcell
          go_region_held3 (fun w' => Kp w.heap.size W w') (repeat' (first | exact Kp.refl _ _ | assumption | refine Kp.drew ?_ | refine Kp.alloc ?_ (by first | omega | (simp; done) | (simp; omega)) _)) (first | (have hc1' := hc1; clear hc1'; go_at_call 71; refine (among0_any _ _ _ 6 _ _ (by omega) (by decide) (by decide) (by first | omega | (simp; done) | (simp; omega)) (by first | (first | ((with_reducible refine Lits0.drew ?_); (first | ((with_reducible refine Lits0.new' _ _ _ ?hg ?hn ?ha); (case hg => (first | with_reducible rfl | (simp; done))); (case hn => rfl); (case ha => rfl)) | ((with_reducible refine Lits0.alloc ?_ _); ((with_reducible refine Lits0.new' _ _ _ ?hg ?hn ?ha); (case hg => (first | with_reducible rfl | (simp; done))); (case hn => rfl); (case ha => rfl))))) | (first | ((with_reducible refine Lits0.new' _ _ _ ?hg ?hn ?ha); (case hg => (first | with_reducible rfl | (simp; done))); (case hn => rfl); (case ha => rfl)) | ((with_reducible refine Lits0.alloc ?_ _); ((with_reducible refine Lits0.new' _ _ _ ?hg ?hn ?ha); (case hg => (first | with_reducible rfl | (simp; done))); (case hn => rfl); (case ha => rfl))))) | (refine Lits0.tch ?_ ht1 (by first | omega | (simp; done) | (simp; omega)); (first | ((with_reducible refine Lits0.drew ?_); (first | ((with_reducible refine Lits0.new' _ _ _ ?hg ?hn ?ha); (case hg => (first | with_reducible rfl | (simp; done))); (case hn => rfl); (case ha => rfl)) | ((with_reducible refine Lits0.alloc ?_ _); ((with_reducible refine Lits0.new' _ _ _ ?hg ?hn ?ha); (case hg => (first | with_reducible rfl | (simp; done))); (case hn => rfl); (case ha => rfl))))) | (first | ((with_reducible refine Lits0.new' _ _ _ ?hg ?hn ?ha); (case hg => (first | with_reducible rfl | (simp; done))); (case hn => rfl); (case ha => rfl)) | ((with_reducible refine Lits0.alloc ?_ _); ((with_reducible refine Lits0.new' _ _ _ ?hg ?hn ?ha); (case hg => (first | with_reducible rfl | (simp; done))); (case hn => rfl); (case ha => rfl))))))) (Cur.below hc1 (by (repeat' (first | exact Below.refl _ _ | assumption | refine Below.drew ?_ | refine Below.alloc ?_ (by first | omega | exact Below.size (by assumption) | (simp; done) | (simp; omega)) _ | refine Below.setCell ?_ (by first | omega | exact Below.size (by assumption) | (simp; done) | (simp; omega)) _))))).mono ?_; rintro _ v2 ⟨wb, rfl, hc2, ht2⟩; have C2 : Kp w.heap.size W v2 := Kp.tch (by assumption) ht2 (by first | omega | (simp; done) | (simp; omega)) (by omega); have R2 := RowsK.tch (RowsK.below R1 (by (repeat' (first | exact Below.refl _ _ | assumption | refine Below.drew ?_ | refine Below.alloc ?_ (by first | omega | exact Below.size (by assumption) | (simp; done) | (simp; omega)) _ | refine Below.setCell ?_ (by first | omega | exact Below.size (by assumption) | (simp; done) | (simp; omega)) _)))) ht2 hcB; have D2 := DrS.draw (DrS.grow D1 (Below.mono (show Below v1.heap.size v1 _ from (by (repeat' (first | exact Below.refl _ _ | assumption | refine Below.drew ?_ | refine Below.alloc ?_ (by first | omega | exact Below.size (by assumption) | (simp; done) | (simp; omega)) _ | refine Below.setCell ?_ (by first | omega | exact Below.size (by assumption) | (simp; done) | (simp; omega)) _)))) D1.size)) hc2 ht2; have z2 : W.heap.size ≤ v2.heap.size := Nat.le_trans z1 (Nat.le_trans (Below.size (show Below v1.heap.size v1 _ from (by (repeat' (first | exact Below.refl _ _ | assumption | refine Below.drew ?_ | refine Below.alloc ?_ (by first | omega | exact Below.size (by assumption) | (simp; done) | (simp; omega)) _ | refine Below.setCell ?_ (by first | omega | exact Below.size (by assumption) | (simp; done) | (simp; omega)) _))))) ht2.size)) | (go_at_call 71; refine (among0_any _ _ _ 5 _ _ (by omega) (by decide) (by decide) (by first | omega | (simp; done) | (simp; omega)) (by (first | ((with_reducible refine Lits0.drew ?_); (first | ((with_reducible refine Lits0.new' _ _ _ ?hg ?hn ?ha); (case hg => (first | with_reducible rfl | (simp; done))); (case hn => rfl); (case ha => rfl)) | ((with_reducible refine Lits0.alloc ?_ _); ((with_reducible refine Lits0.new' _ _ _ ?hg ?hn ?ha); (case hg => (first | with_reducible rfl | (simp; done))); (case hn => rfl); (case ha => rfl))))) | (first | ((with_reducible refine Lits0.new' _ _ _ ?hg ?hn ?ha); (case hg => (first | with_reducible rfl | (simp; done))); (case hn => rfl); (case ha => rfl)) | ((with_reducible refine Lits0.alloc ?_ _); ((with_reducible refine Lits0.new' _ _ _ ?hg ?hn ?ha); (case hg => (first | with_reducible rfl | (simp; done))); (case hn => rfl); (case ha => rfl)))))) (Cur.below hD.cur (by (repeat' (first | exact Below.refl _ _ | assumption | refine Below.drew ?_ | refine Below.alloc ?_ (by first | omega | exact Below.size (by assumption) | (simp; done) | (simp; omega)) _ | refine Below.setCell ?_ (by first | omega | exact Below.size (by assumption) | (simp; done) | (simp; omega)) _))))).mono ?_; rintro _ v1 ⟨wa, rfl, hc1, ht1⟩; have C1 : Kp w.heap.size W v1 := Kp.tch (by assumption) ht1 (by first | omega | (simp; done) | (simp; omega)) (by omega); have R1 := RowsK.tch (RowsK.below hR (by (repeat' (first | exact Below.refl _ _ | assumption | refine Below.drew ?_ | refine Below.alloc ?_ (by first | omega | exact Below.size (by assumption) | (simp; done) | (simp; omega)) _ | refine Below.setCell ?_ (by first | omega | exact Below.size (by assumption) | (simp; done) | (simp; omega)) _)))) ht1 hcB; have D1 := DrS.draw (DrS.grow hD (Below.mono (show Below W.heap.size W _ from (by (repeat' (first | exact Below.refl _ _ | assumption | refine Below.drew ?_ | refine Below.alloc ?_ (by first | omega | exact Below.size (by assumption) | (simp; done) | (simp; omega)) _ | refine Below.setCell ?_ (by first | omega | exact Below.size (by assumption) | (simp; done) | (simp; omega)) _)))) hsW)) hc1 ht1; have z1 : W.heap.size ≤ v1.heap.size := Nat.le_trans (Below.size (show Below W.heap.size W _ from (by (repeat' (first | exact Below.refl _ _ | assumption | refine Below.drew ?_ | refine Below.alloc ?_ (by first | omega | exact Below.size (by assumption) | (simp; done) | (simp; omega)) _ | refine Below.setCell ?_ (by first | omega | exact Below.size (by assumption) | (simp; done) | (simp; omega)) _))))) ht1.size) | (obtain ⟨l, ho, hl, hs5⟩ := R2; refine step_append_lies _ (by rfl) _ _ _ (by rfl) (w.heap.size + 1) 46 i1 _ 3 32 Tryd.underlying24 hi1 hy0 hy1 hy2 rfl (by omega) _ k _ (by rfl) (ho.alloc _) ⟨v2.heap.size, 0, none⟩ 1 1 [.string s, .int .i64 wa, .int .i64 wb] (by rfl) (by rfl) (World.news_of_block (cs := #[.string s, .int .i64 wa, .int .i64 wb]) (t := 46) (fr := (0, 0)) (heap_alloc_new v2 _)) (by simp [Value.oneCell']) (by omega) (by simp only [maxLen]; omega) (by omega) (by simp; omega) (v2.heap.size + 1) (by simp) ?_; intro gg cap w5 hown5 hg5 _ _; have hb5 := grown_below (ho.alloc _) hg5 (by simp; omega); have R5 : RowsK w5 (w.heap.size + 1) 46 (.slice (some ⟨gg, 0, none⟩) (k + 1) cap) (k + 1) := ⟨l ++ [(s, wa, wb)], (by rw [kcL_append]; exact hown5), (by simp [hl]), (fun p hp => (by rcases List.mem_append.1 hp with h | h; exact hs5 p h; obtain rfl := List.mem_singleton.1 h; exact hsz))⟩; have C5 : Kp w.heap.size W w5 := Kp.below (by assumption) hb5 (Nat.lt_succ_self _); have D5 := DrS.grow (DrS.alloc D2 _) (hb5.mono (Nat.le_succ _))))
          all_goals
            have hN5 := hN.agr C5.agr (by have := D5.size; have := hb5.size; simp at this; omega)
            clear hN R1 D1 D2 C1 C2 hc1 hc2 ht1 ht2 d0 hR hD
            go_wp2
            go_roundw
            case rel => exact ⟨k + 1, j + 1, R5, by go_num, by omega, by omega, by omega, hN5, D5.more (by omega)⟩
            case measure => simp [intOf]; omega
        · have h2' : ((j : Int) == 2) = false := by simp; omega
          go_wp2
          go_roundw
          case rel => exact ⟨k, j + 1, hR, by go_num, by omega, by omega, by omega, hN, hD.more (by omega)⟩
          case measure => simp [intOf]; omega
      · go_upto_region 6 with fail
        obtain ⟨s, hcell, hsz⟩ := hN.at_ j (by omega)
        have hgW := hN.lt
        have hsW := hD.size
        have hcW := hD.cur.lt
        have d0 : ∀ w', Kp w.heap.size W w' → w'.cell? ⟨w.heap.size, j, none⟩ = some (.string s) := fun w' ha => (ha.agr.cell (p := ⟨w.heap.size, j, none⟩) (Nat.le_refl _) (Nat.lt_succ_self _)).trans hcell
        clear hcell
        go_region_held3 (fun w' => Kp w.heap.size W w') (repeat' (first | exact Kp.refl _ _ | assumption | refine Kp.drew ?_ | refine Kp.alloc ?_ (by first | omega | (simp; done) | (simp; omega)) _)) (first | (have hc1' := hc1; clear hc1'; go_at_call 71; refine (among0_any _ _ _ 6 _ _ (by omega) (by decide) (by decide) (by first | omega | (simp; done) | (simp; omega)) (by first | (first | ((with_reducible refine Lits0.drew ?_); (first | ((with_reducible refine Lits0.new' _ _ _ ?hg ?hn ?ha); (case hg => (first | with_reducible rfl | (simp; done))); (case hn => rfl); (case ha => rfl)) | ((with_reducible refine Lits0.alloc ?_ _); ((with_reducible refine Lits0.new' _ _ _ ?hg ?hn ?ha); (case hg => (first | with_reducible rfl | (simp; done))); (case hn => rfl); (case ha => rfl))))) | (first | ((with_reducible refine Lits0.new' _ _ _ ?hg ?hn ?ha); (case hg => (first | with_reducible rfl | (simp; done))); (case hn => rfl); (case ha => rfl)) | ((with_reducible refine Lits0.alloc ?_ _); ((with_reducible refine Lits0.new' _ _ _ ?hg ?hn ?ha); (case hg => (first | with_reducible rfl | (simp; done))); (case hn => rfl); (case ha => rfl))))) | (refine Lits0.tch ?_ ht1 (by first | omega | (simp; done) | (simp; omega)); (first | ((with_reducible refine Lits0.drew ?_); (first | ((with_reducible refine Lits0.new' _ _ _ ?hg ?hn ?ha); (case hg => (first | with_reducible rfl | (simp; done))); (case hn => rfl); (case ha => rfl)) | ((with_reducible refine Lits0.alloc ?_ _); ((with_reducible refine Lits0.new' _ _ _ ?hg ?hn ?ha); (case hg => (first | with_reducible rfl | (simp; done))); (case hn => rfl); (case ha => rfl))))) | (first | ((with_reducible refine Lits0.new' _ _ _ ?hg ?hn ?ha); (case hg => (first | with_reducible rfl | (simp; done))); (case hn => rfl); (case ha => rfl)) | ((with_reducible refine Lits0.alloc ?_ _); ((with_reducible refine Lits0.new' _ _ _ ?hg ?hn ?ha); (case hg => (first | with_reducible rfl | (simp; done))); (case hn => rfl); (case ha => rfl))))))) (Cur.below hc1 (by (repeat' (first | exact Below.refl _ _ | assumption | refine Below.drew ?_ | refine Below.alloc ?_ (by first | omega | exact Below.size (by assumption) | (simp; done) | (simp; omega)) _ | refine Below.setCell ?_ (by first | omega | exact Below.size (by assumption) | (simp; done) | (simp; omega)) _))))).mono ?_; rintro _ v2 ⟨wb, rfl, hc2, ht2⟩; have C2 : Kp w.heap.size W v2 := Kp.tch (by assumption) ht2 (by first | omega | (simp; done) | (simp; omega)) (by omega); have R2 := RowsK.tch (RowsK.below R1 (by (repeat' (first | exact Below.refl _ _ | assumption | refine Below.drew ?_ | refine Below.alloc ?_ (by first | omega | exact Below.size (by assumption) | (simp; done) | (simp; omega)) _ | refine Below.setCell ?_ (by first | omega | exact Below.size (by assumption) | (simp; done) | (simp; omega)) _)))) ht2 hcB; have D2 := DrS.draw (DrS.grow D1 (Below.mono (show Below v1.heap.size v1 _ from (by (repeat' (first | exact Below.refl _ _ | assumption | refine Below.drew ?_ | refine Below.alloc ?_ (by first | omega | exact Below.size (by assumption) | (simp; done) | (simp; omega)) _ | refine Below.setCell ?_ (by first | omega | exact Below.size (by assumption) | (simp; done) | (simp; omega)) _)))) D1.size)) hc2 ht2; have z2 : W.heap.size ≤ v2.heap.size := Nat.le_trans z1 (Nat.le_trans (Below.size (show Below v1.heap.size v1 _ from (by (repeat' (first | exact Below.refl _ _ | assumption | refine Below.drew ?_ | refine Below.alloc ?_ (by first | omega | exact Below.size (by assumption) | (simp; done) | (simp; omega)) _ | refine Below.setCell ?_ (by first | omega | exact Below.size (by assumption) | (simp; done) | (simp; omega)) _))))) ht2.size)) | (go_at_call 71; refine (among0_any _ _ _ 5 _ _ (by omega) (by decide) (by decide) (by first | omega | (simp; done) | (simp; omega)) (by (first | ((with_reducible refine Lits0.drew ?_); (first | ((with_reducible refine Lits0.new' _ _ _ ?hg ?hn ?ha); (case hg => (first | with_reducible rfl | (simp; done))); (case hn => rfl); (case ha => rfl)) | ((with_reducible refine Lits0.alloc ?_ _); ((with_reducible refine Lits0.new' _ _ _ ?hg ?hn ?ha); (case hg => (first | with_reducible rfl | (simp; done))); (case hn => rfl); (case ha => rfl))))) | (first | ((with_reducible refine Lits0.new' _ _ _ ?hg ?hn ?ha); (case hg => (first | with_reducible rfl | (simp; done))); (case hn => rfl); (case ha => rfl)) | ((with_reducible refine Lits0.alloc ?_ _); ((with_reducible refine Lits0.new' _ _ _ ?hg ?hn ?ha); (case hg => (first | with_reducible rfl | (simp; done))); (case hn => rfl); (case ha => rfl)))))) (Cur.below hD.cur (by (repeat' (first | exact Below.refl _ _ | assumption | refine Below.drew ?_ | refine Below.alloc ?_ (by first | omega | exact Below.size (by assumption) | (simp; done) | (simp; omega)) _ | refine Below.setCell ?_ (by first | omega | exact Below.size (by assumption) | (simp; done) | (simp; omega)) _))))).mono ?_; rintro _ v1 ⟨wa, rfl, hc1, ht1⟩; have C1 : Kp w.heap.size W v1 := Kp.tch (by assumption) ht1 (by first | omega | (simp; done) | (simp; omega)) (by omega); have R1 := RowsK.tch (RowsK.below hR (by (repeat' (first | exact Below.refl _ _ | assumption | refine Below.drew ?_ | refine Below.alloc ?_ (by first | omega | exact Below.size (by assumption) | (simp; done) | (simp; omega)) _ | refine Below.setCell ?_ (by first | omega | exact Below.size (by assumption) | (simp; done) | (simp; omega)) _)))) ht1 hcB; have D1 := DrS.draw (DrS.grow hD (Below.mono (show Below W.heap.size W _ from (by (repeat' (first | exact Below.refl _ _ | assumption | refine Below.drew ?_ | refine Below.alloc ?_ (by first | omega | exact Below.size (by assumption) | (simp; done) | (simp; omega)) _ | refine Below.setCell ?_ (by first | omega | exact Below.size (by assumption) | (simp; done) | (simp; omega)) _)))) hsW)) hc1 ht1; have z1 : W.heap.size ≤ v1.heap.size := Nat.le_trans (Below.size (show Below W.heap.size W _ from (by (repeat' (first | exact Below.refl _ _ | assumption | refine Below.drew ?_ | refine Below.alloc ?_ (by first | omega | exact Below.size (by assumption) | (simp; done) | (simp; omega)) _ | refine Below.setCell ?_ (by first | omega | exact Below.size (by assumption) | (simp; done) | (simp; omega)) _))))) ht1.size) | (obtain ⟨l, ho, hl, hs5⟩ := R2; refine step_append_lies _ (by rfl) _ _ _ (by rfl) (w.heap.size + 1) 46 i1 _ 3 32 Tryd.underlying24 hi1 hy0 hy1 hy2 rfl (by omega) _ k _ (by rfl) (ho.alloc _) ⟨v2.heap.size, 0, none⟩ 1 1 [.string s, .int .i64 wa, .int .i64 wb] (by rfl) (by rfl) (World.news_of_block (cs := #[.string s, .int .i64 wa, .int .i64 wb]) (t := 46) (fr := (0, 0)) (heap_alloc_new v2 _)) (by simp [Value.oneCell']) (by omega) (by simp only [maxLen]; omega) (by omega) (by simp; omega) (v2.heap.size + 1) (by simp) ?_; intro gg cap w5 hown5 hg5 _ _; have hb5 := grown_below (ho.alloc _) hg5 (by simp; omega); have R5 : RowsK w5 (w.heap.size + 1) 46 (.slice (some ⟨gg, 0, none⟩) (k + 1) cap) (k + 1) := ⟨l ++ [(s, wa, wb)], (by rw [kcL_append]; exact hown5), (by simp [hl]), (fun p hp => (by rcases List.mem_append.1 hp with h | h; exact hs5 p h; obtain rfl := List.mem_singleton.1 h; exact hsz))⟩; have C5 : Kp w.heap.size W w5 := Kp.below (by assumption) hb5 (Nat.lt_succ_self _); have D5 := DrS.grow (DrS.alloc D2 _) (hb5.mono (Nat.le_succ _))))
        all_goals
          have hN5 := hN.agr C5.agr (by have := D5.size; have := hb5.size; simp at this; omega)
          clear hN R1 D1 D2 C1 C2 hc1 hc2 ht1 ht2 d0 hR hD
          go_wp2
          go_roundw
          case rel => exact ⟨k + 1, j + 1, R5, by go_num, by omega, by omega, by omega, hN5, D5.more (by omega)⟩
          case measure => simp [intOf]; omega
    · obtain rfl : j = 5 := by omega
      have hk0 : 0 < k := hj2 (by omega)
      clear hj hj2 hlt hN
      replace hD := hD.more (m' := m + 15) (by omega)
      go_wp2_with fail
      go_at_call 89
      refine (pick_any _ _ _ _ (by omega) (by decide) hD.cur).mono ?_
      rintro _ w3 ⟨r, rfl, ra, rb, hc, ht⟩
      replace hD := hD.draw hc ht
      replace hR := hR.tch ht hcB
      clear hc ht ra rb
      obtain ⟨g, cg, rfl, hg1, hg2, -⟩ := hR.form hk0
      have hw3 : w.heap.size + 1 ≤ w3.heap.size := by omega
      have hgw : w.heap.size ≤ g := by omega
      clear hg2
      by_cases hr0 : r = 0
      · subst hr0
        go_wp2_with fail
        go_at_call 71
        refine (among0_any cu _ _ _ _ _ (by omega) (by decide) (by decide) (Nat.ne_of_gt hD.cur.lt) (Lits0.new _ _ _ (by rfl) (by rfl)) (hD.cur.alloc _)).mono ?_
        rintro _ w6 ⟨p, rfl, hc, ht⟩
        replace hD := (hD.alloc _).draw hc ht
        replace hR := (hR.alloc _).tch ht hcB
        clear hc ht
        obtain ⟨g', cg', e, -, hg2, -, -, ⟨z0, hz0⟩, hfz, -, -, hset⟩ := hR.form hk0
        injection e with e e1 e2
        injection e with e
        injection e with e
        subst e e2
        have f0 := hfz 2
        replace hR := hset p
        replace hD := hD.set (p := ⟨g, 2, none⟩) hgw (.int .i64 p)
        clear hfz hset
        have hk0' : decide ((0 : Int) < (k : Int)) = true := decide_eq_true (by omega)
        obtain ⟨A6, c6, S6, F6, e6, hO, hS6⟩ := hR.out
        injection e6 with e6 _ e7; subst e6 e7
        go_wp2
        go_ret
        exact ⟨_, _, _, S6, F6, rfl, by omega, hO.mono (Nat.le_succ _) (Nat.le_refl _), hS6, hD.more (by omega)⟩
      have hr0' : (r == 0) = false := by simpa using hr0
      clear hr0
      by_cases hr1 : r = 1
      · subst hr1
        clear hr0'
        go_wp2_with fail
        go_at_call 71
        refine (among0_any cu _ _ _ _ _ (by omega) (by decide) (by decide) (Nat.ne_of_gt hD.cur.lt) (Lits0.new _ _ _ (by rfl) (by rfl)) (hD.cur.alloc _)).mono ?_
        rintro _ w6 ⟨p, rfl, hc, ht⟩
        replace hD := (hD.alloc _).draw hc ht
        replace hR := (hR.alloc _).tch ht hcB
        clear hc ht
        obtain ⟨g', cg', e, -, hg2, -, ⟨z0, hz0⟩, -, hfz, -, hset, -⟩ := hR.form hk0
        injection e with e e1 e2
        injection e with e
        injection e with e
        subst e e2
        have f0 := hfz 1
        replace hR := hset p
        replace hD := hD.set (p := ⟨g, 1, none⟩) hgw (.int .i64 p)
        clear hfz hset
        have hk0' : decide ((0 : Int) < (k : Int)) = true := decide_eq_true (by omega)
        obtain ⟨A6, c6, S6, F6, e6, hO, hS6⟩ := hR.out
        injection e6 with e6 _ e7; subst e6 e7
        go_wp2
        go_ret
        exact ⟨_, _, _, S6, F6, rfl, by omega, hO.mono (Nat.le_succ _) (Nat.le_refl _), hS6, hD.more (by omega)⟩
      have hr1' : (r == 1) = false := by simpa using hr1
      clear hr1
      by_cases hr2 : r = 2
      · subst hr2
        clear hr0' hr1'
        go_wp2_with fail
        go_at_call 90
        refine (of_any cu _ _ _ _ _ (by omega) (by decide) (by decide) (Nat.ne_of_gt hD.cur.lt) (Strs.new _ _ _ (by rfl) (by decide)) (hD.cur.alloc _)).mono ?_
        rintro _ w6 ⟨p, rfl, hps, hc, ht⟩
        replace hD := (hD.alloc _).draw hc ht
        replace hR := (hR.alloc _).tch ht hcB
        clear hc ht
        obtain ⟨g', cg', e, -, hg2, ⟨z0, hz0⟩, -, -, hfz, hset, -, -⟩ := hR.form hk0
        injection e with e e1 e2
        injection e with e
        injection e with e
        subst e e2
        have f0 := hfz 0
        replace hR := hset p hps
        replace hD := hD.set (p := ⟨g, 0, none⟩) hgw (.string p)
        clear hfz hset
        have hk0' : decide ((0 : Int) < (k : Int)) = true := decide_eq_true (by omega)
        obtain ⟨A6, c6, S6, F6, e6, hO, hS6⟩ := hR.out
        injection e6 with e6 _ e7; subst e6 e7
        go_wp2
        go_ret
        exact ⟨_, _, _, S6, F6, rfl, by omega, hO.mono (Nat.le_succ _) (Nat.le_refl _), hS6, hD.more (by omega)⟩
      have hr2' : (r == 2) = false := by simpa using hr2
      clear hr2
      by_cases hr3 : r = 3
      · subst hr3
        clear hr0' hr1' hr2' hR
        have hR := RowsK.new (w := w3) (B := w.heap.size + 1) (e := 46) hw3
        replace hD := hD.alloc (.cells #[] 46)
        obtain ⟨A6, c6, S6, F6, e6, hO, hS6⟩ := hR.out
        injection e6 with e6 _ e7; subst e6 e7
        go_wp2
        go_ret
        exact ⟨_, _, _, S6, F6, rfl, by omega, hO.mono (Nat.le_succ _) (Nat.le_refl _), hS6, hD.more (by omega)⟩
      have hr3' : (r == 3) = false := by simpa using hr3
      clear hr3
      obtain ⟨A6, c6, S6, F6, e6, hO, hS6⟩ := hR.out
      injection e6 with e6 _ e7; subst e6 e7
      go_wp2
      go_ret
      exact ⟨_, _, _, S6, F6, rfl, by omega, hO.mono (Nat.le_succ _) (Nat.le_refl _), hS6, hD.more (by omega)⟩
end Go.Proofs.YtnmpfojcmedpeaaDoor
