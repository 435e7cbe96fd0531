/-
  Contracts: suns, brines, areas and spans that are drawn. Conditions: fewer than 2^40 draws.
-/
import Derived.Test.YtajmebclmippeaaCuB
namespace Go.Proofs.Ytajmebclmippeaa
open Go.RowKit

theorem info_sun : (Try.prog.info? 55).map (fun i => (i.zero, i.size, i.bytes)) = some (some (.agg #[.int .i64 0, .int .i64 0]), 2, 16) := by kernel_rfl
set_option maxRecDepth 20000 in
set_option maxHeartbeats 2000000 in
theorem suns_any (cu m : Nat) (w : World) (hm : m ≤ 1099511600000) (h : Cur w cu m) :
    Calls Try.prog 54 #[.pointer (some ⟨cu, 0, none⟩)] w (DrawL w cu (m + 100) 22 2) := by
  obtain ⟨i1, hi1, hy0, hy1, hy2⟩ := info_parts info_sun
  have hcu := h.lt
  have hD := DrS.start h
  go_enter Try.func54, Try.ntmps54
  go_upto_region 2 with fail
  have hR := RowsI.new (w := w) (B := w.heap.size) (e := 55) (sz := 2) (Nat.le_refl _)
  replace hD := hD.alloc (.cells #[] 55)
  generalize w.alloc (.cells #[] 55) = W1 at hR hD ⊢
  go_wp2_with fail
  go_at_call 55
  refine (among_any cu _ _ _ _ (0) (3990) _ (by omega) (by decide) (by decide) (Nat.ne_of_gt hD.cur.lt) (Lits.new _ _ _ (by rfl) (by decide)) (hD.cur.alloc _)).mono ?_
  rintro _ w2 ⟨D0, rfl, D0a, D0b, hc, ht⟩
  replace hD := (hD.alloc _).draw hc ht
  replace hR := (hR.alloc _).tch ht hcu
  clear hc ht
  go_wp2_with fail
  go_at_call 57
  refine (pick_any _ _ _ _ (by omega) (by decide) hD.cur).mono ?_
  rintro _ w3 ⟨N0, rfl, N0a, N0b, hc, ht⟩
  replace hD := hD.draw hc ht
  replace hR := hR.tch ht hcu
  clear hc ht
  rw [if_neg (by decide)] at N0b
  obtain ⟨N1, rfl⟩ : ∃ N1 : Nat, N0 = N1 := ⟨N0.toNat, by omega⟩
  go_wp2
  go_loopw [3, 4, 5] (fun v d n wr => ∃ (k N : Nat) (D : Int), RowsI wr w.heap.size 55 2 v k ∧ d = .int .i64 D ∧ n = .int .i64 N ∧ k + N ≤ 7 ∧ 0 ≤ D ∧ D ≤ 4000 + 10 * k ∧ DrS w wr cu (m + 2 + 2 * k)) (fun _ _ n _ => (intOf n).toNat)
  case atStart => exact ⟨0, N1, D0, hR, rfl, rfl, by omega, D0a, by omega, hD⟩
  case round =>
    clear hR hD N0a N0b D0a D0b
    obtain ⟨k, N, D, hR, rfl, rfl, hkN, hD0, hD1, hD⟩ := hrel
    have hsz := hD.size
    by_cases hlt : 0 < N
    · obtain ⟨N', rfl⟩ : ∃ N', N = N' + 1 := ⟨N - 1, by omega⟩
      have hd : decide ((0 : Int) < ((N' + 1 : Nat) : Int)) = true := decide_eq_true (by omega)
      go_wp2_with fail
      go_at_call 55
      refine (among_any cu _ _ _ _ (0) (20000) _ (by omega) (by decide) (by decide) (Nat.ne_of_gt hD.cur.lt) (Lits.new _ _ _ (by rfl) (by decide)) (hD.cur.alloc _)).mono ?_
      rintro _ w4 ⟨a, rfl, aa, ab, hc, ht⟩
      replace hD := (hD.alloc _).draw hc ht
      replace hR := (hR.alloc _).tch ht hcu
      clear hc ht
      have hsz := hD.size
      obtain ⟨xs, ho, hx⟩ := hR
      have ho2 := ho.alloc (.cells #[.int .i64 D, .int .i64 a] 55)
      go_upto_region 7 with (at_builtin; refine wpList_append_own_at _ rfl _ _ 25 rfl w.heap.size 55 i1 (.agg #[.int .i64 0, .int .i64 0]) 2 16 Try.underlying25 hi1 hy0 hy1 hy2 rfl (by decide) _ k _ rfl ho2 ⟨w4.heap.size, 0, none⟩ 1 1 [.int .i64 D, .int .i64 a] rfl rfl (World.news_of_block (cs := #[.int .i64 D, .int .i64 a]) (t := 55) (fr := (0, 0)) (heap_alloc_new w4 _)) (by simp [Value.oneCell']) (by simp only [maxLen]; omega) (by omega) (by simp; omega) ?_; intro v5 w5 hown5 hg5 _ _)
      have hR := RowsI.snoc hx hown5 (fun u hu => by simp at hu; rcases hu with rfl | rfl <;> exact ⟨_, rfl⟩)
      have hb5 := grown_below ho2 hg5 (by simp; omega)
      replace hD := (hD.alloc _).grow hb5
      clear ho ho2 hown5 hg5 hb5 hx
      go_wp2_with fail
      go_at_call 55
      refine (among_any cu _ _ _ _ (1) (5) _ (by omega) (by decide) (by decide) (Nat.ne_of_gt hD.cur.lt) (Lits.new _ _ _ (by rfl) (by decide)) (hD.cur.alloc _)).mono ?_
      rintro _ w6 ⟨b, rfl, ba, bb, hc, ht⟩
      replace hD := (hD.alloc _).draw hc ht
      replace hR := (hR.alloc _).tch ht hcu
      clear hc ht
      go_wp2
      go_roundw
      case rel => exact ⟨k + 1, N', D + b, hR, by go_num, by go_num, by omega, by omega, by omega, hD.more (by omega)⟩
      case measure => simp [intOf]
    · obtain rfl : N = 0 := by omega
      have hk : k ≤ 7 := by omega
      replace hD := hD.more (m' := m + 16) (by omega)
      have hD1 : D ≤ 4070 := by omega
      clear hkN hlt
      obtain ⟨A5, c5, -, rfl, -⟩ := hR.out
      go_wp2_with fail
      go_at_call 57
      refine (pick_any _ _ _ _ (by omega) (by decide) hD.cur).mono ?_
      rintro _ w3 ⟨r, rfl, ra, rb, hc, ht⟩
      replace hD := hD.draw hc ht
      replace hR := hR.tch ht hcu
      clear hc ht
      rw [if_neg (by decide)] at rb
      by_cases hr0 : r = 0
      · subst hr0
        clear ra rb
        go_wp2_with fail
        go_at_call 55
        refine (among_any cu _ _ _ _ (-1) (4001) _ (by omega) (by decide) (by decide) (Nat.ne_of_gt hD.cur.lt) (Lits.new _ _ _ (by rfl) (by decide)) (hD.cur.alloc _)).mono ?_
        rintro _ w6 ⟨p, rfl, pa, pb, hc, ht⟩
        replace hD := (hD.alloc _).draw hc ht
        replace hR := (hR.alloc _).tch ht hcu
        clear hc ht
        go_wp2_with fail
        go_at_call 55
        refine (among_any cu _ _ _ _ (-1) (20001) _ (by omega) (by decide) (by decide) (Nat.ne_of_gt hD.cur.lt) (Lits.new _ _ _ (by rfl) (by decide)) (hD.cur.alloc _)).mono ?_
        rintro _ w7 ⟨q, rfl, qa, qb, hc, ht⟩
        replace hD := (hD.alloc _).draw hc ht
        replace hR := (hR.alloc _).tch ht hcu
        clear hc ht
        have hsz := hD.size
        obtain ⟨xs, ho, hx⟩ := hR
        have ho2 := ho.alloc (.cells #[.int .i64 p, .int .i64 q] 55)
        go_upto_region 15 with (at_builtin; refine wpList_append_own_at _ rfl _ _ 25 rfl w.heap.size 55 i1 (.agg #[.int .i64 0, .int .i64 0]) 2 16 Try.underlying25 hi1 hy0 hy1 hy2 rfl (by decide) _ k _ rfl ho2 ⟨w7.heap.size, 0, none⟩ 1 1 [.int .i64 p, .int .i64 q] rfl rfl (World.news_of_block (cs := #[.int .i64 p, .int .i64 q]) (t := 55) (fr := (0, 0)) (heap_alloc_new w7 _)) (by simp [Value.oneCell']) (by simp only [maxLen]; omega) (by omega) (by simp; omega) ?_; intro v5 w5 hown5 hg5 _ _)
        have hR := RowsI.snoc hx hown5 (fun u hu => by simp at hu; rcases hu with rfl | rfl <;> exact ⟨_, rfl⟩)
        have hb5 := grown_below ho2 hg5 (by simp; omega)
        replace hD := (hD.alloc _).grow hb5
        clear ho ho2 hown5 hg5 hb5 hx
        obtain ⟨A6, c6, F6, rfl, hO⟩ := hR.out
        go_wp2
        go_ret
        exact ⟨A6, _, c6, F6, rfl, by omega, hO, hD.more (by omega)⟩
      · have hr0' : (r == 0) = false := by simpa using hr0
        by_cases hr1 : r = 1
        · subst hr1
          clear ra rb hr0 hr0'
          have hD2 : (k : Int) ≤ 20 := by omega
          go_wp2
          go_loopw [3, 4] (fun v d wx => ∃ (k : Nat) (D : Int), RowsI wx w.heap.size 55 2 v k ∧ d = .int .i64 D ∧ k ≤ 21 ∧ 0 ≤ D ∧ D ≤ 5000 + 10 * k ∧ DrS w wx cu (m + 20 + 2 * k)) (fun v _ _ => 22 - (match v with | .slice _ n _ => n | _ => 0))
          case atStart => exact ⟨k, D, hR, rfl, by omega, hD0, by omega, hD.more (by omega)⟩
          case round =>
            clear hR hD hD0 hD1 hD2 hk
            obtain ⟨k, D, hR, rfl, hk, hD0, hD1, hD⟩ := hrel
            have hsz := hD.size
            obtain ⟨A5, c5, -, rfl, -⟩ := hR.out
            go_wp2_with fail
            go_at_call 57
            refine (pick_any _ _ _ _ (by omega) (by decide) hD.cur).mono ?_
            rintro _ w3 ⟨r, rfl, ra, rb, hc, ht⟩
            replace hD := hD.draw hc ht
            replace hR := hR.tch ht hcu
            clear hc ht
            rw [if_neg (by decide)] at rb
            by_cases hlt : (k : Int) < 20 + r
            · have hsz := hD.size
              obtain ⟨xs, ho, hx⟩ := hR
              have ho2 := ho.alloc (.cells #[.int .i64 D, .int .i64 100] 55)
              go_upto_region 14 with (at_builtin; refine wpList_append_own_at _ rfl _ _ 25 rfl w.heap.size 55 i1 (.agg #[.int .i64 0, .int .i64 0]) 2 16 Try.underlying25 hi1 hy0 hy1 hy2 rfl (by decide) _ k _ rfl ho2 ⟨w3.heap.size, 0, none⟩ 1 1 [.int .i64 D, .int .i64 100] rfl rfl (World.news_of_block (cs := #[.int .i64 D, .int .i64 100]) (t := 55) (fr := (0, 0)) (heap_alloc_new w3 _)) (by simp [Value.oneCell']) (by simp only [maxLen]; omega) (by omega) (by simp; omega) ?_; intro v5 w5 hown5 hg5 _ _)
              have hR := RowsI.snoc hx hown5 (fun u hu => by simp at hu; rcases hu with rfl | rfl <;> exact ⟨_, rfl⟩)
              have hb5 := grown_below ho2 hg5 (by simp; omega)
              replace hD := (hD.alloc _).grow hb5
              clear ho ho2 hown5 hg5 hb5 hx
              obtain ⟨A6, c6, -, rfl, -⟩ := hR.out
              go_wp2
              go_roundw
              case rel => exact ⟨k + 1, D + 1, hR, by go_num, by omega, by omega, by omega, hD.more (by omega)⟩
              case measure => simp; omega
            · obtain ⟨A6, c6, F6, e6, hO⟩ := hR.out
              injection e6 with e6 _ e7
              subst e6 e7
              go_wp2
              go_ret
              exact ⟨A5, k, c5, F6, rfl, by omega, hO, hD.more (by omega)⟩
        · have hr1' : (r == 1) = false := by simpa using hr1
          obtain ⟨A6, c6, F6, e6, hO⟩ := hR.out
          injection e6 with e6 _ e7
          subst e6 e7
          clear hr0 hr1
          go_wp2
          go_ret
          exact ⟨A5, k, c5, F6, rfl, by omega, hO, hD.more (by omega)⟩
end Go.Proofs.Ytajmebclmippeaa
