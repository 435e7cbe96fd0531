/-
  Contracts: series of basins that are drawn. Conditions: fewer than 2^40 draws.
-/
import Derived.Test.YtjhhpepjjpejhaaCuB
namespace Go.Proofs.Ytjhhpepjjpejhaa
open Go.RowKit

theorem info_basinD : (Try.prog.info? 49).map (fun i => (i.zero, i.size, i.bytes)) = some (some (.agg #[.int .i64 0, .int .i64 0, .int .i64 0]), 3, 24) := by kernel_rfl
/-- A number stored into such a row. -/
theorem RowsI.set {w : World} {B : Nat} {e : TypeId} {sz n g c : Nat} (h : RowsI w B e sz (.slice (some ⟨g, 0, none⟩) n c) n) (j : Nat) (z : Int) : RowsI (w.setCell ⟨g, j, none⟩ (.int .i64 z)) B e sz (.slice (some ⟨g, 0, none⟩) n c) n := by
  obtain ⟨xs, h1, h2⟩ := h
  refine ⟨_, (h1.stored j (.int .i64 z)).1, fun u hu => ?_⟩
  rcases List.mem_or_eq_of_mem_set hu with h3 | h3
  · exact h2 u h3
  · exact ⟨z, h3⟩
theorem RowsI.form {w : World} {B : Nat} {e : TypeId} {sz n : Nat} {v : Value} (h : RowsI w B e sz v n) (h0 : 0 < n) : ∃ g c, v = .slice (some ⟨g, 0, none⟩) n c ∧ B ≤ g ∧ g < w.heap.size ∧ (∀ j, j < n * sz → ∃ z, w.cell? ⟨g, j, none⟩ = some (.int .i64 z)) ∧ ∀ j, w.frozen? ⟨g, j, none⟩ = false := by
  obtain ⟨xs, h1, h2⟩ := h
  obtain ⟨g, cap, rfl, hb, hg⟩ := h1.form h0
  refine ⟨g, cap, rfl, hb, hg, fun j hj => ?_, fun j => h1.frozenAt j⟩
  have hx : j < xs.length := by rw [h1.1]; exact hj
  obtain ⟨z, hz⟩ := h2 _ (List.getElem_mem hx)
  exact ⟨z, by rw [h1.cellAt j hj, List.getElem?_eq_getElem hx, hz]⟩
set_option maxRecDepth 20000 in
set_option maxHeartbeats 2000000 in
theorem series_any (cu m : Nat) (w : World) (hm : m ≤ 1099511600000) (h : Cur w cu m) :
    Calls Try.prog 56 #[.pointer (some ⟨cu, 0, none⟩)] w (DrawL w cu (m + 100) 22 3) := by
  obtain ⟨i1, hi1, hy0, hy1, hy2⟩ := info_parts info_basinD
  have hcu := h.lt
  have hD := DrS.start h
  go_enter Try.func56, Try.ntmps56
  go_upto_region 2 with fail
  have hR := RowsI.new (w := w) (B := w.heap.size) (e := 49) (sz := 3) (Nat.le_refl _)
  replace hD := hD.alloc (.cells #[] 49)
  generalize w.alloc (.cells #[] 49) = W1 at hR hD ⊢
  go_wp2_with fail
  go_at_call 67
  refine (pick_any _ _ _ _ (by omega) (by decide) hD.cur).mono ?_
  rintro _ w3 ⟨N0, rfl, N0a, N0b, hc, ht⟩
  replace hD := hD.draw hc ht
  replace hR := hR.tch ht hcu
  clear hc ht
  rw [if_neg (by decide)] at N0b
  obtain ⟨N1, rfl⟩ : ∃ N1 : Nat, N0 = N1 := ⟨N0.toNat, by omega⟩
  go_wp2
  go_loopw [3, 4] (fun v n wr => ∃ (k N : Nat), RowsI wr w.heap.size 49 3 v k ∧ n = .int .i64 N ∧ k + N ≤ 5 ∧ 1 ≤ k + N ∧ DrS w wr cu (m + 2 + 3 * k)) (fun _ n _ => (intOf n).toNat)
  case atStart => exact ⟨0, 1 + N1, hR, by simp, by omega, by omega, hD.more (by omega)⟩
  case round =>
    clear hR hD N0a N0b
    obtain ⟨k, N, hR, rfl, hkN, hk1, hD⟩ := hrel
    have hsz := hD.size
    by_cases hlt : 0 < N
    · obtain ⟨N', rfl⟩ : ∃ N', N = N' + 1 := ⟨N - 1, by omega⟩
      have hd : decide ((0 : Int) < ((N' + 1 : Nat) : Int)) = true := decide_eq_true (by omega)
      go_wp2_with fail
      go_at_call 57
      refine (among_any cu _ _ _ _ (0) (1000) _ (by omega) (by decide) (by decide) (Nat.ne_of_gt hD.cur.lt) (Lits.new _ _ _ (by rfl) (by decide)) (hD.cur.alloc _)).mono ?_
      rintro _ w4 ⟨a, rfl, aa, ab, hc, ht⟩
      replace hD := (hD.alloc _).draw hc ht
      replace hR := (hR.alloc _).tch ht hcu
      clear hc ht
      go_wp2_with fail
      go_at_call 57
      refine (among_any cu _ _ _ _ (0) (7000) _ (by omega) (by decide) (by decide) (Nat.ne_of_gt hD.cur.lt) (Lits.new _ _ _ (by rfl) (by decide)) (hD.cur.alloc _)).mono ?_
      rintro _ w5 ⟨b, rfl, ba, bb, hc, ht⟩
      replace hD := (hD.alloc _).draw hc ht
      replace hR := (hR.alloc _).tch ht hcu
      clear hc ht
      go_wp2_with fail
      go_at_call 57
      refine (among_any cu _ _ _ _ (0) (300) _ (by omega) (by decide) (by decide) (Nat.ne_of_gt hD.cur.lt) (Lits.new _ _ _ (by rfl) (by decide)) (hD.cur.alloc _)).mono ?_
      rintro _ w6 ⟨c, rfl, ca, cb, hc, ht⟩
      replace hD := (hD.alloc _).draw hc ht
      replace hR := (hR.alloc _).tch ht hcu
      clear hc ht
      have hsz := hD.size
      obtain ⟨xs, ho, hx⟩ := hR
      have ho2 := ho.alloc (.cells #[.int .i64 a, .int .i64 b, .int .i64 c] 49)
      go_wp2_with (at_builtin; refine wpList_append_own_at _ rfl _ _ 25 rfl w.heap.size 49 i1 (.agg #[.int .i64 0, .int .i64 0, .int .i64 0]) 3 24 Try.underlying25 hi1 hy0 hy1 hy2 rfl (by decide) _ k _ rfl ho2 ⟨w6.heap.size, 0, none⟩ 1 1 [.int .i64 a, .int .i64 b, .int .i64 c] rfl rfl (World.news_of_block (cs := #[.int .i64 a, .int .i64 b, .int .i64 c]) (t := 49) (fr := (0, 0)) (heap_alloc_new w6 _)) (by simp [Value.oneCell']) (by simp only [maxLen]; omega) (by omega) (by simp; omega) ?_; intro v5 w5 hown5 hg5 _ _)
      have hR := RowsI.snoc hx hown5 (fun u hu => by simp at hu; rcases hu with rfl | rfl | rfl <;> exact ⟨_, rfl⟩)
      have hb5 := grown_below ho2 hg5 (by simp; omega)
      replace hD := (hD.alloc _).grow hb5
      clear ho ho2 hown5 hg5 hb5 hx
      go_roundw
      case rel => exact ⟨k + 1, N', hR, by go_num, by omega, by omega, hD.more (by omega)⟩
      case measure => simp [intOf]
    · obtain rfl : N = 0 := by omega
      have hk : k ≤ 5 := by omega
      have hk0 : 0 < k := by omega
      replace hD := hD.more (m' := m + 17) (by omega)
      clear hkN hk1 hlt
      go_wp2_with fail
      go_at_call 67
      refine (pick_any _ _ _ _ (by omega) (by decide) hD.cur).mono ?_
      rintro _ w3 ⟨r, rfl, ra, rb, hc, ht⟩
      replace hD := hD.draw hc ht
      replace hR := hR.tch ht hcu
      clear hc ht
      rw [if_neg (by decide)] at rb
      obtain ⟨g, cg, rfl, hg1, hg2, hcl, hfz⟩ := hR.form hk0
      clear hcl hfz
      have hsz := hD.size
      by_cases hr0 : r = 0
      · subst hr0
        clear ra rb hg2
        go_wp2_with fail
        go_at_call 57
        refine (among_any cu _ _ _ _ (0) (100001) _ (by omega) (by decide) (by decide) (Nat.ne_of_gt hD.cur.lt) (Lits.new _ _ _ (by rfl) (by decide)) (hD.cur.alloc _)).mono ?_
        rintro _ w6 ⟨p, rfl, pa, pb, hc, ht⟩
        replace hD := (hD.alloc _).draw hc ht
        replace hR := (hR.alloc _).tch ht hcu
        clear hc ht
        obtain ⟨g', cg', e, -, hg2, hcl, hfz⟩ := hR.form hk0
        injection e with e e1 e2
        injection e with e
        injection e with e
        subst e e2
        obtain ⟨z0, hz0⟩ := hcl 0 (by omega)
        have f0 := hfz 0
        have hR2 := hR.set 0 p
        have hD2 := hD.set (p := ⟨g, 0, none⟩) hg1 (.int .i64 p)
        clear hcl hfz hR hD
        obtain ⟨A6, c6, F6, e6, hO⟩ := hR2.out
        injection e6 with e6 _ e7
        subst e6 e7
        have hk0' : decide ((0 : Int) < (k : Int)) = true := decide_eq_true (by omega)
        go_wp2
        go_ret
        exact ⟨_, k, cg, F6, rfl, by omega, hO, hD2.more (by omega)⟩
      have hr0' : (r == 0) = false := by simpa using hr0
      clear hr0
      by_cases hr1 : r = 1
      · subst hr1
        clear ra rb hr0' hg2
        go_wp2_with fail
        go_at_call 57
        refine (among_any cu _ _ _ _ (-1) (1000001) _ (by omega) (by decide) (by decide) (Nat.ne_of_gt hD.cur.lt) (Lits.new _ _ _ (by rfl) (by decide)) (hD.cur.alloc _)).mono ?_
        rintro _ w6 ⟨p, rfl, pa, pb, hc, ht⟩
        replace hD := (hD.alloc _).draw hc ht
        replace hR := (hR.alloc _).tch ht hcu
        clear hc ht
        obtain ⟨g', cg', e, -, hg2, hcl, hfz⟩ := hR.form hk0
        injection e with e e1 e2
        injection e with e
        injection e with e
        subst e e2
        obtain ⟨z0, hz0⟩ := hcl 1 (by omega)
        obtain ⟨z1, hz1⟩ := hcl 2 (by omega)
        have f0 := hfz 1
        have f1 := hfz 2
        have hR2 := (hR.set 1 p).set 2 0
        have hD2 := (hD.set (p := ⟨g, 1, none⟩) hg1 (.int .i64 p)).set (p := ⟨g, 2, none⟩) hg1 (.int .i64 0)
        clear hcl hfz hR hD
        obtain ⟨A6, c6, F6, e6, hO⟩ := hR2.out
        injection e6 with e6 _ e7
        subst e6 e7
        have hk0' : decide ((0 : Int) < (k : Int)) = true := decide_eq_true (by omega)
        go_wp2
        go_ret
        exact ⟨_, k, cg, F6, rfl, by omega, hO, hD2.more (by omega)⟩
      have hr1' : (r == 1) = false := by simpa using hr1
      clear hr1
      by_cases hr2 : r = 2
      · subst hr2
        clear ra rb hr0' hr1' hR
        have hR := RowsI.new (w := w3) (B := w.heap.size) (e := 49) (sz := 3) hsz
        replace hD := hD.alloc (.cells #[] 49)
        obtain ⟨A6, c6, F6, e6, hO⟩ := hR.out
        injection e6 with e6 _ e7
        subst e6 e7
        go_wp2
        go_ret
        exact ⟨_, 0, 0, F6, rfl, by omega, hO, hD.more (by omega)⟩
      have hr2' : (r == 2) = false := by simpa using hr2
      clear hr2
      by_cases hr3 : r = 3
      · subst hr3
        clear ra rb hr0' hr1' hr2' hg2
        go_wp2
        go_loopw [3] (fun v wx => ∃ (k : Nat), RowsI wx w.heap.size 49 3 v k ∧ k ≤ 9 ∧ DrS w wx cu (m + 20 + 2 * k)) (fun v _ => 10 - (match v with | .slice _ n _ => n | _ => 0))
        case atStart => exact ⟨k, hR, by omega, hD.more (by omega)⟩
        case round =>
          clear hR hD hk hk0
          obtain ⟨k, hR, hk, hD⟩ := hrel
          have hsz := hD.size
          obtain ⟨A5, c5, -, rfl, -⟩ := hR.out
          go_wp2_with fail
          go_at_call 67
          refine (pick_any _ _ _ _ (by omega) (by decide) hD.cur).mono ?_
          rintro _ w3 ⟨r, rfl, ra, rb, hc, ht⟩
          replace hD := hD.draw hc ht
          replace hR := hR.tch ht hcu
          clear hc ht
          rw [if_neg (by decide)] at rb
          by_cases hlt : (k : Int) < 8 + r
          · have hsz := hD.size
            obtain ⟨xs, ho, hx⟩ := hR
            have ho2 := ho.alloc (.cells #[.int .i64 5, .int .i64 0, .int .i64 0] 49)
            go_wp2_with (at_builtin; refine wpList_append_own_at _ rfl _ _ 25 rfl w.heap.size 49 i1 (.agg #[.int .i64 0, .int .i64 0, .int .i64 0]) 3 24 Try.underlying25 hi1 hy0 hy1 hy2 rfl (by decide) _ k _ rfl ho2 ⟨w3.heap.size, 0, none⟩ 1 1 [.int .i64 5, .int .i64 0, .int .i64 0] rfl rfl (World.news_of_block (cs := #[.int .i64 5, .int .i64 0, .int .i64 0]) (t := 49) (fr := (0, 0)) (heap_alloc_new w3 _)) (by simp [Value.oneCell']) (by simp only [maxLen]; omega) (by omega) (by simp; omega) ?_; intro v5 w5 hown5 hg5 _ _)
            have hR := RowsI.snoc hx hown5 (fun u hu => by simp at hu; rcases hu with rfl | rfl | rfl <;> exact ⟨_, rfl⟩)
            have hb5 := grown_below ho2 hg5 (by simp; omega)
            replace hD := (hD.alloc _).grow hb5
            clear ho ho2 hown5 hg5 hb5 hx
            obtain ⟨A6, c6, -, rfl, -⟩ := hR.out
            go_roundw
            case rel => exact ⟨k + 1, hR, by omega, hD.more (by omega)⟩
            case measure => simp; omega
          · obtain ⟨A6, c6, F6, e6, hO⟩ := hR.out
            injection e6 with e6 _ e7
            subst e6 e7
            go_wp2
            go_ret
            exact ⟨A5, k, c5, F6, rfl, by omega, hO, hD.more (by omega)⟩
      · have hr3' : (r == 3) = false := by simpa using hr3
        clear hr3
        obtain ⟨A6, c6, F6, e6, hO⟩ := hR.out
        injection e6 with e6 _ e7
        subst e6 e7
        go_wp2
        go_ret
        exact ⟨_, k, cg, F6, rfl, by omega, hO, hD.more (by omega)⟩
end Go.Proofs.Ytjhhpepjjpejhaa
