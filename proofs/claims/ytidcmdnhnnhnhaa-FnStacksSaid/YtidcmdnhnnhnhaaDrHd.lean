/-
  Contracts: the arguments that are drawn for laws on heaps. Conditions: codes of bytes.
-/
import Derived.Test.YtidcmdnhnnhnhaaDrHc
namespace Go.Proofs.Ytidcmdnhnnhnhaa
open Go.RowKit

/-- What a draw of heaps and a number leaves. -/
def DrawHI (w : World) (e : Ending) (w' : World) : Prop :=
  ∃ A n c H r, e = .returned (.tuple #[.slice A n c, .int .i64 r]) ∧ n ≤ 20 ∧ (∀ i, i < n → (H i).n ≤ 20) ∧ Hp w' w.heap.size w'.heap.size A n H ∧ Below w.heap.size w w'
/-- .. of a list of numbers. -/
def DrawIs (w : World) (e : Ending) (w' : World) : Prop :=
  ∃ A n c F, e = .returned (.slice A n c) ∧ n ≤ 40 ∧ Ow w' w.heap.size w'.heap.size A n 1 (ints F) ∧ Below w.heap.size w w'
set_option maxRecDepth 20000 in
set_option maxHeartbeats 2000000 in
theorem DrawRainOn_any (A : Option Addr) (n c : Nat) (B : Nat → Int) (w : World) (h : CodeR w A n B) :
    Calls Try.prog 49 #[.slice A n c] w (DrawHI w) := by
  go_enter Try.func49, Try.ntmps49
  go_upto_region 2 with fail
  have hC := Cur.new h c 80
  have hbA : Below w.heap.size w (w.alloc (.cells #[.slice A n c, .int .i64 0, .int .u64 0] 80)) := (Below.refl _ _).alloc (Nat.le_refl _) _
  generalize w.alloc (.cells #[.slice A n c, .int .i64 0, .int .u64 0] 80) = W2 at hbA hC ⊢
  have hD := DrS.start hC
  have hcu := hC.lt
  clear hC
  go_wp2_with fail
  go_at_call 84
  refine (heaps_any _ _ _ (by omega) hD.cur).mono ?_
  rintro _ w4 ⟨A5, n5, c5, H5, rfl, hn5, hl5, hH, hDx⟩
  have hsO := hDx.size
  replace hD := hD.trans hDx
  clear hDx
  have hD0 := hD
  go_wp2_with fail
  go_at_call 86
  refine (pick_any _ _ _ _ (by omega) (by decide) (hD.cur.alloc _)).mono ?_
  rintro _ w7 ⟨q, rfl, qa, qb, hc, ht⟩
  have hl := Lits0.tch (n := 7) (Lits0.new _ _ _ (by rfl) (by rfl)) ht (Nat.ne_of_gt hD.cur.lt)
  have hz7 := ht.size
  simp at hz7
  replace hH := (hH.agr (Below.agr ((Below.refl w4.heap.size w4).alloc (Nat.le_refl _) _) (Nat.le_refl _))).agr (Tch.agr ht (by simp) (.inr (by omega)))
  replace hD := (hD.alloc _).draw hc ht
  clear hc ht
  rw [if_neg (by decide)] at qb
  have hq : q / 11 = 0 ∨ q / 11 = 1 ∨ q / 11 = 2 := by omega
  rcases hq with e | e | e
  all_goals
    go_wp2_with fail
    go_at_call 85
    refine (among0_any _ _ _ _ _ _ (by omega) (by decide) (by decide) (Nat.ne_of_gt hD0.cur.lt) (hl.mono (by omega)) hD.cur).mono ?_
    rintro _ w8 ⟨r, rfl, hc, ht⟩
    have hz8 := ht.size
    have hH8 := hH.agr (Tch.agr ht (by omega) (.inr (by omega)))
    have hD8 := hD.draw hc ht
    have hz := hD8.size
    have hbE := hbA.trans (hD8.tch.below (by omega) (by omega))
    have hHE := hH8.mono (lo' := w.heap.size) (hi' := w8.heap.size) (by omega) (by omega)
    clear hH hH8 hD hD0 hD8 hbA hl hc ht
    go_wp2
    refine bodyPost_ret (v := .tuple #[.slice A5 n5 c5, .int .i64 r]) (by simp only [results, Try.results49]; go_simp) rfl ⟨A5, n5, c5, H5, r, rfl, hn5, hl5, hHE, hbE⟩
set_option maxRecDepth 20000 in
set_option maxHeartbeats 2000000 in
theorem DrawCoverHeaps_any (A : Option Addr) (n c : Nat) (B : Nat → Int) (w : World) (h : CodeR w A n B) :
    Calls Try.prog 51 #[.slice A n c] w (DrawHI w) := by
  go_enter Try.func51, Try.ntmps51
  go_upto_region 2 with fail
  have hC := Cur.new h c 80
  have hbA : Below w.heap.size w (w.alloc (.cells #[.slice A n c, .int .i64 0, .int .u64 0] 80)) := (Below.refl _ _).alloc (Nat.le_refl _) _
  generalize w.alloc (.cells #[.slice A n c, .int .i64 0, .int .u64 0] 80) = W2 at hbA hC ⊢
  have hD := DrS.start hC
  have hcu := hC.lt
  clear hC
  go_wp2_with fail
  go_at_call 84
  refine (heaps_any _ _ _ (by omega) hD.cur).mono ?_
  rintro _ w4 ⟨A5, n5, c5, H5, rfl, hn5, hl5, hH, hDx⟩
  have hsO := hDx.size
  replace hD := hD.trans hDx
  clear hDx
  have hD0 := hD
  go_wp2_with fail
  go_at_call 86
  refine (pick_any _ _ _ _ (by omega) (by decide) (hD.cur.alloc _)).mono ?_
  rintro _ w7 ⟨q, rfl, qa, qb, hc, ht⟩
  have hl := Lits0.tch (n := 6) (Lits0.new _ _ _ (by rfl) (by rfl)) ht (Nat.ne_of_gt hD.cur.lt)
  have hz7 := ht.size
  simp at hz7
  replace hH := (hH.agr (Below.agr ((Below.refl w4.heap.size w4).alloc (Nat.le_refl _) _) (Nat.le_refl _))).agr (Tch.agr ht (by simp) (.inr (by omega)))
  replace hD := (hD.alloc _).draw hc ht
  clear hc ht
  rw [if_neg (by decide)] at qb
  have hq : q / 11 = 0 ∨ q / 11 = 1 ∨ q / 11 = 2 := by omega
  rcases hq with e | e | e
  all_goals
    go_wp2_with fail
    go_at_call 85
    refine (among0_any _ _ _ _ _ _ (by omega) (by decide) (by decide) (Nat.ne_of_gt hD0.cur.lt) (hl.mono (by omega)) hD.cur).mono ?_
    rintro _ w8 ⟨r, rfl, hc, ht⟩
    have hz8 := ht.size
    have hH8 := hH.agr (Tch.agr ht (by omega) (.inr (by omega)))
    have hD8 := hD.draw hc ht
    have hz := hD8.size
    have hbE := hbA.trans (hD8.tch.below (by omega) (by omega))
    have hHE := hH8.mono (lo' := w.heap.size) (hi' := w8.heap.size) (by omega) (by omega)
    clear hH hH8 hD hD0 hD8 hbA hl hc ht
    go_wp2
    refine bodyPost_ret (v := .tuple #[.slice A5 n5 c5, .int .i64 r]) (by simp only [results, Try.results51]; go_simp) rfl ⟨A5, n5, c5, H5, r, rfl, hn5, hl5, hHE, hbE⟩
set_option maxRecDepth 20000 in
set_option maxHeartbeats 4000000 in
theorem DrawStackLayers_any (A : Option Addr) (n c : Nat) (B : Nat → Int) (w : World) (h : CodeR w A n B) :
    Calls Try.prog 52 #[.slice A n c] w (DrawIs w) := by
  obtain ⟨i1, hi1, hy0, hy1, hy2⟩ := info_parts info_int
  go_enter Try.func52, Try.ntmps52
  go_upto_region 2 with fail
  have hC := Cur.new h c 80
  have hbA : Below w.heap.size w (w.alloc (.cells #[.slice A n c, .int .i64 0, .int .u64 0] 80)) := (Below.refl _ _).alloc (Nat.le_refl _) _
  generalize w.alloc (.cells #[.slice A n c, .int .i64 0, .int .u64 0] 80) = W2 at hbA hC ⊢
  have hD := DrS.start hC
  have hcu := hC.lt
  clear hC
  go_upto_region 3 with fail
  have hR := RowsI.new (w := W2) (B := W2.heap.size) (e := 3) (sz := 1) (Nat.le_refl _)
  replace hD := hD.alloc (.cells #[] 3)
  have hsW := hD.size
  generalize W2.alloc (.cells #[] 3) = W3 at hR hD hsW ⊢
  go_wp2_with fail
  go_at_call 86
  refine (pick_any _ _ _ _ (by omega) (by decide) hD.cur).mono ?_
  rintro _ w3 ⟨N0, rfl, N0a, N0b, hc, ht⟩
  rw [if_neg (by decide)] at N0b
  replace hR := hR.tch ht hcu
  replace hD := hD.draw hc ht
  clear hc ht
  go_wp2_with fail
  go_at_call 88
  refine (one_any _ _ _ _ (by omega) (by decide) hD.cur).mono ?_
  rintro _ w4 ⟨bb, rfl, hc, ht⟩
  replace hR := hR.tch ht hcu
  replace hD := hD.draw hc ht
  clear hc ht
  cases bb
  · obtain ⟨N1, rfl⟩ : ∃ N1 : Nat, N0 = N1 := ⟨N0.toNat, by omega⟩
    have hN : N1 ≤ 21 := by omega
    clear N0a N0b
    go_wp2
    go_loopw [4] (fun v wr => ∃ k : Nat, RowsI wr W2.heap.size 3 1 v k ∧ k ≤ 21 ∧ DrS W2 wr w.heap.size (10 + 2 * k)) (fun v _ => 22 - (match v with | .slice _ n _ => n | _ => 0))
    case atStart => exact ⟨0, hR, by omega, hD.more (by omega)⟩
    case round =>
      clear hR hD
      obtain ⟨k, hR, hk, hD⟩ := hrel
      have hsz := hD.size
      obtain ⟨A5, c5, -, rfl, -⟩ := hR.out
      by_cases hlt : (k : Int) < N1
      · go_wp2_with fail
        go_at_call 85
        refine (among_any _ _ _ _ _ 1 500 _ (by omega) (by decide) (by decide) (Nat.ne_of_gt hD.cur.lt) (Lits.new _ _ _ (by rfl) (by decide)) (hD.cur.alloc _)).mono ?_
        rintro _ w6 ⟨t, rfl, -, -, hc, ht⟩
        replace hR := (hR.alloc _).tch ht hcu
        replace hD := (hD.alloc _).draw hc ht
        clear hc ht
        have hsz6 := hD.size
        obtain ⟨xs, ho, hx⟩ := hR
        have ho2 := ho.alloc (.cells #[.int .i64 (t)] 3)
        go_upto_region 8 with (at_builtin; refine wpList_append_own_at _ rfl _ _ 22 rfl W2.heap.size 3 i1 (.int .i64 0) 1 8 Try.underlying22 hi1 hy0 hy1 hy2 rfl (by decide) _ k _ rfl ho2 ⟨w6.heap.size, 0, none⟩ 1 1 [.int .i64 (t)] rfl rfl (World.news_of_block (cs := #[.int .i64 (t)]) (t := 3) (fr := (0, 0)) (heap_alloc_new w6 _)) (by simp [Value.oneCell']) (by simp only [maxLen]; omega) (by omega) (by simp; omega) ?_; intro v5 w5 hown5 hg5 _ _; obtain ⟨g5, cap5, hv5, -, -⟩ := hown5.form (by omega); subst hv5)
        have hR := RowsI.snoc hx hown5 (fun u hu => by simp at hu; exact ⟨_, hu⟩)
        have hb5 := grown_below ho2 hg5 (by simp; omega)
        replace hD := (hD.alloc (.cells #[.int .i64 (t)] 3)).grow hb5
        clear ho ho2 hown5 hg5 hb5 hx
        go_roundw
        case rel => exact ⟨k + 1, hR, by omega, hD.more (by omega)⟩
        case measure => first | omega | (simp; omega)
      · go_wp2_with fail
        go_at_call 86
        refine (pick_any _ _ _ _ (by omega) (by decide) hD.cur).mono ?_
        rintro _ w7 ⟨r, rfl, ra, rb, hc, ht⟩
        replace hR := hR.tch ht hcu
        replace hD := hD.draw hc ht
        clear hc ht ra rb
        have hsz7 := hD.size
        by_cases hr0 : r = 0
        · subst hr0
          go_wp2_with fail
          go_at_call 85
          refine (among_any _ _ _ _ _ 0 501 _ (by omega) (by decide) (by decide) (Nat.ne_of_gt hD.cur.lt) (Lits.new _ _ _ (by rfl) (by decide)) (hD.cur.alloc _)).mono ?_
          rintro _ w6 ⟨t, rfl, -, -, hc, ht⟩
          replace hR := (hR.alloc _).tch ht hcu
          replace hD := (hD.alloc _).draw hc ht
          clear hc ht
          have hsz6 := hD.size
          obtain ⟨xs, ho, hx⟩ := hR
          have ho2 := ho.alloc (.cells #[.int .i64 (t)] 3)
          go_upto_region 17 with (at_builtin; refine wpList_append_own_at _ rfl _ _ 22 rfl W2.heap.size 3 i1 (.int .i64 0) 1 8 Try.underlying22 hi1 hy0 hy1 hy2 rfl (by decide) _ k _ rfl ho2 ⟨w6.heap.size, 0, none⟩ 1 1 [.int .i64 (t)] rfl rfl (World.news_of_block (cs := #[.int .i64 (t)]) (t := 3) (fr := (0, 0)) (heap_alloc_new w6 _)) (by simp [Value.oneCell']) (by simp only [maxLen]; omega) (by omega) (by simp; omega) ?_; intro v5 w5 hown5 hg5 _ _; obtain ⟨g5, cap5, hv5, -, -⟩ := hown5.form (by omega); subst hv5)
          have hR := RowsI.snoc hx hown5 (fun u hu => by simp at hu; exact ⟨_, hu⟩)
          have hb5 := grown_below ho2 hg5 (by simp; omega)
          replace hD := (hD.alloc (.cells #[.int .i64 (t)] 3)).grow hb5
          clear ho ho2 hown5 hg5 hb5 hx
          obtain ⟨A6, c6, F6, e6, hO⟩ := hR.out
          (first | subst e6 | (injection e6 with e6 _ e8; subst e6 e8))
          have hz := hD.size
          have hbE := hbA.trans (hD.tch.below (by omega) (by omega))
          have hOE := hO.mono (lo' := w.heap.size) (by omega) (Nat.le_refl _)
          clear hO hD hbA
          go_wp2
          go_ret
          exact ⟨_, _, _, F6, rfl, by omega, hOE, hbE⟩
        have hr0' : (r == 0) = false := by simpa using hr0
        clear hr0
        by_cases hr1 : r = 1
        · subst hr1
          replace hD := hD.more (m' := 100) (by omega)
          clear hr0' hR hk hlt
          go_upto_region 13 with fail
          have hR := RowsI.new (w := w7) (B := W2.heap.size) (e := 3) (sz := 1) hsz7
          replace hD := hD.alloc (.cells #[] 3)
          generalize w7.alloc (.cells #[] 3) = W8 at hR hD ⊢
          go_wp2
          go_loopw [4, 6] (fun v i wx => ∃ k : Nat, i = .int .i64 k ∧ RowsI wx W2.heap.size 3 1 v k ∧ k ≤ 14 ∧ DrS W2 wx w.heap.size (100 + k)) (fun _ i _ => 15 - (intOf i).toNat)
          case atStart => exact ⟨0, rfl, hR, by omega, hD⟩
          case round =>
            clear hR hD
            obtain ⟨k, rfl, hR, hk, hD⟩ := hrel
            have hsz8 := hD.size
            by_cases hlt2 : (k : Int) < 14
            · obtain ⟨xs, ho, hx⟩ := hR
              have ho2 := ho.alloc (.cells #[.int .i64 (7)] 3)
              go_upto_region 15 with (at_builtin; refine wpList_append_own_at _ rfl _ _ 22 rfl W2.heap.size 3 i1 (.int .i64 0) 1 8 Try.underlying22 hi1 hy0 hy1 hy2 rfl (by decide) _ k _ rfl ho2 ⟨wr.heap.size, 0, none⟩ 1 1 [.int .i64 (7)] rfl rfl (World.news_of_block (cs := #[.int .i64 (7)]) (t := 3) (fr := (0, 0)) (heap_alloc_new wr _)) (by simp [Value.oneCell']) (by simp only [maxLen]; omega) (by omega) (by simp; omega) ?_; intro v5 w5 hown5 hg5 _ _; obtain ⟨g5, cap5, hv5, -, -⟩ := hown5.form (by omega); subst hv5)
              have hR := RowsI.snoc hx hown5 (fun u hu => by simp at hu; exact ⟨_, hu⟩)
              have hb5 := grown_below ho2 hg5 (by simp; omega)
              replace hD := (hD.alloc (.cells #[.int .i64 (7)] 3)).grow hb5
              clear ho ho2 hown5 hg5 hb5 hx
              go_wp2
              go_roundw
              case rel => exact ⟨k + 1, by go_num, hR, by omega, hD.more (by omega)⟩
              case measure => simp [intOf]; omega
            · obtain ⟨A6, c6, F6, e6, hO⟩ := hR.out
              (first | subst e6 | (injection e6 with e6 _ e8; subst e6 e8))
              have hz := hD.size
              have hbE := hbA.trans (hD.tch.below (by omega) (by omega))
              have hOE := hO.mono (lo' := w.heap.size) (by omega) (Nat.le_refl _)
              clear hO hD hbA
              go_wp2
              go_ret
              exact ⟨_, _, _, F6, rfl, by omega, hOE, hbE⟩
        have hr1' : (r == 1) = false := by simpa using hr1
        clear hr1
        obtain ⟨A6, c6, F6, e6, hO⟩ := hR.out
        injection e6 with e6 _ e7
        subst e6 e7
        have hz := hD.size
        have hbE := hbA.trans (hD.tch.below (by omega) (by omega))
        have hOE := hO.mono (lo' := w.heap.size) (by omega) (Nat.le_refl _)
        clear hO hD hbA hR
        go_wp2
        go_ret
        exact ⟨A5, _, c5, F6, rfl, by omega, hOE, hbE⟩
  · clear N0a N0b
    go_wp2_with fail
    go_at_call 86
    refine (pick_any _ _ _ _ (by omega) (by decide) hD.cur).mono ?_
    rintro _ w5 ⟨q, rfl, qa, qb, hc, ht⟩
    rw [if_neg (by decide)] at qb
    replace hR := hR.tch ht hcu
    replace hD := hD.draw hc ht
    clear hc ht
    go_upto_region 6 with fail
    go_wp2
    go_loopw [4] (fun v wr => ∃ k : Nat, RowsI wr W2.heap.size 3 1 v k ∧ k ≤ 21 ∧ DrS W2 wr w.heap.size (10 + 2 * k)) (fun v _ => 22 - (match v with | .slice _ n _ => n | _ => 0))
    case atStart => exact ⟨0, hR, by omega, hD.more (by omega)⟩
    case round =>
      clear hR hD
      obtain ⟨k, hR, hk, hD⟩ := hrel
      have hsz := hD.size
      obtain ⟨A5, c5, -, rfl, -⟩ := hR.out
      by_cases hlt : (k : Int) < 20 + q
      · go_wp2_with fail
        go_at_call 85
        refine (among_any _ _ _ _ _ 1 500 _ (by omega) (by decide) (by decide) (Nat.ne_of_gt hD.cur.lt) (Lits.new _ _ _ (by rfl) (by decide)) (hD.cur.alloc _)).mono ?_
        rintro _ w6 ⟨t, rfl, -, -, hc, ht⟩
        replace hR := (hR.alloc _).tch ht hcu
        replace hD := (hD.alloc _).draw hc ht
        clear hc ht
        have hsz6 := hD.size
        obtain ⟨xs, ho, hx⟩ := hR
        have ho2 := ho.alloc (.cells #[.int .i64 (t)] 3)
        go_upto_region 8 with (at_builtin; refine wpList_append_own_at _ rfl _ _ 22 rfl W2.heap.size 3 i1 (.int .i64 0) 1 8 Try.underlying22 hi1 hy0 hy1 hy2 rfl (by decide) _ k _ rfl ho2 ⟨w6.heap.size, 0, none⟩ 1 1 [.int .i64 (t)] rfl rfl (World.news_of_block (cs := #[.int .i64 (t)]) (t := 3) (fr := (0, 0)) (heap_alloc_new w6 _)) (by simp [Value.oneCell']) (by simp only [maxLen]; omega) (by omega) (by simp; omega) ?_; intro v5 w5 hown5 hg5 _ _; obtain ⟨g5, cap5, hv5, -, -⟩ := hown5.form (by omega); subst hv5)
        have hR := RowsI.snoc hx hown5 (fun u hu => by simp at hu; exact ⟨_, hu⟩)
        have hb5 := grown_below ho2 hg5 (by simp; omega)
        replace hD := (hD.alloc (.cells #[.int .i64 (t)] 3)).grow hb5
        clear ho ho2 hown5 hg5 hb5 hx
        go_roundw
        case rel => exact ⟨k + 1, hR, by omega, hD.more (by omega)⟩
        case measure => first | omega | (simp; omega)
      · go_wp2_with fail
        go_at_call 86
        refine (pick_any _ _ _ _ (by omega) (by decide) hD.cur).mono ?_
        rintro _ w7 ⟨r, rfl, ra, rb, hc, ht⟩
        replace hR := hR.tch ht hcu
        replace hD := hD.draw hc ht
        clear hc ht ra rb
        have hsz7 := hD.size
        by_cases hr0 : r = 0
        · subst hr0
          go_wp2_with fail
          go_at_call 85
          refine (among_any _ _ _ _ _ 0 501 _ (by omega) (by decide) (by decide) (Nat.ne_of_gt hD.cur.lt) (Lits.new _ _ _ (by rfl) (by decide)) (hD.cur.alloc _)).mono ?_
          rintro _ w6 ⟨t, rfl, -, -, hc, ht⟩
          replace hR := (hR.alloc _).tch ht hcu
          replace hD := (hD.alloc _).draw hc ht
          clear hc ht
          have hsz6 := hD.size
          obtain ⟨xs, ho, hx⟩ := hR
          have ho2 := ho.alloc (.cells #[.int .i64 (t)] 3)
          go_upto_region 17 with (at_builtin; refine wpList_append_own_at _ rfl _ _ 22 rfl W2.heap.size 3 i1 (.int .i64 0) 1 8 Try.underlying22 hi1 hy0 hy1 hy2 rfl (by decide) _ k _ rfl ho2 ⟨w6.heap.size, 0, none⟩ 1 1 [.int .i64 (t)] rfl rfl (World.news_of_block (cs := #[.int .i64 (t)]) (t := 3) (fr := (0, 0)) (heap_alloc_new w6 _)) (by simp [Value.oneCell']) (by simp only [maxLen]; omega) (by omega) (by simp; omega) ?_; intro v5 w5 hown5 hg5 _ _; obtain ⟨g5, cap5, hv5, -, -⟩ := hown5.form (by omega); subst hv5)
          have hR := RowsI.snoc hx hown5 (fun u hu => by simp at hu; exact ⟨_, hu⟩)
          have hb5 := grown_below ho2 hg5 (by simp; omega)
          replace hD := (hD.alloc (.cells #[.int .i64 (t)] 3)).grow hb5
          clear ho ho2 hown5 hg5 hb5 hx
          obtain ⟨A6, c6, F6, e6, hO⟩ := hR.out
          (first | subst e6 | (injection e6 with e6 _ e8; subst e6 e8))
          have hz := hD.size
          have hbE := hbA.trans (hD.tch.below (by omega) (by omega))
          have hOE := hO.mono (lo' := w.heap.size) (by omega) (Nat.le_refl _)
          clear hO hD hbA
          go_wp2
          go_ret
          exact ⟨_, _, _, F6, rfl, by omega, hOE, hbE⟩
        have hr0' : (r == 0) = false := by simpa using hr0
        clear hr0
        by_cases hr1 : r = 1
        · subst hr1
          replace hD := hD.more (m' := 100) (by omega)
          clear hr0' hR hk hlt
          go_upto_region 13 with fail
          have hR := RowsI.new (w := w7) (B := W2.heap.size) (e := 3) (sz := 1) hsz7
          replace hD := hD.alloc (.cells #[] 3)
          generalize w7.alloc (.cells #[] 3) = W8 at hR hD ⊢
          go_wp2
          go_loopw [4, 6] (fun v i wx => ∃ k : Nat, i = .int .i64 k ∧ RowsI wx W2.heap.size 3 1 v k ∧ k ≤ 14 ∧ DrS W2 wx w.heap.size (100 + k)) (fun _ i _ => 15 - (intOf i).toNat)
          case atStart => exact ⟨0, rfl, hR, by omega, hD⟩
          case round =>
            clear hR hD
            obtain ⟨k, rfl, hR, hk, hD⟩ := hrel
            have hsz8 := hD.size
            by_cases hlt2 : (k : Int) < 14
            · obtain ⟨xs, ho, hx⟩ := hR
              have ho2 := ho.alloc (.cells #[.int .i64 (7)] 3)
              go_upto_region 15 with (at_builtin; refine wpList_append_own_at _ rfl _ _ 22 rfl W2.heap.size 3 i1 (.int .i64 0) 1 8 Try.underlying22 hi1 hy0 hy1 hy2 rfl (by decide) _ k _ rfl ho2 ⟨wr.heap.size, 0, none⟩ 1 1 [.int .i64 (7)] rfl rfl (World.news_of_block (cs := #[.int .i64 (7)]) (t := 3) (fr := (0, 0)) (heap_alloc_new wr _)) (by simp [Value.oneCell']) (by simp only [maxLen]; omega) (by omega) (by simp; omega) ?_; intro v5 w5 hown5 hg5 _ _; obtain ⟨g5, cap5, hv5, -, -⟩ := hown5.form (by omega); subst hv5)
              have hR := RowsI.snoc hx hown5 (fun u hu => by simp at hu; exact ⟨_, hu⟩)
              have hb5 := grown_below ho2 hg5 (by simp; omega)
              replace hD := (hD.alloc (.cells #[.int .i64 (7)] 3)).grow hb5
              clear ho ho2 hown5 hg5 hb5 hx
              go_wp2
              go_roundw
              case rel => exact ⟨k + 1, by go_num, hR, by omega, hD.more (by omega)⟩
              case measure => simp [intOf]; omega
            · obtain ⟨A6, c6, F6, e6, hO⟩ := hR.out
              (first | subst e6 | (injection e6 with e6 _ e8; subst e6 e8))
              have hz := hD.size
              have hbE := hbA.trans (hD.tch.below (by omega) (by omega))
              have hOE := hO.mono (lo' := w.heap.size) (by omega) (Nat.le_refl _)
              clear hO hD hbA
              go_wp2
              go_ret
              exact ⟨_, _, _, F6, rfl, by omega, hOE, hbE⟩
        have hr1' : (r == 1) = false := by simpa using hr1
        clear hr1
        obtain ⟨A6, c6, F6, e6, hO⟩ := hR.out
        injection e6 with e6 _ e7
        subst e6 e7
        have hz := hD.size
        have hbE := hbA.trans (hD.tch.below (by omega) (by omega))
        have hOE := hO.mono (lo' := w.heap.size) (by omega) (Nat.le_refl _)
        clear hO hD hbA hR
        go_wp2
        go_ret
        exact ⟨A5, _, c5, F6, rfl, by omega, hOE, hbE⟩
end Go.Proofs.Ytidcmdnhnnhnhaa
