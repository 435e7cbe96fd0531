/-
  Contracts on stacked layers, of the program. Conditions: lengths up to 2^20.
-/
import Derived.Test.YtidcmdnhnnhnhaaStA
namespace Go.Proofs.Ytidcmdnhnnhnhaa
open Go.RowKit

/-- What a function leaves that returns stacks. -/
def StkP (w : World) (R : StkRes) (e : Ending) (w' : World) : Prop :=
  ∃ v V p, e = .returned (.tuple #[v, .bool R.ok]) ∧ TbX w' w.heap.size v R.m R.H V p ∧ Below w.heap.size w w'
theorem StkP.no {w w' : World} {A : Option Addr} (hb : Below w.heap.size w w') (hA : w'.ownsRow w.heap.size 22 1 (.slice A 0 0) 0 []) : StkP w noS (.returned (.tuple #[.slice A 0 0, .bool false])) w' := by
  refine ⟨_, fun _ => undef, blkO A, rfl, ⟨?_, ?_, LyX.zero _ _ _ _ _⟩, hb⟩
  · simpa [noS, rowL] using hA
  · cases A with
    | none => exact .inr rfl
    | some a => exact .inl rfl
theorem layersB_no1 {F : Nat → Nat → Int} {n : Nat} (h : ¬(n : Int) ≤ 20) : layersB F n = false := by simp [layersB, h]
theorem stackR_no {F : Nat → Nat → Int} {n : Nat} (h : layersB F n = false) : stackR F n = noS := by simp [stackR, h]
set_option maxRecDepth 20000 in
set_option maxHeartbeats 4000000 in
theorem StackLayers_any (A : Option Addr) (n c : Nat) (F : Nat → Nat → Int) (w : World) (hn : n ≤ 1048576) (h : Rd w A n 1 (ints F)) :
    Calls Try.prog 21 #[.slice A n c] w (StkP w (stackR F n)) := by
  by_cases h1 : (n : Int) ≤ 20
  rotate_left
  · rw [stackR_no (layersB_no1 h1)]
    have hd : decide (20 < (n : Int)) = true := decide_eq_true (by omega)
    clear h1
    go_enter Try.func21, Try.ntmps21
    go_wp2
    go_ret2
    exact StkP.no (Below.refl _ _) (World.ownsRow_nil _ _ _ _)
  have hd : decide (20 < (n : Int)) = false := decide_eq_false (by omega)
  cases h2 : allB (layB1 F) n
  · rw [stackR_no (by simp [layersB, h2])]
    go_enter Try.func21, Try.ntmps21
    go_wp2_with fail
    go_at_call 61
    refine (stkHas_any _ _ _ _ _ hn h).mono ?_
    rintro _ _ ⟨rfl, rfl⟩
    rw [h2]
    go_wp2
    go_ret2
    exact StkP.no (Below.refl _ _) (World.ownsRow_nil _ _ _ _)
  rw [show stackR F n = ⟨stk F n, true⟩ by simp [stackR, layersB, h1, h2]]
  go_enter Try.func21, Try.ntmps21
  go_wp2_with fail
  go_at_call 61
  refine (stkHas_any _ _ _ _ _ hn h).mono ?_
  rintro _ _ ⟨rfl, rfl⟩
  rw [h2]
  clear h1 h2
  go_wp2
  go_loopw [4, 19] (fun v i wr => ∃ (k : Nat) (V : Nat → Value) (p : Nat), k ≤ n ∧ i = .int .i64 k ∧ TbX wr w.heap.size v (stk F k).m (stk F k).H V p ∧ Below w.heap.size w wr) (fun _ i _ => n - (intOf i).toNat)
  case atStart => exact ⟨0, fun _ => undef, 0, by omega, rfl, ⟨World.ownsRow_nil _ _ _ _, .inr rfl, LyX.zero _ _ _ _ _⟩, Below.refl _ _⟩
  case round =>
    obtain ⟨k, V, p, hk, rfl, hT, hb⟩ := hrel
    rename World => wo
    by_cases hlt : k < n
    · obtain ⟨b, off, rfl, -, hbw, hc⟩ := Rd.below h hb (by omega)
      have hc0 := hc k 0 hlt (by omega)
      simp only [Nat.add_zero, Nat.mul_one, ints] at hc0
      clear hc
      have HS := hide (show stk F (k + 1) = stkStep (stk F k) (F k 0) from rfl)
      obtain ⟨ok1, ok2⟩ := stk_ok F k
      have hm20 : (stk F k).m ≤ 1048576 := by omega
      have OK := hide ok2
      clear ok2
      generalize stk F k = S at hT HS ok1 OK hm20 ⊢
      generalize F k 0 = t at hc0 HS
      obtain ⟨A4, c4, rfl, hform⟩ := hT.form
      have HT := hide hT
      have HF := hide hform
      clear hT hform
      go_wp2
      go_loopw [7, 25] (fun bs j wx => ∃ q : Nat, q ≤ S.m ∧ j = .int .i64 q ∧ bs = .int .i64 (stkI S.H t q) ∧ Below wo.heap.size wo wx) (fun _ j _ => S.m - (intOf j).toNat)
      case atStart => exact ⟨0, by omega, rfl, rfl, Below.refl _ _⟩
      case round =>
        obtain ⟨q, hq, rfl, rfl, hbx⟩ := hrel
        obtain ⟨hS1, hS2⟩ := stkI_bd S.H t q
        have HTx := hide (HT.out.below hbx)
        by_cases hlt2 : q < S.m
        · obtain ⟨g, rfl, hg1, hg2⟩ := HF.out (by omega)
          obtain ⟨A5, c5, hV5, hr5⟩ := HTx.out.slice hlt2
          have e5 := HTx.out.cell hlt2
          rw [hV5] at e5
          clear hV5
          have hgx : g < wr.heap.size := Nat.lt_of_lt_of_le hg2 hbx.size
          have hn5 := OK.out q hlt2
          have HBI := hide (show stkI S.H t (q + 1) = if bearsB (S.H q).n (S.H q).L t = true ∧ (stkI S.H t q < 0 ∨ topH (S.H q).n (S.H q).L < topH (S.H (stkI S.H t q).toNat).n (S.H (stkI S.H t q).toNat).L) then (q : Int) else stkI S.H t q from rfl)
          have hbear : ∀ x : After wr, Calls Try.prog 63 #[.slice A5 (S.H q).n c5, .int .i64 t] x.w fun e w' => e = .returned (.bool (bearsB (S.H q).n (S.H q).L t)) ∧ x.w = w' := fun x => bears_any _ _ _ _ t _ (by omega) (Rd.after hr5 x)
          generalize stkI S.H t q = B at hS1 hS2 HBI ⊢
          generalize bearsB (S.H q).n (S.H q).L t = T at hbear HBI
          go_wp2
          cases T
          · refine region_after (by kernel_rfl) (by kernel_rfl) ?_
            repeat (go_big_quiet_step ((first | (go_at_call 63; exact Calls.after_same (hbear _)))))
            refine wpQuiet_nil ?_
            rintro _ ⟨x, rfl⟩
            go_wp2
            go_roundw
            case rel => exact ⟨q + 1, by omega, by go_num, by rw [HBI.out]; simp, gr hbx x.h⟩
            case measure => simp [intOf]; omega
          · by_cases hS : B < 0
            · obtain rfl : B = -1 := by omega
              clear hS
              refine region_after (by kernel_rfl) (by kernel_rfl) ?_
              repeat (go_big_quiet_step ((first | (go_at_call 63; exact Calls.after_same (hbear _)))))
              refine wpQuiet_nil ?_
              rintro _ ⟨x, rfl⟩
              go_wp2
              go_roundw
              case rel => exact ⟨q + 1, by omega, by go_num, by rw [HBI.out, if_pos ⟨rfl, Or.inl (by omega)⟩], gr hbx x.h⟩
              case measure => simp [intOf]; omega
            · obtain ⟨r, rfl⟩ : ∃ r : Nat, B = r := ⟨B.toNat, by omega⟩
              have hrm : r < S.m := by omega
              obtain ⟨A6, c6, hV6, hr6⟩ := HTx.out.slice hrm
              have e6 := HTx.out.cell hrm
              rw [hV6] at e6
              clear hV6
              have hn6 := OK.out r hrm
              have d6 := fun x : After wr => x.cell e6 hgx
              clear e5 e6 hS
              have hS : decide ((r : Int) < 0) = false := by simp
              rw [show (r : Int).toNat = r from Int.toNat_natCast r] at HBI
              by_cases hs : topH (S.H q).n (S.H q).L < topH (S.H r).n (S.H r).L
              · refine region_after (by kernel_rfl) (by kernel_rfl) ?_
                repeat (go_big_quiet_step ((first | (go_at_call 63; exact Calls.after_same (hbear _)) | (go_at_call 64; exact Calls.after_same (by first | exact topOf_any _ _ _ _ _ (by omega) (Rd.after hr5 _) | exact topOf_any _ _ _ _ _ (by omega) (Rd.after hr6 _))))))
                refine wpQuiet_nil ?_
                rintro _ ⟨x, rfl⟩
                go_wp2
                go_roundw
                case rel => exact ⟨q + 1, by omega, by go_num, by rw [HBI.out, if_pos ⟨rfl, Or.inr hs⟩], gr hbx x.h⟩
                case measure => simp [intOf]; omega
              · refine region_after (by kernel_rfl) (by kernel_rfl) ?_
                repeat (go_big_quiet_step ((first | (go_at_call 63; exact Calls.after_same (hbear _)) | (go_at_call 64; exact Calls.after_same (by first | exact topOf_any _ _ _ _ _ (by omega) (Rd.after hr5 _) | exact topOf_any _ _ _ _ _ (by omega) (Rd.after hr6 _))))))
                refine wpQuiet_nil ?_
                rintro _ ⟨x, rfl⟩
                go_wp2
                go_roundw
                case rel => exact ⟨q + 1, by omega, by go_num, by rw [HBI.out, if_neg (fun hh => hs (hh.2.resolve_left (by omega)))], gr hbx x.h⟩
                case measure => simp [intOf]; omega
        · obtain ⟨m, H, hSm, hSH⟩ : ∃ m H, S.m = m ∧ S.H = H := ⟨_, _, rfl, rfl⟩
          obtain rfl : S = ⟨m, H⟩ := by cases S; cases hSm; cases hSH; rfl
          clear hSm hSH
          dsimp only at *
          obtain rfl : q = m := by omega
          have hbB : Below w.heap.size w wr := gr hb hbx
          have hsB := hbB.size
          have HT := hide HTx.out
          obtain ⟨i0, hi0, hz0, hz1, hz2⟩ := info_parts info_int
          by_cases hS : stkI H t q < 0
          · have HE := hide (show stkStep ⟨q, H⟩ t = ⟨q + 1, setH H q (newD t)⟩ by simp only [stkStep]; rw [if_pos hS])
            have hSe : stkI H t q = -1 := by omega
            rw [hSe]
            clear hSe hS1 hS2 hS HTx hlt2 hq
            obtain ⟨i1, hi1, hy0, hy1, hy2⟩ := info_parts info_ints
            obtain ⟨A8, c8, hu8⟩ : ∃ A c, Value.slice A 0 c = Value.slice none 0 0 := ⟨_, _, rfl⟩
            have HU := hide hu8
            clear hu8
            have HO8 := hide (fun W : World => (by rw [HU.out]; exact World.ownsRow_nil _ _ _ _ : W.ownsRow w.heap.size 3 1 (.slice A8 0 c8) nilD.n (rowL (ints nilD.L) nilD.n 1)))
            have hub : (Value.slice A8 0 c8).ownBlock = none := by rw [HU.out]; rfl
            have HUB := hide hub
            clear hub
            have hown0 := HT.out.own.alloc (.cells #[.slice none 0 0] 22)
            have hT0 := HT.out.below ((Below.refl _ _).alloc (Nat.le_refl _) (.cells #[.slice none 0 0] 22))
            have HT0 := hide hT0
            clear hT0
            go_upto_region 17 with (at_builtin; refine wpList_append_own_at _ rfl _ _ 31 rfl w.heap.size 22 i1 (.slice none 0 0) 1 24 Try.underlying31 hi1 hy0 hy1 hy2 rfl (by decide) _ q _ rfl hown0 ⟨wr.heap.size, 0, none⟩ 1 1 [.slice none 0 0] rfl rfl (World.news_of_block (cs := #[.slice none 0 0]) (t := 22) (fr := (0, 0)) (heap_alloc_new wr _)) (by simp [Value.oneCell']) (by simp only [maxLen]; omega) (by omega) (by simp; omega) ?_; intro v5 w5 hown5 hg5 _ hv5; rw [← HU.out] at hown5; obtain ⟨p5, hT5⟩ := TbX.snoc (u := .slice A8 0 c8) (d := nilD) HT0.out (HO8.out _) (.inl HUB.out) hown5 hg5 hv5; have hb5 := grown_below hown0 hg5 (by simp; omega); obtain ⟨g5, cap5, rfl, hg51, hg52⟩ := hown5.form (by omega); have e8 : World.cell? w5 ⟨g5, q, none⟩ = some (.slice A8 0 c8) := by rw [hT5.cell (by omega)]; simp [setV])
            have hbC : Below w.heap.size w w5 := (hbB.alloc (by omega) (.cells #[.slice none 0 0] 22)).trans hb5
            replace hbB := hbC
            clear hbC hb5 hg5 hown0 hv5 hown5
            have hs5 := hbB.size
            have hb8 : q < q + 1 := by omega
            have hn8 : nilD.n ≤ 11 := by decide
            have HV8 := hide (show setV V q (.slice A8 0 c8) q = .slice A8 0 c8 by simp [setV])
            have f8 := hT5.own.frozenAt q
            have ho8 := hT5.lay.own q hb8
            have hs5 := hT5.own.lt g5 rfl
            rw [HV8.out] at ho8
            rw [setH_at] at ho8
            have ho9 := ho8.alloc (.cells #[.int .i64 t] 3)
            have hnp := hT5.lay.np q hb8
            have hpg : p5 = g5 := by
              rcases hT5.blk with e | e
              · simp [Value.ownBlock] at e; exact e.symm
              · simp [Value.ownBlock] at e
            rw [HV8.out, hpg] at hnp
            clear hpg
            have HT5 := hide hT5
            clear hT5 ho8
            have HSN := hide (rowL_snoc nilD.n nilD.L t)
            go_wp2_with (at_builtin; refine wpList_append_own_at _ rfl _ _ 22 rfl w.heap.size 3 i0 (.int .i64 0) 1 8 Try.underlying22 hi0 hz0 hz1 hz2 rfl (by decide) _ nilD.n _ rfl ho9 ⟨w5.heap.size, 0, none⟩ 1 1 [.int .i64 t] rfl rfl (World.news_of_block (cs := #[.int .i64 t]) (t := 3) (fr := (0, 0)) (heap_alloc_new w5 _)) (by simp [Value.oneCell']) (by simp only [maxLen]; omega) (by omega) (by simp; omega) ?_; intro v9 w9 hown9 hg9 _ hv9; have hb9 := grown_below ho9 hg9 (by simp; omega); have hg9b := hg9.size; rw [← HSN.out] at hown9; have e9 := (hg9.cell_far ⟨g5, q, none⟩ (by simp; omega) (by intro e; exact hnp e.symm)).trans ((World.cell?_alloc_past (w := w5) _ _ _ hs5.2).trans e8); have f9 := (hg9.frozen_far ⟨g5, q, none⟩ (by simp; omega) (by intro e; exact hnp e.symm)).trans ((World.frozen?_alloc_past (w := w5) _ _ _ hs5.2).trans f8); obtain ⟨A9, c9, rfl, -⟩ := own_tab hown9)
            have hT6 := HT5.out.below ((Below.refl _ _).alloc (Nat.le_refl _) (.cells #[.int .i64 t] 3))
            have hXE := hT6.put (d := putD nilD t) hb8 (by rw [HV8.out]; exact hg9) hown9 (fun q hq => by
              rw [HV8.out]
              rcases hv9 with hv | hv
              · exact .inl (hv.symm.trans hq)
              · rw [hv] at hq; injection hq with hq; exact .inr (by omega))
            have hbE : Below w.heap.size w w9 := (hbB.alloc (by omega) (.cells #[.int .i64 t] 3)).trans (hb9.mono (by omega))
            have hbF := hbE.setCell (p := ⟨g5, q, none⟩) (by show _ ≤ g5; omega) (.slice A9 (nilD.n + 1) c9)
            have hg9' : g5 < w9.heap.size := by simp at hg9b; omega
            have hXF := setH_setH H q nilD (putD nilD t) ▸ hXE
            have hKK : stk F (k + 1) = ⟨q + 1, setH H q (newD t)⟩ := HS.out.trans HE.out
            refine ⟨⟨k + 1, _, _, by omega, by go_num, by rw [hKK]; exact hXF, hbF⟩, ?_⟩
            simp [intOf]; omega
          · obtain ⟨r, hr⟩ : ∃ r : Nat, stkI H t q = r := ⟨(stkI H t q).toNat, by omega⟩
            have hb8 : r < q := by omega
            have hbr := stkI_bears H t q (by omega)
            rw [hr, show (r : Int).toNat = r from Int.toNat_natCast r] at hbr
            simp only [bearsB, Bool.and_eq_true, decide_eq_true_eq] at hbr
            have hn8 : (H r).n ≤ 11 := by omega
            have HE := hide (show stkStep ⟨q, H⟩ t = ⟨q, setH H r (putD (H r) t)⟩ by simp only [stkStep]; rw [if_neg hS, hr, show (r : Int).toNat = r from Int.toNat_natCast r])
            rw [hr]
            clear hr hS1 hS2 hS hlt2 hq hbr
            obtain ⟨g, rfl, hg1, hg2⟩ := HF.out (by omega)
            obtain ⟨A8, c8, hV8, -⟩ := HTx.out.slice hb8
            have hT5 := HT.out
            have e8 := hT5.cell hb8
            rw [hV8] at e8
            have HV8 := hide hV8
            clear hV8
            have hrc : decide ((r : Int) < 0) = false := decide_eq_false (by omega)
            have hgx : g < wr.heap.size := Nat.lt_of_lt_of_le hg2 hbx.size
            have h5' : ∃ p5, p5 = p := ⟨p, rfl⟩
            obtain ⟨p5, h5p⟩ := h5'
            rw [← h5p] at hT5
            clear h5p HTx
            go_upto_region 17 with fail
            have f8 := hT5.own.frozenAt r
            have ho8 := hT5.lay.own r hb8
            have hs5 := hT5.own.lt g rfl
            rw [HV8.out] at ho8
            skip
            have ho9 := ho8.alloc (.cells #[.int .i64 t] 3)
            have hnp := hT5.lay.np r hb8
            have hpg : p5 = g := by
              rcases hT5.blk with e | e
              · simp [Value.ownBlock] at e; exact e.symm
              · simp [Value.ownBlock] at e
            rw [HV8.out, hpg] at hnp
            clear hpg
            have HT5 := hide hT5
            clear hT5 ho8
            have HSN := hide (rowL_snoc (H r).n (H r).L t)
            go_wp2_with (at_builtin; refine wpList_append_own_at _ rfl _ _ 22 rfl w.heap.size 3 i0 (.int .i64 0) 1 8 Try.underlying22 hi0 hz0 hz1 hz2 rfl (by decide) _ (H r).n _ rfl ho9 ⟨wr.heap.size, 0, none⟩ 1 1 [.int .i64 t] rfl rfl (World.news_of_block (cs := #[.int .i64 t]) (t := 3) (fr := (0, 0)) (heap_alloc_new wr _)) (by simp [Value.oneCell']) (by simp only [maxLen]; omega) (by omega) (by simp; omega) ?_; intro v9 w9 hown9 hg9 _ hv9; have hb9 := grown_below ho9 hg9 (by simp; omega); have hg9b := hg9.size; rw [← HSN.out] at hown9; have e9 := (hg9.cell_far ⟨g, r, none⟩ (by simp; omega) (by intro e; exact hnp e.symm)).trans ((World.cell?_alloc_past (w := wr) _ _ _ hs5.2).trans e8); have f9 := (hg9.frozen_far ⟨g, r, none⟩ (by simp; omega) (by intro e; exact hnp e.symm)).trans ((World.frozen?_alloc_past (w := wr) _ _ _ hs5.2).trans f8); obtain ⟨A9, c9, rfl, -⟩ := own_tab hown9)
            have hT6 := HT5.out.below ((Below.refl _ _).alloc (Nat.le_refl _) (.cells #[.int .i64 t] 3))
            have hXE := hT6.put (d := putD (H r) t) hb8 (by rw [HV8.out]; exact hg9) hown9 (fun q hq => by
              rw [HV8.out]
              rcases hv9 with hv | hv
              · exact .inl (hv.symm.trans hq)
              · rw [hv] at hq; injection hq with hq; exact .inr (by omega))
            have hbE : Below w.heap.size w w9 := (hbB.alloc (by omega) (.cells #[.int .i64 t] 3)).trans (hb9.mono (by omega))
            have hbF := hbE.setCell (p := ⟨g, r, none⟩) (by show _ ≤ g; omega) (.slice A9 ((H r).n + 1) c9)
            have hg9' : g < w9.heap.size := by simp at hg9b; omega
            have hKK : stk F (k + 1) = ⟨q, setH H r (putD (H r) t)⟩ := HS.out.trans HE.out
            refine ⟨⟨k + 1, _, _, by omega, by go_num, by rw [hKK]; exact hXE, hbF⟩, ?_⟩
            simp [intOf]; omega
    · obtain rfl : k = n := by omega
      obtain ⟨A4, c4, rfl, -⟩ := hT.form
      go_wp2
      go_ret2
      exact ⟨_, V, p, rfl, hT, hb⟩
end Go.Proofs.Ytidcmdnhnnhnhaa
