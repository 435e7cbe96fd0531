/-
  Contracts on stacked layers, of the reference. Conditions: lengths up to 2^20.
-/
import Derived.Test.YtidcmdnhnnhnhaaStB
import Derived.Deep.AppendLies
import Derived.Deep.RegionLaw
namespace Go.Proofs.Ytidcmdnhnnhnhaa
open Go.RowKit

theorem bears_at {n : Nat} {L : Nat → Nat → Int} {t : Int} (h : 1 ≤ n) : bearsB n L t = (decide ((n : Int) < 12) && decide (t ≤ L (n - 1) 0)) := by
  simp [bearsB, show ¬(n = 0) by omega]
set_option maxRecDepth 20000 in
set_option maxHeartbeats 4000000 in
theorem spec_StackLayers_any (A : Option Addr) (n c : Nat) (F : Nat → Nat → Int) (w : World) (hn : n ≤ 1048576) (h : Rd w A n 1 (ints F)) :
    Calls Try.prog 19 #[.slice A n c] w (StkP w (stackR F n)) := by
  have hown00 : ∀ W : World, w.heap.size ≤ W.heap.size → (W.alloc (.cells #[] 22)).ownsRow w.heap.size 22 1 (.slice (some ⟨W.heap.size, 0, none⟩) 0 0) 0 [] := fun W hW => World.ownsRow_lit (base := w.heap.size) (e := 22) (size := 1) W #[] 0 hW (Nat.zero_le _) rfl
  have H00 := hide hown00
  clear hown00
  by_cases h1 : (n : Int) ≤ 20
  rotate_left
  · rw [stackR_no (layersB_no1 h1)]
    have hd : decide (20 < (n : Int)) = true := decide_eq_true (by omega)
    clear h1
    go_enter Try.func19, Try.ntmps19
    go_wp2
    go_ret2
    exact StkP.no ((Below.refl _ _).alloc (Nat.le_refl _) _) (H00.out w (Nat.le_refl _))
  have hd : decide (20 < (n : Int)) = false := decide_eq_false (by omega)
  have HN := hide (fun k (hk : k < n) (he : layB1 F k = false) => stackR_no (F := F) (n := n) (by simp [layersB, allB_false hk he]))
  have HY := hide (fun (he : allB (layB1 F) n = true) => show stackR F n = ⟨stk F n, true⟩ by simp [stackR, layersB, h1, he])
  clear h1
  go_enter Try.func19, Try.ntmps19
  go_wp2
  go_loopw [4, 5] (fun v i wr => ∃ (k : Nat) (V : Nat → Value) (p : Nat), k ≤ n ∧ i = .int .i64 k ∧ Hid (allB (layB1 F) k = true) ∧ TbX wr w.heap.size v (stk F k).m (stk F k).H V p ∧ Below w.heap.size w wr) (fun _ i _ => n - (intOf i).toNat)
  case atStart => exact ⟨0, fun _ => undef, w.heap.size, by omega, rfl, hide rfl, ⟨H00.out w (Nat.le_refl _), .inl rfl, LyX.zero _ _ _ _ _⟩, (Below.refl _ _).alloc (Nat.le_refl _) _⟩
  case round =>
    obtain ⟨k, V, p, hk, rfl, HG, hT, hb⟩ := hrel
    rename World => wo
    by_cases hlt : k < n
    · obtain ⟨b, off, rfl, -, hbw, hc⟩ := Rd.below h hb (by omega)
      have hc0 := hc k 0 hlt (by omega)
      simp only [Nat.add_zero, Nat.mul_one, ints] at hc0
      clear hc
      cases h1 : inB (F k 0) 1 500
      · have HE := hide (HN.out k hlt h1)
        go_wp2_with fail
        go_at_call 60
        refine (l1In_any _ _ _ _).mono ?_
        rintro _ _ ⟨rfl, rfl⟩
        rw [h1]
        obtain ⟨A4, c4, rfl, -⟩ := hT.form
        clear hT
        go_wp2
        go_ret2
        rw [HE.out]
        exact StkP.no (hb.alloc hb.size _) (H00.out wo hb.size)
      have HG2 := hide (allB_succ HG.out h1)
      have HS := hide (show stk F (k + 1) = stkStep (stk F k) (F k 0) from rfl)
      obtain ⟨ok1, ok2⟩ := stk_ok F k
      have hm20 : (stk F k).m ≤ 1048576 := by omega
      have OK := hide ok2
      clear ok2
      generalize stk F k = S at hT HS ok1 OK hm20 ⊢
      generalize hFt : F k 0 = t at hc0 HS h1 ⊢
      have HFt := hide hFt
      clear hFt
      obtain ⟨A4, c4, rfl, hform⟩ := hT.form
      have HT := hide hT
      have HF := hide hform
      clear hT hform
      go_wp2_with fail
      go_at_call 60
      refine (l1In_any _ _ _ _).mono ?_
      rintro _ _ ⟨rfl, rfl⟩
      rw [h1]
      clear h1
      go_wp2
      go_loopw [6, 7] (fun bs j wx => ∃ q : Nat, q ≤ S.m ∧ j = .int .i64 q ∧ bs = .int .i64 (stkI S.H t q) ∧ Below wo.heap.size wo wx) (fun _ j _ => S.m - (intOf j).toNat)
      case atStart => exact ⟨0, by omega, rfl, rfl, Below.refl _ _⟩
      case round =>
        obtain ⟨q, hq, rfl, rfl, hbx⟩ := hrel
        obtain ⟨hS1, hS2⟩ := stkI_bd S.H t q
        have HTx := hide (HT.out.below hbx)
        by_cases hlt2 : q < S.m
        · obtain ⟨g, rfl, hg1, hg2⟩ := HF.out (by omega)
          obtain ⟨A5, c5, hV5, hr5⟩ := HTx.out.slice hlt2
          have e5 := HTx.out.cell hlt2
          rw [hV5] at e5
          clear hV5
          have hgx : g < wr.heap.size := Nat.lt_of_lt_of_le hg2 hbx.size
          obtain ⟨hn5, hn5'⟩ := OK.out q hlt2
          have hc0x := (hbx.cell (p := ⟨b, off + k, none⟩) hbw).trans hc0
          have hbwx : b < wr.heap.size := Nat.lt_of_lt_of_le hbw hbx.size
          have HBI := hide (show stkI S.H t (q + 1) = if bearsB (S.H q).n (S.H q).L t = true ∧ (stkI S.H t q < 0 ∨ topH (S.H q).n (S.H q).L < topH (S.H (stkI S.H t q).toNat).n (S.H (stkI S.H t q).toNat).L) then (q : Int) else stkI S.H t q from rfl)
          have HBE := hide (bears_at (L := (S.H q).L) (t := t) hn5)
          have HTP := hide (topH_pos (L := (S.H q).L) (show 0 < (S.H q).n by omega))
          generalize stkI S.H t q = B at hS1 hS2 HBI ⊢
          generalize bearsB (S.H q).n (S.H q).L t = T at HBE HBI
          generalize topH (S.H q).n (S.H q).L = TQ at HTP HBI
          generalize (S.H q).L = L5 at *
          generalize (S.H q).n = n5 at *
          obtain ⟨b5, off5, rfl, -, hb5, hc5⟩ := hr5 (by omega)
          have k5 := hc5 (n5 - 1) 0 (by omega) (by omega)
          simp only [Nat.add_zero, Nat.mul_one, ints] at k5
          clear hc5 hr5
          have d1 := fun x : After wr => x.cell e5 hgx
          have d2 := fun x : After wr => x.cell k5 hb5
          have d3 := fun x : After wr => x.cell hc0x hbwx
          have hp5 : 0 < n5 := by omega
          go_wp2
          clear e5 k5 hc0x
          by_cases c1 : (n5 : Int) < 12
          rotate_left
          · refine region_after (by kernel_rfl) (by kernel_rfl) ?_
            repeat (go_big_quiet_step ((first | fail)))
            refine wpQuiet_nil ?_
            rintro _ ⟨x, rfl⟩
            go_wp2
            go_roundw
            case rel => exact ⟨q + 1, by omega, by go_num, by rw [HBI.out, HBE.out, decide_eq_false c1]; simp, gr hbx x.h⟩
            case measure => simp [intOf]; omega
          by_cases c2 : t ≤ L5 (n5 - 1) 0
          rotate_left
          · refine region_after (by kernel_rfl) (by kernel_rfl) ?_
            repeat (go_big_quiet_step ((first | fail)))
            refine wpQuiet_nil ?_
            rintro _ ⟨x, rfl⟩
            go_wp2
            go_roundw
            case rel => exact ⟨q + 1, by omega, by go_num, by rw [HBI.out, HBE.out, decide_eq_false c2]; simp, gr hbx x.h⟩
            case measure => simp [intOf]; omega
          have HT5 := hide (show T = true by rw [HBE.out, decide_eq_true c1, decide_eq_true c2]; rfl)
          by_cases hS : B < 0
          · obtain rfl : B = -1 := by omega
            clear hS
            refine region_after (by kernel_rfl) (by kernel_rfl) ?_
            repeat (go_big_quiet_step ((first | fail)))
            refine wpQuiet_nil ?_
            rintro _ ⟨x, rfl⟩
            go_wp2
            go_roundw
            case rel => exact ⟨q + 1, by omega, by go_num, by rw [HBI.out, if_pos ⟨HT5.out, Or.inl (by omega)⟩], gr hbx x.h⟩
            case measure => simp [intOf]; omega
          · obtain ⟨r, rfl⟩ : ∃ r : Nat, B = r := ⟨B.toNat, by omega⟩
            have hrm : r < S.m := by omega
            obtain ⟨A6, c6, hV6, hr6⟩ := HTx.out.slice hrm
            have e6 := HTx.out.cell hrm
            rw [hV6] at e6
            clear hV6
            obtain ⟨hn6, hn6'⟩ := OK.out r hrm
            rw [show (r : Int).toNat = r from Int.toNat_natCast r] at HBI
            have HTP6 := hide (topH_pos (L := (S.H r).L) (show 0 < (S.H r).n by omega))
            generalize topH (S.H r).n (S.H r).L = TR at HTP6 HBI
            generalize (S.H r).L = L6 at *
            generalize (S.H r).n = n6 at *
            obtain ⟨b6, off6, rfl, -, hb6, hc6⟩ := hr6 (by omega)
            have k6 := hc6 (n6 - 1) 0 (by omega) (by omega)
            simp only [Nat.add_zero, Nat.mul_one, ints] at k6
            clear hc6 hr6
            have d6 := fun x : After wr => x.cell e6 hgx
            have d7 := fun x : After wr => x.cell k6 hb6
            have hp6 : 0 < n6 := by omega
            clear e6 k6 hS
            have hS : decide ((r : Int) < 0) = false := by simp
            by_cases hs : L5 (n5 - 1) 0 < L6 (n6 - 1) 0
            · refine region_after (by kernel_rfl) (by kernel_rfl) ?_
              repeat (go_big_quiet_step ((first | fail)))
              refine wpQuiet_nil ?_
              rintro _ ⟨x, rfl⟩
              go_wp2
              go_roundw
              case rel => exact ⟨q + 1, by omega, by go_num, by rw [HBI.out, if_pos ⟨HT5.out, Or.inr (by rw [HTP.out, HTP6.out]; exact hs)⟩], gr hbx x.h⟩
              case measure => simp [intOf]; omega
            · refine region_after (by kernel_rfl) (by kernel_rfl) ?_
              repeat (go_big_quiet_step ((first | fail)))
              refine wpQuiet_nil ?_
              rintro _ ⟨x, rfl⟩
              go_wp2
              go_roundw
              case rel => exact ⟨q + 1, by omega, by go_num, by rw [HBI.out, if_neg (fun hh => hs (by rw [← HTP.out, ← HTP6.out]; exact hh.2.resolve_left (by omega)))], gr hbx x.h⟩
              case measure => simp [intOf]; omega
        · obtain ⟨m, H, hSm, hSH⟩ : ∃ m H, S.m = m ∧ S.H = H := ⟨_, _, rfl, rfl⟩
          obtain rfl : S = ⟨m, H⟩ := by cases S; cases hSm; cases hSH; rfl
          clear hSm hSH
          dsimp only at *
          obtain rfl : q = m := by omega
          have hbB : Below w.heap.size w wr := gr hb hbx
          have hsB := hbB.size
          have hc0x := (hbx.cell (p := ⟨b, off + k, none⟩) hbw).trans hc0
          have hbwx : b < wr.heap.size := Nat.lt_of_lt_of_le hbw hbx.size
          obtain ⟨i0, hi0, hz0, hz1, hz2⟩ := info_parts info_int
          by_cases hS : stkI H t q < 0
          · have HE := hide (show stkStep ⟨q, H⟩ t = ⟨q + 1, setH H q (newD t)⟩ by simp only [stkStep]; rw [if_pos hS])
            have hSe : stkI H t q = -1 := by omega
            rw [hSe]
            clear hSe hS1 hS2 hS hlt2 hq
            obtain ⟨i1, hi1, hy0, hy1, hy2⟩ := info_parts info_ints
            have hbL : Below wr.heap.size wr ((wr.alloc (.cells #[.int .i64 t] 3)).alloc (.cells #[.slice (some ⟨wr.heap.size, 0, none⟩) 1 1] 22)) := by (repeat' (first | exact Below.refl _ _ | assumption | refine Below.drew ?_ | refine Below.alloc ?_ (by first | omega | exact Below.size (by assumption) | (simp; done) | (simp; omega)) _ | refine Below.setCell ?_ (by first | omega | exact Below.size (by assumption) | (simp; done) | (simp; omega)) _))
            have hown0 := own_below HTx.out.own hbL
            have HT0 := hide (HTx.out.below hbL)
            have hu0 := World.ownsRow_lit (base := w.heap.size) (e := 3) (size := 1) wr #[.int .i64 t] 1 hsB (by simp [maxLen]) rfl
            have hu : ((wr.alloc (.cells #[.int .i64 t] 3)).alloc (.cells #[.slice (some ⟨wr.heap.size, 0, none⟩) 1 1] 22)).ownsRow w.heap.size 3 1 (.slice (some ⟨wr.heap.size, 0, none⟩) 1 1) (newD t).n (rowL (ints (newD t).L) (newD t).n 1) := by
              refine own_below (w := wr.alloc (.cells #[.int .i64 t] 3)) ?_ ((Below.refl _ _).alloc (Nat.le_refl _) _)
              have e : rowL (ints (newD t).L) (newD t).n 1 = [.int .i64 t] := by simp [rowL, newD, nilD, putD, addL]
              rw [e]
              exact hu0
            have HU := hide hu
            have hub : ∀ g, g < wr.heap.size → (Value.slice (some ⟨wr.heap.size, 0, none⟩) 1 1).ownBlock ≠ some g := fun g hg e => by simp [Value.ownBlock] at e; omega
            have HN2 := hide (show (Value.slice (some ⟨wr.heap.size, 0, none⟩) 1 1).ownBlock ≠ (Value.slice A4 q c4).ownBlock ∧ ∀ i, i < q → (Value.slice (some ⟨wr.heap.size, 0, none⟩) 1 1).ownBlock ≠ (V i).ownBlock from by
              refine ⟨fun e => ?_, fun i hi e => ?_⟩
              · exact hub wr.heap.size (by have := (HTx.out.own.lt _ e.symm).2; omega) rfl
              · have := HTx.out.lay.lt hi (e.symm.trans (show _ = some wr.heap.size from rfl)); omega)
            have hnw : ∀ j u, [Value.slice (some ⟨wr.heap.size, 0, none⟩) 1 1][j]? = some u → ((wr.alloc (.cells #[.int .i64 t] 3)).alloc (.cells #[.slice (some ⟨wr.heap.size, 0, none⟩) 1 1] 22)).cell? ((⟨wr.heap.size + 1, 0, none⟩ : Addr).add j) = some u := by
              have h1 := heap_alloc_new (wr.alloc (.cells #[.int .i64 t] 3)) (.cells #[.slice (some ⟨wr.heap.size, 0, none⟩) 1 1] 22)
              rw [show (wr.alloc (.cells #[.int .i64 t] 3)).heap.size = wr.heap.size + 1 by simp] at h1
              exact World.news_of_block h1
            have HNW := hide hnw
            clear hu hu0 hub hnw HT HF
            have hbM : Below w.heap.size w ((wr.alloc (.cells #[.int .i64 t] 3)).alloc (.cells #[.slice (some ⟨wr.heap.size, 0, none⟩) 1 1] 22)) := hbB.trans (hbL.mono hsB)
            go_wp2_with (at_builtin; refine wpList_append_own_at _ rfl _ _ 31 rfl w.heap.size 22 i1 (.slice none 0 0) 1 24 Try.underlying31 hi1 hy0 hy1 hy2 rfl (by decide) _ q _ rfl hown0 ⟨wr.heap.size + 1, 0, none⟩ 1 1 [.slice (some ⟨wr.heap.size, 0, none⟩) 1 1] rfl rfl HNW.out (by simp [Value.oneCell']) (by simp only [maxLen]; omega) (by omega) (by simp; omega) ?_; intro v5 w5 hown5 hg5 _ hv5; have hb5 := grown_below hown0 hg5 (by simp; omega))
            obtain ⟨p5, hT5⟩ := TbX.snoc (d := newD t) HT0.out HU.out (.inr HN2.out) hown5 hg5 hv5
            have hKK : stk F (k + 1) = ⟨q + 1, setH H q (newD t)⟩ := HS.out.trans HE.out
            go_roundw
            case rel => exact ⟨k + 1, _, p5, by omega, by go_num, HG2, by rw [hKK]; exact hT5, hbM.trans hb5⟩
            case measure => simp [intOf]; omega
          · obtain ⟨r, hr⟩ : ∃ r : Nat, stkI H t q = r := ⟨(stkI H t q).toNat, by omega⟩
            have hb8 : r < q := by omega
            have hbr := stkI_bears H t q (by omega)
            rw [hr, show (r : Int).toNat = r from Int.toNat_natCast r] at hbr
            simp only [bearsB, Bool.and_eq_true, decide_eq_true_eq] at hbr
            have hn8 : (H r).n ≤ 11 := by omega
            have HE := hide (show stkStep ⟨q, H⟩ t = ⟨q, setH H r (putD (H r) t)⟩ by simp only [stkStep]; rw [if_neg hS, hr, show (r : Int).toNat = r from Int.toNat_natCast r])
            rw [hr]
            clear hr hS1 hS2 hS hlt2 hq hbr
            obtain ⟨g, rfl, hg1, hg2⟩ := HF.out (by omega)
            obtain ⟨A8, c8, hV8, -⟩ := HTx.out.slice hb8
            have e8 := HTx.out.cell hb8
            have f8 := HTx.out.own.frozenAt r
            have ho8 := HTx.out.lay.own r hb8
            have hnp := HTx.out.lay.np r hb8
            have hpg : p = g := by
              rcases HTx.out.blk with e | e
              · simp [Value.ownBlock] at e; exact e.symm
              · simp [Value.ownBlock] at e
            rw [hV8] at e8 ho8 hnp
            rw [hpg] at hnp
            clear hpg
            have HV8 := hide hV8
            clear hV8
            have hrc : decide ((r : Int) < 0) = false := decide_eq_false (by omega)
            have hgx : g < wr.heap.size := Nat.lt_of_lt_of_le hg2 hbx.size
            have HSN := hide (rowL_snoc (H r).n (H r).L t)
            have hKK : stk F (k + 1) = ⟨q, setH H r (putD (H r) t)⟩ := HS.out.trans HE.out
            have HKK := hide hKK
            clear hKK HT HF
            go_upto_region 18 with fail
            go_region_law ((refine step_append_lies _ (by rfl) _ _ _ (by rfl) w.heap.size 3 i0 _ 1 8 Try.underlying22 hi0 hz0 hz1 hz2 rfl (by omega) (.slice A8 (H r).n c8) (H r).n _ (by rfl) (own_below ho8 (by (repeat' (first | exact Below.refl _ _ | assumption | refine Below.drew ?_ | refine Below.alloc ?_ (by first | omega | exact Below.size (by assumption) | (simp; done) | (simp; omega)) _ | refine Below.setCell ?_ (by first | omega | exact Below.size (by assumption) | (simp; done) | (simp; omega)) _)))) ⟨wr.heap.size, 0, none⟩ 1 1 [.int .i64 t] (by rfl) (by rfl) (World.news_of_block (cs := #[.int .i64 t]) (t := 3) (fr := (0, 0)) (heap_alloc_new wr _)) (by simp [Value.oneCell']) (by omega) (by simp only [maxLen]; omega) (by omega) (by simp; omega) (wr.heap.size + 1) (by simp) ?_; intro gg cap w9 hown9 hg9 hat hlt9; have e9 := (hg9.cell_far ⟨g, r, none⟩ (by simp; omega) (by intro e; exact hnp e.symm)).trans (show _ = some (Value.slice A8 (H r).n c8) by go_simp); have f9 := (hg9.frozen_far ⟨g, r, none⟩ (by simp; omega) (by intro e; exact hnp e.symm)).trans (show _ = false by go_simp); have hz9 := hg9.size; have HAT := hide hat; clear hat; rw [← HSN.out] at hown9))
            all_goals
              have hT6 := HTx.out.below (w' := (wr.alloc (.cells #[.int .i64 t] 3)).drew) (by (repeat' (first | exact Below.refl _ _ | assumption | refine Below.drew ?_ | refine Below.alloc ?_ (by first | omega | exact Below.size (by assumption) | (simp; done) | (simp; omega)) _ | refine Below.setCell ?_ (by first | omega | exact Below.size (by assumption) | (simp; done) | (simp; omega)) _)))
              have hXE := hT6.put (d := putD (H r) t) hb8 (by rw [HV8.out]; exact hg9) hown9 (fun q' hq' => by
                rw [HV8.out]
                rcases HAT.out with hv | hv
                · exact .inl (by rw [hv]; exact hq')
                · simp [Value.ownBlock] at hq'; exact .inr (by simp; omega))
              have hbE : Below w.heap.size w w9 := ((hbB.alloc hsB (.cells #[.int .i64 t] 3)).drew).trans ((grown_below (own_below ho8 (w' := (wr.alloc (.cells #[.int .i64 t] 3)).drew) (by (repeat' (first | exact Below.refl _ _ | assumption | refine Below.drew ?_ | refine Below.alloc ?_ (by first | omega | exact Below.size (by assumption) | (simp; done) | (simp; omega)) _ | refine Below.setCell ?_ (by first | omega | exact Below.size (by assumption) | (simp; done) | (simp; omega)) _)))) hg9 (by simp; omega)).mono (by omega))
              have hbF := hbE.setCell (p := ⟨g, r, none⟩) (by show _ ≤ g; omega) (.slice (some ⟨gg, 0, none⟩) ((H r).n + 1) cap)
              go_wp2
              go_roundw
              case rel => exact ⟨k + 1, _, p, by omega, by go_num, HG2, by rw [HKK.out]; exact hXE, hbF⟩
              case measure => simp [intOf]; omega
    · obtain rfl : k = n := by omega
      obtain ⟨A4, c4, rfl, -⟩ := hT.form
      go_wp2
      go_ret2
      rw [HY.out HG.out]
      exact ⟨_, V, p, rfl, hT, hb⟩
end Go.Proofs.Ytidcmdnhnnhnhaa
