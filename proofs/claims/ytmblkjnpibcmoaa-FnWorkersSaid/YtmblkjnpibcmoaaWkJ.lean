/-
  Contracts on workers: the best free day, of the reference. Conditions: lengths up to 2^20.
-/
import Derived.Test.YtmblkjnpibcmoaaWkI
namespace Go.Proofs.Ytmblkjnpibcmoaa
open Go.RowKit

theorem Ow.cell_outW {w : World} {lo hi : Nat} {A : Option Addr} {n sz : Nat} {F : Nat → Nat → Value} (h : Ow w lo hi A n sz F) {p : Addr} (hp : p.block < lo ∨ hi ≤ p.block) (u : Value) : Ow (w.setCell p u) lo hi A n sz F :=
  h.agr fun k h1 h2 => Below.heap_setCell _ _ _ _ (by omega)
theorem wk_upd5 (F : Nat → Nat → Int) (C : Nat → Bool) (i : Nat) (x : Int) {n : Nat} (a j : Nat) (_ha : a < n) (hj : j < 5) :
    upd (upd (upd (upd (upd (wkC F C) i 0 (.int .i64 (F i 0))) i 1 (.int .i64 (F i 1))) i 2 (.int .i64 (F i 2))) i 3 (.bool (C i))) i 4 (.int .i64 x) a j = wkC (setFree F i x) C a j := by
  by_cases h : a = i
  · subst h
    match j, hj with
    | 0, _ => simp [upd, wkC, setFree]
    | 1, _ => simp [upd, wkC, setFree]
    | 2, _ => simp [upd, wkC, setFree]
    | 3, _ => simp [upd, wkC]
    | 4, _ => simp [upd, wkC, setFree]
  · match j, hj with
    | 0, _ => simp [upd, wkC, setFree, h]
    | 1, _ => simp [upd, wkC, setFree, h]
    | 2, _ => simp [upd, wkC, setFree, h]
    | 3, _ => simp [upd, wkC, h]
    | 4, _ => simp [upd, wkC, setFree, h]
set_option maxRecDepth 20000 in
set_option maxHeartbeats 4000000 in
theorem spec_ChangeFree_any (A : Option Addr) (n c : Nat) (F : Nat → Nat → Int) (C : Nat → Bool) (id : Int) (w : World) (hn : n ≤ 1048576) (h : Rd w A n 5 (wkC F C)) :
    Calls Try.prog 22 #[.slice A n c, .int .i64 id] w fun e w' => e = .returned (.tuple #[.int .i64 (changeR F C n id).1, .int .i64 (changeR F C n id).2.1, .bool (changeR F C n id).2.2]) ∧ Below w.heap.size w w' := by
  cases h1 : worksB F n
  · have HR := hide (show changeR F C n id = (0, 0, false) by simp [changeR, h1])
    go_enter Try.func22, Try.ntmps22
    go_wp2_with fail
    go_at_call 64
    refine (l5Find_any _ _ _ _ _ id _ hn h).mono ?_
    rintro _ w1 ⟨rfl, hb1⟩
    rw [show findW F n id = -1 by simp [findW, h1]]
    go_wp2
    refine bodyPost_ret (v := .tuple #[.int .i64 0, .int .i64 0, .bool false]) (by simp only [results, Try.results22]; go_simp) rfl ⟨by rw [HR.out], hb1⟩
  have HV := hide h1
  cases hf : firstB (idW F id) n with
  | none =>
    have HR := hide (show changeR F C n id = (0, 0, false) by simp [changeR, h1, hf, changeV])
    go_enter Try.func22, Try.ntmps22
    go_wp2_with fail
    go_at_call 64
    refine (l5Find_any _ _ _ _ _ id _ hn h).mono ?_
    rintro _ w1 ⟨rfl, hb1⟩
    rw [show findW F n id = -1 by simp [findW, h1, hf, idxV]]
    go_wp2
    refine bodyPost_ret (v := .tuple #[.int .i64 0, .int .i64 0, .bool false]) (by simp only [results, Try.results22]; go_simp) rfl ⟨by rw [HR.out], hb1⟩
  | some i =>
    have HR := hide (show changeR F C n id = (((bestI (freeV F C n i) 7 : Nat) : Int), freeV F C n i (bestI (freeV F C n i) 7), true) by simp [changeR, h1, hf, changeV])
    have hin : i < n := (firstB_some hf).1
    have HI := hide (show findW F n id = (i : Int) by simp [findW, h1, hf, idxV])
    have HF0 := hide (show ∀ x, x < 7 → 0 ≤ freeV F C n i x ∧ freeV F C n i x ≤ 21000 from fun x hx => freeS_bd C h1 i hx 5 (Nat.le_refl _))
    clear hf h1
    obtain ⟨i0, hi0, hz0, hz1, hz2⟩ := info_parts info_wk
    go_enter Try.func22, Try.ntmps22
    go_wp2_with fail
    go_at_call 64
    refine (l5Find_any _ _ _ _ _ id _ hn h).mono ?_
    rintro _ w1 ⟨rfl, hb1⟩
    rw [HI.out]
    clear HI
    have hi0' : decide ((i : Int) < 0) = false := decide_eq_false (by omega)
    go_wp2
    go_loopw [8, 9, 10] (fun be mo cn wr => ∃ k : Nat, k ≤ 7 ∧ cn = .int .i64 k ∧ be = .int .i64 (bestI (freeV F C n i) k : Nat) ∧ mo = .int .i64 (mostV (freeV F C n i) k) ∧ Below w.heap.size w wr) (fun _ _ cn _ => 7 - (intOf cn).toNat)
    case atStart => exact ⟨0, by omega, rfl, rfl, rfl, hb1⟩
    case round =>
      clear hb1
      obtain ⟨k, hk, rfl, rfl, rfl, hb⟩ := hrel
      by_cases hlt : k < 7
      · have hlt' : decide ((k : Int) < 7) = true := decide_eq_true (by omega)
        have MS := hide (most_step (HF0.out 0 (by omega)).1 k)
        obtain ⟨mb1, mb2, mb3⟩ := most_bd (by omega) HF0.out k hk
        have hown := World.ownsRow_lit (base := wr.heap.size) (e := 54) (size := 5) wr #[] 0 (Nat.le_refl _) (Nat.zero_le _) rfl
        have h' := Rd.alloc (Rd.below h hb) (.cells #[] 54)
        have hb1 : Below wr.heap.size wr (wr.alloc (.cells #[] 54)) := (Below.refl _ _).alloc (Nat.le_refl _) _
        go_upto_region 9 with (at_builtin; refine wpList_append_rd _ rfl (.tmp 24) (.tmp 25) 26 rfl wr.heap.size 54 i0 _ 5 40 Try.underlying26 hi0 hz0 hz1 hz2 rfl (by decide) _ _ _ rfl hown _ _ A n c (wkC F C) rfl h' (fun i j _ _ => wkC_one F C i j) (by simp only [maxLen]; omega) (by omega) (by simp) ?_; intro v2 w2 hown2 hg2 _)
        have hb2 := hb1.trans (grown_below hown hg2 (by simp))
        simp only [Nat.zero_add, List.nil_append] at hown2
        obtain ⟨A2, c2, rfl, hO⟩ := own_tab hown2
        obtain ⟨b, off, rfl, hlo, hhi, -⟩ := hO.sl (by omega)
        clear hown hg2 hown2 h' hb1
        obtain ⟨-, -, ho1, ho2⟩ := hO.at_ hin
        have c0 := ho1 0 (by omega)
        have c1 := ho1 1 (by omega)
        have c2' := ho1 2 (by omega)
        have c3 := ho1 3 (by omega)
        have c4 := ho1 4 (by omega)
        simp only [wkC, Nat.add_zero] at c0 c1 c2' c3 c4
        clear ho1 ho2
        have hin' : (i : Int) < (n : Int) := by omega
        go_upto_region 10 with fail
        have hbB := (gr hb hb2).alloc (Nat.le_trans hb.size hb2.size) (.cells #[.int .i64 (F i 0), .int .i64 (F i 1), .int .i64 (F i 2), .bool (C i), .int .i64 (F i 4)] 54)
        have hOB := hO.alloc (Nat.le_refl _) (.cells #[.int .i64 (F i 0), .int .i64 (F i 1), .int .i64 (F i 2), .bool (C i), .int .i64 (F i 4)] 54)
        have e0 : World.cell? (w2.alloc (.cells #[.int .i64 (F i 0), .int .i64 (F i 1), .int .i64 (F i 2), .bool (C i), .int .i64 (F i 4)] 54)) ⟨w2.heap.size, 0, none⟩ = some (.int .i64 (F i 0)) := by rw [World.cell?_alloc_new]; rfl
        have e1 : World.cell? (w2.alloc (.cells #[.int .i64 (F i 0), .int .i64 (F i 1), .int .i64 (F i 2), .bool (C i), .int .i64 (F i 4)] 54)) ⟨w2.heap.size, 1, none⟩ = some (.int .i64 (F i 1)) := by rw [World.cell?_alloc_new]; rfl
        have e2 : World.cell? (w2.alloc (.cells #[.int .i64 (F i 0), .int .i64 (F i 1), .int .i64 (F i 2), .bool (C i), .int .i64 (F i 4)] 54)) ⟨w2.heap.size, 2, none⟩ = some (.int .i64 (F i 2)) := by rw [World.cell?_alloc_new]; rfl
        have e3 : World.cell? (w2.alloc (.cells #[.int .i64 (F i 0), .int .i64 (F i 1), .int .i64 (F i 2), .bool (C i), .int .i64 (F i 4)] 54)) ⟨w2.heap.size, 3, none⟩ = some (.bool (C i)) := by rw [World.cell?_alloc_new]; rfl
        have e4 : World.cell? (w2.alloc (.cells #[.int .i64 (F i 0), .int .i64 (F i 1), .int .i64 (F i 2), .bool (C i), .int .i64 (F i 4)] 54)) ⟨w2.heap.size, 4, none⟩ = some (.int .i64 (F i 4)) := by rw [World.cell?_alloc_new]; rfl
        have e5 : World.frozen? (w2.alloc (.cells #[.int .i64 (F i 0), .int .i64 (F i 1), .int .i64 (F i 2), .bool (C i), .int .i64 (F i 4)] 54)) ⟨w2.heap.size, 4, none⟩ = false := World.frozen?_alloc_new _ _ _ _
        have e6 : w2.heap.size < (w2.alloc (.cells #[.int .i64 (F i 0), .int .i64 (F i 1), .int .i64 (F i 2), .bool (C i), .int .i64 (F i 4)] 54)).heap.size := by simp
        clear c0 c1 c2' c3 c4 hO
        generalize w2.alloc (.cells #[.int .i64 (F i 0), .int .i64 (F i 1), .int .i64 (F i 2), .bool (C i), .int .i64 (F i 4)] 54) = W at hbB hOB e0 e1 e2 e3 e4 e5 e6 ⊢
        have hw2 : w.heap.size ≤ w2.heap.size := Nat.le_trans hb.size hb2.size
        have hwr : w.heap.size ≤ b := Nat.le_trans hb.size hlo
        have hwrs := hb.size
        clear hb hb2
        generalize w2.heap.size = gB at *
        obtain ⟨-, -, ho1, ho2⟩ := hOB.at_ hin
        have c0 := ho1 0 (by omega)
        have c1 := ho1 1 (by omega)
        have c2' := ho1 2 (by omega)
        have c3 := ho1 3 (by omega)
        have c4 := ho1 4 (by omega)
        have f0 := ho2 0 (by omega)
        have f1 := ho2 1 (by omega)
        have f2 := ho2 2 (by omega)
        have f3 := ho2 3 (by omega)
        have f4 := ho2 4 (by omega)
        simp only [wkC, Nat.add_zero] at c0 c1 c2' c3 c4 f0
        clear ho1 ho2
        have hbW : b < W.heap.size := by omega
        have hne : b ≠ gB := by omega
        have hbB2 := (((((hbB.setCell (p := ⟨gB, 4, none⟩) hw2 (.int .i64 (k : Int))).setCell (p := ⟨b, off + i * 5, none⟩) hwr (.int .i64 (F i 0))).setCell (p := ⟨b, off + i * 5 + 1, none⟩) hwr (.int .i64 (F i 1))).setCell (p := ⟨b, off + i * 5 + 2, none⟩) hwr (.int .i64 (F i 2))).setCell (p := ⟨b, off + i * 5 + 3, none⟩) hwr (.bool (C i))).setCell (p := ⟨b, off + i * 5 + 4, none⟩) hwr (.int .i64 (k : Int))
        have hO2 := ((((((hOB.cell_outW (p := ⟨gB, 4, none⟩) (.inr (Nat.le_refl _)) (.int .i64 (k : Int))).set hin (j0 := 0) (o := off + i * 5) (by omega) (by omega) (.int .i64 (F i 0))).set hin (j0 := 1) (o := off + i * 5 + 1) (by omega) (by omega) (.int .i64 (F i 1))).set hin (j0 := 2) (o := off + i * 5 + 2) (by omega) (by omega) (.int .i64 (F i 2))).set hin (j0 := 3) (o := off + i * 5 + 3) (by omega) (by omega) (.bool (C i))).set hin (j0 := 4) (o := off + i * 5 + 4) (by omega) (by omega) (.int .i64 (k : Int))).congr fun a j ha hj => wk_upd5 F C i k (n := n) a j ha hj
        have hs4 : gB ≤ ((((((W.setCell ⟨gB, 4, none⟩ (.int .i64 (k : Int))).setCell ⟨b, off + i * 5, none⟩ (.int .i64 (F i 0))).setCell ⟨b, off + i * 5 + 1, none⟩ (.int .i64 (F i 1))).setCell ⟨b, off + i * 5 + 2, none⟩ (.int .i64 (F i 2))).setCell ⟨b, off + i * 5 + 3, none⟩ (.bool (C i))).setCell ⟨b, off + i * 5 + 4, none⟩ (.int .i64 (k : Int))).heap.size := by simp; omega
        go_wp2
        clear hOB hbB c0 c1 c2' c3 c4 f0 f1 f2 f3 f4 e0 e1 e2 e3 e4 e5
        generalize (((((W.setCell ⟨gB, 4, none⟩ (.int .i64 (k : Int))).setCell ⟨b, off + i * 5, none⟩ (.int .i64 (F i 0))).setCell ⟨b, off + i * 5 + 1, none⟩ (.int .i64 (F i 1))).setCell ⟨b, off + i * 5 + 2, none⟩ (.int .i64 (F i 2))).setCell ⟨b, off + i * 5 + 3, none⟩ (.bool (C i))).setCell ⟨b, off + i * 5 + 4, none⟩ (.int .i64 (k : Int)) = W4 at hO2 hbB2 hs4 ⊢
        have hR4 := hO2.sl.rd hs4
        clear hO2 e6 hbW
        have HVs := hide (setFree_works (i := i) (x := (k : Int)) HV.out (by omega) (by omega))
        have HFS := hide (freeS_bd C HV.out i hlt)
        go_loopw [13, 14] (fun s g w5 => ∃ q : Nat, q ≤ 5 ∧ g = .int .i64 ((q + 1 : Nat) : Int) ∧ s = .int .i64 (freeS F C n i k q) ∧ Below (World.heap W4).size W4 w5) (fun _ g _ => 6 - (intOf g).toNat)
        case atStart => exact ⟨0, by omega, rfl, rfl, Below.refl _ _⟩
        case round =>
          obtain ⟨q, hq, rfl, rfl, hb5⟩ := hrel
          by_cases hq5 : q < 5
          · have hq' : decide (((q + 1 : Nat) : Int) ≤ 5) = true := decide_eq_true (by omega)
            obtain ⟨z1, z2⟩ := HFS.out q hq
            obtain ⟨y1, y2⟩ := week_bd C HVs.out ((q + 1 : Nat) : Int) 7 (Nat.le_refl _)
            have HS := hide (show freeS F C n i k (q + 1) = freeS F C n i k q + weekV (setFree F i k) C n ((q + 1 : Nat) : Int) from rfl)
            have y3 : weekV (setFree F i k) C n ((q + 1 : Nat) : Int) ≤ 4200 := y2
            have y4 : 0 ≤ weekV (setFree F i k) C n ((q + 1 : Nat) : Int) := y1
            clear y1 y2
            have hg5 : q + 1 ≤ 5 := by omega
            generalize q + 1 = gq at *
            go_wp2_with fail
            go_at_call 44
            refine (l5Week_any _ _ _ _ _ (gq : Int) _ HVs (Rd.below hR4 hb5)).mono ?_
            rintro _ w6 ⟨rfl, hb6⟩
            generalize weekV (setFree F i k) C n (gq : Int) = x at *
            generalize freeS F C n i k q = S at *
            go_wp2
            go_roundw
            case rel => exact ⟨gq, hg5, by go_num, by rw [HS.out], gr hb5 hb6⟩
            case measure => simp [intOf]; omega
          · obtain rfl : q = 5 := by omega
            rw [show freeS F C n i k 5 = freeV F C n i k from rfl]
            have hb7 := hbB2.trans (hb5.mono (by have := hbB2.size; omega))
            obtain ⟨v1, v2⟩ := HF0.out k hlt
            clear hR4 hb5 hbB2 HFS HVs
            by_cases hm : mostV (freeV F C n i) k < freeV F C n i k
            · obtain ⟨m1, m2⟩ := MS.out.1 hm
              have M1 := hide m1
              have M2 := hide m2
              have t1 : decide (mostV (freeV F C n i) k < freeV F C n i k) = true := decide_eq_true hm
              clear m1 m2 hm
              generalize mostV (freeV F C n i) k = mv at *
              generalize freeV F C n i k = fv at *
              go_wp2
              go_roundw
              case rel => exact ⟨k + 1, by omega, by go_num, by rw [M1.out], by rw [M2.out], hb7⟩
              case measure => simp [intOf]; omega
            · obtain ⟨m1, m2⟩ := MS.out.2 (by first | exact hm | omega)
              have M1 := hide m1
              have M2 := hide m2
              have t1 : decide (mostV (freeV F C n i) k < freeV F C n i k) = false := decide_eq_false hm
              clear m1 m2 hm
              generalize mostV (freeV F C n i) k = mv at *
              generalize freeV F C n i k = fv at *
              go_wp2
              go_roundw
              case rel => exact ⟨k + 1, by omega, by go_num, by rw [M1.out], by rw [M2.out], hb7⟩
              case measure => simp [intOf]; omega
      · obtain rfl : k = 7 := by omega
        have HM := hide (show mostV (freeV F C n i) 7 = freeV F C n i (bestI (freeV F C n i) 7) from rfl)
        rw [HM.out]
        generalize bestI (freeV F C n i) 7 = bq at *
        generalize freeV F C n i bq = fq at *
        go_wp2
        refine bodyPost_ret (v := .tuple #[.int .i64 (bq : Int), .int .i64 fq, .bool true]) (by simp only [results, Try.results22]; go_simp) rfl ⟨by rw [HR.out], hb⟩
end Go.Proofs.Ytmblkjnpibcmoaa
