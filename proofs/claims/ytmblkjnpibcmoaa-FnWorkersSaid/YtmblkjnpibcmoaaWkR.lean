/-
  Contracts on workers: the spare ones, of the reference. Conditions: lengths up to 2^20.
-/
import Derived.Test.YtmblkjnpibcmoaaWkP
namespace Go.Proofs.Ytmblkjnpibcmoaa
open Go.RowKit

set_option maxHeartbeats 4000000 in
theorem spec_SpareWorkers_any (A : Option Addr) (n c : Nat) (F : Nat → Nat → Int) (C : Nat → Bool) (g d : Int) (w : World) (hn : n ≤ 1048576) (h : Rd w A n 5 (wkC F C)) :
    Calls Try.prog 31 #[.slice A n c, .int .i64 g, .int .i64 d] w (RowP w (fun A' c' => .tuple #[.slice A' (spareN F C n g d) c', .bool (spareOk F n g d)]) (spareN F C n g d) 1 (ints (spareT F C n g (d % 7) n))) := by
  have hb0 : Below w.heap.size w (w.alloc (.cells #[] 3)) := (Below.refl _ _).alloc (Nat.le_refl _) _
  have h0 := Rd.below h hb0
  have hown := World.ownsRow_lit (base := w.heap.size) (e := 3) (size := 1) w #[] 0 (Nat.le_refl _) (Nat.zero_le _) rfl
  cases h1 : worksB F n
  · rw [show spareN F C n g d = 0 by simp [spareN, spareOk, h1], show spareOk F n g d = false by simp [spareOk, h1]]
    go_enter Try.func31, Try.ntmps31
    go_wp2_with fail
    go_at_call 56
    refine (l5Good_any _ _ _ _ _ _ hn h0).mono ?_
    rintro _ w1 ⟨rfl, hb1⟩
    rw [h1]
    go_wp2
    refine bodyPost_ret (v := .tuple #[.slice (some ⟨w.heap.size, 0, none⟩) 0 0, .bool false]) (by simp only [results, Try.results31]; go_simp) rfl ⟨_, _, rfl, Ow.nil _ _ _ _ _ _, gr hb0 hb1⟩
  cases h2 : inB g 1 5
  · rw [show spareN F C n g d = 0 by simp [spareN, spareOk, h1, h2], show spareOk F n g d = false by simp [spareOk, h1, h2]]
    go_enter Try.func31, Try.ntmps31
    go_wp2_with fail
    go_at_call 56
    refine (l5Good_any _ _ _ _ _ _ hn h0).mono ?_
    rintro _ w1 ⟨rfl, hb1⟩
    rw [h1]
    go_wp2_with fail
    go_at_call 57
    refine (l5Gang_any _ _).mono ?_
    rintro _ _ ⟨rfl, rfl⟩
    rw [h2]
    go_wp2
    refine bodyPost_ret (v := .tuple #[.slice (some ⟨w.heap.size, 0, none⟩) 0 0, .bool false]) (by simp only [results, Try.results31]; go_simp) rfl ⟨_, _, rfl, Ow.nil _ _ _ _ _ _, gr hb0 hb1⟩
  cases h3 : inB d 0 4000
  · rw [show spareN F C n g d = 0 by simp [spareN, spareOk, h1, h2, h3], show spareOk F n g d = false by simp [spareOk, h1, h2, h3]]
    go_enter Try.func31, Try.ntmps31
    go_wp2_with fail
    go_at_call 56
    refine (l5Good_any _ _ _ _ _ _ hn h0).mono ?_
    rintro _ w1 ⟨rfl, hb1⟩
    rw [h1]
    go_wp2_with fail
    go_at_call 57
    refine (l5Gang_any _ _).mono ?_
    rintro _ _ ⟨rfl, rfl⟩
    rw [h2]
    go_wp2_with fail
    go_at_call 69
    refine (l2Day_any _ _).mono ?_
    rintro _ _ ⟨rfl, rfl⟩
    rw [h3]
    go_wp2
    refine bodyPost_ret (v := .tuple #[.slice (some ⟨w.heap.size, 0, none⟩) 0 0, .bool false]) (by simp only [results, Try.results31]; go_simp) rfl ⟨_, _, rfl, Ow.nil _ _ _ _ _ _, gr hb0 hb1⟩
  rw [show spareN F C n g d = (spareL F C n g (d % 7) n).length by simp [spareN, spareOk, h1, h2, h3], show spareOk F n g d = true by simp [spareOk, h1, h2, h3]]
  have HV := hide h1
  obtain ⟨d0, d1⟩ := inB_true h3
  obtain ⟨i0, hi0, hz0, hz1, hz2⟩ := info_parts info_int
  obtain ⟨e, he⟩ : ∃ e, e = d % 7 := ⟨_, rfl⟩
  have hde : d % 7 = e := he.symm
  rw [hde]
  go_enter Try.func31, Try.ntmps31
  go_wp2_with fail
  go_at_call 56
  refine (l5Good_any _ _ _ _ _ _ hn h0).mono ?_
  rintro _ w1 ⟨rfl, hb1⟩
  rw [h1]
  go_wp2_with fail
  go_at_call 57
  refine (l5Gang_any _ _).mono ?_
  rintro _ _ ⟨rfl, rfl⟩
  rw [h2]
  go_wp2_with fail
  go_at_call 69
  refine (l2Day_any _ _).mono ?_
  rintro _ _ ⟨rfl, rfl⟩
  rw [h3]
  clear h1 h2 h3 he
  replace hown := own_below hown hb1
  replace hb1 := gr hb0 hb1
  clear hb0 h0
  go_wp2
  go_loopw [8, 9, 11, 12] (fun v i _ _ wr => ∃ (k : Nat), k ≤ n ∧ i = .int .i64 k ∧ wr.ownsRow w.heap.size 3 1 v (spareL F C n g e k).length ((spareL F C n g e k).map (.int .i64)) ∧ Below w.heap.size w wr) (fun _ i _ _ _ => n - (intOf i).toNat)
  case atStart => exact ⟨0, by omega, rfl, hown, hb1⟩
  case round =>
    clear hb1 hown
    obtain ⟨k, hk, rfl, ho, hb⟩ := hrel
    by_cases hlt : k < n
    · have HP := hide (show spB F C n g e k = ((F k 1 == g) && !(F k 4 == e) && worksG F C n g e (F k 0)) from rfl)
      have HS := hide (show spareL F C n g e (k + 1) = if spB F C n g e k then spareL F C n g e k ++ [F k 0] else spareL F C n g e k from rfl)
      have hl := spare_len F C n g e k
      generalize spareL F C n g e k = L at *
      generalize hq : L.length = q at *
      have HQ := hide hq
      clear hq
      obtain ⟨b, off, rfl, hbw, hcc⟩ := wk_at h hb (by omega)
      obtain ⟨c0, c1, c2, c3, c4⟩ := hcc k hlt
      clear hcc
      go_upto_region 8 with fail
      have hbW : Below wr.heap.size wr (wr.alloc (.cells #[.int .i64 (F k 0), .int .i64 (F k 1), .int .i64 (F k 2), .bool (C k), .int .i64 (F k 4)] 54)) := (Below.refl _ _).alloc (Nat.le_refl _) _
      have e0 : World.cell? (wr.alloc (.cells #[.int .i64 (F k 0), .int .i64 (F k 1), .int .i64 (F k 2), .bool (C k), .int .i64 (F k 4)] 54)) ⟨wr.heap.size, 0, none⟩ = some (.int .i64 (F k 0)) := by rw [World.cell?_alloc_new]; rfl
      have e1 : World.cell? (wr.alloc (.cells #[.int .i64 (F k 0), .int .i64 (F k 1), .int .i64 (F k 2), .bool (C k), .int .i64 (F k 4)] 54)) ⟨wr.heap.size, 1, none⟩ = some (.int .i64 (F k 1)) := by rw [World.cell?_alloc_new]; rfl
      have e4 : World.cell? (wr.alloc (.cells #[.int .i64 (F k 0), .int .i64 (F k 1), .int .i64 (F k 2), .bool (C k), .int .i64 (F k 4)] 54)) ⟨wr.heap.size, 4, none⟩ = some (.int .i64 (F k 4)) := by rw [World.cell?_alloc_new]; rfl
      have hsW : wr.heap.size < (wr.alloc (.cells #[.int .i64 (F k 0), .int .i64 (F k 1), .int .i64 (F k 2), .bool (C k), .int .i64 (F k 4)] 54)).heap.size := by simp
      generalize wr.alloc (.cells #[.int .i64 (F k 0), .int .i64 (F k 1), .int .i64 (F k 2), .bool (C k), .int .i64 (F k 4)] 54) = W2 at hbW e0 e1 e4 hsW ⊢
      replace ho := own_below ho hbW
      replace hb := gr hb hbW
      have hs := hb.size
      clear c0 c1 c2 c3 c4 hbw hbW
      generalize wr.heap.size = gB at *
      by_cases hg : F k 1 = g
      · have hg' : (F k 1 == g) = true := by simpa using hg
        have hg2 : (F k 1 != g) = false := by simp [bne, hg]
        by_cases hf : F k 4 = e
        · have hf' : (F k 4 == e) = true := by simpa using hf
          have HS2 := hide (show spareL F C n g e (k + 1) = L by rw [HS.out, HP.out, hf]; simp)
          clear hg hf
          go_wp2
          go_roundw
          case rel => exact ⟨k + 1, by omega, by go_num, by rw [HS2.out, HQ.out]; exact ho, hb⟩
          case measure => simp [intOf]; omega
        · have hf' : (F k 4 == e) = false := by simpa using hf
          have HS2 := hide (show spareL F C n g e (k + 1) = if worksG F C n g e (F k 0) then L ++ [F k 0] else L by rw [HS.out, HP.out, hg']; simp [hf])
          clear hg hf HS HP
          go_wp2_with fail
          go_at_call 58
          refine (l5Raked_any _ _ _ _ _ g e (F k 0) _ HV (Rd.below h hb)).mono ?_
          rintro _ w2 ⟨rfl, hb2⟩
          replace ho := own_below ho hb2
          replace hb := gr hb hb2
          replace e0 := (hb2.cell (p := ⟨gB, 0, none⟩) hsW).trans e0
          replace hsW := Nat.lt_of_lt_of_le hsW hb2.size
          replace hs := hb.size
          clear hb2
          cases hw : worksG F C n g e (F k 0)
          · have HS3 := hide (show spareL F C n g e (k + 1) = L by rw [HS2.out, hw]; simp)
            clear HS2 hw
            have HS2 := HS3
            clear HS3
            go_wp2
            go_roundw
            case rel => exact ⟨k + 1, by omega, by go_num, by rw [HS2.out, HQ.out]; exact ho, hb⟩
            case measure => simp [intOf]; omega
          · have HS3 := hide (show spareL F C n g e (k + 1) = L ++ [F k 0] by rw [HS2.out, hw]; simp)
            clear HS2 hw
            have HS2 := HS3
            clear HS3
            go_wp2_with (at_builtin; refine wpList_append_own _ rfl _ _ 34 rfl w.heap.size 3 i0 (.int .i64 0) 1 8 Try.underlying34 hi0 hz0 hz1 hz2 rfl (by decide) _ q _ rfl (ho.alloc _) ⟨(World.heap w2).size, 0, none⟩ 1 1 [.int .i64 (F k 0)] rfl rfl (World.news_of_block (cs := #[.int .i64 (F k 0)]) (t := 3) (fr := (0, 0)) (heap_alloc_new w2 _)) (by simp [Value.oneCell']) (by simp only [maxLen]; omega) (by omega) (by simp; omega) ?_; intro v4 w4 hown4 hg4 _)
            have hb4 := (hb.alloc hs (.cells #[.int .i64 (F k 0)] 3)).trans (grown_below (ho.alloc (.cells #[.int .i64 (F k 0)] 3)) hg4 (by simp; omega))
            have hr4 : w4.ownsRow w.heap.size 3 1 v4 (q + 1) (L.map (.int .i64) ++ [.int .i64 (F k 0)]) := hown4
            clear hown4 hg4
            have HR4 := hide hr4
            go_wp2
            go_roundw
            case rel => exact ⟨k + 1, by omega, by go_num, by rw [HS2.out, List.length_append, HQ.out]; simpa using HR4.out, hb4⟩
            case measure => simp [intOf]; omega
      · have hg' : (F k 1 == g) = false := by simpa using hg
        have hg2 : (F k 1 != g) = true := by simp [bne, hg]
        have HS2 := hide (show spareL F C n g e (k + 1) = L by rw [HS.out, HP.out, hg']; simp)
        clear hg
        go_wp2
        go_roundw
        case rel => exact ⟨k + 1, by omega, by go_num, by rw [HS2.out, HQ.out]; exact ho, hb⟩
        case measure => simp [intOf]; omega
    · obtain rfl : k = n := by omega
      rw [← spare_row] at ho
      obtain ⟨A4, c4, rfl, hO⟩ := own_tab ho
      clear hde
      go_wp2
      refine bodyPost_ret (v := .tuple #[.slice A4 (spareL F C k g e k).length c4, .bool true]) (by simp only [results, Try.results31]; go_simp) rfl ⟨A4, c4, rfl, hO, hb⟩
end Go.Proofs.Ytmblkjnpibcmoaa
