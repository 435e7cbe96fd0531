/-
  The program's CoverHeaps. Conditions: lengths up to 2^20.
-/
import Derived.Test.YtidcmdnhnnhnhaaCvC
import Derived.Test.YtidcmdnhnnhnhaaCvD
namespace Go.Proofs.Ytidcmdnhnnhnhaa
open Go.RowKit

def mkN (i : Nat) : Value := .int .i64 i
theorem opL_snoc {p : Nat → Bool} {k : Nat} (h : p k = true) : (opL p k).length + 1 = (opL p (k + 1)).length ∧ (opL p k).map mkN ++ [.int .i64 (k : Int)] = (opL p (k + 1)).map mkN := by
  simp [opL, h, mkN]
theorem opL_skip {p : Nat → Bool} {k : Nat} (h : p k = false) : opL p k = opL p (k + 1) := by
  simp [opL, h]
theorem opL_row (p : Nat → Bool) (n : Nat) : (opL p n).map mkN = rowL (ints fun j _ => (opO p n j : Int)) (opL p n).length 1 := by
  apply List.ext_getElem
  · simp [rowL]
  · intro t h1 h2
    have ht : t < (opL p n).length := by simpa using h1
    simp [rowL, mkN, opO, List.getD, List.getElem?_eq_getElem ht, Nat.mod_one]
/-- Until it is said which: a list that is covered. -/
theorem prgC_zero (S : Nat → Nat) (H : Nat → HeapD) : covD (prgC S 0) H = H := covD_none H
set_option maxRecDepth 20000 in
set_option maxHeartbeats 8000000 in
theorem CoverHeaps_any (A : Option Addr) (n c : Nat) (H : Nat → HeapD) (s : Int) (w : World) (hn : n ≤ 1048576) (hln : ∀ i, i < n → (H i).n ≤ 1048576) (h : HpR w A n H) :
    Calls Try.prog 47 #[.slice A n c, .int .i64 s] w (HpP w (coverR H n s)) := by
  cases h1 : heapsB H n
  · rw [show coverR H n s = noH by simp [coverR, h1]]
    go_enter Try.func47, Try.ntmps47
    go_wp2_with fail
    go_at_call 30
    refine (AreHeaps_any _ _ _ _ _ hn hln h).mono ?_
    rintro _ w1 ⟨rfl, hb1⟩
    rw [h1]
    go_wp2
    refine bodyPost_ret (v := .tuple #[.slice none 0 0, .bool false]) (by simp only [results, Try.results47]; go_simp) rfl ⟨_, _, rfl, HpO.nil _ _ _ _ _, hb1⟩
  cases h2 : inB s 0 20
  · rw [show coverR H n s = noH by simp [coverR, h2]]
    go_enter Try.func47, Try.ntmps47
    go_wp2_with fail
    go_at_call 30
    refine (AreHeaps_any _ _ _ _ _ hn hln h).mono ?_
    rintro _ w1 ⟨rfl, hb1⟩
    rw [h1]
    go_wp2_with fail
    go_at_call 79
    refine (within_any _ _ _ _).mono ?_
    rintro _ _ ⟨rfl, rfl⟩
    rw [h2]
    go_wp2
    refine bodyPost_ret (v := .tuple #[.slice none 0 0, .bool false]) (by simp only [results, Try.results47]; go_simp) rfl ⟨_, _, rfl, HpO.nil _ _ _ _ _, hb1⟩
  rw [show coverR H n s = ⟨n, covD (prgC (ordS H n) (covN H n s)) H, true⟩ by simp [coverR, h1, h2]]
  obtain ⟨r0, r1⟩ := inB_true h2
  have HV := hide h1
  have hn10 := (heapsB_at h1).1
  go_enter Try.func47, Try.ntmps47
  go_wp2_with fail
  go_at_call 30
  refine (AreHeaps_any _ _ _ _ _ hn hln h).mono ?_
  rintro _ w1 ⟨rfl, hb1⟩
  rw [h1]
  go_wp2_with fail
  go_at_call 79
  refine (within_any _ _ _ _).mono ?_
  rintro _ _ ⟨rfl, rfl⟩
  rw [h2]
  clear h1 h2
  go_wp2_with fail
  go_at_call 76
  refine (copyHeaps_any _ _ _ _ _ hn hln (HpR.below h hb1)).mono ?_
  rintro _ w2 ⟨A4, c4, V, rfl, hX0, hb2⟩
  clear h hln
  go_upto_region 4 with fail
  have hbA := gr hb1 hb2
  have hz2 := hb2.size
  have hz1 := hb1.size
  have hbX : Below w2.heap.size w2 (w2.alloc (.cells #[.slice A4 n c4] 43)) := (Below.refl _ _).alloc (Nat.le_refl _) _
  have hob : (w2.alloc (.cells #[.slice A4 n c4] 43)).cell? ⟨w2.heap.size, 0, none⟩ = some (.slice A4 n c4) := by rw [World.cell?_alloc_new]; rfl
  have hs3 : (w2.alloc (.cells #[.slice A4 n c4] 43)).heap.size = w2.heap.size + 1 := by simp
  generalize w2.alloc (.cells #[.slice A4 n c4] 43) = W3 at hbX hob hs3 ⊢
  have HGB := hide (show ∀ g, A4 = some (⟨g, 0, none⟩ : Addr) → n = 0 ∨ g < w2.heap.size from fun g e => by
    rcases hX0.form with h0 | ⟨g', e', -, h2⟩
    · exact .inl h0
    · rw [e] at e'; injection e' with e'; injection e' with e'; subst e'; exact .inr h2)
  have hX3 := hX0.below hbX
  have HX3 := hide hX3
  clear hX0 hX3
  obtain ⟨i0, hi0, hy0, hy1, hy2⟩ := info_parts info_int
  go_wp2
  go_loopw [7, 24] (fun v i wr => ∃ k : Nat, k ≤ n ∧ i = .int .i64 k ∧ wr.ownsRow W3.heap.size 3 1 v (opL (wetP H) k).length ((opL (wetP H) k).map mkN) ∧ Below W3.heap.size W3 wr) (fun _ i _ => n - (intOf i).toNat)
  case atStart => exact ⟨0, Nat.zero_le _, rfl, World.ownsRow_nil _ _ _ _, Below.refl _ _⟩
  case round =>
    obtain ⟨k, hk, rfl, ho, hb⟩ := hrel
    have hlo := opL_len (wetP H) k
    have hzr := hb.size
    by_cases hlt : k < n
    · have hX := HX3.out.below hb
      obtain ⟨g, rfl, hg1, hg2⟩ := hX.form.resolve_left (by omega)
      obtain ⟨-, -, x1, -⟩ := hX.top.at_ hlt
      have e0 := x1 0 (by omega)
      have e1 := x1 1 (by omega)
      have e2 := x1 2 (by omega)
      have e3 := x1 3 (by omega)
      simp only [Nat.zero_add, Nat.add_zero, hpV] at e0 e1 e2 e3
      obtain ⟨A5, c5, hVa, -⟩ := own_tab (hX.lay.own k hlt)
      rw [hVa] at e2
      clear x1 hX hVa
      go_upto_region 8 with fail
      have hbW : Below wr.heap.size wr (wr.alloc (.cells #[.int .i64 (H k).id, .int .i64 (H k).gr, .slice A5 (H k).n c5, .bool (H k).cov] 27)) := (Below.refl _ _).alloc (Nat.le_refl _) _
      have hsW : (wr.alloc (.cells #[.int .i64 (H k).id, .int .i64 (H k).gr, .slice A5 (H k).n c5, .bool (H k).cov] 27)).heap.size = wr.heap.size + 1 := by simp
      have b2 : World.cell? (wr.alloc (.cells #[.int .i64 (H k).id, .int .i64 (H k).gr, .slice A5 (H k).n c5, .bool (H k).cov] 27)) ⟨wr.heap.size, 2, none⟩ = some (.slice A5 (H k).n c5) := by rw [World.cell?_alloc_new]; rfl
      have b3 : World.cell? (wr.alloc (.cells #[.int .i64 (H k).id, .int .i64 (H k).gr, .slice A5 (H k).n c5, .bool (H k).cov] 27)) ⟨wr.heap.size, 3, none⟩ = some (.bool (H k).cov) := by rw [World.cell?_alloc_new]; rfl
      generalize wr.alloc (.cells #[.int .i64 (H k).id, .int .i64 (H k).gr, .slice A5 (H k).n c5, .bool (H k).cov] 27) = W6 at hbW hsW b2 b3 ⊢
      clear e0 e1 e2 e3 hsW
      have hz6 := hbW.size
      have hbB : Below W3.heap.size W3 W6 := hb.trans (hbW.mono hzr)
      by_cases hw : wetP H k = true
      · obtain ⟨s1, s2⟩ := opL_snoc hw
        have HS1 := hide s1
        have HS2 := hide s2
        simp only [wetP, wetB, Bool.and_eq_true, Bool.not_eq_true', beq_eq_false_iff_ne] at hw
        obtain ⟨q1, q2⟩ := hw
        rw [q1] at b3
        have hpos : decide ((0 : Int) < (H k).n) = true := decide_eq_true (by omega)
        have hpos2 : 0 < (H k).n := by omega
        have ho6 := (own_below ho hbW).alloc (.cells #[.int .i64 k] 3)
        clear s1 s2
        go_wp2_with (at_builtin; refine wpList_append_own_at _ rfl _ _ 22 rfl W3.heap.size 3 i0 (.int .i64 0) 1 8 Try.underlying22 hi0 hy0 hy1 hy2 rfl (by decide) _ (opL (wetP H) k).length _ rfl ho6 ⟨W6.heap.size, 0, none⟩ 1 1 [.int .i64 k] rfl rfl (World.news_of_block (cs := #[.int .i64 k]) (t := 3) (fr := (0, 0)) (heap_alloc_new W6 _)) (by simp [Value.oneCell']) (by simp only [maxLen]; omega) (by omega) (by simp; omega) ?_; intro v5 w5 hown5 hg5 _ _)
        have hb5 := grown_below ho6 hg5 (by simp; omega)
        rw [HS1.out, HS2.out] at hown5
        go_roundw
        case rel => exact ⟨k + 1, by omega, by go_num, hown5, (hbB.alloc (by omega) _).trans hb5⟩
        case measure => simp [intOf]; omega
      · have hwf : wetP H k = false := by simpa using hw
        have HSK := hide (opL_skip hwf)
        have ho6 := own_below ho hbW
        have hdry : (H k).cov = true ∨ ((H k).cov = false ∧ (H k).n = 0) := by
          simp only [wetP, wetB] at hwf
          cases hc : (H k).cov
          · rw [hc] at hwf; exact .inr ⟨rfl, by simpa using hwf⟩
          · exact .inl rfl
        clear hw hwf
        rcases hdry with hd | ⟨hd, hz⟩
        · rw [hd] at b3
          clear hd
          go_wp2
          go_roundw
          case rel => exact ⟨k + 1, by omega, by go_num, by rw [← HSK.out]; exact ho6, hbB⟩
          case measure => simp [intOf]; omega
        · rw [hd] at b3
          rw [hz] at b2
          clear hd hz
          go_wp2
          go_roundw
          case rel => exact ⟨k + 1, by omega, by go_num, by rw [← HSK.out]; exact ho6, hbB⟩
          case measure => simp [intOf]; omega
    · obtain rfl : k = n := by omega
      rw [opL_row] at ho
      have hOP := (opO_mem (wetP H) k).1
      obtain ⟨A5, c5, rfl, hO5⟩ := own_tab ho
      have hcap : (opL (wetP H) k).length ≤ c5 := by
        obtain ⟨A', c', e, hc, -⟩ := own_form ho
        injection e with _ _ e3
        omega
      have HLT := hide (srtT_lt (T := hpT H) (O := opO (wetP H) k) (M := (opL (wetP H) k).length) (n := k) (fun j hj => (hOP j hj).1) _ (Nat.le_refl _))
      have HO := hide (fun j (hj : j < (opL (wetP H) k).length) => (hOP j hj).1)
      have HKN := hide (show covN H k s = min s.toNat (opL (wetP H) k).length from rfl)
      have HOS := hide (show ordS H k = srtT (hpT H) (opO (wetP H) k) (opL (wetP H) k).length from rfl)
      generalize (opL (wetP H) k).length = M at *
      have hobr := (hb.cell (p := ⟨w2.heap.size, 0, none⟩) (by show w2.heap.size < _; omega)).trans hob
      have hHp : Hp wr 0 W3.heap.size A4 k H := (HX3.out.hpO.sl.agr (Below.agr hb (Nat.le_refl _))).mono (Nat.zero_le _) (Nat.le_refl _)
      clear ho hOP hob
      go_wp2_with fail
      go_at_call 81
      refine (sort_any W3.heap.size wr.heap.size w2.heap.size c5 M A5 A4 k c4 H (opO (wetP H) k) _ HV hHp hobr (by omega) (Nat.le_refl _) hb.size (by omega) HO hO5).mono ?_
      rintro _ w5 ⟨rfl, hb5, hO6⟩
      have hbB := hb.trans hb5
      have hob5 := (hb5.cell (p := ⟨w2.heap.size, 0, none⟩) (by show w2.heap.size < _; omega)).trans hobr
      have HX5 := hide (HX3.out.below hbB)
      rw [← HOS.out] at HLT hO6
      have hS5 := hide hO6.sl
      have hz5 := hb5.size
      have hbA5 : Below w.heap.size w w5 := (gr hbA hbX).trans (hbB.mono (by omega))
      clear hO6 hO5 hobr hHp HX3 hb HO HOS
      obtain ⟨S, rfl⟩ : ∃ S : Nat, s = S := ⟨s.toNat, by omega⟩
      rcases Int.lt_trichotomy (S : Int) (M : Int) with hq | hq | hq
      · have HKK := hide (show covN H k S = S by rw [HKN.out]; simp; omega)
        clear HKN
        go_wp2
        go_loopw [53] (fun i wx => ∃ q : Nat, q ≤ S ∧ i = .int .i64 q ∧ HpX wx w1.heap.size A4 k (covD (prgC (ordS H k) q) H) V ∧ Tch w1.heap.size w2.heap.size w5 wx) (fun i _ => S - (intOf i).toNat)
        case atStart => exact ⟨0, Nat.zero_le _, rfl, by rw [prgC_zero]; exact HX5.out, Tch.refl _ _ _⟩
        case round =>
          clear HX5
          obtain ⟨q, hq, rfl, hX, ht⟩ := hrel
          have hzt := ht.size
          by_cases hlt : q < S
          · obtain ⟨gS, oS, rfl, r1, r2, hcS⟩ := hS5.out (by omega)
            have s0 := hcS q 0 (by omega) (by omega)
            simp only [Nat.add_zero, Nat.mul_one, ints] at s0
            replace s0 := (ht.cell_nq (p := ⟨gS, oS + q, none⟩) (by show gS < _; omega) (by show ¬(w1.heap.size ≤ gS ∧ gS < w2.heap.size); omega)).trans s0
            have o0 := (ht.cell_nq (p := ⟨w2.heap.size, 0, none⟩) (by show w2.heap.size < _; omega) (by show ¬(w1.heap.size ≤ w2.heap.size ∧ w2.heap.size < w2.heap.size); omega)).trans hob5
            have hSq := HLT.out q (by omega)
            have HC := hide (show setH (covD (prgC (ordS H k) q) H) (ordS H k q) (covH (covD (prgC (ordS H k) q) H (ordS H k q))) = covD (prgC (ordS H k) (q + 1)) H from covD_set (prgC (ordS H k) q) H (ordS H k q))
            generalize ordS H k q = a at hSq s0 HC ⊢
            obtain ⟨g, rfl, hg1, hg2⟩ := hX.form.resolve_left (by omega)
            obtain ⟨-, -, x1, x2⟩ := hX.top.at_ hSq
            have e3 := x1 3 (by omega)
            have f3 := x2 3 (by omega)
            simp only [Nat.zero_add, hpV] at e3 f3
            clear x1 x2 hcS
            have hXE := hX.cover hSq (a * 4 + 3) rfl
            rw [HC.out] at hXE
            have HXE := hide hXE
            clear hX hXE
            go_wp2
            go_roundw
            case rel => exact ⟨q + 1, by omega, by go_num, HXE.out, ht.setCell (p := ⟨g, a * 4 + 3, none⟩) hg1 (by show g < w2.heap.size; exact (HGB.out g rfl).resolve_left (by omega)) _⟩
            case measure => simp [intOf]; omega
          · obtain rfl : q = S := by omega
            have o0 := (ht.cell_nq (p := ⟨w2.heap.size, 0, none⟩) (by show w2.heap.size < _; omega) (by show ¬(w1.heap.size ≤ w2.heap.size ∧ w2.heap.size < w2.heap.size); omega)).trans hob5
            have HXQ := hide hX
            clear hX
            go_wp2
            refine bodyPost_ret (v := .tuple #[.slice A4 k c4, .bool true]) (by simp only [results, Try.results47]; go_simp) rfl ⟨_, _, rfl, by rw [HKK.out]; exact HXQ.out.hpO.mono (by omega) (Nat.le_refl _), hbA5.trans (ht.below (by omega) (by omega))⟩
      · have HKK := hide (show covN H k S = S by rw [HKN.out]; simp; omega)
        obtain rfl : S = M := by omega
        clear HKN hq
        go_wp2
        go_loopw [53] (fun i wx => ∃ q : Nat, q ≤ S ∧ i = .int .i64 q ∧ HpX wx w1.heap.size A4 k (covD (prgC (ordS H k) q) H) V ∧ Tch w1.heap.size w2.heap.size w5 wx) (fun i _ => S - (intOf i).toNat)
        case atStart => exact ⟨0, Nat.zero_le _, rfl, by rw [prgC_zero]; exact HX5.out, Tch.refl _ _ _⟩
        case round =>
          clear HX5
          obtain ⟨q, hq, rfl, hX, ht⟩ := hrel
          have hzt := ht.size
          by_cases hlt : q < S
          · obtain ⟨gS, oS, rfl, r1, r2, hcS⟩ := hS5.out (by omega)
            have s0 := hcS q 0 (by omega) (by omega)
            simp only [Nat.add_zero, Nat.mul_one, ints] at s0
            replace s0 := (ht.cell_nq (p := ⟨gS, oS + q, none⟩) (by show gS < _; omega) (by show ¬(w1.heap.size ≤ gS ∧ gS < w2.heap.size); omega)).trans s0
            have o0 := (ht.cell_nq (p := ⟨w2.heap.size, 0, none⟩) (by show w2.heap.size < _; omega) (by show ¬(w1.heap.size ≤ w2.heap.size ∧ w2.heap.size < w2.heap.size); omega)).trans hob5
            have hSq := HLT.out q (by omega)
            have HC := hide (show setH (covD (prgC (ordS H k) q) H) (ordS H k q) (covH (covD (prgC (ordS H k) q) H (ordS H k q))) = covD (prgC (ordS H k) (q + 1)) H from covD_set (prgC (ordS H k) q) H (ordS H k q))
            generalize ordS H k q = a at hSq s0 HC ⊢
            obtain ⟨g, rfl, hg1, hg2⟩ := hX.form.resolve_left (by omega)
            obtain ⟨-, -, x1, x2⟩ := hX.top.at_ hSq
            have e3 := x1 3 (by omega)
            have f3 := x2 3 (by omega)
            simp only [Nat.zero_add, hpV] at e3 f3
            clear x1 x2 hcS
            have hXE := hX.cover hSq (a * 4 + 3) rfl
            rw [HC.out] at hXE
            have HXE := hide hXE
            clear hX hXE
            go_wp2
            go_roundw
            case rel => exact ⟨q + 1, by omega, by go_num, HXE.out, ht.setCell (p := ⟨g, a * 4 + 3, none⟩) hg1 (by show g < w2.heap.size; exact (HGB.out g rfl).resolve_left (by omega)) _⟩
            case measure => simp [intOf]; omega
          · obtain rfl : q = S := by omega
            have o0 := (ht.cell_nq (p := ⟨w2.heap.size, 0, none⟩) (by show w2.heap.size < _; omega) (by show ¬(w1.heap.size ≤ w2.heap.size ∧ w2.heap.size < w2.heap.size); omega)).trans hob5
            have HXQ := hide hX
            clear hX
            go_wp2
            refine bodyPost_ret (v := .tuple #[.slice A4 k c4, .bool true]) (by simp only [results, Try.results47]; go_simp) rfl ⟨_, _, rfl, by rw [HKK.out]; exact HXQ.out.hpO.mono (by omega) (Nat.le_refl _), hbA5.trans (ht.below (by omega) (by omega))⟩
      · have HKK := hide (show covN H k S = M by rw [HKN.out]; simp; omega)
        clear HKN
        go_wp2
        go_loopw [53] (fun i wx => ∃ q : Nat, q ≤ M ∧ i = .int .i64 q ∧ HpX wx w1.heap.size A4 k (covD (prgC (ordS H k) q) H) V ∧ Tch w1.heap.size w2.heap.size w5 wx) (fun i _ => M - (intOf i).toNat)
        case atStart => exact ⟨0, Nat.zero_le _, rfl, by rw [prgC_zero]; exact HX5.out, Tch.refl _ _ _⟩
        case round =>
          clear HX5
          obtain ⟨q, hq, rfl, hX, ht⟩ := hrel
          have hzt := ht.size
          by_cases hlt : q < M
          · obtain ⟨gS, oS, rfl, r1, r2, hcS⟩ := hS5.out (by omega)
            have s0 := hcS q 0 (by omega) (by omega)
            simp only [Nat.add_zero, Nat.mul_one, ints] at s0
            replace s0 := (ht.cell_nq (p := ⟨gS, oS + q, none⟩) (by show gS < _; omega) (by show ¬(w1.heap.size ≤ gS ∧ gS < w2.heap.size); omega)).trans s0
            have o0 := (ht.cell_nq (p := ⟨w2.heap.size, 0, none⟩) (by show w2.heap.size < _; omega) (by show ¬(w1.heap.size ≤ w2.heap.size ∧ w2.heap.size < w2.heap.size); omega)).trans hob5
            have hSq := HLT.out q (by omega)
            have HC := hide (show setH (covD (prgC (ordS H k) q) H) (ordS H k q) (covH (covD (prgC (ordS H k) q) H (ordS H k q))) = covD (prgC (ordS H k) (q + 1)) H from covD_set (prgC (ordS H k) q) H (ordS H k q))
            generalize ordS H k q = a at hSq s0 HC ⊢
            obtain ⟨g, rfl, hg1, hg2⟩ := hX.form.resolve_left (by omega)
            obtain ⟨-, -, x1, x2⟩ := hX.top.at_ hSq
            have e3 := x1 3 (by omega)
            have f3 := x2 3 (by omega)
            simp only [Nat.zero_add, hpV] at e3 f3
            clear x1 x2 hcS
            have hXE := hX.cover hSq (a * 4 + 3) rfl
            rw [HC.out] at hXE
            have HXE := hide hXE
            clear hX hXE
            go_wp2
            go_roundw
            case rel => exact ⟨q + 1, by omega, by go_num, HXE.out, ht.setCell (p := ⟨g, a * 4 + 3, none⟩) hg1 (by show g < w2.heap.size; exact (HGB.out g rfl).resolve_left (by omega)) _⟩
            case measure => simp [intOf]; omega
          · obtain rfl : q = M := by omega
            have o0 := (ht.cell_nq (p := ⟨w2.heap.size, 0, none⟩) (by show w2.heap.size < _; omega) (by show ¬(w1.heap.size ≤ w2.heap.size ∧ w2.heap.size < w2.heap.size); omega)).trans hob5
            have HXQ := hide hX
            clear hX
            go_wp2
            refine bodyPost_ret (v := .tuple #[.slice A4 k c4, .bool true]) (by simp only [results, Try.results47]; go_simp) rfl ⟨_, _, rfl, by rw [HKK.out]; exact HXQ.out.hpO.mono (by omega) (Nat.le_refl _), hbA5.trans (ht.below (by omega) (by omega))⟩
end Go.Proofs.Ytidcmdnhnnhnhaa
