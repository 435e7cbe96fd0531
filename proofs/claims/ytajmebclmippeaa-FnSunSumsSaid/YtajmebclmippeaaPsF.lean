/-
  The reference's PutSun. Conditions: lengths up to 2^20.
-/
import Derived.Test.YtajmebclmippeaaPsC
import Derived.Deep.RegionLaw
import Derived.Deep.AppendLies
namespace Go.Proofs.Ytajmebclmippeaa
open Go.RowKit

theorem sl_first {w : World} {lo hi g off n k sz : Nat} {F : Nat → Nat → Value} (h : Sl w lo hi (some ⟨g, off, none⟩) n sz F) (hk : k ≤ n) : Sl w lo hi (some ⟨g, off, none⟩) k sz F := fun h0 => by
  obtain ⟨b, o, e, h1, h2, hc⟩ := h (by omega)
  exact ⟨b, o, e, h1, h2, fun i j hi hj => hc i j (by omega) hj⟩
theorem sl_then {w : World} {lo hi g off n k sz : Nat} {F : Nat → Nat → Value} (h : Sl w lo hi (some ⟨g, off, none⟩) n sz F) (hk : k ≤ n) : Sl w lo hi (some ⟨g, off + k * sz, none⟩) (n - k) sz (fun i j => F (k + i) j) := fun h0 => by
  obtain ⟨b, o, e, h1, h2, hc⟩ := h (by omega)
  obtain ⟨rfl, rfl⟩ : g = b ∧ off = o := by injection e with e; injection e with e1 e2; exact ⟨e1, e2⟩
  refine ⟨g, off + k * sz, rfl, h1, h2, fun i j hi hj => ?_⟩
  have := hc (k + i) j (by omega) hj
  rw [← this, show off + k * sz + i * sz + j = off + (k + i) * sz + j by rw [Nat.add_mul]; omega]
theorem own0 {w : World} {B g : Nat} {e : TypeId} (h : w.heap[g]? = some (.cells #[] e (0, 0))) (hB : B ≤ g) : w.ownsRow B e 2 (.slice (some ⟨g, 0, none⟩) 0 0) 0 [] :=
  ⟨rfl, .inr ⟨g, 0, #[], rfl, hB, h, Nat.le_refl _, Nat.zero_le _, rfl, rfl⟩⟩
theorem news_keep {w w' : World} {g b : Nat} {cs : List Value} (hg : w.grownBy w' (some g)) (hne : b ≠ g) (h : ∀ j u, cs[j]? = some u → w.cell? ((⟨b, 0, none⟩ : Addr).add j) = some u) : ∀ j u, cs[j]? = some u → w'.cell? ((⟨b, 0, none⟩ : Addr).add j) = some u := fun j u hj => by
  have h0 := h j u hj
  rw [cells_add] at h0 ⊢
  exact hg.cell (a := ⟨b, 0 + j, none⟩) h0 (by intro e; injection e with e; exact hne e)
theorem put_rows (F : Nat → Nat → Int) (n : Nat) (t x : Int) (k q : Nat) (hk : putAt F n t = k) (hq : k + putE F n t = q) (hn : q ≤ n) :
    rowL (ints F) k 2 ++ [.int .i64 t, .int .i64 x] ++ rowL (fun i j => ints F (q + i) j) (n - q) 2 = rowL (ints (putS F n t x)) (putL F n t) 2 := by
  have e : [Value.int .i64 t, .int .i64 x] = rowL (fun _ j => if j = 0 then Value.int .i64 t else .int .i64 x) 1 2 := rfl
  rw [e, rowL_append _ _ _ _ _ (by decide), rowL_append _ _ _ _ _ (by decide), show k + 1 + (n - q) = putL F n t by unfold putL; omega]
  refine rowL_congr fun r j _ hj => ?_
  simp only [ints, putS, hk]
  by_cases h1 : r < k
  · rw [if_pos (by omega), if_pos h1, if_pos h1]
  · rw [if_neg h1]
    by_cases h2 : r = k
    · rw [if_pos (by omega), if_neg h1, if_pos h2]
      split <;> rfl
    · rw [if_neg (by omega), if_neg h2, show q + (r - (k + 1)) = r - 1 + putE F n t by omega, if_neg h1]
set_option maxRecDepth 20000 in
set_option maxHeartbeats 2000000 in
theorem spec_PutSun_any (A : Option Addr) (n c : Nat) (F : Nat → Nat → Int) (t x : Int) (w : World) (hn : n ≤ 1048576) (hnc : n ≤ c) (h : Rd w A n 2 (ints F)) :
    Calls Try.prog 40 #[.slice A n c, .agg #[.int .i64 t, .int .i64 x]] w (RowP w (fun A' c' => .tuple #[.slice A' (putSunN F n t x) c', .bool (putSunOk F n t x)]) (putSunN F n t x) 2 (ints (putS F n t x))) := by
  have hb0 : Below w.heap.size w (w.alloc (.cells #[.int .i64 t, .int .i64 x] 55)) := (Below.refl _ _).alloc (Nat.le_refl _) _
  have h0 := Rd.below h hb0
  cases h1 : sunsB F n
  · have HO := hide (show putSunOk F n t x = false by simp [putSunOk, h1])
    rw [show putSunN F n t x = 0 by simp [putSunN, HO.out], HO.out]
    go_enter Try.func40, Try.ntmps40
    go_wp2_with fail
    go_at_call 50
    refine (l6Good_any _ _ _ _ _ hn h0).mono ?_
    rintro _ w1 ⟨rfl, hb1⟩
    rw [h1]
    go_wp2
    refine bodyPost_ret (v := .tuple #[.slice (some ⟨w1.heap.size, 0, none⟩) 0 0, .bool false]) (by simp only [results, Try.results40]; go_simp) rfl ⟨_, _, rfl, Ow.nil _ _ _ _ _ _, (gr hb0 hb1).alloc (Below.size (gr hb0 hb1)) _⟩
  · have HV := hide h1
    have hn20 := (sunsB_at h1).1
    obtain ⟨i0, hi0, hz0, hz1, hz2⟩ := info_parts info_sun
    go_enter Try.func40, Try.ntmps40
    go_wp2_with fail
    go_at_call 50
    refine (l6Good_any _ _ _ _ _ hn h0).mono ?_
    rintro _ w1 ⟨rfl, hb1⟩
    rw [h1]
    have hz : w.heap.size < w1.heap.size := by have := hb1.size; simp at this; omega
    have hc0 : w1.cell? ⟨w.heap.size, 0, none⟩ = some (.int .i64 t) := (hb1.cell (p := ⟨w.heap.size, 0, none⟩) (by simp)).trans (by rw [World.cell?_alloc_new]; rfl)
    have hc1 : w1.cell? ⟨w.heap.size, 1, none⟩ = some (.int .i64 x) := (hb1.cell (p := ⟨w.heap.size, 1, none⟩) (by simp)).trans (by rw [World.cell?_alloc_new]; rfl)
    have hbA := gr hb0 hb1
    have hA := Rd.below h0 hb1
    clear h h0 hb0 hb1 h1
    obtain ⟨P0, hP⟩ : ∃ P0, putAt F n t = P0 := ⟨_, rfl⟩
    have HP := hide hP
    have hPn : P0 ≤ n := by rw [← hP]; exact putAt_le F n t
    have HA1 := hide (fun j (hj : j < P0) => putAt_lt (F := F) (n := n) (t := t) (by rw [hP]; exact hj))
    have HA2 := hide (fun (hj : P0 < n) => by have := putAt_ge (F := F) (n := n) (t := t) (by rw [hP]; exact hj); rwa [hP] at this)
    clear hP
    go_wp2
    go_loopw [6] (fun i wr => ∃ k : Nat, k ≤ P0 ∧ i = .int .i64 k ∧ Below w1.heap.size w1 wr) (fun i _ => P0 + 1 - (intOf i).toNat)
    case atStart => exact ⟨0, Nat.zero_le _, rfl, Below.refl _ _⟩
    case round =>
      obtain ⟨k, hk, rfl, hb⟩ := hrel
      have hzr := hb.size
      have q0 := fun y : After wr => y.cell ((hb.cell (p := ⟨w.heap.size, 0, none⟩) hz).trans hc0) (by show w.heap.size < _; omega)
      by_cases hkP : k < P0
      · obtain ⟨b, off, rfl, -, hbw, hcc⟩ := Rd.below hA hb (by omega)
        have c0 := fun y : After wr => y.cell (hcc k 0 (by omega) (by omega)) hbw
        simp only [Nat.add_zero, ints] at c0
        have hd0 := HA1.out k hkP
        have hkN : decide ((k : Int) < n) = true := decide_eq_true (by omega)
        have hkN2 : decide (k < n) = true := decide_eq_true (by omega)
        have hkN3 : k < n := by omega
        have hd : decide (F k 0 < t) = true := decide_eq_true hd0
        generalize F k 0 = z at c0 hd
        clear hcc hd0 HA1 HA2
        go_wp2_with fail
        refine region_after (by kernel_rfl) (by kernel_rfl) ?_
        repeat (go_big_quiet_step ((first | fail)))
        refine wpQuiet_nil ?_
        rintro _ ⟨y, rfl⟩
        go_wp2
        go_roundw
        case rel => exact ⟨k + 1, by omega, by go_num, gr hb y.h⟩
        case measure => simp [intOf]; omega
      · obtain rfl : k = P0 := by omega
        clear HA1
        by_cases hkN : k < n
        · obtain ⟨b, off, rfl, -, hbw, hcc⟩ := Rd.below hA hb (by omega)
          have c0 := fun y : After wr => y.cell (hcc k 0 (by omega) (by omega)) hbw
          simp only [Nat.add_zero, ints] at c0
          have hd0 := HA2.out hkN
          have hkN1 : decide ((k : Int) < n) = true := decide_eq_true (by omega)
          have hkN2 : decide (k < n) = true := decide_eq_true (by omega)
          have hd : decide (F k 0 < t) = false := decide_eq_false (by omega)
          have HE := hide (show (F k 0 == t) = true ∧ putE F n t = 1 ∨ (F k 0 == t) = false ∧ putE F n t = 0 by
            by_cases e : F k 0 = t
            · exact .inl ⟨by simp [e], by unfold putE; rw [HP.out, if_pos ⟨hkN, e⟩]⟩
            · exact .inr ⟨by simp [e], by unfold putE; rw [HP.out, if_neg (fun h => e h.2)]⟩)
          generalize F k 0 = z at c0 hd HE
          clear hcc hd0 HA2
          go_wp2_with fail
          refine region_after (by kernel_rfl) (by kernel_rfl) ?_
          repeat (go_big_quiet_step ((first | fail)))
          refine wpQuiet_nil ?_
          rintro _ ⟨y, rfl⟩
          have hb2 := gr hb y.h
          replace c0 := fun u : After y.w => u.cell (c0 y) (Nat.lt_of_lt_of_le hbw y.h.size)
          replace q0 := fun u : After y.w => u.cell (q0 y) (by show w.heap.size < _; have := y.h.size; omega)
          clear hb
          generalize y.w = W at *
          clear y
          go_wp2_with fail
          rcases HE.out with ⟨he, hE⟩ | ⟨he, hE⟩
          · refine region_after (by kernel_rfl) (by kernel_rfl) ?_
            repeat (go_big_quiet_step ((first | fail)))
            refine wpQuiet_nil ?_
            rintro _ ⟨u, rfl⟩
            go_upto_region 9 with fail
            replace hb2 := gr hb2 u.h
            clear c0 q0
            generalize u.w = W9 at *
            clear u
            have hb9 := hb2
            clear hb2
            have htn : ((k : Int) + 1).toNat = k + 1 := by omega
            have hin : (0 : Int) ≤ (k : Int) + 1 := by omega
            have hin2 : (k : Int) + 1 ≤ (n : Int) := by omega
            have hS1 : ∀ w', Below W9.heap.size W9 w' → Rd w' (some ⟨b, off, none⟩) k 2 (ints F) := fun w' hb' => sl_first (Rd.below (Rd.below hA hb9) hb') (by omega)
            have hS2 : ∀ w', Below W9.heap.size W9 w' → Rd w' (if c = k + 1 then some ⟨b, off, none⟩ else some ⟨b, off + (k + 1) * 2, none⟩) (n - (k + 1)) 2 (fun i j => ints F (k + 1 + i) j) := fun w' hb' => by
              split
              · intro h0; omega
              · exact sl_then (Rd.below (Rd.below hA hb9) hb') (by omega)
            have hzW := hb9.size
            have q0W : W9.cell? ⟨w.heap.size, 0, none⟩ = some (.int .i64 t) := (hb9.cell (p := ⟨w.heap.size, 0, none⟩) hz).trans hc0
            have q1W : W9.cell? ⟨w.heap.size, 1, none⟩ = some (.int .i64 x) := (hb9.cell (p := ⟨w.heap.size, 1, none⟩) hz).trans hc1
            have hbW := gr hbA hb9
            have hzw : w.heap.size < W9.heap.size := by omega
            have HROW := hide (put_rows F n t x k (k + 1) HP.out (by simp [hE]) (by omega))
            have HPL := hide (show putL F n t = k + 1 + (n - (k + 1)) by unfold putL; omega)
            have hkc : (k : Int) ≤ (c : Int) := by omega
            have hkc2 : k ≤ c := by omega
            have HX1 : Below W9.heap.size W9 ((W9.alloc (.cells #[] 55)).drew) := ((Below.refl _ _).alloc (Nat.le_refl _) _).drew
            have HX2 : Below W9.heap.size W9 (((W9.alloc (.cells #[] 55)).alloc (.cells #[.int .i64 t, .int .i64 x] 55)).drew) := (((Below.refl _ _).alloc (Nat.le_refl _) _).alloc (by simp) _).drew
            have HX3 : Below W9.heap.size W9 (((W9.alloc (.cells #[.int .i64 t, .int .i64 x] 55)).alloc (.cells #[] 55)).drew) := (((Below.refl _ _).alloc (Nat.le_refl _) _).alloc (by simp) _).drew
            have HA1 : ((W9.alloc (.cells #[] 55)).drew).ownsRow W9.heap.size 55 2 (.slice (some ⟨W9.heap.size, 0, none⟩) 0 0) 0 [] := own0 (heap_alloc_new W9 _) (Nat.le_refl _)
            have HA2 : (((W9.alloc (.cells #[] 55)).alloc (.cells #[.int .i64 t, .int .i64 x] 55)).drew).ownsRow W9.heap.size 55 2 (.slice (some ⟨W9.heap.size, 0, none⟩) 0 0) 0 [] := own0 ((heap_alloc_old (W9.alloc (.cells #[] 55)) _ (by simp)).trans (heap_alloc_new W9 _)) (Nat.le_refl _)
            have HA3 : (((W9.alloc (.cells #[.int .i64 t, .int .i64 x] 55)).alloc (.cells #[] 55)).drew).ownsRow W9.heap.size 55 2 (.slice (some ⟨W9.heap.size + 1, 0, none⟩) 0 0) 0 [] := own0 (by have := heap_alloc_new (W9.alloc (.cells #[.int .i64 t, .int .i64 x] 55)) (.cells #[] 55); rw [show ∀ o : Obj, (W9.alloc o).heap.size = W9.heap.size + 1 from fun o => by simp] at this; exact this) (by omega)
            have HN2 : ∀ j u, [Value.int .i64 t, Value.int .i64 x][j]? = some u → (((W9.alloc (.cells #[] 55)).alloc (.cells #[.int .i64 t, .int .i64 x] 55)).drew).cell? ((⟨W9.heap.size + 1, 0, none⟩ : Addr).add j) = some u := World.news_of_block (cs := #[.int .i64 t, .int .i64 x]) (t := 55) (fr := (0, 0)) (by have := heap_alloc_new (W9.alloc (.cells #[] 55)) (.cells #[.int .i64 t, .int .i64 x] 55); rw [show ∀ o : Obj, (W9.alloc o).heap.size = W9.heap.size + 1 from fun o => by simp] at this; exact this)
            have HN3 : ∀ j u, [Value.int .i64 t, Value.int .i64 x][j]? = some u → (((W9.alloc (.cells #[.int .i64 t, .int .i64 x] 55)).alloc (.cells #[] 55)).drew).cell? ((⟨W9.heap.size, 0, none⟩ : Addr).add j) = some u := World.news_of_block (cs := #[.int .i64 t, .int .i64 x]) (t := 55) (fr := (0, 0)) ((heap_alloc_old (W9.alloc (.cells #[.int .i64 t, .int .i64 x] 55)) _ (by simp)).trans (heap_alloc_new W9 _))
            clear hA hb9 hc0 hc1 hbA
            go_region_law (first
              | (refine step_append_rd _ (by rfl) _ _ _ (by rfl) W9.heap.size 55 i0 _ 2 16 Try.underlying25 hi0 hz0 hz1 hz2 rfl (by omega) (.slice (some ⟨W9.heap.size, 0, none⟩) 0 0) 0 [] (by rfl) HA1 _ _ (some ⟨b, off, none⟩) k c (ints F) (by rfl) (hS1 _ HX1) (fun _ _ _ _ => rfl) (by simp only [maxLen]; omega) (by omega) HX1.size ?_; intro v5 w5 hown5 hg5 hat5; have hB5 := HX1.trans (grown_below HA1 hg5 HX1.size); have l0 := (hB5.cell (p := ⟨w.heap.size, 0, none⟩) hzw).trans q0W; have l1 := (hB5.cell (p := ⟨w.heap.size, 1, none⟩) hzw).trans q1W; simp only [Nat.zero_add, List.nil_append] at hown5)
              | (refine step_append_rd _ (by rfl) _ _ _ (by rfl) W9.heap.size 55 i0 _ 2 16 Try.underlying25 hi0 hz0 hz1 hz2 rfl (by omega) (.slice (some ⟨W9.heap.size, 0, none⟩) 0 0) 0 [] (by rfl) HA2 _ _ (some ⟨b, off, none⟩) k c (ints F) (by rfl) (hS1 _ HX2) (fun _ _ _ _ => rfl) (by simp only [maxLen]; omega) (by omega) HX2.size ?_; intro v5 w5 hown5 hg5 hat5; have hB5 := HX2.trans (grown_below HA2 hg5 HX2.size); have l0 := (hB5.cell (p := ⟨w.heap.size, 0, none⟩) hzw).trans q0W; have l1 := (hB5.cell (p := ⟨w.heap.size, 1, none⟩) hzw).trans q1W; simp only [Nat.zero_add, List.nil_append] at hown5; have hN5 := news_keep (g := W9.heap.size) hg5 (by omega) HN2)
              | (refine step_append_rd _ (by rfl) _ _ _ (by rfl) W9.heap.size 55 i0 _ 2 16 Try.underlying25 hi0 hz0 hz1 hz2 rfl (by omega) (.slice (some ⟨W9.heap.size + 1, 0, none⟩) 0 0) 0 [] (by rfl) HA3 _ _ (some ⟨b, off, none⟩) k c (ints F) (by rfl) (hS1 _ HX3) (fun _ _ _ _ => rfl) (by simp only [maxLen]; omega) (by omega) HX3.size ?_; intro v5 w5 hown5 hg5 hat5; have hB5 := HX3.trans (grown_below HA3 hg5 HX3.size); have l0 := (hB5.cell (p := ⟨w.heap.size, 0, none⟩) hzw).trans q0W; have l1 := (hB5.cell (p := ⟨w.heap.size, 1, none⟩) hzw).trans q1W; simp only [Nat.zero_add, List.nil_append] at hown5; have hN5 := news_keep (g := W9.heap.size + 1) hg5 (by omega) HN3)
              | (refine step_append_lies _ (by rfl) _ _ _ (by rfl) W9.heap.size 55 i0 _ 2 16 Try.underlying25 hi0 hz0 hz1 hz2 rfl (by omega) v5 k _ (by rfl) (hown5.alloc (.cells #[.int .i64 t, .int .i64 x] 55)) ⟨w5.heap.size, 0, none⟩ 1 1 [Value.int .i64 t, Value.int .i64 x] (by rfl) (by rfl) (World.news_of_block (cs := #[.int .i64 t, .int .i64 x]) (t := 55) (fr := (0, 0)) (heap_alloc_new w5 _)) (by simp [Value.oneCell']) (by omega) (by simp only [maxLen]; omega) (by omega) (Nat.le_trans hB5.size (by simp)) _ rfl ?_; intro g6 cap6 w6 hown6 hg6 hat6 hlt6; have hB6 := (hB5.alloc hB5.size (.cells #[.int .i64 t, .int .i64 x] 55)).trans (grown_below (hown5.alloc (.cells #[.int .i64 t, .int .i64 x] 55)) hg6 (Nat.le_trans hB5.size (by simp))))
              | (refine step_append_lies _ (by rfl) _ _ _ (by rfl) W9.heap.size 55 i0 _ 2 16 Try.underlying25 hi0 hz0 hz1 hz2 rfl (by omega) v5 k _ (by rfl) hown5 ⟨W9.heap.size + 1, 0, none⟩ 1 1 [Value.int .i64 t, Value.int .i64 x] (by rfl) (by rfl) hN5 (by simp [Value.oneCell']) (by omega) (by simp only [maxLen]; omega) (by omega) hB5.size _ rfl ?_; intro g6 cap6 w6 hown6 hg6 hat6 hlt6; have hB6 := hB5.trans (grown_below hown5 hg6 hB5.size))
              | (refine step_append_lies _ (by rfl) _ _ _ (by rfl) W9.heap.size 55 i0 _ 2 16 Try.underlying25 hi0 hz0 hz1 hz2 rfl (by omega) v5 k _ (by rfl) hown5 ⟨W9.heap.size, 0, none⟩ 1 1 [Value.int .i64 t, Value.int .i64 x] (by rfl) (by rfl) hN5 (by simp [Value.oneCell']) (by omega) (by simp only [maxLen]; omega) (by omega) hB5.size _ rfl ?_; intro g6 cap6 w6 hown6 hg6 hat6 hlt6; have hB6 := hB5.trans (grown_below hown5 hg6 hB5.size))
              | (refine step_append_rd _ (by rfl) _ _ _ (by rfl) W9.heap.size 55 i0 _ 2 16 Try.underlying25 hi0 hz0 hz1 hz2 rfl (by omega) _ (k + 1) _ (by rfl) hown6 _ _ (if c = k + 1 then some ⟨b, off, none⟩ else some ⟨b, off + (k + 1) * 2, none⟩) (n - (k + 1)) (c - (k + 1)) (fun i j => ints F (k + 1 + i) j) (by rfl) (hS2 _ hB6) (fun _ _ _ _ => rfl) (by simp only [maxLen]; omega) (by omega) hB6.size ?_; intro v7 w7 hown7 hg7 hat7; have hB7 := hB6.trans (grown_below hown6 hg7 hB6.size)))
            all_goals
              have hr7 : w7.ownsRow W9.heap.size 55 2 v7 (putL F n t) (rowL (ints (putS F n t x)) (putL F n t) 2) := by
                have h7 := hown7
                rw [HROW.out] at h7
                rwa [← HPL.out] at h7
              have hLn : putL F n t ≤ 1048576 := by have := HPL.out; omega
              have hbZ := gr hbW hB7
              clear hown7 HROW HPL hB7 hg7 hat7 hB6 hg6 hat6 hown6 hB5 hg5 hat5 hown5 l0 l1 HX1 HX2 HX3 HA1 HA2 HA3 HN2 HN3 hS1 hS2 q0W q1W
              obtain ⟨A7, c7, rfl, -⟩ := own_form hr7
              have hO7 := own_ow hr7
              clear hr7
              have hzz := hbW.size
              cases hq : sunsB (putS F n t x) (putL F n t)
              · have HK := hide (show putSunOk F n t x = false by simp [putSunOk, hq])
                have HN := hide (show putSunN F n t x = 0 by simp [putSunN, HK.out])
                have HQ := hide hq
                clear hq
                go_wp2_with (go_at_call 50; refine (l6Good_any _ _ _ _ _ hLn (hO7.sl.rd (Nat.le_refl _))).mono ?_; rintro _ w8 ⟨rfl, hb8⟩; rw [HQ.out])
                all_goals
                  refine bodyPost_ret (v := .tuple #[.slice (some ⟨w8.heap.size, 0, none⟩) 0 0, .bool false]) (by simp only [results, Try.results40]; go_simp) rfl ⟨some ⟨w8.heap.size, 0, none⟩, 0, by rw [HK.out, HN.out], by rw [HN.out]; exact Ow.nil _ _ _ _ _ _, (gr hbZ hb8).alloc (Below.size (gr hbZ hb8)) _⟩
              · have HK := hide (show putSunOk F n t x = true by simp [putSunOk, hq, HV.out])
                have HN := hide (show putSunN F n t x = putL F n t by simp [putSunN, HK.out])
                have HQ := hide hq
                clear hq
                go_wp2_with (go_at_call 50; refine (l6Good_any _ _ _ _ _ hLn (hO7.sl.rd (Nat.le_refl _))).mono ?_; rintro _ w8 ⟨rfl, hb8⟩; rw [HQ.out])
                all_goals
                  refine bodyPost_ret (v := .tuple #[.slice A7 (putL F n t) c7, .bool true]) (by simp only [results, Try.results40]; go_simp) rfl ⟨A7, c7, by rw [HK.out, HN.out], by rw [HN.out]; exact (hO7.below hb8 (Nat.le_refl _)).mono hzz hb8.size, gr hbZ hb8⟩
          · refine region_after (by kernel_rfl) (by kernel_rfl) ?_
            repeat (go_big_quiet_step ((first | fail)))
            refine wpQuiet_nil ?_
            rintro _ ⟨u, rfl⟩
            go_upto_region 9 with fail
            replace hb2 := gr hb2 u.h
            clear c0 q0
            generalize u.w = W9 at *
            clear u
            have hb9 := hb2
            clear hb2
            have hS1 : ∀ w', Below W9.heap.size W9 w' → Rd w' (some ⟨b, off, none⟩) k 2 (ints F) := fun w' hb' => sl_first (Rd.below (Rd.below hA hb9) hb') (by omega)
            have hS2 : ∀ w', Below W9.heap.size W9 w' → Rd w' (if c = k then some ⟨b, off, none⟩ else some ⟨b, off + k * 2, none⟩) (n - k) 2 (fun i j => ints F (k + i) j) := fun w' hb' => by
              split
              · intro h0; omega
              · exact sl_then (Rd.below (Rd.below hA hb9) hb') (by omega)
            have hzW := hb9.size
            have q0W : W9.cell? ⟨w.heap.size, 0, none⟩ = some (.int .i64 t) := (hb9.cell (p := ⟨w.heap.size, 0, none⟩) hz).trans hc0
            have q1W : W9.cell? ⟨w.heap.size, 1, none⟩ = some (.int .i64 x) := (hb9.cell (p := ⟨w.heap.size, 1, none⟩) hz).trans hc1
            have hbW := gr hbA hb9
            have hzw : w.heap.size < W9.heap.size := by omega
            have HROW := hide (put_rows F n t x k (k) HP.out (by simp [hE]) (by omega))
            have HPL := hide (show putL F n t = k + 1 + (n - (k)) by unfold putL; omega)
            have hkc : (k : Int) ≤ (c : Int) := by omega
            have hkc2 : k ≤ c := by omega
            have HX1 : Below W9.heap.size W9 ((W9.alloc (.cells #[] 55)).drew) := ((Below.refl _ _).alloc (Nat.le_refl _) _).drew
            have HX2 : Below W9.heap.size W9 (((W9.alloc (.cells #[] 55)).alloc (.cells #[.int .i64 t, .int .i64 x] 55)).drew) := (((Below.refl _ _).alloc (Nat.le_refl _) _).alloc (by simp) _).drew
            have HX3 : Below W9.heap.size W9 (((W9.alloc (.cells #[.int .i64 t, .int .i64 x] 55)).alloc (.cells #[] 55)).drew) := (((Below.refl _ _).alloc (Nat.le_refl _) _).alloc (by simp) _).drew
            have HA1 : ((W9.alloc (.cells #[] 55)).drew).ownsRow W9.heap.size 55 2 (.slice (some ⟨W9.heap.size, 0, none⟩) 0 0) 0 [] := own0 (heap_alloc_new W9 _) (Nat.le_refl _)
            have HA2 : (((W9.alloc (.cells #[] 55)).alloc (.cells #[.int .i64 t, .int .i64 x] 55)).drew).ownsRow W9.heap.size 55 2 (.slice (some ⟨W9.heap.size, 0, none⟩) 0 0) 0 [] := own0 ((heap_alloc_old (W9.alloc (.cells #[] 55)) _ (by simp)).trans (heap_alloc_new W9 _)) (Nat.le_refl _)
            have HA3 : (((W9.alloc (.cells #[.int .i64 t, .int .i64 x] 55)).alloc (.cells #[] 55)).drew).ownsRow W9.heap.size 55 2 (.slice (some ⟨W9.heap.size + 1, 0, none⟩) 0 0) 0 [] := own0 (by have := heap_alloc_new (W9.alloc (.cells #[.int .i64 t, .int .i64 x] 55)) (.cells #[] 55); rw [show ∀ o : Obj, (W9.alloc o).heap.size = W9.heap.size + 1 from fun o => by simp] at this; exact this) (by omega)
            have HN2 : ∀ j u, [Value.int .i64 t, Value.int .i64 x][j]? = some u → (((W9.alloc (.cells #[] 55)).alloc (.cells #[.int .i64 t, .int .i64 x] 55)).drew).cell? ((⟨W9.heap.size + 1, 0, none⟩ : Addr).add j) = some u := World.news_of_block (cs := #[.int .i64 t, .int .i64 x]) (t := 55) (fr := (0, 0)) (by have := heap_alloc_new (W9.alloc (.cells #[] 55)) (.cells #[.int .i64 t, .int .i64 x] 55); rw [show ∀ o : Obj, (W9.alloc o).heap.size = W9.heap.size + 1 from fun o => by simp] at this; exact this)
            have HN3 : ∀ j u, [Value.int .i64 t, Value.int .i64 x][j]? = some u → (((W9.alloc (.cells #[.int .i64 t, .int .i64 x] 55)).alloc (.cells #[] 55)).drew).cell? ((⟨W9.heap.size, 0, none⟩ : Addr).add j) = some u := World.news_of_block (cs := #[.int .i64 t, .int .i64 x]) (t := 55) (fr := (0, 0)) ((heap_alloc_old (W9.alloc (.cells #[.int .i64 t, .int .i64 x] 55)) _ (by simp)).trans (heap_alloc_new W9 _))
            clear hA hb9 hc0 hc1 hbA
            go_region_law (first
              | (refine step_append_rd _ (by rfl) _ _ _ (by rfl) W9.heap.size 55 i0 _ 2 16 Try.underlying25 hi0 hz0 hz1 hz2 rfl (by omega) (.slice (some ⟨W9.heap.size, 0, none⟩) 0 0) 0 [] (by rfl) HA1 _ _ (some ⟨b, off, none⟩) k c (ints F) (by rfl) (hS1 _ HX1) (fun _ _ _ _ => rfl) (by simp only [maxLen]; omega) (by omega) HX1.size ?_; intro v5 w5 hown5 hg5 hat5; have hB5 := HX1.trans (grown_below HA1 hg5 HX1.size); have l0 := (hB5.cell (p := ⟨w.heap.size, 0, none⟩) hzw).trans q0W; have l1 := (hB5.cell (p := ⟨w.heap.size, 1, none⟩) hzw).trans q1W; simp only [Nat.zero_add, List.nil_append] at hown5)
              | (refine step_append_rd _ (by rfl) _ _ _ (by rfl) W9.heap.size 55 i0 _ 2 16 Try.underlying25 hi0 hz0 hz1 hz2 rfl (by omega) (.slice (some ⟨W9.heap.size, 0, none⟩) 0 0) 0 [] (by rfl) HA2 _ _ (some ⟨b, off, none⟩) k c (ints F) (by rfl) (hS1 _ HX2) (fun _ _ _ _ => rfl) (by simp only [maxLen]; omega) (by omega) HX2.size ?_; intro v5 w5 hown5 hg5 hat5; have hB5 := HX2.trans (grown_below HA2 hg5 HX2.size); have l0 := (hB5.cell (p := ⟨w.heap.size, 0, none⟩) hzw).trans q0W; have l1 := (hB5.cell (p := ⟨w.heap.size, 1, none⟩) hzw).trans q1W; simp only [Nat.zero_add, List.nil_append] at hown5; have hN5 := news_keep (g := W9.heap.size) hg5 (by omega) HN2)
              | (refine step_append_rd _ (by rfl) _ _ _ (by rfl) W9.heap.size 55 i0 _ 2 16 Try.underlying25 hi0 hz0 hz1 hz2 rfl (by omega) (.slice (some ⟨W9.heap.size + 1, 0, none⟩) 0 0) 0 [] (by rfl) HA3 _ _ (some ⟨b, off, none⟩) k c (ints F) (by rfl) (hS1 _ HX3) (fun _ _ _ _ => rfl) (by simp only [maxLen]; omega) (by omega) HX3.size ?_; intro v5 w5 hown5 hg5 hat5; have hB5 := HX3.trans (grown_below HA3 hg5 HX3.size); have l0 := (hB5.cell (p := ⟨w.heap.size, 0, none⟩) hzw).trans q0W; have l1 := (hB5.cell (p := ⟨w.heap.size, 1, none⟩) hzw).trans q1W; simp only [Nat.zero_add, List.nil_append] at hown5; have hN5 := news_keep (g := W9.heap.size + 1) hg5 (by omega) HN3)
              | (refine step_append_lies _ (by rfl) _ _ _ (by rfl) W9.heap.size 55 i0 _ 2 16 Try.underlying25 hi0 hz0 hz1 hz2 rfl (by omega) v5 k _ (by rfl) (hown5.alloc (.cells #[.int .i64 t, .int .i64 x] 55)) ⟨w5.heap.size, 0, none⟩ 1 1 [Value.int .i64 t, Value.int .i64 x] (by rfl) (by rfl) (World.news_of_block (cs := #[.int .i64 t, .int .i64 x]) (t := 55) (fr := (0, 0)) (heap_alloc_new w5 _)) (by simp [Value.oneCell']) (by omega) (by simp only [maxLen]; omega) (by omega) (Nat.le_trans hB5.size (by simp)) _ rfl ?_; intro g6 cap6 w6 hown6 hg6 hat6 hlt6; have hB6 := (hB5.alloc hB5.size (.cells #[.int .i64 t, .int .i64 x] 55)).trans (grown_below (hown5.alloc (.cells #[.int .i64 t, .int .i64 x] 55)) hg6 (Nat.le_trans hB5.size (by simp))))
              | (refine step_append_lies _ (by rfl) _ _ _ (by rfl) W9.heap.size 55 i0 _ 2 16 Try.underlying25 hi0 hz0 hz1 hz2 rfl (by omega) v5 k _ (by rfl) hown5 ⟨W9.heap.size + 1, 0, none⟩ 1 1 [Value.int .i64 t, Value.int .i64 x] (by rfl) (by rfl) hN5 (by simp [Value.oneCell']) (by omega) (by simp only [maxLen]; omega) (by omega) hB5.size _ rfl ?_; intro g6 cap6 w6 hown6 hg6 hat6 hlt6; have hB6 := hB5.trans (grown_below hown5 hg6 hB5.size))
              | (refine step_append_lies _ (by rfl) _ _ _ (by rfl) W9.heap.size 55 i0 _ 2 16 Try.underlying25 hi0 hz0 hz1 hz2 rfl (by omega) v5 k _ (by rfl) hown5 ⟨W9.heap.size, 0, none⟩ 1 1 [Value.int .i64 t, Value.int .i64 x] (by rfl) (by rfl) hN5 (by simp [Value.oneCell']) (by omega) (by simp only [maxLen]; omega) (by omega) hB5.size _ rfl ?_; intro g6 cap6 w6 hown6 hg6 hat6 hlt6; have hB6 := hB5.trans (grown_below hown5 hg6 hB5.size))
              | (refine step_append_rd _ (by rfl) _ _ _ (by rfl) W9.heap.size 55 i0 _ 2 16 Try.underlying25 hi0 hz0 hz1 hz2 rfl (by omega) _ (k + 1) _ (by rfl) hown6 _ _ (if c = k then some ⟨b, off, none⟩ else some ⟨b, off + k * 2, none⟩) (n - (k)) (c - (k)) (fun i j => ints F (k + i) j) (by rfl) (hS2 _ hB6) (fun _ _ _ _ => rfl) (by simp only [maxLen]; omega) (by omega) hB6.size ?_; intro v7 w7 hown7 hg7 hat7; have hB7 := hB6.trans (grown_below hown6 hg7 hB6.size)))
            all_goals
              have hr7 : w7.ownsRow W9.heap.size 55 2 v7 (putL F n t) (rowL (ints (putS F n t x)) (putL F n t) 2) := by
                have h7 := hown7
                rw [HROW.out] at h7
                rwa [← HPL.out] at h7
              have hLn : putL F n t ≤ 1048576 := by have := HPL.out; omega
              have hbZ := gr hbW hB7
              clear hown7 HROW HPL hB7 hg7 hat7 hB6 hg6 hat6 hown6 hB5 hg5 hat5 hown5 l0 l1 HX1 HX2 HX3 HA1 HA2 HA3 HN2 HN3 hS1 hS2 q0W q1W
              obtain ⟨A7, c7, rfl, -⟩ := own_form hr7
              have hO7 := own_ow hr7
              clear hr7
              have hzz := hbW.size
              cases hq : sunsB (putS F n t x) (putL F n t)
              · have HK := hide (show putSunOk F n t x = false by simp [putSunOk, hq])
                have HN := hide (show putSunN F n t x = 0 by simp [putSunN, HK.out])
                have HQ := hide hq
                clear hq
                go_wp2_with (go_at_call 50; refine (l6Good_any _ _ _ _ _ hLn (hO7.sl.rd (Nat.le_refl _))).mono ?_; rintro _ w8 ⟨rfl, hb8⟩; rw [HQ.out])
                all_goals
                  refine bodyPost_ret (v := .tuple #[.slice (some ⟨w8.heap.size, 0, none⟩) 0 0, .bool false]) (by simp only [results, Try.results40]; go_simp) rfl ⟨some ⟨w8.heap.size, 0, none⟩, 0, by rw [HK.out, HN.out], by rw [HN.out]; exact Ow.nil _ _ _ _ _ _, (gr hbZ hb8).alloc (Below.size (gr hbZ hb8)) _⟩
              · have HK := hide (show putSunOk F n t x = true by simp [putSunOk, hq, HV.out])
                have HN := hide (show putSunN F n t x = putL F n t by simp [putSunN, HK.out])
                have HQ := hide hq
                clear hq
                go_wp2_with (go_at_call 50; refine (l6Good_any _ _ _ _ _ hLn (hO7.sl.rd (Nat.le_refl _))).mono ?_; rintro _ w8 ⟨rfl, hb8⟩; rw [HQ.out])
                all_goals
                  refine bodyPost_ret (v := .tuple #[.slice A7 (putL F n t) c7, .bool true]) (by simp only [results, Try.results40]; go_simp) rfl ⟨A7, c7, by rw [HK.out, HN.out], by rw [HN.out]; exact (hO7.below hb8 (Nat.le_refl _)).mono hzz hb8.size, gr hbZ hb8⟩
        · have hkN1 : decide ((k : Int) < n) = false := decide_eq_false (by omega)
          have hkN2 : decide (k < n) = false := decide_eq_false (by omega)
          clear HA2
          go_wp2_with fail
          refine region_after (by kernel_rfl) (by kernel_rfl) ?_
          repeat (go_big_quiet_step ((first | fail)))
          refine wpQuiet_nil ?_
          rintro _ ⟨y, rfl⟩
          have hb2 := gr hb y.h
          clear q0 hb
          generalize y.w = W at *
          clear y
          go_wp2_with fail
          refine region_after (by kernel_rfl) (by kernel_rfl) ?_
          repeat (go_big_quiet_step ((first | fail)))
          refine wpQuiet_nil ?_
          rintro _ ⟨u, rfl⟩
          go_upto_region 9 with fail
          replace hb2 := gr hb2 u.h
          generalize u.w = W9 at *
          clear u
          have hb9 := hb2
          clear hb2
          have hkn := hide (show k = n by omega)
          have hE : putE F n t = 0 := by unfold putE; rw [HP.out, if_neg (fun h => hkN h.1)]
          have hS1 : ∀ w', Below W9.heap.size W9 w' → Rd w' A k 2 (ints F) := fun w' hb' => by rw [hkn.out]; exact Rd.below (Rd.below hA hb9) hb'
          cases A with
          | none =>
            have hS2 : ∀ w', Below W9.heap.size W9 w' → Rd w' none (n - k) 2 (fun i j => ints F (k + i) j) := fun w' hb' h0 => by omega
            have hzW := hb9.size
            have q0W : W9.cell? ⟨w.heap.size, 0, none⟩ = some (.int .i64 t) := (hb9.cell (p := ⟨w.heap.size, 0, none⟩) hz).trans hc0
            have q1W : W9.cell? ⟨w.heap.size, 1, none⟩ = some (.int .i64 x) := (hb9.cell (p := ⟨w.heap.size, 1, none⟩) hz).trans hc1
            have hbW := gr hbA hb9
            have hzw : w.heap.size < W9.heap.size := by omega
            have HROW := hide (put_rows F n t x k (k) HP.out (by simp [hE]) (by omega))
            have HPL := hide (show putL F n t = k + 1 + (n - (k)) by unfold putL; omega)
            have hkc : (k : Int) ≤ (c : Int) := by omega
            have hkc2 : k ≤ c := by omega
            have HX1 : Below W9.heap.size W9 ((W9.alloc (.cells #[] 55)).drew) := ((Below.refl _ _).alloc (Nat.le_refl _) _).drew
            have HX2 : Below W9.heap.size W9 (((W9.alloc (.cells #[] 55)).alloc (.cells #[.int .i64 t, .int .i64 x] 55)).drew) := (((Below.refl _ _).alloc (Nat.le_refl _) _).alloc (by simp) _).drew
            have HX3 : Below W9.heap.size W9 (((W9.alloc (.cells #[.int .i64 t, .int .i64 x] 55)).alloc (.cells #[] 55)).drew) := (((Below.refl _ _).alloc (Nat.le_refl _) _).alloc (by simp) _).drew
            have HA1 : ((W9.alloc (.cells #[] 55)).drew).ownsRow W9.heap.size 55 2 (.slice (some ⟨W9.heap.size, 0, none⟩) 0 0) 0 [] := own0 (heap_alloc_new W9 _) (Nat.le_refl _)
            have HA2 : (((W9.alloc (.cells #[] 55)).alloc (.cells #[.int .i64 t, .int .i64 x] 55)).drew).ownsRow W9.heap.size 55 2 (.slice (some ⟨W9.heap.size, 0, none⟩) 0 0) 0 [] := own0 ((heap_alloc_old (W9.alloc (.cells #[] 55)) _ (by simp)).trans (heap_alloc_new W9 _)) (Nat.le_refl _)
            have HA3 : (((W9.alloc (.cells #[.int .i64 t, .int .i64 x] 55)).alloc (.cells #[] 55)).drew).ownsRow W9.heap.size 55 2 (.slice (some ⟨W9.heap.size + 1, 0, none⟩) 0 0) 0 [] := own0 (by have := heap_alloc_new (W9.alloc (.cells #[.int .i64 t, .int .i64 x] 55)) (.cells #[] 55); rw [show ∀ o : Obj, (W9.alloc o).heap.size = W9.heap.size + 1 from fun o => by simp] at this; exact this) (by omega)
            have HN2 : ∀ j u, [Value.int .i64 t, Value.int .i64 x][j]? = some u → (((W9.alloc (.cells #[] 55)).alloc (.cells #[.int .i64 t, .int .i64 x] 55)).drew).cell? ((⟨W9.heap.size + 1, 0, none⟩ : Addr).add j) = some u := World.news_of_block (cs := #[.int .i64 t, .int .i64 x]) (t := 55) (fr := (0, 0)) (by have := heap_alloc_new (W9.alloc (.cells #[] 55)) (.cells #[.int .i64 t, .int .i64 x] 55); rw [show ∀ o : Obj, (W9.alloc o).heap.size = W9.heap.size + 1 from fun o => by simp] at this; exact this)
            have HN3 : ∀ j u, [Value.int .i64 t, Value.int .i64 x][j]? = some u → (((W9.alloc (.cells #[.int .i64 t, .int .i64 x] 55)).alloc (.cells #[] 55)).drew).cell? ((⟨W9.heap.size, 0, none⟩ : Addr).add j) = some u := World.news_of_block (cs := #[.int .i64 t, .int .i64 x]) (t := 55) (fr := (0, 0)) ((heap_alloc_old (W9.alloc (.cells #[.int .i64 t, .int .i64 x] 55)) _ (by simp)).trans (heap_alloc_new W9 _))
            clear hA hb9 hc0 hc1 hbA
            go_region_law (first
              | (refine step_append_rd _ (by rfl) _ _ _ (by rfl) W9.heap.size 55 i0 _ 2 16 Try.underlying25 hi0 hz0 hz1 hz2 rfl (by omega) (.slice (some ⟨W9.heap.size, 0, none⟩) 0 0) 0 [] (by rfl) HA1 _ _ (none) k c (ints F) (by rfl) (hS1 _ HX1) (fun _ _ _ _ => rfl) (by simp only [maxLen]; omega) (by omega) HX1.size ?_; intro v5 w5 hown5 hg5 hat5; have hB5 := HX1.trans (grown_below HA1 hg5 HX1.size); have l0 := (hB5.cell (p := ⟨w.heap.size, 0, none⟩) hzw).trans q0W; have l1 := (hB5.cell (p := ⟨w.heap.size, 1, none⟩) hzw).trans q1W; simp only [Nat.zero_add, List.nil_append] at hown5)
              | (refine step_append_rd _ (by rfl) _ _ _ (by rfl) W9.heap.size 55 i0 _ 2 16 Try.underlying25 hi0 hz0 hz1 hz2 rfl (by omega) (.slice (some ⟨W9.heap.size, 0, none⟩) 0 0) 0 [] (by rfl) HA2 _ _ (none) k c (ints F) (by rfl) (hS1 _ HX2) (fun _ _ _ _ => rfl) (by simp only [maxLen]; omega) (by omega) HX2.size ?_; intro v5 w5 hown5 hg5 hat5; have hB5 := HX2.trans (grown_below HA2 hg5 HX2.size); have l0 := (hB5.cell (p := ⟨w.heap.size, 0, none⟩) hzw).trans q0W; have l1 := (hB5.cell (p := ⟨w.heap.size, 1, none⟩) hzw).trans q1W; simp only [Nat.zero_add, List.nil_append] at hown5; have hN5 := news_keep (g := W9.heap.size) hg5 (by omega) HN2)
              | (refine step_append_rd _ (by rfl) _ _ _ (by rfl) W9.heap.size 55 i0 _ 2 16 Try.underlying25 hi0 hz0 hz1 hz2 rfl (by omega) (.slice (some ⟨W9.heap.size + 1, 0, none⟩) 0 0) 0 [] (by rfl) HA3 _ _ (none) k c (ints F) (by rfl) (hS1 _ HX3) (fun _ _ _ _ => rfl) (by simp only [maxLen]; omega) (by omega) HX3.size ?_; intro v5 w5 hown5 hg5 hat5; have hB5 := HX3.trans (grown_below HA3 hg5 HX3.size); have l0 := (hB5.cell (p := ⟨w.heap.size, 0, none⟩) hzw).trans q0W; have l1 := (hB5.cell (p := ⟨w.heap.size, 1, none⟩) hzw).trans q1W; simp only [Nat.zero_add, List.nil_append] at hown5; have hN5 := news_keep (g := W9.heap.size + 1) hg5 (by omega) HN3)
              | (refine step_append_lies _ (by rfl) _ _ _ (by rfl) W9.heap.size 55 i0 _ 2 16 Try.underlying25 hi0 hz0 hz1 hz2 rfl (by omega) v5 k _ (by rfl) (hown5.alloc (.cells #[.int .i64 t, .int .i64 x] 55)) ⟨w5.heap.size, 0, none⟩ 1 1 [Value.int .i64 t, Value.int .i64 x] (by rfl) (by rfl) (World.news_of_block (cs := #[.int .i64 t, .int .i64 x]) (t := 55) (fr := (0, 0)) (heap_alloc_new w5 _)) (by simp [Value.oneCell']) (by omega) (by simp only [maxLen]; omega) (by omega) (Nat.le_trans hB5.size (by simp)) _ rfl ?_; intro g6 cap6 w6 hown6 hg6 hat6 hlt6; have hB6 := (hB5.alloc hB5.size (.cells #[.int .i64 t, .int .i64 x] 55)).trans (grown_below (hown5.alloc (.cells #[.int .i64 t, .int .i64 x] 55)) hg6 (Nat.le_trans hB5.size (by simp))))
              | (refine step_append_lies _ (by rfl) _ _ _ (by rfl) W9.heap.size 55 i0 _ 2 16 Try.underlying25 hi0 hz0 hz1 hz2 rfl (by omega) v5 k _ (by rfl) hown5 ⟨W9.heap.size + 1, 0, none⟩ 1 1 [Value.int .i64 t, Value.int .i64 x] (by rfl) (by rfl) hN5 (by simp [Value.oneCell']) (by omega) (by simp only [maxLen]; omega) (by omega) hB5.size _ rfl ?_; intro g6 cap6 w6 hown6 hg6 hat6 hlt6; have hB6 := hB5.trans (grown_below hown5 hg6 hB5.size))
              | (refine step_append_lies _ (by rfl) _ _ _ (by rfl) W9.heap.size 55 i0 _ 2 16 Try.underlying25 hi0 hz0 hz1 hz2 rfl (by omega) v5 k _ (by rfl) hown5 ⟨W9.heap.size, 0, none⟩ 1 1 [Value.int .i64 t, Value.int .i64 x] (by rfl) (by rfl) hN5 (by simp [Value.oneCell']) (by omega) (by simp only [maxLen]; omega) (by omega) hB5.size _ rfl ?_; intro g6 cap6 w6 hown6 hg6 hat6 hlt6; have hB6 := hB5.trans (grown_below hown5 hg6 hB5.size))
              | (refine step_append_rd _ (by rfl) _ _ _ (by rfl) W9.heap.size 55 i0 _ 2 16 Try.underlying25 hi0 hz0 hz1 hz2 rfl (by omega) _ (k + 1) _ (by rfl) hown6 _ _ (none) (n - (k)) (c - (k)) (fun i j => ints F (k + i) j) (by rfl) (hS2 _ hB6) (fun _ _ _ _ => rfl) (by simp only [maxLen]; omega) (by omega) hB6.size ?_; intro v7 w7 hown7 hg7 hat7; have hB7 := hB6.trans (grown_below hown6 hg7 hB6.size)))
            all_goals
              have hr7 : w7.ownsRow W9.heap.size 55 2 v7 (putL F n t) (rowL (ints (putS F n t x)) (putL F n t) 2) := by
                have h7 := hown7
                rw [HROW.out] at h7
                rwa [← HPL.out] at h7
              have hLn : putL F n t ≤ 1048576 := by have := HPL.out; omega
              have hbZ := gr hbW hB7
              clear hown7 HROW HPL hB7 hg7 hat7 hB6 hg6 hat6 hown6 hB5 hg5 hat5 hown5 l0 l1 HX1 HX2 HX3 HA1 HA2 HA3 HN2 HN3 hS1 hS2 q0W q1W
              obtain ⟨A7, c7, rfl, -⟩ := own_form hr7
              have hO7 := own_ow hr7
              clear hr7
              have hzz := hbW.size
              cases hq : sunsB (putS F n t x) (putL F n t)
              · have HK := hide (show putSunOk F n t x = false by simp [putSunOk, hq])
                have HN := hide (show putSunN F n t x = 0 by simp [putSunN, HK.out])
                have HQ := hide hq
                clear hq
                go_wp2_with (go_at_call 50; refine (l6Good_any _ _ _ _ _ hLn (hO7.sl.rd (Nat.le_refl _))).mono ?_; rintro _ w8 ⟨rfl, hb8⟩; rw [HQ.out])
                all_goals
                  refine bodyPost_ret (v := .tuple #[.slice (some ⟨w8.heap.size, 0, none⟩) 0 0, .bool false]) (by simp only [results, Try.results40]; go_simp) rfl ⟨some ⟨w8.heap.size, 0, none⟩, 0, by rw [HK.out, HN.out], by rw [HN.out]; exact Ow.nil _ _ _ _ _ _, (gr hbZ hb8).alloc (Below.size (gr hbZ hb8)) _⟩
              · have HK := hide (show putSunOk F n t x = true by simp [putSunOk, hq, HV.out])
                have HN := hide (show putSunN F n t x = putL F n t by simp [putSunN, HK.out])
                have HQ := hide hq
                clear hq
                go_wp2_with (go_at_call 50; refine (l6Good_any _ _ _ _ _ hLn (hO7.sl.rd (Nat.le_refl _))).mono ?_; rintro _ w8 ⟨rfl, hb8⟩; rw [HQ.out])
                all_goals
                  refine bodyPost_ret (v := .tuple #[.slice A7 (putL F n t) c7, .bool true]) (by simp only [results, Try.results40]; go_simp) rfl ⟨A7, c7, by rw [HK.out, HN.out], by rw [HN.out]; exact (hO7.below hb8 (Nat.le_refl _)).mono hzz hb8.size, gr hbZ hb8⟩
          | some ad =>
            obtain ⟨ab, ao, ap⟩ := ad
            have hS2 : ∀ w', Below W9.heap.size W9 w' → Rd w' (if c = k then some ⟨ab, ao, ap⟩ else some ((⟨ab, ao, ap⟩ : Addr).add (k * 2))) (n - k) 2 (fun i j => ints F (k + i) j) := fun w' hb' h0 => by omega
            have hzW := hb9.size
            have q0W : W9.cell? ⟨w.heap.size, 0, none⟩ = some (.int .i64 t) := (hb9.cell (p := ⟨w.heap.size, 0, none⟩) hz).trans hc0
            have q1W : W9.cell? ⟨w.heap.size, 1, none⟩ = some (.int .i64 x) := (hb9.cell (p := ⟨w.heap.size, 1, none⟩) hz).trans hc1
            have hbW := gr hbA hb9
            have hzw : w.heap.size < W9.heap.size := by omega
            have HROW := hide (put_rows F n t x k (k) HP.out (by simp [hE]) (by omega))
            have HPL := hide (show putL F n t = k + 1 + (n - (k)) by unfold putL; omega)
            have hkc : (k : Int) ≤ (c : Int) := by omega
            have hkc2 : k ≤ c := by omega
            have HX1 : Below W9.heap.size W9 ((W9.alloc (.cells #[] 55)).drew) := ((Below.refl _ _).alloc (Nat.le_refl _) _).drew
            have HX2 : Below W9.heap.size W9 (((W9.alloc (.cells #[] 55)).alloc (.cells #[.int .i64 t, .int .i64 x] 55)).drew) := (((Below.refl _ _).alloc (Nat.le_refl _) _).alloc (by simp) _).drew
            have HX3 : Below W9.heap.size W9 (((W9.alloc (.cells #[.int .i64 t, .int .i64 x] 55)).alloc (.cells #[] 55)).drew) := (((Below.refl _ _).alloc (Nat.le_refl _) _).alloc (by simp) _).drew
            have HA1 : ((W9.alloc (.cells #[] 55)).drew).ownsRow W9.heap.size 55 2 (.slice (some ⟨W9.heap.size, 0, none⟩) 0 0) 0 [] := own0 (heap_alloc_new W9 _) (Nat.le_refl _)
            have HA2 : (((W9.alloc (.cells #[] 55)).alloc (.cells #[.int .i64 t, .int .i64 x] 55)).drew).ownsRow W9.heap.size 55 2 (.slice (some ⟨W9.heap.size, 0, none⟩) 0 0) 0 [] := own0 ((heap_alloc_old (W9.alloc (.cells #[] 55)) _ (by simp)).trans (heap_alloc_new W9 _)) (Nat.le_refl _)
            have HA3 : (((W9.alloc (.cells #[.int .i64 t, .int .i64 x] 55)).alloc (.cells #[] 55)).drew).ownsRow W9.heap.size 55 2 (.slice (some ⟨W9.heap.size + 1, 0, none⟩) 0 0) 0 [] := own0 (by have := heap_alloc_new (W9.alloc (.cells #[.int .i64 t, .int .i64 x] 55)) (.cells #[] 55); rw [show ∀ o : Obj, (W9.alloc o).heap.size = W9.heap.size + 1 from fun o => by simp] at this; exact this) (by omega)
            have HN2 : ∀ j u, [Value.int .i64 t, Value.int .i64 x][j]? = some u → (((W9.alloc (.cells #[] 55)).alloc (.cells #[.int .i64 t, .int .i64 x] 55)).drew).cell? ((⟨W9.heap.size + 1, 0, none⟩ : Addr).add j) = some u := World.news_of_block (cs := #[.int .i64 t, .int .i64 x]) (t := 55) (fr := (0, 0)) (by have := heap_alloc_new (W9.alloc (.cells #[] 55)) (.cells #[.int .i64 t, .int .i64 x] 55); rw [show ∀ o : Obj, (W9.alloc o).heap.size = W9.heap.size + 1 from fun o => by simp] at this; exact this)
            have HN3 : ∀ j u, [Value.int .i64 t, Value.int .i64 x][j]? = some u → (((W9.alloc (.cells #[.int .i64 t, .int .i64 x] 55)).alloc (.cells #[] 55)).drew).cell? ((⟨W9.heap.size, 0, none⟩ : Addr).add j) = some u := World.news_of_block (cs := #[.int .i64 t, .int .i64 x]) (t := 55) (fr := (0, 0)) ((heap_alloc_old (W9.alloc (.cells #[.int .i64 t, .int .i64 x] 55)) _ (by simp)).trans (heap_alloc_new W9 _))
            clear hA hb9 hc0 hc1 hbA
            go_region_law (first
              | (refine step_append_rd _ (by rfl) _ _ _ (by rfl) W9.heap.size 55 i0 _ 2 16 Try.underlying25 hi0 hz0 hz1 hz2 rfl (by omega) (.slice (some ⟨W9.heap.size, 0, none⟩) 0 0) 0 [] (by rfl) HA1 _ _ (some ⟨ab, ao, ap⟩) k c (ints F) (by rfl) (hS1 _ HX1) (fun _ _ _ _ => rfl) (by simp only [maxLen]; omega) (by omega) HX1.size ?_; intro v5 w5 hown5 hg5 hat5; have hB5 := HX1.trans (grown_below HA1 hg5 HX1.size); have l0 := (hB5.cell (p := ⟨w.heap.size, 0, none⟩) hzw).trans q0W; have l1 := (hB5.cell (p := ⟨w.heap.size, 1, none⟩) hzw).trans q1W; simp only [Nat.zero_add, List.nil_append] at hown5)
              | (refine step_append_rd _ (by rfl) _ _ _ (by rfl) W9.heap.size 55 i0 _ 2 16 Try.underlying25 hi0 hz0 hz1 hz2 rfl (by omega) (.slice (some ⟨W9.heap.size, 0, none⟩) 0 0) 0 [] (by rfl) HA2 _ _ (some ⟨ab, ao, ap⟩) k c (ints F) (by rfl) (hS1 _ HX2) (fun _ _ _ _ => rfl) (by simp only [maxLen]; omega) (by omega) HX2.size ?_; intro v5 w5 hown5 hg5 hat5; have hB5 := HX2.trans (grown_below HA2 hg5 HX2.size); have l0 := (hB5.cell (p := ⟨w.heap.size, 0, none⟩) hzw).trans q0W; have l1 := (hB5.cell (p := ⟨w.heap.size, 1, none⟩) hzw).trans q1W; simp only [Nat.zero_add, List.nil_append] at hown5; have hN5 := news_keep (g := W9.heap.size) hg5 (by omega) HN2)
              | (refine step_append_rd _ (by rfl) _ _ _ (by rfl) W9.heap.size 55 i0 _ 2 16 Try.underlying25 hi0 hz0 hz1 hz2 rfl (by omega) (.slice (some ⟨W9.heap.size + 1, 0, none⟩) 0 0) 0 [] (by rfl) HA3 _ _ (some ⟨ab, ao, ap⟩) k c (ints F) (by rfl) (hS1 _ HX3) (fun _ _ _ _ => rfl) (by simp only [maxLen]; omega) (by omega) HX3.size ?_; intro v5 w5 hown5 hg5 hat5; have hB5 := HX3.trans (grown_below HA3 hg5 HX3.size); have l0 := (hB5.cell (p := ⟨w.heap.size, 0, none⟩) hzw).trans q0W; have l1 := (hB5.cell (p := ⟨w.heap.size, 1, none⟩) hzw).trans q1W; simp only [Nat.zero_add, List.nil_append] at hown5; have hN5 := news_keep (g := W9.heap.size + 1) hg5 (by omega) HN3)
              | (refine step_append_lies _ (by rfl) _ _ _ (by rfl) W9.heap.size 55 i0 _ 2 16 Try.underlying25 hi0 hz0 hz1 hz2 rfl (by omega) v5 k _ (by rfl) (hown5.alloc (.cells #[.int .i64 t, .int .i64 x] 55)) ⟨w5.heap.size, 0, none⟩ 1 1 [Value.int .i64 t, Value.int .i64 x] (by rfl) (by rfl) (World.news_of_block (cs := #[.int .i64 t, .int .i64 x]) (t := 55) (fr := (0, 0)) (heap_alloc_new w5 _)) (by simp [Value.oneCell']) (by omega) (by simp only [maxLen]; omega) (by omega) (Nat.le_trans hB5.size (by simp)) _ rfl ?_; intro g6 cap6 w6 hown6 hg6 hat6 hlt6; have hB6 := (hB5.alloc hB5.size (.cells #[.int .i64 t, .int .i64 x] 55)).trans (grown_below (hown5.alloc (.cells #[.int .i64 t, .int .i64 x] 55)) hg6 (Nat.le_trans hB5.size (by simp))))
              | (refine step_append_lies _ (by rfl) _ _ _ (by rfl) W9.heap.size 55 i0 _ 2 16 Try.underlying25 hi0 hz0 hz1 hz2 rfl (by omega) v5 k _ (by rfl) hown5 ⟨W9.heap.size + 1, 0, none⟩ 1 1 [Value.int .i64 t, Value.int .i64 x] (by rfl) (by rfl) hN5 (by simp [Value.oneCell']) (by omega) (by simp only [maxLen]; omega) (by omega) hB5.size _ rfl ?_; intro g6 cap6 w6 hown6 hg6 hat6 hlt6; have hB6 := hB5.trans (grown_below hown5 hg6 hB5.size))
              | (refine step_append_lies _ (by rfl) _ _ _ (by rfl) W9.heap.size 55 i0 _ 2 16 Try.underlying25 hi0 hz0 hz1 hz2 rfl (by omega) v5 k _ (by rfl) hown5 ⟨W9.heap.size, 0, none⟩ 1 1 [Value.int .i64 t, Value.int .i64 x] (by rfl) (by rfl) hN5 (by simp [Value.oneCell']) (by omega) (by simp only [maxLen]; omega) (by omega) hB5.size _ rfl ?_; intro g6 cap6 w6 hown6 hg6 hat6 hlt6; have hB6 := hB5.trans (grown_below hown5 hg6 hB5.size))
              | (refine step_append_rd _ (by rfl) _ _ _ (by rfl) W9.heap.size 55 i0 _ 2 16 Try.underlying25 hi0 hz0 hz1 hz2 rfl (by omega) _ (k + 1) _ (by rfl) hown6 _ _ (if c = k then some ⟨ab, ao, ap⟩ else some ((⟨ab, ao, ap⟩ : Addr).add (k * 2))) (n - (k)) (c - (k)) (fun i j => ints F (k + i) j) (by rfl) (hS2 _ hB6) (fun _ _ _ _ => rfl) (by simp only [maxLen]; omega) (by omega) hB6.size ?_; intro v7 w7 hown7 hg7 hat7; have hB7 := hB6.trans (grown_below hown6 hg7 hB6.size)))
            all_goals
              have hr7 : w7.ownsRow W9.heap.size 55 2 v7 (putL F n t) (rowL (ints (putS F n t x)) (putL F n t) 2) := by
                have h7 := hown7
                rw [HROW.out] at h7
                rwa [← HPL.out] at h7
              have hLn : putL F n t ≤ 1048576 := by have := HPL.out; omega
              have hbZ := gr hbW hB7
              clear hown7 HROW HPL hB7 hg7 hat7 hB6 hg6 hat6 hown6 hB5 hg5 hat5 hown5 l0 l1 HX1 HX2 HX3 HA1 HA2 HA3 HN2 HN3 hS1 hS2 q0W q1W
              obtain ⟨A7, c7, rfl, -⟩ := own_form hr7
              have hO7 := own_ow hr7
              clear hr7
              have hzz := hbW.size
              cases hq : sunsB (putS F n t x) (putL F n t)
              · have HK := hide (show putSunOk F n t x = false by simp [putSunOk, hq])
                have HN := hide (show putSunN F n t x = 0 by simp [putSunN, HK.out])
                have HQ := hide hq
                clear hq
                go_wp2_with (go_at_call 50; refine (l6Good_any _ _ _ _ _ hLn (hO7.sl.rd (Nat.le_refl _))).mono ?_; rintro _ w8 ⟨rfl, hb8⟩; rw [HQ.out])
                all_goals
                  refine bodyPost_ret (v := .tuple #[.slice (some ⟨w8.heap.size, 0, none⟩) 0 0, .bool false]) (by simp only [results, Try.results40]; go_simp) rfl ⟨some ⟨w8.heap.size, 0, none⟩, 0, by rw [HK.out, HN.out], by rw [HN.out]; exact Ow.nil _ _ _ _ _ _, (gr hbZ hb8).alloc (Below.size (gr hbZ hb8)) _⟩
              · have HK := hide (show putSunOk F n t x = true by simp [putSunOk, hq, HV.out])
                have HN := hide (show putSunN F n t x = putL F n t by simp [putSunN, HK.out])
                have HQ := hide hq
                clear hq
                go_wp2_with (go_at_call 50; refine (l6Good_any _ _ _ _ _ hLn (hO7.sl.rd (Nat.le_refl _))).mono ?_; rintro _ w8 ⟨rfl, hb8⟩; rw [HQ.out])
                all_goals
                  refine bodyPost_ret (v := .tuple #[.slice A7 (putL F n t) c7, .bool true]) (by simp only [results, Try.results40]; go_simp) rfl ⟨A7, c7, by rw [HK.out, HN.out], by rw [HN.out]; exact (hO7.below hb8 (Nat.le_refl _)).mono hzz hb8.size, gr hbZ hb8⟩
end Go.Proofs.Ytajmebclmippeaa
