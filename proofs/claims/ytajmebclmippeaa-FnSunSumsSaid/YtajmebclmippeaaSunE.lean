/-
  Contracts on suns and a brine: the brine after all suns of a span, of the program and of the reference. Conditions: lengths up to 2^20; valid suns, brine and area where the inner function is called.
-/
import Derived.Test.YtajmebclmippeaaSunD
namespace Go.Proofs.Ytajmebclmippeaa
open Go.RowKit

set_option maxHeartbeats 1000000 in
theorem afterSun_any (A : Option Addr) (n c : Nat) (F : Nat → Nat → Int) (x y area a b : Int) (w : World) (hn : n ≤ 1048576) (h : Rd w A n 2 (ints F)) (HV : Hid (sunsB F n = true)) (HB : Hid (brineB x y = true)) (ha : 1 ≤ area) (ha2 : area ≤ 100000) :
    Calls Try.prog 68 #[.slice A n c, .agg #[.int .i64 x, .int .i64 y], .int .i64 area, .int .i64 a, .int .i64 b] w fun e w' => e = .returned (.agg #[.int .i64 (afterW F area x y a b n), .int .i64 y]) ∧ Below w.heap.size w w' := by
  go_enter Try.func68, Try.ntmps68
  go_wp2
  have o1 := box2_new w 32 (.int .i64 x) (.int .i64 y)
  have o2 := box2_new (w.alloc (.cells #[.int .i64 x, .int .i64 y] 32)) 32 (.int .i64 0) (.int .i64 0)
  have o1' := o1.alloc (by simp) (.cells #[.int .i64 0, .int .i64 0] 32)
  have hb0 : Below w.heap.size w ((w.alloc (.cells #[.int .i64 x, .int .i64 y] 32)).alloc (.cells #[.int .i64 0, .int .i64 0] 32)) := ((Below.refl _ _).alloc (Nat.le_refl _) _).alloc (by simp) _
  have hs0 : w.heap.size + 1 < ((w.alloc (.cells #[.int .i64 x, .int .i64 y] 32)).alloc (.cells #[.int .i64 0, .int .i64 0] 32)).heap.size := by simp
  rw [World.size_alloc] at o2
  generalize (w.alloc (.cells #[.int .i64 x, .int .i64 y] 32)).alloc (.cells #[.int .i64 0, .int .i64 0] 32) = w1 at o1' o2 hb0 hs0 ⊢
  clear o1
  go_loopw [15] (fun i wr => ∃ k : Nat, k ≤ n ∧ i = .int .i64 k ∧ Ow wr w.heap.size (w.heap.size + 1) (some ⟨w.heap.size, 0, none⟩) 1 2 (fun _ j => #[.int .i64 (afterW F area x y a b k), .int .i64 y][j]!) ∧
     Ow wr (w.heap.size + 1) (w.heap.size + 1 + 1) (some ⟨w.heap.size + 1, 0, none⟩) 1 2 (fun _ j => #[.int .i64 0, .int .i64 0][j]!) ∧ w.heap.size + 1 < wr.heap.size ∧ Below w.heap.size w wr) (fun i _ => n - (intOf i).toNat)
  case atStart => exact ⟨0, by omega, rfl, o1', o2, hs0, hb0⟩
  case round =>
    obtain ⟨k, hk, rfl, p1, p2, hs, hb⟩ := hrel
    obtain ⟨b0, b1, b2, b3⟩ := box2 p1
    obtain ⟨r0, r1, r2, r3⟩ := box2 p2
    have hs' : w.heap.size < wr.heap.size := by omega
    by_cases hlt : k < n
    · obtain ⟨q, off, rfl, -, hbw, hc⟩ := Rd.below h hb (by omega)
      have hc0 := hc k 0 hlt (by omega)
      have hc1 := hc k 1 hlt (by omega)
      simp only [Nat.add_zero] at hc0 hc1
      clear hc r0 r1 r2 r3
      cases hd : inB (F k 0) a b
      · have HK := hide (show afterW F area x y a b (k + 1) = afterW F area x y a b k by simp [afterW, hd])
        go_wp2_with (first | (go_at_call 82; refine (within_any _ _ _ _).mono ?_; rintro _ _ ⟨rfl, rfl⟩))
        go_roundw
        case rel => exact ⟨k + 1, by omega, by go_num, by rw [HK.out]; exact p1.alloc (by omega) _, p2.alloc (by omega) _, by simp; omega, hb.alloc hb.size _⟩
        case measure => simp [intOf]; omega
      · have HK := hide (show afterW F area x y a b (k + 1) = afterW F area x y a b k - lossV (afterW F area x y a b k) y area (F k 1) by simp [afterW, hd])
        have hbk := afterW_brine (a := a) (b := b) HV.out HB.out ha ha2 k hk
        have hr := ((sunsB_at HV.out).2 k hlt).2.1
        generalize afterW F area x y a b k = W at p1 b0 HK hbk
        have hl := lossV_bd hbk ha ha2 hr.1 hr.2
        obtain ⟨⟨v1, v2⟩, v3, v4⟩ := brineB_true hbk
        have hbk := hide hbk
        go_wp2_with (first | (go_at_call 82; refine (within_any _ _ _ _).mono ?_; rintro _ _ ⟨rfl, rfl⟩))
        have hb_w2 : Below wr.heap.size wr (wr.alloc (.cells #[.int .i64 (F k 0), .int .i64 (F k 1)] 55)) := (Below.refl _ _).alloc (Nat.le_refl _) _
        have gc1_w2 : World.cell? (wr.alloc (.cells #[.int .i64 (F k 0), .int .i64 (F k 1)] 55)) ⟨w.heap.size, 0, none⟩ = some (.int .i64 W) := by go_simp
        have gc2_w2 : World.cell? (wr.alloc (.cells #[.int .i64 (F k 0), .int .i64 (F k 1)] 55)) ⟨w.heap.size, 1, none⟩ = some (.int .i64 y) := by go_simp
        have gf3_w2 : World.frozen? (wr.alloc (.cells #[.int .i64 (F k 0), .int .i64 (F k 1)] 55)) ⟨w.heap.size, 0, none⟩ = false := by go_simp
        have gc4_w2 : World.cell? (wr.alloc (.cells #[.int .i64 (F k 0), .int .i64 (F k 1)] 55)) ⟨wr.heap.size, 0, none⟩ = some (.int .i64 (F k 0)) := by go_simp
        have gc5_w2 : World.cell? (wr.alloc (.cells #[.int .i64 (F k 0), .int .i64 (F k 1)] 55)) ⟨wr.heap.size, 1, none⟩ = some (.int .i64 (F k 1)) := by go_simp
        have hz_w2 : wr.heap.size < (World.heap (wr.alloc (.cells #[.int .i64 (F k 0), .int .i64 (F k 1)] 55))).size := by simp
        generalize wr.alloc (.cells #[.int .i64 (F k 0), .int .i64 (F k 1)] 55) = w2 at hb_w2 gc1_w2 gc2_w2 gf3_w2 gc4_w2 gc5_w2 hz_w2 ⊢
        have hs2 : w.heap.size < w2.heap.size := by omega
        have hca := acell w2
        clear b0 b1 b2 b3
        refine region_after_tail 9 (by kernel_rfl) (by kernel_rfl) ?_
        simp only [List.take_succ_cons, List.take_zero, List.drop_succ_cons, List.drop_zero]
        repeat (go_big_quiet_step ((first | (go_at_call 61; exact Calls.after (loss_any _ _ _ _ _ hbk.out ha ha2 hr.1 hr.2)))))
        refine wpQuiet_nil ?_
        rintro _ ⟨z, rfl⟩
        go_wp2
        go_roundw
        case rel =>
          have hbz := gr hb_w2 z.h
          have hsz := hbz.size
          refine ⟨k + 1, by omega, by go_num, ?_, ?_, by simp; omega, ?_⟩
          · rw [HK.out]
            exact box2_set0 (p1.below hbz (by omega)) _
          · have := p2.below hbz (by omega)
            exact this.agr fun i h1 h2 => Below.heap_setCell _ _ _ _ (by simp; omega)
          · exact (gr hb hbz).setCell (p := ⟨w.heap.size, 0, none⟩) (by simp) _
        case measure => simp [intOf]; omega
    · obtain rfl : k = n := by omega
      go_wp2
      refine bodyPost_ret (v := .agg #[.int .i64 (afterW F area x y a b k), .int .i64 y]) (by simp only [results, Try.results68]; go_simp) rfl ⟨rfl, ?_⟩
      (repeat' (first | exact Below.refl _ _ | assumption | refine Below.drew ?_ | refine Below.alloc ?_ (by first | omega | exact Below.size (by assumption) | (simp; done) | (simp; omega)) _ | refine Below.setCell ?_ (by first | omega | exact Below.size (by assumption) | (simp; done) | (simp; omega)) _))
set_option maxHeartbeats 1000000 in
theorem l6After_any (A : Option Addr) (n c : Nat) (F : Nat → Nat → Int) (x y area a b : Int) (w : World) (hn : n ≤ 1048576) (h : Rd w A n 2 (ints F)) (HV : Hid (sunsB F n = true)) (HB : Hid (brineB x y = true)) (ha : 1 ≤ area) (ha2 : area ≤ 100000) :
    Calls Try.prog 71 #[.slice A n c, .agg #[.int .i64 x, .int .i64 y], .int .i64 area, .int .i64 a, .int .i64 b] w fun e w' => e = .returned (.agg #[.int .i64 (afterW F area x y a b n), .int .i64 y]) ∧ Below w.heap.size w w' := by
  go_enter Try.func71, Try.ntmps71
  go_wp2
  have o1 := box2_new w 32 (.int .i64 x) (.int .i64 y)
  have o2 := box2_new (w.alloc (.cells #[.int .i64 x, .int .i64 y] 32)) 32 (.int .i64 0) (.int .i64 0)
  have o1' := o1.alloc (by simp) (.cells #[.int .i64 0, .int .i64 0] 32)
  have hb0 : Below w.heap.size w ((w.alloc (.cells #[.int .i64 x, .int .i64 y] 32)).alloc (.cells #[.int .i64 0, .int .i64 0] 32)) := ((Below.refl _ _).alloc (Nat.le_refl _) _).alloc (by simp) _
  have hs0 : w.heap.size + 1 < ((w.alloc (.cells #[.int .i64 x, .int .i64 y] 32)).alloc (.cells #[.int .i64 0, .int .i64 0] 32)).heap.size := by simp
  rw [World.size_alloc] at o2
  generalize (w.alloc (.cells #[.int .i64 x, .int .i64 y] 32)).alloc (.cells #[.int .i64 0, .int .i64 0] 32) = w1 at o1' o2 hb0 hs0 ⊢
  clear o1
  go_loopw [11] (fun i wr => ∃ k : Nat, k ≤ n ∧ i = .int .i64 k ∧ Ow wr w.heap.size (w.heap.size + 1) (some ⟨w.heap.size, 0, none⟩) 1 2 (fun _ j => #[.int .i64 (afterW F area x y a b k), .int .i64 y][j]!) ∧
     Ow wr (w.heap.size + 1) (w.heap.size + 1 + 1) (some ⟨w.heap.size + 1, 0, none⟩) 1 2 (fun _ j => #[.int .i64 0, .int .i64 0][j]!) ∧ w.heap.size + 1 < wr.heap.size ∧ Below w.heap.size w wr) (fun i _ => n - (intOf i).toNat)
  case atStart => exact ⟨0, by omega, rfl, o1', o2, hs0, hb0⟩
  case round =>
    obtain ⟨k, hk, rfl, p1, p2, hs, hb⟩ := hrel
    obtain ⟨b0, b1, b2, b3⟩ := box2 p1
    obtain ⟨r0, r1, r2, r3⟩ := box2 p2
    have hs' : w.heap.size < wr.heap.size := by omega
    by_cases hlt : k < n
    · obtain ⟨q, off, rfl, -, hbw, hc⟩ := Rd.below h hb (by omega)
      have hc0 := hc k 0 hlt (by omega)
      have hc1 := hc k 1 hlt (by omega)
      simp only [Nat.add_zero] at hc0 hc1
      clear hc r0 r1 r2 r3
      cases hd : inB (F k 0) a b
      · have HK := hide (show afterW F area x y a b (k + 1) = afterW F area x y a b k by simp [afterW, hd])
        go_wp2_with (first | (go_at_call 80; refine (l1In_any _ _ _ _).mono ?_; rintro _ _ ⟨rfl, rfl⟩))
        go_roundw
        case rel => exact ⟨k + 1, by omega, by go_num, by rw [HK.out]; exact p1, p2, hs, hb⟩
        case measure => simp [intOf]; omega
      · have HK := hide (show afterW F area x y a b (k + 1) = afterW F area x y a b k - lossV (afterW F area x y a b k) y area (F k 1) by simp [afterW, hd])
        have hbk := afterW_brine (a := a) (b := b) HV.out HB.out ha ha2 k hk
        have hr := ((sunsB_at HV.out).2 k hlt).2.1
        generalize afterW F area x y a b k = W at p1 b0 HK hbk
        have hl := lossV_bd hbk ha ha2 hr.1 hr.2
        obtain ⟨⟨v1, v2⟩, v3, v4⟩ := brineB_true hbk
        have hbk := hide hbk
        go_wp2_with (first | (go_at_call 80; refine (l1In_any _ _ _ _).mono ?_; rintro _ _ ⟨rfl, rfl⟩))
        have hca := acell wr
        refine region_after_tail 14 (by kernel_rfl) (by kernel_rfl) ?_
        simp only [List.take_succ_cons, List.take_zero, List.drop_succ_cons, List.drop_zero]
        repeat (go_big_quiet_step ((first | (go_at_call 65; exact Calls.after (l6Loss_any _ _ _ _ _ hbk.out ha ha2 hr.1 hr.2)))))
        refine wpQuiet_nil ?_
        rintro _ ⟨z, rfl⟩
        go_wp2
        go_roundw
        case rel =>
          have hbz := z.h
          have hsz := hbz.size
          refine ⟨k + 1, by omega, by go_num, ?_, ?_, by simp; omega, ?_⟩
          · rw [HK.out]
            exact box2_set (p1.below hbz (by omega)) _ _
          · have := p2.below hbz (by omega)
            exact this.agr fun i h1 h2 => (Below.heap_setCell _ _ _ _ (by simp; omega)).trans (Below.heap_setCell _ _ _ _ (by simp; omega))
          · exact ((gr hb hbz).setCell (p := ⟨w.heap.size, 0, none⟩) (by simp) _).setCell (p := ⟨w.heap.size, 1, none⟩) (by simp) _
        case measure => simp [intOf]; omega
    · obtain rfl : k = n := by omega
      go_wp2
      refine bodyPost_ret (v := .agg #[.int .i64 (afterW F area x y a b k), .int .i64 y]) (by simp only [results, Try.results71]; go_simp) rfl ⟨rfl, ?_⟩
      (repeat' (first | exact Below.refl _ _ | assumption | refine Below.drew ?_ | refine Below.alloc ?_ (by first | omega | exact Below.size (by assumption) | (simp; done) | (simp; omega)) _ | refine Below.setCell ?_ (by first | omega | exact Below.size (by assumption) | (simp; done) | (simp; omega)) _))

set_option maxHeartbeats 1000000 in
theorem spec_AfterSun_any (A : Option Addr) (n c : Nat) (F : Nat → Nat → Int) (x y area a b : Int) (w : World) (hn : n ≤ 1048576) (h : Rd w A n 2 (ints F)) :
    Calls Try.prog 25 #[.slice A n c, .agg #[.int .i64 x, .int .i64 y], .int .i64 area, .int .i64 a, .int .i64 b] w fun e w' =>
      e = .returned (.tuple #[.agg #[.int .i64 (afterSunR F n x y area a b).1, .int .i64 (afterSunR F n x y area a b).2.1], .bool (afterSunR F n x y area a b).2.2]) ∧ Below w.heap.size w w' := by
  have h' : Rd ((w.alloc (.cells #[.int .i64 x, .int .i64 y] 32)).alloc (.cells #[.int .i64 0, .int .i64 0] 32)) A n 2 (ints F) := Rd.alloc (Rd.alloc h _) _
  have hb0 : Below w.heap.size w ((w.alloc (.cells #[.int .i64 x, .int .i64 y] 32)).alloc (.cells #[.int .i64 0, .int .i64 0] 32)) := ((Below.refl _ _).alloc (Nat.le_refl _) _).alloc (by simp) _
  have HU := hide (show afterSunR F n x y area a b = if askedB F n x y area && spanB a b then (afterW F area x y a b n, y, true) else (0, 0, false) from rfl)
  generalize afterSunR F n x y area a b = R at HU ⊢
  cases h1 : askedB F n x y area
  · obtain rfl : R = (0, 0, false) := by rw [HU.out, h1]; rfl
    go_enter Try.func25, Try.ntmps25
    go_wp2_with fail
    go_at_call 63
    refine (l6Asked_any _ _ _ _ _ _ _ _ hn h').mono ?_
    rintro _ w1 ⟨rfl, hb1⟩
    have hz1 : w.heap.size + 1 < w1.heap.size := by have := hb1.size; simp at this; omega
    have hy1 : w.heap.size < w1.heap.size := by omega
    have hc1 := bcell hb1
    have HW := gr hb0 hb1
    go_wp2
    refine bodyPost_ret (v := .tuple #[.agg #[.int .i64 0, .int .i64 0], .bool false]) (by simp only [results, Try.results25]; go_simp) rfl ⟨rfl, ?_⟩
    (repeat' (first | exact Below.refl _ _ | assumption | refine Below.drew ?_ | refine Below.alloc ?_ (by first | omega | exact Below.size (by assumption) | (simp; done) | (simp; omega)) _ | refine Below.setCell ?_ (by first | omega | exact Below.size (by assumption) | (simp; done) | (simp; omega)) _))
  · cases h2 : spanB a b
    · obtain rfl : R = (0, 0, false) := by rw [HU.out, h2]; simp
      go_enter Try.func25, Try.ntmps25
      go_wp2_with fail
      go_at_call 63
      refine (l6Asked_any _ _ _ _ _ _ _ _ hn h').mono ?_
      rintro _ w1 ⟨rfl, hb1⟩
      have hz1 : w.heap.size + 1 < w1.heap.size := by have := hb1.size; simp at this; omega
      have hy1 : w.heap.size < w1.heap.size := by omega
      have hc1 := bcell hb1
      have HW := gr hb0 hb1
      go_wp2_with fail
      go_at_call 70
      refine (l6Span_any _ _ _).mono ?_
      rintro _ _ ⟨rfl, rfl⟩
      go_wp2
      refine bodyPost_ret (v := .tuple #[.agg #[.int .i64 0, .int .i64 0], .bool false]) (by simp only [results, Try.results25]; go_simp) rfl ⟨rfl, ?_⟩
      (repeat' (first | exact Below.refl _ _ | assumption | refine Below.drew ?_ | refine Below.alloc ?_ (by first | omega | exact Below.size (by assumption) | (simp; done) | (simp; omega)) _ | refine Below.setCell ?_ (by first | omega | exact Below.size (by assumption) | (simp; done) | (simp; omega)) _))
    · obtain rfl : R = (afterW F area x y a b n, y, true) := by rw [HU.out, h1, h2]; rfl
      obtain ⟨g1, g2, -, g4, g5⟩ := askedB_true h1
      have HV := hide g1
      have HB := hide g2
      clear g1 g2
      go_enter Try.func25, Try.ntmps25
      go_wp2_with fail
      go_at_call 63
      refine (l6Asked_any _ _ _ _ _ _ _ _ hn h').mono ?_
      rintro _ w1 ⟨rfl, hb1⟩
      have hz1 : w.heap.size + 1 < w1.heap.size := by have := hb1.size; simp at this; omega
      have hy1 : w.heap.size < w1.heap.size := by omega
      have hc1 := bcell hb1
      have HW := gr hb0 hb1
      go_wp2_with fail
      go_at_call 70
      refine (l6Span_any _ _ _).mono ?_
      rintro _ _ ⟨rfl, rfl⟩
      go_wp2_with fail
      go_at_call 71
      refine (l6After_any _ _ _ _ _ _ _ _ _ _ hn (Rd.below h' hb1) HV HB g4 g5).mono ?_
      rintro _ w2 ⟨rfl, hb2⟩
      have hz2 : w.heap.size + 1 < w2.heap.size := by have := hb2.size; omega
      have hc2 := bcell hb2
      have HW2 := gr HW hb2
      go_wp2
      refine bodyPost_ret (v := .tuple #[.agg #[.int .i64 (afterW F area x y a b n), .int .i64 y], .bool true]) (by simp only [results, Try.results25]; go_simp) rfl ⟨rfl, ?_⟩
      (repeat' (first | exact Below.refl _ _ | assumption | refine Below.drew ?_ | refine Below.alloc ?_ (by first | omega | exact Below.size (by assumption) | (simp; done) | (simp; omega)) _ | refine Below.setCell ?_ (by first | omega | exact Below.size (by assumption) | (simp; done) | (simp; omega)) _))
set_option maxHeartbeats 1000000 in
theorem AfterSun_any (A : Option Addr) (n c : Nat) (F : Nat → Nat → Int) (x y area a b : Int) (w : World) (hn : n ≤ 1048576) (h : Rd w A n 2 (ints F)) :
    Calls Try.prog 23 #[.slice A n c, .agg #[.int .i64 x, .int .i64 y], .int .i64 area, .int .i64 a, .int .i64 b] w fun e w' =>
      e = .returned (.tuple #[.agg #[.int .i64 (afterSunR F n x y area a b).1, .int .i64 (afterSunR F n x y area a b).2.1], .bool (afterSunR F n x y area a b).2.2]) ∧ Below w.heap.size w w' := by
  have h' : Rd ((w.alloc (.cells #[.int .i64 x, .int .i64 y] 32)).alloc (.cells #[.int .i64 0, .int .i64 0] 32)) A n 2 (ints F) := Rd.alloc (Rd.alloc h _) _
  have hb0 : Below w.heap.size w ((w.alloc (.cells #[.int .i64 x, .int .i64 y] 32)).alloc (.cells #[.int .i64 0, .int .i64 0] 32)) := ((Below.refl _ _).alloc (Nat.le_refl _) _).alloc (by simp) _
  have HU := hide (show afterSunR F n x y area a b = if askedB F n x y area && spanB a b then (afterW F area x y a b n, y, true) else (0, 0, false) from rfl)
  generalize afterSunR F n x y area a b = R at HU ⊢
  cases h1 : askedB F n x y area
  · obtain rfl : R = (0, 0, false) := by rw [HU.out, h1]; rfl
    go_enter Try.func23, Try.ntmps23
    go_wp2_with fail
    go_at_call 60
    refine (isOnArea_any _ _ _ _ _ _ _ _ hn h').mono ?_
    rintro _ w1 ⟨rfl, hb1⟩
    have hz1 : w.heap.size + 1 < w1.heap.size := by have := hb1.size; simp at this; omega
    have hy1 : w.heap.size < w1.heap.size := by omega
    have hc1 := bcell hb1
    have HW := gr hb0 hb1
    go_wp2
    refine bodyPost_ret (v := .tuple #[.agg #[.int .i64 0, .int .i64 0], .bool false]) (by simp only [results, Try.results23]; go_simp) rfl ⟨rfl, ?_⟩
    (repeat' (first | exact Below.refl _ _ | assumption | refine Below.drew ?_ | refine Below.alloc ?_ (by first | omega | exact Below.size (by assumption) | (simp; done) | (simp; omega)) _ | refine Below.setCell ?_ (by first | omega | exact Below.size (by assumption) | (simp; done) | (simp; omega)) _))
  · cases h2 : spanB a b
    · obtain rfl : R = (0, 0, false) := by rw [HU.out, h2]; simp
      go_enter Try.func23, Try.ntmps23
      go_wp2_with fail
      go_at_call 60
      refine (isOnArea_any _ _ _ _ _ _ _ _ hn h').mono ?_
      rintro _ w1 ⟨rfl, hb1⟩
      have hz1 : w.heap.size + 1 < w1.heap.size := by have := hb1.size; simp at this; omega
      have hy1 : w.heap.size < w1.heap.size := by omega
      have hc1 := bcell hb1
      have HW := gr hb0 hb1
      go_wp2_with fail
      go_at_call 67
      refine (areDays_any _ _ _).mono ?_
      rintro _ _ ⟨rfl, rfl⟩
      go_wp2
      refine bodyPost_ret (v := .tuple #[.agg #[.int .i64 0, .int .i64 0], .bool false]) (by simp only [results, Try.results23]; go_simp) rfl ⟨rfl, ?_⟩
      (repeat' (first | exact Below.refl _ _ | assumption | refine Below.drew ?_ | refine Below.alloc ?_ (by first | omega | exact Below.size (by assumption) | (simp; done) | (simp; omega)) _ | refine Below.setCell ?_ (by first | omega | exact Below.size (by assumption) | (simp; done) | (simp; omega)) _))
    · obtain rfl : R = (afterW F area x y a b n, y, true) := by rw [HU.out, h1, h2]; rfl
      obtain ⟨g1, g2, -, g4, g5⟩ := askedB_true h1
      have HV := hide g1
      have HB := hide g2
      clear g1 g2
      go_enter Try.func23, Try.ntmps23
      go_wp2_with fail
      go_at_call 60
      refine (isOnArea_any _ _ _ _ _ _ _ _ hn h').mono ?_
      rintro _ w1 ⟨rfl, hb1⟩
      have hz1 : w.heap.size + 1 < w1.heap.size := by have := hb1.size; simp at this; omega
      have hy1 : w.heap.size < w1.heap.size := by omega
      have hc1 := bcell hb1
      have HW := gr hb0 hb1
      go_wp2_with fail
      go_at_call 67
      refine (areDays_any _ _ _).mono ?_
      rintro _ _ ⟨rfl, rfl⟩
      go_wp2_with fail
      go_at_call 68
      refine (afterSun_any _ _ _ _ _ _ _ _ _ _ hn (Rd.below h' hb1) HV HB g4 g5).mono ?_
      rintro _ w2 ⟨rfl, hb2⟩
      have hz2 : w.heap.size + 1 < w2.heap.size := by have := hb2.size; omega
      have hc2 := bcell hb2
      have HW2 := gr HW hb2
      go_wp2
      refine bodyPost_ret (v := .tuple #[.agg #[.int .i64 (afterW F area x y a b n), .int .i64 y], .bool true]) (by simp only [results, Try.results23]; go_simp) rfl ⟨rfl, ?_⟩
      (repeat' (first | exact Below.refl _ _ | assumption | refine Below.drew ?_ | refine Below.alloc ?_ (by first | omega | exact Below.size (by assumption) | (simp; done) | (simp; omega)) _ | refine Below.setCell ?_ (by first | omega | exact Below.size (by assumption) | (simp; done) | (simp; omega)) _))
end Go.Proofs.Ytajmebclmippeaa
