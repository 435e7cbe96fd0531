/-
  The law FnExactPutSun: for all arguments the program's PutSun returns what the reference's returns. Conditions: none.
-/
import Derived.Test.YtajmebclmippeaaPsE
import Derived.Test.YtajmebclmippeaaPsF
import Derived.Test.YtajmebclmippeaaPsM
import Derived.Test.YtajmebclmippeaaOpen
import Derived.Test.YtajmebclmippeaaLaid
namespace Go.Proofs.Ytajmebclmippeaa
open Go.ChangeShapes Go.WideShapes Go.ChangeAt Go.RowKit
attribute [local go_sem ↓] Go.wp_at_zero Go.wp_at_succ

theorem putN_bd {F : Nat → Nat → Int} {n : Nat} {t x : Int} (_hn : n ≤ 1048576) : putSunN F n t x ≤ 1048576 := by
  unfold putSunN
  cases h : putSunOk F n t x
  · simp
  · simp only [putSunOk, Bool.and_eq_true] at h
    have := (sunsB_at h.2).1
    simp only [if_true]
    omega
set_option maxRecDepth 20000 in
set_option maxHeartbeats 4000000 in
theorem law_PutSun (a0 : Option Addr) (l0 c0 : Nat) (F0 : Nat → Nat → Int) (x1 y1 : Int) (w : World) (hm0 : l0 ≤ maxLen) (w0 : Rd w a0 l0 2 (ints F0)) :
    Calls Try.prog 12 #[.slice a0 l0 c0, .agg #[.int .i64 x1, .int .i64 y1]] w fun e w' => e = .returned (.bool true) ∧ Below w.heap.size w w' := by
  have hn0 : l0 ≤ 9223372036854775807 := by simpa [maxLen] using hm0
  clear hm0
  by_cases hbig0 : (l0 : Int) ≤ 1048576
  rotate_left
  · have hsz0 : szR (1048576) l0 = -1 := by unfold szR; rw [if_pos (by omega)]
    go_enter Try.func12, Try.ntmps12
    go_wp2_with fail
    go_at_call 14
    refine (szSunS_any _ _ _ _ _ hn0 (by omega) (by omega)).mono ?_
    rintro _ _ ⟨rfl, rfl⟩
    go_wp2
    go_ret
    exact ⟨rfl, (by (repeat' (first | exact Below.refl _ _ | assumption | refine Below.drew ?_ | refine Below.alloc ?_ (by first | omega | exact Below.size (by assumption) | (simp; done) | (simp; omega)) _ | refine Below.setCell ?_ (by first | omega | exact Below.size (by assumption) | (simp; done) | (simp; omega)) _)))⟩
  have hsz0 : szR (1048576) l0 = 1048576 - l0 := by unfold szR; rw [if_neg (by omega)]
  have hnn0 : l0 ≤ 1048576 := by omega
  have hnR : putSunN F0 l0 x1 y1 ≤ 1048576 := (putN_bd hnn0)
  go_enter Try.func12, Try.ntmps12
  go_wp2_with fail
  go_at_call 14
  refine (szSunS_any _ _ _ _ _ hn0 (by omega) (by omega)).mono ?_
  rintro _ _ ⟨rfl, rfl⟩
  have hbA := Below.refl w.heap.size w
  go_upto_region 5 with fail
  have hb1 : Below w.heap.size w (w.alloc (.cells #[.int .i64 x1, .int .i64 y1] 52)) := (Below.refl _ _).alloc (Nat.le_refl _) _
  have bx0 : World.cell? (w.alloc (.cells #[.int .i64 x1, .int .i64 y1] 52)) ⟨w.heap.size, 0, none⟩ = some (.int .i64 x1) := by rw [World.cell?_alloc_new]; rfl
  have bx1 : World.cell? (w.alloc (.cells #[.int .i64 x1, .int .i64 y1] 52)) ⟨w.heap.size, 1, none⟩ = some (.int .i64 y1) := by rw [World.cell?_alloc_new]; rfl
  have hsB : (w.alloc (.cells #[.int .i64 x1, .int .i64 y1] 52)).heap.size = w.heap.size + 1 := by simp
  generalize w.alloc (.cells #[.int .i64 x1, .int .i64 y1] 52) = wd1 at hb1 bx0 bx1 hsB ⊢
  have hs1 := hb1.size
  replace w0 := w0.agr (Below.agr hb1 (by omega))
  replace hbA := hbA.trans (hb1.mono (by omega))
  clear hb1
  have hs1 : w.heap.size + 1 ≤ wd1.heap.size := by omega
  clear hsB
  have ha0 : ∀ w', Below wd1.heap.size wd1 w' → w'.cell? ⟨w.heap.size, 0, none⟩ = some (.int .i64 x1) := fun w' hb => (hb.cell (p := ⟨w.heap.size, 0, none⟩) (by show w.heap.size < _; omega)).trans bx0
  have ha1 : ∀ w', Below wd1.heap.size wd1 w' → w'.cell? ⟨w.heap.size, 1, none⟩ = some (.int .i64 y1) := fun w' hb => (hb.cell (p := ⟨w.heap.size, 1, none⟩) (by show w.heap.size < _; omega)).trans bx1
  have hrd : Rd wd1 a0 l0 2 (ints F0) := Sl.mono w0 (Nat.zero_le _) (by omega)
  go_cut [6, 7] (fun s t wx => ∃ A c, s = .slice A (putSunN F0 l0 x1 y1) c ∧ t = .bool (putSunOk F0 l0 x1 y1) ∧ Ow wx wd1.heap.size wx.heap.size A (putSunN F0 l0 x1 y1) 2 (ints (putS F0 l0 x1 y1)) ∧ Below wd1.heap.size wd1 wx)
  case first =>
    go_region_held3 (fun w' => Below wd1.heap.size wd1 w') ((repeat' (first | exact Below.refl _ _ | assumption | refine Below.drew ?_ | refine Below.alloc ?_ (by first | omega | exact Below.size (by assumption) | (simp; done) | (simp; omega)) _ | refine Below.setCell ?_ (by first | omega | exact Below.size (by assumption) | (simp; done) | (simp; omega)) _))) (first | (go_at_call 16; refine (toSunS_any _ _ _ _ _ hnn0 (Rd.below hrd (by assumption))).mono ?_; rintro _ v1 ⟨g1, rfl, o1, hbv1⟩; have B1 := gr (by assumption : Below wd1.heap.size wd1 _) hbv1; have sv1 := hbv1.size; (try simp at sv1); have qv1 := bcell hbv1; have r_1 := Sl.rd o1.sl (Nat.le_refl _); clear o1) | (go_at_call 41; refine (toSun_any _ _ _).mono ?_; rintro _ v2 ⟨rfl, hbv2⟩; have B2 := gr (by assumption : Below wd1.heap.size wd1 _) hbv2; have sv2 := hbv2.size; (try simp at sv2); have qv2 := bcell hbv2; have r_2 := Rd.below (by first | exact r_1 | exact Rd.alloc r_1 _) hbv2; clear r_1) | (go_at_call 40; refine (spec_PutSun_any _ _ _ _ _ _ _ hnn0 (Nat.le_refl _) (by first | exact r_2 | exact Rd.alloc r_2 _)).mono ?_; rintro _ v3 ⟨A3, c3, rfl, o3, hbv3⟩; have B3 := gr (by assumption : Below wd1.heap.size wd1 _) hbv3; have sv3 := hbv3.size; (try simp at sv3); have qv3 := bcell hbv3))
    all_goals
      go_wp2_with fail
      go_meet
      exact ⟨A3, c3, rfl, rfl, o3.mono (by first | omega | (have := B2.size; omega)) (Nat.le_refl _), B3⟩
  case rest =>
    clear ha0 ha1 hrd
    obtain ⟨Arw, crw, rfl, rfl, rw, hb2⟩ := hcut
    obtain ⟨wd2, rfl⟩ : ∃ x, x = wc := ⟨_, rfl⟩
    have hs2 := hb2.size
    replace w0 := w0.agr (Below.agr hb2 (by omega))
    replace bx0 := (Agr.cell (Below.agr (lo := w.heap.size) (hi := w.heap.size + 1) hb2 (by omega)) (p := ⟨w.heap.size, 0, none⟩) (Nat.le_refl _) (Nat.lt_succ_self _)).trans bx0
    replace bx1 := (Agr.cell (Below.agr (lo := w.heap.size) (hi := w.heap.size + 1) hb2 (by omega)) (p := ⟨w.heap.size, 1, none⟩) (Nat.le_refl _) (Nat.lt_succ_self _)).trans bx1
    replace hbA := hbA.trans (hb2.mono (by omega))
    clear hb2
    go_wp2_with fail
    go_at_call 16
    refine (toSunS_any _ _ _ _ _ hnn0 (Sl.mono w0 (Nat.zero_le _) (by omega))).mono ?_
    rintro _ wd3 ⟨gi0, rfl, i0, hb3⟩
    have hs3 := hb3.size
    replace w0 := w0.agr (Below.agr hb3 (by omega))
    replace rw := rw.agr (Below.agr hb3 (by omega))
    replace bx0 := (Agr.cell (Below.agr (lo := w.heap.size) (hi := w.heap.size + 1) hb3 (by omega)) (p := ⟨w.heap.size, 0, none⟩) (Nat.le_refl _) (Nat.lt_succ_self _)).trans bx0
    replace bx1 := (Agr.cell (Below.agr (lo := w.heap.size) (hi := w.heap.size + 1) hb3 (by omega)) (p := ⟨w.heap.size, 1, none⟩) (Nat.le_refl _) (Nat.lt_succ_self _)).trans bx1
    replace hbA := hbA.trans (hb3.mono (by omega))
    clear hb3
    go_wp2_with fail
    go_at_call 41
    refine (toSun_any _ _ _).mono ?_
    rintro _ wd4 ⟨rfl, hb4⟩
    have hs4 := hb4.size
    replace w0 := w0.agr (Below.agr hb4 (by omega))
    replace rw := rw.agr (Below.agr hb4 (by omega))
    replace i0 := i0.agr (Below.agr hb4 (by omega))
    replace bx0 := (Agr.cell (Below.agr (lo := w.heap.size) (hi := w.heap.size + 1) hb4 (by omega)) (p := ⟨w.heap.size, 0, none⟩) (Nat.le_refl _) (Nat.lt_succ_self _)).trans bx0
    replace bx1 := (Agr.cell (Below.agr (lo := w.heap.size) (hi := w.heap.size + 1) hb4 (by omega)) (p := ⟨w.heap.size, 1, none⟩) (Nat.le_refl _) (Nat.lt_succ_self _)).trans bx1
    replace hbA := hbA.trans (hb4.mono (by omega))
    clear hb4
    go_wp2_with fail
    go_at_call 42
    refine (PutSun_any _ _ _ _ _ _ _ hnn0 (Sl.mono i0.sl (Nat.zero_le _) (by omega))).mono ?_
    rintro _ wd5 ⟨Arg, crg, rfl, rg, hb5⟩
    have hs5 := hb5.size
    replace w0 := w0.agr (Below.agr hb5 (by omega))
    replace rw := rw.agr (Below.agr hb5 (by omega))
    replace i0 := i0.agr (Below.agr hb5 (by omega))
    replace bx0 := (Agr.cell (Below.agr (lo := w.heap.size) (hi := w.heap.size + 1) hb5 (by omega)) (p := ⟨w.heap.size, 0, none⟩) (Nat.le_refl _) (Nat.lt_succ_self _)).trans bx0
    replace bx1 := (Agr.cell (Below.agr (lo := w.heap.size) (hi := w.heap.size + 1) hb5 (by omega)) (p := ⟨w.heap.size, 1, none⟩) (Nat.le_refl _) (Nat.lt_succ_self _)).trans bx1
    replace hbA := hbA.trans (hb5.mono (by omega))
    clear hb5
    go_wp2_with fail
    go_at_call 18
    refine (eqSunS_yes _ _ _ _ _ _ _ hnR (Sl.mono rg.sl (Nat.zero_le _) (by omega)) (Sl.mono rw.sl (Nat.zero_le _) (by omega))).mono ?_
    rintro _ wd6 ⟨rfl, hb6⟩
    have hs6 := hb6.size
    replace w0 := w0.agr (Below.agr hb6 (by omega))
    replace rw := rw.agr (Below.agr hb6 (by omega))
    replace i0 := i0.agr (Below.agr hb6 (by omega))
    replace rg := rg.agr (Below.agr hb6 (by omega))
    replace bx0 := (Agr.cell (Below.agr (lo := w.heap.size) (hi := w.heap.size + 1) hb6 (by omega)) (p := ⟨w.heap.size, 0, none⟩) (Nat.le_refl _) (Nat.lt_succ_self _)).trans bx0
    replace bx1 := (Agr.cell (Below.agr (lo := w.heap.size) (hi := w.heap.size + 1) hb6 (by omega)) (p := ⟨w.heap.size, 1, none⟩) (Nat.le_refl _) (Nat.lt_succ_self _)).trans bx1
    replace hbA := hbA.trans (hb6.mono (by omega))
    clear hb6
    go_wp2_with fail
    go_at_call 16
    refine (toSunS_any _ _ _ _ _ hnn0 (Sl.mono w0 (Nat.zero_le _) (by omega))).mono ?_
    rintro _ wd7 ⟨ge0, rfl, e0, hb7⟩
    have hs7 := hb7.size
    replace w0 := w0.agr (Below.agr hb7 (by omega))
    replace rw := rw.agr (Below.agr hb7 (by omega))
    replace i0 := i0.agr (Below.agr hb7 (by omega))
    replace rg := rg.agr (Below.agr hb7 (by omega))
    replace bx0 := (Agr.cell (Below.agr (lo := w.heap.size) (hi := w.heap.size + 1) hb7 (by omega)) (p := ⟨w.heap.size, 0, none⟩) (Nat.le_refl _) (Nat.lt_succ_self _)).trans bx0
    replace bx1 := (Agr.cell (Below.agr (lo := w.heap.size) (hi := w.heap.size + 1) hb7 (by omega)) (p := ⟨w.heap.size, 1, none⟩) (Nat.le_refl _) (Nat.lt_succ_self _)).trans bx1
    replace hbA := hbA.trans (hb7.mono (by omega))
    clear hb7
    go_wp2_with fail
    go_at_call 18
    refine (eqSunS_yes _ _ _ _ _ _ _ hnn0 (Sl.mono i0.sl (Nat.zero_le _) (by omega)) (Sl.mono e0.sl (Nat.zero_le _) (by omega))).mono ?_
    rintro _ wd8 ⟨rfl, hb8⟩
    have hs8 := hb8.size
    replace w0 := w0.agr (Below.agr hb8 (by omega))
    replace rw := rw.agr (Below.agr hb8 (by omega))
    replace i0 := i0.agr (Below.agr hb8 (by omega))
    replace rg := rg.agr (Below.agr hb8 (by omega))
    replace e0 := e0.agr (Below.agr hb8 (by omega))
    replace bx0 := (Agr.cell (Below.agr (lo := w.heap.size) (hi := w.heap.size + 1) hb8 (by omega)) (p := ⟨w.heap.size, 0, none⟩) (Nat.le_refl _) (Nat.lt_succ_self _)).trans bx0
    replace bx1 := (Agr.cell (Below.agr (lo := w.heap.size) (hi := w.heap.size + 1) hb8 (by omega)) (p := ⟨w.heap.size, 1, none⟩) (Nat.le_refl _) (Nat.lt_succ_self _)).trans bx1
    replace hbA := hbA.trans (hb8.mono (by omega))
    clear hb8
    clear e0
    go_wp2_with fail
    go_at_call 43
    refine (markSunS_any _ _ _ _ _ _ _ _ hnn0 (by omega) (by omega) (by omega) i0).mono ?_
    rintro _ wd9 ⟨rfl, ht9, -⟩
    clear i0
    have hs9 := ht9.size
    replace w0 := w0.agr (Tch.agr ht9 (by omega) (by omega))
    replace rw := rw.agr (Tch.agr ht9 (by omega) (by omega))
    replace rg := rg.agr (Tch.agr ht9 (by omega) (by omega))
    replace bx0 := (Agr.cell (Tch.agr (l := w.heap.size) (h := w.heap.size + 1) ht9 (by omega) (by omega)) (p := ⟨w.heap.size, 0, none⟩) (Nat.le_refl _) (Nat.lt_succ_self _)).trans bx0
    replace bx1 := (Agr.cell (Tch.agr (l := w.heap.size) (h := w.heap.size + 1) ht9 (by omega) (by omega)) (p := ⟨w.heap.size, 1, none⟩) (Nat.le_refl _) (Nat.lt_succ_self _)).trans bx1
    replace hbA := hbA.trans (ht9.below (by omega) (by omega))
    clear ht9
    skip
    go_wp2_with fail
    go_at_call 18
    refine (eqSunS_yes _ _ _ _ _ _ _ hnR (Sl.mono rg.sl (Nat.zero_le _) (by omega)) (Sl.mono rw.sl (Nat.zero_le _) (by omega))).mono ?_
    rintro _ wd10 ⟨rfl, hb10⟩
    have hs10 := hb10.size
    replace w0 := w0.agr (Below.agr hb10 (by omega))
    replace rw := rw.agr (Below.agr hb10 (by omega))
    replace rg := rg.agr (Below.agr hb10 (by omega))
    replace bx0 := (Agr.cell (Below.agr (lo := w.heap.size) (hi := w.heap.size + 1) hb10 (by omega)) (p := ⟨w.heap.size, 0, none⟩) (Nat.le_refl _) (Nat.lt_succ_self _)).trans bx0
    replace bx1 := (Agr.cell (Below.agr (lo := w.heap.size) (hi := w.heap.size + 1) hb10 (by omega)) (p := ⟨w.heap.size, 1, none⟩) (Nat.le_refl _) (Nat.lt_succ_self _)).trans bx1
    replace hbA := hbA.trans (hb10.mono (by omega))
    clear hb10
    go_wp2_with fail
    go_at_call 43
    refine (markSunS_any _ _ _ _ _ _ _ _ hnR (by omega) (by omega) (by omega) rg).mono ?_
    rintro _ wd11 ⟨rfl, ht11, rgm⟩
    clear rg
    have hs11 := ht11.size
    replace w0 := w0.agr (Tch.agr ht11 (by omega) (by omega))
    replace rw := rw.agr (Tch.agr ht11 (by omega) (by omega))
    replace bx0 := (Agr.cell (Tch.agr (l := w.heap.size) (h := w.heap.size + 1) ht11 (by omega) (by omega)) (p := ⟨w.heap.size, 0, none⟩) (Nat.le_refl _) (Nat.lt_succ_self _)).trans bx0
    replace bx1 := (Agr.cell (Tch.agr (l := w.heap.size) (h := w.heap.size + 1) ht11 (by omega) (by omega)) (p := ⟨w.heap.size, 1, none⟩) (Nat.le_refl _) (Nat.lt_succ_self _)).trans bx1
    replace hbA := hbA.trans (ht11.below (by omega) (by omega))
    clear ht11
    go_wp2_with fail
    go_at_call 44
    refine (heldSunS_any _ _ _ _ _ hnR (by omega) (by omega) (Sl.mono rgm.sl (Nat.zero_le _) (by omega))).mono ?_
    rintro _ _ ⟨rfl, rfl⟩
    go_upto_region 24 with fail
    have ha0 : ∀ w', Below wd11.heap.size wd11 w' → w'.cell? ⟨w.heap.size, 0, none⟩ = some (.int .i64 x1) := fun w' hb => (hb.cell (p := ⟨w.heap.size, 0, none⟩) (by show w.heap.size < _; omega)).trans bx0
    have ha1 : ∀ w', Below wd11.heap.size wd11 w' → w'.cell? ⟨w.heap.size, 1, none⟩ = some (.int .i64 y1) := fun w' hb => (hb.cell (p := ⟨w.heap.size, 1, none⟩) (by show w.heap.size < _; omega)).trans bx1
    have hrd : Rd wd11 a0 l0 2 (ints F0) := Sl.mono w0 (Nat.zero_le _) (by omega)
    go_cut [14, 15] (fun s t wx => ∃ A c, s = .slice A (putSunN F0 l0 x1 y1) c ∧ t = .bool (putSunOk F0 l0 x1 y1) ∧ Ow wx wd11.heap.size wx.heap.size A (putSunN F0 l0 x1 y1) 2 (ints (putS F0 l0 x1 y1)) ∧ Below wd11.heap.size wd11 wx)
    case first =>
      go_region_held3 (fun w' => Below wd11.heap.size wd11 w') ((repeat' (first | exact Below.refl _ _ | assumption | refine Below.drew ?_ | refine Below.alloc ?_ (by first | omega | exact Below.size (by assumption) | (simp; done) | (simp; omega)) _ | refine Below.setCell ?_ (by first | omega | exact Below.size (by assumption) | (simp; done) | (simp; omega)) _))) (first | (go_at_call 16; refine (toSunS_any _ _ _ _ _ hnn0 (Rd.below hrd (by assumption))).mono ?_; rintro _ v1 ⟨g1, rfl, o1, hbv1⟩; have B1 := gr (by assumption : Below wd11.heap.size wd11 _) hbv1; have sv1 := hbv1.size; (try simp at sv1); have qv1 := bcell hbv1; have r_1 := Sl.rd o1.sl (Nat.le_refl _); clear o1) | (go_at_call 41; refine (toSun_any _ _ _).mono ?_; rintro _ v2 ⟨rfl, hbv2⟩; have B2 := gr (by assumption : Below wd11.heap.size wd11 _) hbv2; have sv2 := hbv2.size; (try simp at sv2); have qv2 := bcell hbv2; have r_2 := Rd.below (by first | exact r_1 | exact Rd.alloc r_1 _) hbv2; clear r_1) | (go_at_call 42; refine (PutSun_any _ _ _ _ _ _ _ hnn0 (by first | exact r_2 | exact Rd.alloc r_2 _)).mono ?_; rintro _ v3 ⟨A3, c3, rfl, o3, hbv3⟩; have B3 := gr (by assumption : Below wd11.heap.size wd11 _) hbv3; have sv3 := hbv3.size; (try simp at sv3); have qv3 := bcell hbv3))
      all_goals
        go_wp2_with fail
        go_meet
        exact ⟨A3, c3, rfl, rfl, o3.mono (by first | omega | (have := B2.size; omega)) (Nat.le_refl _), B3⟩
    case rest =>
      clear ha0 ha1 hrd
      obtain ⟨Arh, crh, rfl, rfl, rh, hb12⟩ := hcut
      obtain ⟨wd12, rfl⟩ : ∃ x, x = wc := ⟨_, rfl⟩
      have hs12 := hb12.size
      replace w0 := w0.agr (Below.agr hb12 (by omega))
      replace rw := rw.agr (Below.agr hb12 (by omega))
      replace rgm := rgm.agr (Below.agr hb12 (by omega))
      replace bx0 := (Agr.cell (Below.agr (lo := w.heap.size) (hi := w.heap.size + 1) hb12 (by omega)) (p := ⟨w.heap.size, 0, none⟩) (Nat.le_refl _) (Nat.lt_succ_self _)).trans bx0
      replace bx1 := (Agr.cell (Below.agr (lo := w.heap.size) (hi := w.heap.size + 1) hb12 (by omega)) (p := ⟨w.heap.size, 1, none⟩) (Nat.le_refl _) (Nat.lt_succ_self _)).trans bx1
      replace hbA := hbA.trans (hb12.mono (by omega))
      clear hb12
      go_wp2_with fail
      go_at_call 18
      refine (eqSunS_yes _ _ _ _ _ _ _ hnR (Sl.mono rh.sl (Nat.zero_le _) (by omega)) (Sl.mono rw.sl (Nat.zero_le _) (by omega))).mono ?_
      rintro _ wd13 ⟨rfl, hb13⟩
      have hs13 := hb13.size
      replace w0 := w0.agr (Below.agr hb13 (by omega))
      replace rw := rw.agr (Below.agr hb13 (by omega))
      replace rgm := rgm.agr (Below.agr hb13 (by omega))
      replace rh := rh.agr (Below.agr hb13 (by omega))
      replace bx0 := (Agr.cell (Below.agr (lo := w.heap.size) (hi := w.heap.size + 1) hb13 (by omega)) (p := ⟨w.heap.size, 0, none⟩) (Nat.le_refl _) (Nat.lt_succ_self _)).trans bx0
      replace bx1 := (Agr.cell (Below.agr (lo := w.heap.size) (hi := w.heap.size + 1) hb13 (by omega)) (p := ⟨w.heap.size, 1, none⟩) (Nat.le_refl _) (Nat.lt_succ_self _)).trans bx1
      replace hbA := hbA.trans (hb13.mono (by omega))
      clear hb13
      clear rh rw
      go_wp2_with fail
      go_at_call 44
      refine (heldSunS_any _ _ _ _ _ hnR (by omega) (by omega) (Sl.mono rgm.sl (Nat.zero_le _) (by omega))).mono ?_
      rintro _ _ ⟨rfl, rfl⟩
      go_wp2
      go_ret
      exact ⟨rfl, hbA⟩

namespace fnExactPutSun
set_option maxRecDepth 100000 in
theorem lifted (os : Os) (started : os.Started) (H : Type) (enc : TypeId × Value → H) :
    ReturnsInHanded {} Try.checked os 12 .any (Rows.fnExactPutSunSpec.pre6 enc Try.prog Try.f12 Rows.fnExactPutSunRow.domain false) (Rows.fnExactPutSunSpec.post enc Try.prog Try.f12 false true false false) := by
  refine returnsInHanded_of_change (C := Try.checked) own started (by kernel_rfl) Try.func12
    (ChangeSpec.witness6 (enc := enc) (C := Try.checked) false ⟨#[], #[.slice none 0 0, .agg #[.int .i64 0, .int .i64 0]], []⟩ 8 (by kernel_rfl) (by kernel_rfl) (by kernel_rfl) (by kernel_rfl)) ?_
  intro W base args ds gs before hval0 hW hcnd _
  have hval : ∀ (j : Nat) t v, Try.f12.params[j]? = some t → args[j]? = some v → Value.okWide Try.prog W .any base t v := hval0
  have hW' := hW
  obtain ⟨p, q, hA0, hV, rfl, hfz, hnd⟩ := hW
  have hA : DataW.TrodAll enc Try.prog W 0 (fun _ => true) true Try.f12.params.toList args.toList ds p := hA0
  rw [Try.params12] at hA hval
  obtain ⟨v0, vs0, d0, ds0, p0, q0, hargs, rfl, rfl, h0, r0⟩ := trodAll_cons hA
  obtain ⟨v1, vs1, d1, ds1, p1, q1, rfl, rfl, rfl, h1, r1⟩ := trodAll_cons r0
  obtain ⟨rfl, rfl, rfl⟩ := trodAll_nil r1
  obtain rfl : args = #[v0, v1] := by cases args; simp_all
  obtain ⟨rfl, rfl⟩ := trodVars_none hV
  have k0 := h0
  have lt0 : ∀ x ∈ p0, x.block < W.heap.size := by obtain ⟨m, hm⟩ := k0; exact DataW.trod_lt m _ _ _ hm
  obtain ⟨a0, l0, c0, rfl⟩ := okWide_slice Try.underlying22 (hval 0 22 v0 rfl rfl)
  obtain ⟨hl0, F0, w0⟩ : l0 ≤ maxLen ∧ ∃ F, Rd W a0 l0 2 (ints F) := by
    obtain ⟨fuel, hf⟩ := h0
    obtain ⟨hl, F, hF, hp⟩ := rows_of_trod (sz := 2) Try.underlying22 (by kernel_rfl) (by decide) (fun cs => ∃ l : List Int, cs = l.map (Value.int .i64)) (fun n cs y hy hl => ints_of_struct2 Try.underlying52 (by kernel_rfl) Try.underlying3 Try.underlying3 hy hl) (by simpa [Value.cells] using hf)
    exact ⟨hl, ints_of_rows hF hp⟩
  have k1 := h1
  have lt1 : ∀ x ∈ p1, x.block < W.heap.size := by obtain ⟨m, hm⟩ := k1; exact DataW.trod_lt m _ _ _ hm
  obtain ⟨x1, y1, rfl⟩ : ∃ x y : Int, v1 = .agg #[.int .i64 x, .int .i64 y] := by
    obtain ⟨c0, c1, y0, y1, m, rfl, -, -, hy0, hy1⟩ := Joins.open_agg2 Try.underlying52 (by kernel_rfl) (by kernel_rfl) (hval 1 52 v1 rfl rfl) h1
    obtain ⟨x, e0, -, -⟩ := DataW.trod_int Try.underlying3 hy0
    obtain ⟨y, e1, -, -⟩ := DataW.trod_int Try.underlying3 hy1
    simp at e0 e1
    exact ⟨x, y, by rw [e0, e1]⟩
  clear hA0 hval0
  refine (law_PutSun a0 l0 c0 F0 x1 y1 W hl0 w0).mono fun e W' ⟨he, bel⟩ => ?_
  subst he
  exact ⟨_, rfl, _, _, _, [], _, [], hW', trodAll_mk1 (shut_bool Try.underlying4 _), (trodAll_cons_mk (Below.trod laidOut (by kernel_rfl) (of_decide_eq_true (by kernel_rfl)) k0 bel lt0) (trodAll_cons_mk (Below.trod laidOut (by kernel_rfl) (of_decide_eq_true (by kernel_rfl)) k1 bel lt1) trodAll_mk0)), rfl, bel.frame _, fun h => by cases h⟩

theorem over : Rows.fnExactPutSunRow.holds Try.pinned (OpenSpec.ofChange Rows.fnExactPutSunSpec) :=
  OpenClaim.holds_of_wide 12 Try.f12 rfl rfl rfl rfl rfl rfl rfl ⟨rfl, rfl, rfl, rfl, rfl⟩ rfl rfl rfl rfl rfl (by kernel_rfl) Try.func12 (by kernel_rfl)
    (of_decide_eq_true (by kernel_rfl)) (by unfold Func.isWrapper; first | (rw [if_pos (by decide +kernel)]; kernel_rfl) | (rw [if_neg (by decide +kernel)]; exact ⟨rfl, rfl⟩))
    (fun os started H enc _ => lifted os started H enc)

theorem proved : Rows.FnExactPutSunSaid := over
end fnExactPutSun
#print axioms fnExactPutSun.proved
end Go.Proofs.Ytajmebclmippeaa
