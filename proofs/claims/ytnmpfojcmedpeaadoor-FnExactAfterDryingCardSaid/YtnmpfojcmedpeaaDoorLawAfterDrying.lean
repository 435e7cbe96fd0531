/-
  The law FnExactAfterDrying: for all arguments the program's AfterDrying returns what the reference's returns. Conditions: none.
-/
import Derived.Test.YtnmpfojcmedpeaaDoorCrJ
import Derived.Test.YtnmpfojcmedpeaaDoorCrO
import Derived.Test.YtnmpfojcmedpeaaDoorOpen
import Derived.Test.YtnmpfojcmedpeaaDoorLaid
import Derived.Test.YtnmpfojcmedpeaaDoorTie
import Derived.Test.YtnmpfojcmedpeaaDoorCards
namespace Go.Proofs.YtnmpfojcmedpeaaDoor
open Go.ChangeShapes Go.WideShapes Go.ChangeAt Go.RowKit
attribute [local go_sem ↓] Go.wp_at_zero Go.wp_at_succ

set_option maxRecDepth 20000 in
set_option maxHeartbeats 16000000 in
theorem law_AfterDrying (a0 : Option Addr) (l0 c0 : Nat) (S0 : Nat → ByteArray) (F0 : Nat → Nat → Int) (x1 : Int) (B1 : Option Addr) (m1 d1 : Nat) (L1 : Nat → Nat → Int) (z2 : Int) (w : World) (hm0 : l0 ≤ maxLen) (HS : Hid (∀ i, i < l0 → (S0 i).size ≤ 9223372036854775807)) (w0 : Rd w a0 l0 3 (kdC S0 F0)) (hm1 : m1 ≤ maxLen) (w1 : Rd w B1 m1 1 (ints L1)) :
    Calls Tryd.prog 12 #[.slice a0 l0 c0, .agg #[.int .i64 x1, .slice B1 m1 d1], .int .i64 z2] w fun e w' => e = .returned (.bool true) ∧ Below w.heap.size w w' := by
  have hn0 : l0 ≤ 9223372036854775807 := by simpa [maxLen] using hm0
  have hn1 : m1 ≤ 9223372036854775807 := by simpa [maxLen] using hm1
  clear hm0 hm1
  have hbA : Below w.heap.size w (w.alloc (.cells #[.int .i64 x1, .slice B1 m1 d1] 54)) := (Below.refl _ _).alloc (Nat.le_refl _) _
  have hs0 : w.heap.size + 1 ≤ (w.alloc (.cells #[.int .i64 x1, .slice B1 m1 d1] 54)).heap.size := by simp
  have bE := Bx.new w 54 (.int .i64 x1) (.slice B1 m1 d1)
  replace w0 := Rd.below w0 hbA
  replace w1 := Rd.below w1 hbA
  have hsq : (w.alloc (.cells #[.int .i64 x1, .slice B1 m1 d1] 54)).heap.size = w.heap.size + 1 := by simp
  skip
  go_enter Tryd.func12, Tryd.ntmps12
  go_upto_region 1 with fail
  generalize w.alloc (.cells #[.int .i64 x1, .slice B1 m1 d1] 54) = u0 at hbA hs0 bE w0 w1 hsq ⊢
  clear hsq
  go_wp2_with fail
  go_at_call 42
  refine (szKindS_any _ _ _ _ _ _ hn0 HS (Sl.mono w0 (Nat.zero_le _) (by omega))).mono ?_
  rintro _ u1 ⟨r, rfl, HR, hb⟩
  have hs1 := hb.size
  replace w0 := w0.agr (Below.agr hb (by omega))
  replace w1 := w1.agr (Below.agr hb (by omega))
  replace bE := bE.agr (Below.agr hb (by omega))
  replace hbA := hbA.trans (hb.mono (by omega))
  clear hb
  rcases HR.out with hr | ⟨hr, hr1, hnn⟩
  · have hd : decide (r < 0) = true := by simpa using hr
    clear bE
    go_wp2
    go_ret
    exact ⟨rfl, hbA⟩
  have hd : decide (r < 0) = false := by simp; omega
  clear HR
  by_cases hle : r < m1
  · have hs := hide (show szR r m1 = -1 by unfold szR; rw [if_pos hle])
    obtain ⟨kbE, pbE, qbE⟩ := bE.at_
    replace kbE := Nat.lt_of_lt_of_le kbE (show _ ≤ u1.heap.size by omega)
    go_wp2_with fail
    go_at_call 45
    refine (szLiquor_any _ _ _ _ _ _ hn1 hr hr1).mono ?_
    rintro _ u2 ⟨rfl, hb⟩
    clear kbE pbE qbE
    rw [hs.out]
    clear bE
    go_wp2
    go_ret
    exact ⟨rfl, hbA.trans (hb.mono (by omega))⟩
  have hs := hide (show szR r m1 = r - m1 by unfold szR; rw [if_neg hle])
  have hmm : m1 ≤ 1048576 := by omega
  obtain ⟨kbE, pbE, qbE⟩ := bE.at_
  replace kbE := Nat.lt_of_lt_of_le kbE (show _ ≤ u1.heap.size by omega)
  go_wp2_with fail
  go_at_call 45
  refine (szLiquor_any _ _ _ _ _ _ hn1 hr hr1).mono ?_
  rintro _ u2 ⟨rfl, hb⟩
  clear kbE pbE qbE
  have hs2 := hb.size
  replace w0 := w0.agr (Below.agr hb (by omega))
  replace w1 := w1.agr (Below.agr hb (by omega))
  replace bE := bE.agr (Below.agr hb (by omega))
  replace hbA := hbA.trans (hb.mono (by omega))
  clear hb
  rw [hs.out]
  have hd2 : decide (r - (m1 : Int) < 0) = false := by simp; omega
  clear hle hs
  go_wp2
  clear hd hd2
  have HSp := fun (A : Option Addr) (c : Nat) (B : Option Addr) (d : Nat) (W : World) (h : Rd W A l0 3 (kdC S0 F0)) (hL : Rd W B m1 1 (ints L1)) => spec_AfterDrying_any A l0 c S0 F0 x1 B m1 d L1 z2 W hnn hmm HS h hL
  have HIm := fun (A : Option Addr) (c : Nat) (B : Option Addr) (d : Nat) (W : World) (h : Rd W A l0 3 (kdC S0 F0)) (hL : Rd W B m1 1 (ints L1)) => AfterDrying_any A l0 c S0 F0 x1 B m1 d L1 z2 W hnn hmm HS h hL
  have hN : dryN S0 F0 l0 x1 m1 L1 z2 ≤ 6 := dryN_le
  generalize dryX S0 F0 l0 x1 m1 L1 z2 = X at HSp HIm
  generalize dryN S0 F0 l0 x1 m1 L1 z2 = N at HSp HIm hN
  generalize dryB S0 F0 l0 x1 m1 L1 z2 = D at HSp HIm
  generalize fallS F0 L1 (x1 - z2) = G1 at HSp HIm
  generalize fallG F0 L1 (x1 - z2) = G2 at HSp HIm
  have HIr := fun A c B d W h hL => (HIm A c B d W h hL).mono fun _ _ h => h.R
  have hNN : N ≤ 1048576 := by omega
  obtain ⟨kbE, pbE, qbE⟩ := bE.at_
  replace kbE := Nat.lt_of_lt_of_le kbE (show _ ≤ u2.heap.size by omega)
  have d0 : ∀ w', Below u2.heap.size u2 w' → w'.cell? ⟨w.heap.size, 0, none⟩ = some (.int .i64 x1) := fun w' hb => (hb.cell (by exact kbE)).trans pbE
  have d1 : ∀ w', Below u2.heap.size u2 w' → w'.cell? ⟨w.heap.size, 1, none⟩ = some (.slice B1 m1 d1) := fun w' hb => (hb.cell (by exact kbE)).trans qbE
  clear kbE pbE qbE
  go_cut [8, 9, 10] (fun s t b wx => ∃ (e : Nat) (A1 : Option Addr) (c1 : Nat) (A2 : Option Addr) (c2 : Nat), s = .pointer (some ⟨e, 0, none⟩) ∧ t = .slice A2 N c2 ∧ b = .bool D ∧ Below u2.heap.size u2 wx ∧ Bx wx u2.heap.size wx.heap.size e (.int .i64 X) (.slice A1 N c1) ∧ Sl wx u2.heap.size wx.heap.size A1 N 1 (ints G1) ∧ Sl wx u2.heap.size wx.heap.size A2 N 1 (ints G2))
  case first =>
    go_region_held3 (fun w' => Below u2.heap.size u2 w') ((repeat' (first | exact Below.refl _ _ | assumption | refine Below.drew ?_ | refine Below.alloc ?_ (by first | omega | exact Below.size (by assumption) | (simp; done) | (simp; omega)) _ | refine Below.setCell ?_ (by first | omega | exact Below.size (by assumption) | (simp; done) | (simp; omega)) _))) (first | (go_at_call 43; refine (toKindS_any _ _ _ _ _ _ hnn (Rd.below (Sl.mono w0 (Nat.zero_le _) (by omega)) (by assumption))).mono ?_; rintro _ v1 ⟨g1, rfl, o1, hb1⟩; have C1 := gr (by assumption : Below u2.heap.size u2 _) hb1; have s1 := hb1.size; (try simp at s1); have q1 := bcell hb1; (try have t1 : u2.heap.size < v1.heap.size := by omega); have rk1 := Sl.rd o1.sl (Nat.le_refl _); clear o1) | (go_at_call 46; refine (toLiquor_any _ _ _ _ _ _ hmm (Rd.below (Sl.mono w1 (Nat.zero_le _) (by omega)) (by assumption))).mono ?_; rintro _ v2 ⟨rfl, o2, s2, hb2⟩; have C2 := gr (by assumption : Below u2.heap.size u2 _) hb2; have z2 := hb2.size; (try simp at z2); have q2 := bcell hb2; (try have t2a : u2.heap.size < v2.heap.size := by omega); (try have t2b : v1.heap.size < v2.heap.size := by omega); have rk2 := Rd.below (by first | exact rk1 | exact Rd.drew rk1 | exact Rd.alloc rk1 _ | exact Rd.drew (Rd.alloc rk1 _)) hb2; have rl2 := Sl.rd o2.sl (by omega); clear o2) | (go_at_call 37; refine (HSp _ _ _ _ _ (by first | exact rk2 | exact Rd.alloc rk2 _) (by first | exact rl2 | exact Rd.alloc rl2 _ | (simpa using rl2) | (simpa using Rd.alloc rl2 _))).mono ?_; rintro _ v3 ⟨A1W, c1W, A2W, c2W, rfl, o31, o32, hb3⟩; have C3 := gr (by assumption : Below u2.heap.size u2 _) hb3; have s3 := hb3.size; (try simp at s3); have q3 := bcell hb3; (try have t3a : u2.heap.size < v3.heap.size := by omega); (try have t3b : v1.heap.size < v3.heap.size := by omega); (try have t3c : v2.heap.size < v3.heap.size := by omega)))
    all_goals
      go_wp2_with fail
      go_meet
      refine ⟨_, A1W, c1W, A2W, c2W, rfl, rfl, rfl, (by (repeat' (first | exact Below.refl _ _ | assumption | refine Below.drew ?_ | refine Below.alloc ?_ (by first | omega | exact Below.size (by assumption) | (simp; done) | (simp; omega)) _ | refine Below.setCell ?_ (by first | omega | exact Below.size (by assumption) | (simp; done) | (simp; omega)) _))), Bx.of (by go_simp) (by go_simp) (by first | omega | (simp; done) | (simp; omega)) (by first | omega | (simp; done) | (simp; omega)), ?_, ?_⟩
      · first | exact (Ow.alloc o31 (Nat.le_refl _) _).sl.mono (by first | omega | (simp; done) | (simp; omega)) (by first | omega | (simp; done) | (simp; omega)) | exact (Ow.cell_out (Ow.cell_out o31 (.inl (by first | (simp; done) | (simp; omega) | (show _ < _; omega))) _) (.inl (by first | (simp; done) | (simp; omega) | (show _ < _; omega))) _).sl.mono (by first | omega | (simp; done) | (simp; omega)) (by first | omega | (simp; done) | (simp; omega))
      · first | exact (Ow.alloc o32 (Nat.le_refl _) _).sl.mono (by first | omega | (simp; done) | (simp; omega)) (by first | omega | (simp; done) | (simp; omega)) | exact (Ow.cell_out (Ow.cell_out o32 (.inl (by first | (simp; done) | (simp; omega) | (show _ < _; omega))) _) (.inl (by first | (simp; done) | (simp; omega) | (show _ < _; omega))) _).sl.mono (by first | omega | (simp; done) | (simp; omega)) (by first | omega | (simp; done) | (simp; omega))
  obtain ⟨eW, A1W, c1W, A2W, c2W, rfl, rfl, rfl, hb, bW, rW1, rW2⟩ := hcut
  clear d0 d1
  generalize wc = wW at hb bW rW1 rW2 ⊢
  have hs3 := hb.size
  replace w0 := w0.agr (Below.agr hb (by omega))
  replace w1 := w1.agr (Below.agr hb (by omega))
  replace bE := bE.agr (Below.agr hb (by omega))
  replace hbA := hbA.trans (hb.mono (by omega))
  clear hb
  go_wp2_with fail
  go_at_call 43
  refine (toKindS_any _ _ _ _ _ _ hnn (Sl.mono w0 (Nat.zero_le _) (by omega))).mono ?_
  rintro _ v4 ⟨g4, rfl, oX, hb⟩
  have hs4 := hb.size
  replace w0 := w0.agr (Below.agr hb (by omega))
  replace w1 := w1.agr (Below.agr hb (by omega))
  replace bE := bE.agr (Below.agr hb (by omega))
  replace bW := bW.agr (Below.agr hb (by omega))
  replace rW1 := rW1.agr (Below.agr hb (by omega))
  replace rW2 := rW2.agr (Below.agr hb (by omega))
  replace hbA := hbA.trans (hb.mono (by omega))
  clear hb
  obtain ⟨kbE, pbE, qbE⟩ := bE.at_
  replace kbE := Nat.lt_of_lt_of_le kbE (show _ ≤ v4.heap.size by omega)
  go_wp2_with fail
  go_at_call 46
  refine (toLiquor_any _ _ _ _ _ _ hmm (Sl.mono w1 (Nat.zero_le _) (by omega))).mono ?_
  rintro _ vq ⟨rfl, oL, sL, hb⟩
  clear kbE pbE qbE
  have hs5 := hb.size
  replace w0 := w0.agr (Below.agr hb (by omega))
  replace w1 := w1.agr (Below.agr hb (by omega))
  replace bE := bE.agr (Below.agr hb (by omega))
  replace bW := bW.agr (Below.agr hb (by omega))
  replace rW1 := rW1.agr (Below.agr hb (by omega))
  replace rW2 := rW2.agr (Below.agr hb (by omega))
  replace oX := oX.agr (Below.agr hb (by omega))
  replace hbA := hbA.trans (hb.mono (by omega))
  clear hb
  go_upto_region 11 with fail
  have hb : Below vq.heap.size vq (vq.alloc (.cells #[.int .i64 x1, .slice (some ⟨v4.heap.size + 3, 0, none⟩) m1 m1] 27)) := (Below.refl _ _).alloc (Nat.le_refl _) _
  have hsb : vq.heap.size + 1 ≤ (vq.alloc (.cells #[.int .i64 x1, .slice (some ⟨v4.heap.size + 3, 0, none⟩) m1 m1] 27)).heap.size := by simp
  have bX := Bx.new vq 27 (.int .i64 x1) (.slice (some ⟨v4.heap.size + 3, 0, none⟩) m1 m1)
  generalize vq.alloc (.cells #[.int .i64 x1, .slice (some ⟨v4.heap.size + 3, 0, none⟩) m1 m1] 27) = v5 at hb hsb bX ⊢
  have hs6 := hb.size
  replace w0 := w0.agr (Below.agr hb (by omega))
  replace w1 := w1.agr (Below.agr hb (by omega))
  replace bE := bE.agr (Below.agr hb (by omega))
  replace bW := bW.agr (Below.agr hb (by omega))
  replace rW1 := rW1.agr (Below.agr hb (by omega))
  replace rW2 := rW2.agr (Below.agr hb (by omega))
  replace oX := oX.agr (Below.agr hb (by omega))
  replace oL := oL.agr (Below.agr hb (by omega))
  replace hbA := hbA.trans (hb.mono (by omega))
  clear hb
  have hsbbX := hsb
  clear hsb
  obtain ⟨kbX, pbX, qbX⟩ := bX.at_
  replace kbX := Nat.lt_of_lt_of_le kbX (show _ ≤ v5.heap.size by omega)
  go_wp2_with fail
  go_at_call 36
  refine (HIm _ _ _ _ _ (Sl.mono oX.sl (Nat.zero_le _) (by omega)) (Sl.mono oL.sl (Nat.zero_le _) (by omega))).mono ?_
  rintro _ v6 ⟨A1G, c1G, A2G, c2G, mid, rfl, hmi1, hmi2, oG, oH, hb⟩
  clear kbX pbX qbX
  have hs7 := hb.size
  replace w0 := w0.agr (Below.agr hb (by omega))
  replace w1 := w1.agr (Below.agr hb (by omega))
  replace bE := bE.agr (Below.agr hb (by omega))
  replace bW := bW.agr (Below.agr hb (by omega))
  replace rW1 := rW1.agr (Below.agr hb (by omega))
  replace rW2 := rW2.agr (Below.agr hb (by omega))
  replace oX := oX.agr (Below.agr hb (by omega))
  replace oL := oL.agr (Below.agr hb (by omega))
  replace bX := bX.agr (Below.agr hb (by omega))
  replace hbA := hbA.trans (hb.mono (by omega))
  clear hb
  clear HIm
  go_upto_region 12 with fail
  have hb : Below v6.heap.size v6 (v6.alloc (.cells #[.int .i64 X, .slice A1G N c1G] 27)) := (Below.refl _ _).alloc (Nat.le_refl _) _
  have hsb : v6.heap.size + 1 ≤ (v6.alloc (.cells #[.int .i64 X, .slice A1G N c1G] 27)).heap.size := by simp
  have bG := Bx.new v6 27 (.int .i64 X) (.slice A1G N c1G)
  generalize v6.alloc (.cells #[.int .i64 X, .slice A1G N c1G] 27) = v7 at hb hsb bG ⊢
  have hs8 := hb.size
  replace w0 := w0.agr (Below.agr hb (by omega))
  replace w1 := w1.agr (Below.agr hb (by omega))
  replace bE := bE.agr (Below.agr hb (by omega))
  replace bW := bW.agr (Below.agr hb (by omega))
  replace rW1 := rW1.agr (Below.agr hb (by omega))
  replace rW2 := rW2.agr (Below.agr hb (by omega))
  replace oX := oX.agr (Below.agr hb (by omega))
  replace oL := oL.agr (Below.agr hb (by omega))
  replace bX := bX.agr (Below.agr hb (by omega))
  replace oG := oG.agr (Below.agr hb (by omega))
  replace oH := oH.agr (Below.agr hb (by omega))
  replace hbA := hbA.trans (hb.mono (by omega))
  clear hb
  have hsbbG := hsb
  clear hsb
  have hDD : (D != D) = false := by simp
  obtain ⟨kbG, pbG, qbG⟩ := bG.at_
  replace kbG := Nat.lt_of_lt_of_le kbG (show _ ≤ v7.heap.size by omega)
  obtain ⟨kbW, pbW, qbW⟩ := bW.at_
  replace kbW := Nat.lt_of_lt_of_le kbW (show _ ≤ v7.heap.size by omega)
  go_wp2_with fail
  go_at_call 47
  refine (eqLiquor_yes _ _ _ _ _ _ _ _ hNN (Sl.mono oG.sl (Nat.zero_le _) (by omega)) (Sl.mono rW1 (Nat.zero_le _) (by omega))).mono ?_
  rintro _ v8 ⟨rfl, hb⟩
  clear kbG pbG qbG kbW pbW qbW
  have hs9 := hb.size
  replace w0 := w0.agr (Below.agr hb (by omega))
  replace w1 := w1.agr (Below.agr hb (by omega))
  replace bE := bE.agr (Below.agr hb (by omega))
  replace bW := bW.agr (Below.agr hb (by omega))
  replace rW1 := rW1.agr (Below.agr hb (by omega))
  replace rW2 := rW2.agr (Below.agr hb (by omega))
  replace oX := oX.agr (Below.agr hb (by omega))
  replace oL := oL.agr (Below.agr hb (by omega))
  replace bX := bX.agr (Below.agr hb (by omega))
  replace oG := oG.agr (Below.agr hb (by omega))
  replace oH := oH.agr (Below.agr hb (by omega))
  replace bG := bG.agr (Below.agr hb (by omega))
  replace hbA := hbA.trans (hb.mono (by omega))
  clear hb
  go_wp2_with fail
  go_at_call 48
  refine (eqIntS_yes _ _ _ _ _ _ _ hNN (Sl.mono oH.sl (Nat.zero_le _) (by omega)) (Sl.mono rW2 (Nat.zero_le _) (by omega))).mono ?_
  rintro _ v9 ⟨rfl, hb⟩
  have hs10 := hb.size
  replace w0 := w0.agr (Below.agr hb (by omega))
  replace w1 := w1.agr (Below.agr hb (by omega))
  replace bE := bE.agr (Below.agr hb (by omega))
  replace bW := bW.agr (Below.agr hb (by omega))
  replace rW1 := rW1.agr (Below.agr hb (by omega))
  replace rW2 := rW2.agr (Below.agr hb (by omega))
  replace oX := oX.agr (Below.agr hb (by omega))
  replace oL := oL.agr (Below.agr hb (by omega))
  replace bX := bX.agr (Below.agr hb (by omega))
  replace oG := oG.agr (Below.agr hb (by omega))
  replace oH := oH.agr (Below.agr hb (by omega))
  replace bG := bG.agr (Below.agr hb (by omega))
  replace hbA := hbA.trans (hb.mono (by omega))
  clear hb
  go_wp2_with fail
  go_at_call 43
  refine (toKindS_any _ _ _ _ _ _ hnn (Sl.mono w0 (Nat.zero_le _) (by omega))).mono ?_
  rintro _ v10 ⟨g10, rfl, o10, hb⟩
  have hs11 := hb.size
  replace w0 := w0.agr (Below.agr hb (by omega))
  replace w1 := w1.agr (Below.agr hb (by omega))
  replace bE := bE.agr (Below.agr hb (by omega))
  replace bW := bW.agr (Below.agr hb (by omega))
  replace rW1 := rW1.agr (Below.agr hb (by omega))
  replace rW2 := rW2.agr (Below.agr hb (by omega))
  replace oX := oX.agr (Below.agr hb (by omega))
  replace oL := oL.agr (Below.agr hb (by omega))
  replace bX := bX.agr (Below.agr hb (by omega))
  replace oG := oG.agr (Below.agr hb (by omega))
  replace oH := oH.agr (Below.agr hb (by omega))
  replace bG := bG.agr (Below.agr hb (by omega))
  replace hbA := hbA.trans (hb.mono (by omega))
  clear hb
  have rk10 := Sl.rd o10.sl (Nat.le_refl _)
  clear o10
  go_wp2_with fail
  go_at_call 44
  refine (eqKindS_yes _ _ _ _ _ _ _ _ hnn (Sl.mono oX.sl (Nat.zero_le _) (by omega)) rk10).mono ?_
  rintro _ v11 ⟨rfl, hb⟩
  clear rk10
  have hs12 := hb.size
  replace w0 := w0.agr (Below.agr hb (by omega))
  replace w1 := w1.agr (Below.agr hb (by omega))
  replace bE := bE.agr (Below.agr hb (by omega))
  replace bW := bW.agr (Below.agr hb (by omega))
  replace rW1 := rW1.agr (Below.agr hb (by omega))
  replace rW2 := rW2.agr (Below.agr hb (by omega))
  replace oX := oX.agr (Below.agr hb (by omega))
  replace oL := oL.agr (Below.agr hb (by omega))
  replace bX := bX.agr (Below.agr hb (by omega))
  replace oG := oG.agr (Below.agr hb (by omega))
  replace oH := oH.agr (Below.agr hb (by omega))
  replace bG := bG.agr (Below.agr hb (by omega))
  replace hbA := hbA.trans (hb.mono (by omega))
  clear hb
  go_upto_region 16 with fail
  obtain ⟨kbE, pbE, qbE⟩ := bE.at_
  replace kbE := Nat.lt_of_lt_of_le kbE (show _ ≤ v11.heap.size by omega)
  obtain ⟨kbX, pbX, qbX⟩ := bX.at_
  replace kbX := Nat.lt_of_lt_of_le kbX (show _ ≤ v11.heap.size by omega)
  have d0bE : ∀ w', Below v11.heap.size v11 w' → w'.cell? ⟨w.heap.size, 0, none⟩ = some (.int .i64 x1) := fun w' hb => (hb.cell (by exact kbE)).trans pbE
  have d1bE : ∀ w', Below v11.heap.size v11 w' → w'.cell? ⟨w.heap.size, 1, none⟩ = some (.slice B1 m1 d1) := fun w' hb => (hb.cell (by exact kbE)).trans qbE
  have d0bX : ∀ w', Below v11.heap.size v11 w' → w'.cell? ⟨vq.heap.size, 0, none⟩ = some (.int .i64 x1) := fun w' hb => (hb.cell (by exact kbX)).trans pbX
  have d1bX : ∀ w', Below v11.heap.size v11 w' → w'.cell? ⟨vq.heap.size, 1, none⟩ = some (.slice (some ⟨v4.heap.size + 3, 0, none⟩) m1 m1) := fun w' hb => (hb.cell (by exact kbX)).trans qbX
  clear kbE pbE qbE kbX pbX qbX
  go_region_held3 (fun w' => Below v11.heap.size v11 w') ((repeat' (first | exact Below.refl _ _ | assumption | refine Below.drew ?_ | refine Below.alloc ?_ (by first | omega | exact Below.size (by assumption) | (simp; done) | (simp; omega)) _ | refine Below.setCell ?_ (by first | omega | exact Below.size (by assumption) | (simp; done) | (simp; omega)) _))) (first | (go_at_call 46; refine (toLiquor_any _ _ _ _ _ _ hmm (Rd.below (Sl.mono w1 (Nat.zero_le _) (by omega)) (by assumption))).mono ?_; rintro _ v12 ⟨rfl, o12, s12, hb12⟩; have C12 := gr (by assumption : Below v11.heap.size v11 _) hb12; have rl12 := Sl.rd o12.sl (by omega); clear o12) | (go_at_call 47; refine (eqLiquor_yes _ _ _ _ _ _ _ _ hmm (Rd.below (Sl.mono oL.sl (Nat.zero_le _) (by omega)) (by assumption)) (by assumption)).mono ?_; rintro _ v13 ⟨rfl, hb13⟩; have C13 := gr (by assumption : Below v11.heap.size v11 _) hb13))
  clear rl12 s12 hb12 hb13 C12 d0bE d1bE d0bX d1bX
  have hs13 := C13.size
  replace w0 := w0.agr (Below.agr C13 (by omega))
  replace w1 := w1.agr (Below.agr C13 (by omega))
  replace bE := bE.agr (Below.agr C13 (by omega))
  replace bW := bW.agr (Below.agr C13 (by omega))
  replace rW1 := rW1.agr (Below.agr C13 (by omega))
  replace rW2 := rW2.agr (Below.agr C13 (by omega))
  replace oX := oX.agr (Below.agr C13 (by omega))
  replace oL := oL.agr (Below.agr C13 (by omega))
  replace bX := bX.agr (Below.agr C13 (by omega))
  replace oG := oG.agr (Below.agr C13 (by omega))
  replace oH := oH.agr (Below.agr C13 (by omega))
  replace bG := bG.agr (Below.agr C13 (by omega))
  replace hbA := hbA.trans (C13.mono (by omega))
  clear C13
  go_wp2_with fail
  go_at_call 49
  refine (markKindS_any _ _ _ _ _ _ _ _ hnn (by omega) (by omega) (by omega) oX).mono ?_
  rintro _ v14 ⟨rfl, ht⟩
  clear oX
  have hs14 := ht.size
  replace w0 := w0.agr (Tch.agr ht (by omega) (by omega))
  replace w1 := w1.agr (Tch.agr ht (by omega) (by omega))
  replace bE := bE.agr (Tch.agr ht (by omega) (by omega))
  replace bW := bW.agr (Tch.agr ht (by omega) (by omega))
  replace rW1 := rW1.agr (Tch.agr ht (by omega) (by omega))
  replace rW2 := rW2.agr (Tch.agr ht (by omega) (by omega))
  replace oL := oL.agr (Tch.agr ht (by omega) (by omega))
  replace bX := bX.agr (Tch.agr ht (by omega) (by omega))
  replace oG := oG.agr (Tch.agr ht (by omega) (by omega))
  replace oH := oH.agr (Tch.agr ht (by omega) (by omega))
  replace bG := bG.agr (Tch.agr ht (by omega) (by omega))
  replace hbA := hbA.trans (ht.below (by omega) (by omega))
  clear ht
  obtain ⟨kbX, pbX, qbX⟩ := bX.at_
  replace kbX := Nat.lt_of_lt_of_le kbX (show _ ≤ v14.heap.size by omega)
  go_wp2_with fail
  go_at_call 50
  refine (markLiquor_any _ _ _ _ _ _ _ _ _ hmm (by omega) (by omega) (by omega) oL).mono ?_
  rintro _ v15 ⟨rfl, ht, -⟩
  clear kbX pbX qbX
  clear oL bX
  have hs15 := ht.size
  replace w0 := w0.agr (Tch.agr ht (by omega) (by omega))
  replace w1 := w1.agr (Tch.agr ht (by omega) (by omega))
  replace bE := bE.agr (Tch.agr ht (by omega) (by omega))
  replace bW := bW.agr (Tch.agr ht (by omega) (by omega))
  replace rW1 := rW1.agr (Tch.agr ht (by omega) (by omega))
  replace rW2 := rW2.agr (Tch.agr ht (by omega) (by omega))
  replace oG := oG.agr (Tch.agr ht (by omega) (by omega))
  replace oH := oH.agr (Tch.agr ht (by omega) (by omega))
  replace bG := bG.agr (Tch.agr ht (by omega) (by omega))
  replace hbA := hbA.trans (ht.below (by omega) (by omega))
  clear ht
  have hdk : decide (1 + 3 * (l0 : Int) + (m1 : Int) < 0) = false := by simp; omega
  obtain ⟨kbG, pbG, qbG⟩ := bG.at_
  replace kbG := Nat.lt_of_lt_of_le kbG (show _ ≤ v15.heap.size by omega)
  obtain ⟨kbW, pbW, qbW⟩ := bW.at_
  replace kbW := Nat.lt_of_lt_of_le kbW (show _ ≤ v15.heap.size by omega)
  go_wp2_with fail
  go_at_call 47
  refine (eqLiquor_yes _ _ _ _ _ _ _ _ hNN (Sl.mono oG.sl (Nat.zero_le _) (by omega)) (Sl.mono rW1 (Nat.zero_le _) (by omega))).mono ?_
  rintro _ v16 ⟨rfl, hb⟩
  clear kbG pbG qbG kbW pbW qbW
  have hs16 := hb.size
  replace w0 := w0.agr (Below.agr hb (by omega))
  replace w1 := w1.agr (Below.agr hb (by omega))
  replace bE := bE.agr (Below.agr hb (by omega))
  replace bW := bW.agr (Below.agr hb (by omega))
  replace rW1 := rW1.agr (Below.agr hb (by omega))
  replace rW2 := rW2.agr (Below.agr hb (by omega))
  replace oG := oG.agr (Below.agr hb (by omega))
  replace oH := oH.agr (Below.agr hb (by omega))
  replace bG := bG.agr (Below.agr hb (by omega))
  replace hbA := hbA.trans (hb.mono (by omega))
  clear hb
  go_wp2_with fail
  go_at_call 48
  refine (eqIntS_yes _ _ _ _ _ _ _ hNN (Sl.mono oH.sl (Nat.zero_le _) (by omega)) (Sl.mono rW2 (Nat.zero_le _) (by omega))).mono ?_
  rintro _ v17 ⟨rfl, hb⟩
  have hs17 := hb.size
  replace w0 := w0.agr (Below.agr hb (by omega))
  replace w1 := w1.agr (Below.agr hb (by omega))
  replace bE := bE.agr (Below.agr hb (by omega))
  replace bW := bW.agr (Below.agr hb (by omega))
  replace rW1 := rW1.agr (Below.agr hb (by omega))
  replace rW2 := rW2.agr (Below.agr hb (by omega))
  replace oG := oG.agr (Below.agr hb (by omega))
  replace oH := oH.agr (Below.agr hb (by omega))
  replace bG := bG.agr (Below.agr hb (by omega))
  replace hbA := hbA.trans (hb.mono (by omega))
  clear hb
  obtain ⟨kbG, pbG, qbG⟩ := bG.at_
  replace kbG := Nat.lt_of_lt_of_le kbG (show _ ≤ v17.heap.size by omega)
  go_wp2_with fail
  go_at_call 50
  refine (markLiquor_any _ _ _ _ _ _ _ _ _ hNN (by omega) (by omega) (by omega) oG).mono ?_
  rintro _ v18 ⟨rfl, ht, oGm⟩
  clear kbG pbG qbG
  clear oG
  have hs18 := ht.size
  replace w0 := w0.agr (Tch.agr ht (by omega) (by omega))
  replace w1 := w1.agr (Tch.agr ht (by omega) (by omega))
  replace bE := bE.agr (Tch.agr ht (by omega) (by omega))
  replace bW := bW.agr (Tch.agr ht (by omega) (by omega))
  replace rW1 := rW1.agr (Tch.agr ht (by omega) (by omega))
  replace rW2 := rW2.agr (Tch.agr ht (by omega) (by omega))
  replace oH := oH.agr (Tch.agr ht (by omega) (by omega))
  replace bG := bG.agr (Tch.agr ht (by omega) (by omega))
  replace hbA := hbA.trans (ht.below (by omega) (by omega))
  clear ht
  go_wp2_with fail
  go_at_call 51
  refine (markIntS_any _ _ _ _ _ _ _ _ hNN (by omega) (by omega) (by omega) oH).mono ?_
  rintro _ v19 ⟨rfl, ht, oHm⟩
  clear oH
  have hs19 := ht.size
  replace w0 := w0.agr (Tch.agr ht (by omega) (by omega))
  replace w1 := w1.agr (Tch.agr ht (by omega) (by omega))
  replace bE := bE.agr (Tch.agr ht (by omega) (by omega))
  replace bW := bW.agr (Tch.agr ht (by omega) (by omega))
  replace rW1 := rW1.agr (Tch.agr ht (by omega) (by omega))
  replace rW2 := rW2.agr (Tch.agr ht (by omega) (by omega))
  replace bG := bG.agr (Tch.agr ht (by omega) (by omega))
  replace oGm := oGm.agr (Tch.agr ht (by omega) (by omega))
  replace hbA := hbA.trans (ht.below (by omega) (by omega))
  clear ht
  have hdm : decide (1 + (N : Int) < 0) = false := by simp; omega
  have hdn : decide (1 + (N : Int) + (N : Int) < 0) = false := by simp; omega
  obtain ⟨kbG, pbG, qbG⟩ := bG.at_
  replace kbG := Nat.lt_of_lt_of_le kbG (show _ ≤ v19.heap.size by omega)
  go_wp2_with fail
  go_at_call 52
  refine (heldLiquor_any _ _ _ _ _ _ hNN (by omega) (by omega) (Sl.mono oGm.sl (Nat.zero_le _) (by omega))).mono ?_
  rintro _ v20 ⟨rfl, hb⟩
  clear kbG pbG qbG
  have hs20 := hb.size
  replace w0 := w0.agr (Below.agr hb (by omega))
  replace w1 := w1.agr (Below.agr hb (by omega))
  replace bE := bE.agr (Below.agr hb (by omega))
  replace bW := bW.agr (Below.agr hb (by omega))
  replace rW1 := rW1.agr (Below.agr hb (by omega))
  replace rW2 := rW2.agr (Below.agr hb (by omega))
  replace bG := bG.agr (Below.agr hb (by omega))
  replace oGm := oGm.agr (Below.agr hb (by omega))
  replace oHm := oHm.agr (Below.agr hb (by omega))
  replace hbA := hbA.trans (hb.mono (by omega))
  clear hb
  go_wp2_with fail
  go_at_call 53
  refine (heldIntS_any _ _ _ _ _ hNN (by omega) (by omega) (Sl.mono oHm.sl (Nat.zero_le _) (by omega))).mono ?_
  rintro _ _ ⟨rfl, rfl⟩
  go_upto_region 35 with fail
  obtain ⟨kbE, pbE, qbE⟩ := bE.at_
  replace kbE := Nat.lt_of_lt_of_le kbE (show _ ≤ v20.heap.size by omega)
  have d0 : ∀ w', Below v20.heap.size v20 w' → w'.cell? ⟨w.heap.size, 0, none⟩ = some (.int .i64 x1) := fun w' hb => (hb.cell (by exact kbE)).trans pbE
  have d1 : ∀ w', Below v20.heap.size v20 w' → w'.cell? ⟨w.heap.size, 1, none⟩ = some (.slice B1 m1 d1) := fun w' hb => (hb.cell (by exact kbE)).trans qbE
  clear kbE pbE qbE
  go_cut [19, 20, 21] (fun s t b wx => ∃ (e : Nat) (A1 : Option Addr) (c1 : Nat) (A2 : Option Addr) (c2 : Nat), s = .pointer (some ⟨e, 0, none⟩) ∧ t = .slice A2 N c2 ∧ b = .bool D ∧ Below v20.heap.size v20 wx ∧ Bx wx v20.heap.size wx.heap.size e (.int .i64 X) (.slice A1 N c1) ∧ Sl wx v20.heap.size wx.heap.size A1 N 1 (ints G1) ∧ Sl wx v20.heap.size wx.heap.size A2 N 1 (ints G2))
  case first =>
    go_region_held3 (fun w' => Below v20.heap.size v20 w') ((repeat' (first | exact Below.refl _ _ | assumption | refine Below.drew ?_ | refine Below.alloc ?_ (by first | omega | exact Below.size (by assumption) | (simp; done) | (simp; omega)) _ | refine Below.setCell ?_ (by first | omega | exact Below.size (by assumption) | (simp; done) | (simp; omega)) _))) (first | (go_at_call 43; refine (toKindS_any _ _ _ _ _ _ hnn (Rd.below (Sl.mono w0 (Nat.zero_le _) (by omega)) (by assumption))).mono ?_; rintro _ v1 ⟨g1, rfl, o1, hb1⟩; have C1 := gr (by assumption : Below v20.heap.size v20 _) hb1; have s1 := hb1.size; (try simp at s1); have q1 := bcell hb1; (try have t1 : v20.heap.size < v1.heap.size := by omega); have rk1 := Sl.rd o1.sl (Nat.le_refl _); clear o1) | (go_at_call 46; refine (toLiquor_any _ _ _ _ _ _ hmm (Rd.below (Sl.mono w1 (Nat.zero_le _) (by omega)) (by assumption))).mono ?_; rintro _ v2 ⟨rfl, o2, s2, hb2⟩; have C2 := gr (by assumption : Below v20.heap.size v20 _) hb2; have z2 := hb2.size; (try simp at z2); have q2 := bcell hb2; (try have t2a : v20.heap.size < v2.heap.size := by omega); (try have t2b : v1.heap.size < v2.heap.size := by omega); have rk2 := Rd.below (by first | exact rk1 | exact Rd.drew rk1 | exact Rd.alloc rk1 _ | exact Rd.drew (Rd.alloc rk1 _)) hb2; have rl2 := Sl.rd o2.sl (by omega); clear o2) | (go_at_call 36; refine (HIr _ _ _ _ _ (by first | exact rk2 | exact Rd.alloc rk2 _) (by first | exact rl2 | exact Rd.alloc rl2 _ | (simpa using rl2) | (simpa using Rd.alloc rl2 _))).mono ?_; rintro _ v3 ⟨A1H, c1H, A2H, c2H, rfl, o31, o32, hb3⟩; have C3 := gr (by assumption : Below v20.heap.size v20 _) hb3; have s3 := hb3.size; (try simp at s3); have q3 := bcell hb3; (try have t3a : v20.heap.size < v3.heap.size := by omega); (try have t3b : v1.heap.size < v3.heap.size := by omega); (try have t3c : v2.heap.size < v3.heap.size := by omega)))
    all_goals
      go_wp2_with fail
      go_meet
      refine ⟨_, A1H, c1H, A2H, c2H, rfl, rfl, rfl, (by (repeat' (first | exact Below.refl _ _ | assumption | refine Below.drew ?_ | refine Below.alloc ?_ (by first | omega | exact Below.size (by assumption) | (simp; done) | (simp; omega)) _ | refine Below.setCell ?_ (by first | omega | exact Below.size (by assumption) | (simp; done) | (simp; omega)) _))), Bx.of (by go_simp) (by go_simp) (by first | omega | (simp; done) | (simp; omega)) (by first | omega | (simp; done) | (simp; omega)), ?_, ?_⟩
      · first | exact (Ow.alloc o31 (Nat.le_refl _) _).sl.mono (by first | omega | (simp; done) | (simp; omega)) (by first | omega | (simp; done) | (simp; omega)) | exact (Ow.cell_out (Ow.cell_out o31 (.inl (by first | (simp; done) | (simp; omega) | (show _ < _; omega))) _) (.inl (by first | (simp; done) | (simp; omega) | (show _ < _; omega))) _).sl.mono (by first | omega | (simp; done) | (simp; omega)) (by first | omega | (simp; done) | (simp; omega))
      · first | exact (Ow.alloc o32 (Nat.le_refl _) _).sl.mono (by first | omega | (simp; done) | (simp; omega)) (by first | omega | (simp; done) | (simp; omega)) | exact (Ow.cell_out (Ow.cell_out o32 (.inl (by first | (simp; done) | (simp; omega) | (show _ < _; omega))) _) (.inl (by first | (simp; done) | (simp; omega) | (show _ < _; omega))) _).sl.mono (by first | omega | (simp; done) | (simp; omega)) (by first | omega | (simp; done) | (simp; omega))
  obtain ⟨eH, A1H, c1H, A2H, c2H, rfl, rfl, rfl, hb, bH, rH1, rH2⟩ := hcut
  clear d0 d1
  generalize wc = wH at hb bH rH1 rH2 ⊢
  have hs21 := hb.size
  replace w0 := w0.agr (Below.agr hb (by omega))
  replace w1 := w1.agr (Below.agr hb (by omega))
  replace bE := bE.agr (Below.agr hb (by omega))
  replace bW := bW.agr (Below.agr hb (by omega))
  replace rW1 := rW1.agr (Below.agr hb (by omega))
  replace rW2 := rW2.agr (Below.agr hb (by omega))
  replace bG := bG.agr (Below.agr hb (by omega))
  replace oGm := oGm.agr (Below.agr hb (by omega))
  replace oHm := oHm.agr (Below.agr hb (by omega))
  replace hbA := hbA.trans (hb.mono (by omega))
  clear hb
  obtain ⟨kbH, pbH, qbH⟩ := bH.at_
  replace kbH := Nat.lt_of_lt_of_le kbH (show _ ≤ wH.heap.size by omega)
  obtain ⟨kbW, pbW, qbW⟩ := bW.at_
  replace kbW := Nat.lt_of_lt_of_le kbW (show _ ≤ wH.heap.size by omega)
  go_wp2_with fail
  go_at_call 47
  refine (eqLiquor_yes _ _ _ _ _ _ _ _ hNN (Sl.mono rH1 (Nat.zero_le _) (by omega)) (Sl.mono rW1 (Nat.zero_le _) (by omega))).mono ?_
  rintro _ v21 ⟨rfl, hb⟩
  clear kbH pbH qbH kbW pbW qbW
  have hs22 := hb.size
  replace w0 := w0.agr (Below.agr hb (by omega))
  replace w1 := w1.agr (Below.agr hb (by omega))
  replace bE := bE.agr (Below.agr hb (by omega))
  replace bW := bW.agr (Below.agr hb (by omega))
  replace rW1 := rW1.agr (Below.agr hb (by omega))
  replace rW2 := rW2.agr (Below.agr hb (by omega))
  replace bG := bG.agr (Below.agr hb (by omega))
  replace oGm := oGm.agr (Below.agr hb (by omega))
  replace oHm := oHm.agr (Below.agr hb (by omega))
  replace bH := bH.agr (Below.agr hb (by omega))
  replace rH1 := rH1.agr (Below.agr hb (by omega))
  replace rH2 := rH2.agr (Below.agr hb (by omega))
  replace hbA := hbA.trans (hb.mono (by omega))
  clear hb
  go_wp2_with fail
  go_at_call 48
  refine (eqIntS_yes _ _ _ _ _ _ _ hNN (Sl.mono rH2 (Nat.zero_le _) (by omega)) (Sl.mono rW2 (Nat.zero_le _) (by omega))).mono ?_
  rintro _ v22 ⟨rfl, hb⟩
  have hs23 := hb.size
  replace w0 := w0.agr (Below.agr hb (by omega))
  replace w1 := w1.agr (Below.agr hb (by omega))
  replace bE := bE.agr (Below.agr hb (by omega))
  replace bW := bW.agr (Below.agr hb (by omega))
  replace rW1 := rW1.agr (Below.agr hb (by omega))
  replace rW2 := rW2.agr (Below.agr hb (by omega))
  replace bG := bG.agr (Below.agr hb (by omega))
  replace oGm := oGm.agr (Below.agr hb (by omega))
  replace oHm := oHm.agr (Below.agr hb (by omega))
  replace bH := bH.agr (Below.agr hb (by omega))
  replace rH1 := rH1.agr (Below.agr hb (by omega))
  replace rH2 := rH2.agr (Below.agr hb (by omega))
  replace hbA := hbA.trans (hb.mono (by omega))
  clear hb
  obtain ⟨kbG, pbG, qbG⟩ := bG.at_
  replace kbG := Nat.lt_of_lt_of_le kbG (show _ ≤ v22.heap.size by omega)
  go_wp2_with fail
  go_at_call 52
  refine (heldLiquor_any _ _ _ _ _ _ hNN (by omega) (by omega) (Sl.mono oGm.sl (Nat.zero_le _) (by omega))).mono ?_
  rintro _ v23 ⟨rfl, hb⟩
  clear kbG pbG qbG
  have hs24 := hb.size
  replace w0 := w0.agr (Below.agr hb (by omega))
  replace w1 := w1.agr (Below.agr hb (by omega))
  replace bE := bE.agr (Below.agr hb (by omega))
  replace bW := bW.agr (Below.agr hb (by omega))
  replace rW1 := rW1.agr (Below.agr hb (by omega))
  replace rW2 := rW2.agr (Below.agr hb (by omega))
  replace bG := bG.agr (Below.agr hb (by omega))
  replace oGm := oGm.agr (Below.agr hb (by omega))
  replace oHm := oHm.agr (Below.agr hb (by omega))
  replace bH := bH.agr (Below.agr hb (by omega))
  replace rH1 := rH1.agr (Below.agr hb (by omega))
  replace rH2 := rH2.agr (Below.agr hb (by omega))
  replace hbA := hbA.trans (hb.mono (by omega))
  clear hb
  go_wp2_with fail
  go_at_call 53
  refine (heldIntS_any _ _ _ _ _ hNN (by omega) (by omega) (Sl.mono oHm.sl (Nat.zero_le _) (by omega))).mono ?_
  rintro _ _ ⟨rfl, rfl⟩
  go_wp2
  go_ret
  exact ⟨rfl, hbA⟩

namespace fnExactAfterDrying
set_option maxRecDepth 100000 in
theorem lifted (os : Os) (started : os.Started) (H : Type) (enc : TypeId × Value → H) :
    ReturnsInHanded {} Tryd.checked os 12 .any (fun w args => (Rows.fnExactAfterDryingSpec.pre enc Tryd.prog Tryd.f12 Rows.fnExactAfterDryingRow.domain false w args ∧ laidMetH Tryd.prog [("unicode/utf8.acceptRanges", Rows.laid_unicode_utf8_acceptRanges), ("unicode/utf8.first", Rows.laid_unicode_utf8_first)] w) ∧ sizedMet enc Tryd.prog Tryd.f12 (OpenSpec.ofChange Rows.fnExactAfterDryingSpec) false w args) (Rows.fnExactAfterDryingSpec.post enc Tryd.prog Tryd.f12 false true false false) := by
  refine returnsInHanded_of_change_and (C := Tryd.checked) (X := fun w _ => laidMetH Tryd.prog [("unicode/utf8.acceptRanges", Rows.laid_unicode_utf8_acceptRanges), ("unicode/utf8.first", Rows.laid_unicode_utf8_first)] w) (fun _ _ _ hh h => h.of_heap hh) own started (by kernel_rfl) Tryd.func12
    (ChangeSpec.witness_shaped (enc := enc) (C := Tryd.checked) (os := os) (X := fun w _ => laidMetH Tryd.prog [("unicode/utf8.acceptRanges", Rows.laid_unicode_utf8_acceptRanges), ("unicode/utf8.first", Rows.laid_unicode_utf8_first)] w) false (World.laidAll Tryd.prog os [("unicode/utf8.acceptRanges", Rows.laid_unicode_utf8_acceptRanges), ("unicode/utf8.first", Rows.laid_unicode_utf8_first)]) #[.slice none 0 0, .agg #[.int .i64 0, .slice none 0 0], .int .i64 0] 8 (World.laidAll_os _ _ _)
      (World.shaped_of_ZipB (by kernel_rfl) (by kernel_rfl)) (by kernel_rfl) (by kernel_rfl) (by kernel_rfl)
      (by rw [MakeChecks.laidMetH_plain _ _ _ (by kernel_rfl)]; exact laidMet_laidAll _ (by kernel_rfl) (by kernel_rfl))) ?_
  intro W base args ds gs before hval0 hW _ _ _ _
  have hval : ∀ (j : Nat) t v, Tryd.f12.params[j]? = some t → args[j]? = some v → Value.okWide Tryd.prog W .any base t v := hval0
  have hW' := hW
  obtain ⟨p, q, hA0, hV, rfl, hfz, hnd⟩ := hW
  have hA : DataW.TrodAll enc Tryd.prog W 0 (fun _ => true) true Tryd.f12.params.toList args.toList ds p := hA0
  rw [Tryd.params12] at hA hval
  obtain ⟨v0, vs0, d0, ds0, p0, q0, hargs, rfl, rfl, h0, r0⟩ := trodAll_cons hA
  obtain ⟨v1, vs1, d1, ds1, p1, q1, rfl, rfl, rfl, h1, r1⟩ := trodAll_cons r0
  obtain ⟨v2, vs2, d2, ds2, p2, q2, rfl, rfl, rfl, h2, r2⟩ := trodAll_cons r1
  obtain ⟨rfl, rfl, rfl⟩ := trodAll_nil r2
  obtain rfl : args = #[v0, v1, v2] := by cases args; simp_all
  obtain ⟨rfl, rfl⟩ := trodVars_none hV
  have k0 := h0
  have lt0 : ∀ x ∈ p0, x.block < W.heap.size := by obtain ⟨m, hm⟩ := k0; exact DataW.trod_lt m _ _ _ hm
  obtain ⟨a0, l0, c0, rfl⟩ := okWide_slice Tryd.underlying49 (hval 0 49 v0 rfl rfl)
  obtain ⟨hl0, S0, F0, w0, hs0⟩ : l0 ≤ maxLen ∧ ∃ S F, Rd W a0 l0 3 (kdC S F) ∧ ∀ i, i < l0 → (S i).size ≤ 9223372036854775807 := by
    obtain ⟨fuel, hf⟩ := h0
    obtain ⟨hl, F, hF, hp⟩ := rows_of_trod (sz := 3) Tryd.underlying49 (by kernel_rfl) (by decide) kindCs (fun n cs y hy hl => kind_of_struct Tryd.underlying81 (by kernel_rfl) Tryd.underlying9 Tryd.underlying3 Tryd.underlying3 hy hl) (by simpa [Value.cells] using hf)
    exact ⟨hl, kinds_of_rows hF hp⟩
  have k1 := h1
  have lt1 : ∀ x ∈ p1, x.block < W.heap.size := by obtain ⟨m, hm⟩ := k1; exact DataW.trod_lt m _ _ _ hm
  obtain ⟨x1, B1, m1, d1', L1, rfl, w1, hl1⟩ : ∃ (x : Int) (B : Option Addr) (m c : Nat) (L : Nat → Nat → Int), v1 = .agg #[.int .i64 x, .slice B m c] ∧ Rd W B m 1 (ints L) ∧ m ≤ maxLen := by
    obtain ⟨c0, c1, y0, y1, m, rfl, -, -, hy0, hy1⟩ := Joins.open_agg2 Tryd.underlying54 (by kernel_rfl) (by kernel_rfl) (hval 1 54 v1 rfl rfl) h1
    obtain ⟨x, e0, -, -⟩ := DataW.trod_int Tryd.underlying3 hy0
    obtain ⟨B, m, c, L, e2, hB, hm⟩ := ints_of_slice Tryd.underlying25 Tryd.underlying3 (by kernel_rfl) hy1
    simp at e0 e2
    exact ⟨x, B, m, c, L, by rw [e0, e2], hB, hm⟩
  have k2 := h2
  have lt2 : ∀ x ∈ p2, x.block < W.heap.size := by obtain ⟨m, hm⟩ := k2; exact DataW.trod_lt m _ _ _ hm
  obtain ⟨z2, rfl, rfl, rfl, -⟩ := open_int Tryd.underlying3 (hval 2 3 v2 rfl rfl) h2
  clear hA0 hval0
  refine (law_AfterDrying a0 l0 c0 S0 F0 x1 B1 m1 d1' L1 z2 W hl0 (hide hs0) w0 hl1 w1).mono fun e W' ⟨he, bel⟩ => ?_
  subst he
  exact ⟨_, rfl, _, _, _, [], _, [], hW', trodAll_mk1 (shut_bool Tryd.underlying4 _), (trodAll_cons_mk (Below.trod laidOut (by kernel_rfl) (of_decide_eq_true (by kernel_rfl)) k0 bel lt0) (trodAll_cons_mk (Below.trod laidOut (by kernel_rfl) (of_decide_eq_true (by kernel_rfl)) k1 bel lt1) (trodAll_cons_mk (Below.trod laidOut (by kernel_rfl) (of_decide_eq_true (by kernel_rfl)) k2 bel lt2) trodAll_mk0))), rfl, bel.frame _, fun h => by cases h⟩

theorem over : Rows.fnExactAfterDryingRow.holds Tryd.pinned (OpenSpec.ofChange Rows.fnExactAfterDryingSpec) :=
  OpenClaim.holds_of_wide 12 Tryd.f12 rfl rfl rfl rfl rfl rfl rfl ⟨rfl, rfl, rfl, rfl, rfl⟩ rfl rfl rfl rfl rfl (by kernel_rfl) Tryd.func12 (by kernel_rfl)
    (of_decide_eq_true (by kernel_rfl)) (by unfold Func.isWrapper; first | (rw [if_pos (by decide +kernel)]; kernel_rfl) | (rw [if_neg (by decide +kernel)]; exact ⟨rfl, rfl⟩))
    (fun os started H enc _ => lifted os started H enc)

theorem proved : Rows.FnExactAfterDryingCardSaid :=
  Claim7.holds_tied_plain_at .later [] [.data, .pinned] true (true, "7896a40067982a83cfd24083683a4453ea77e5aa9cd191f8d74f5adf758bff7b") false over (fun _ h => by cases h) (by kernel_rfl) (fun _ h => by cases h) fnExactAfterDrying_row_tie rfl ⟨rfl, rfl⟩ (by kernel_rfl) rfl
    (fun f fn hf hfn => by
      obtain rfl : f = 12 := Option.some.inj ((show Tryd.prog.funcNamed "loop.example/g01019/laws.FnExactAfterDrying" = some 12 by kernel_rfl).symm.trans hf) |>.symm
      obtain rfl : fn = Tryd.f12 := (Option.some.inj (Tryd.func12.symm.trans hfn)).symm
      exact ⟨by kernel_rfl, fun j t ht => by
        rw [Tryd.params12] at ht
        have hm : t ∈ [49, 54, 3] := by simpa using Array.mem_of_getElem? ht
        have hall : ([49, 54, 3].all fun u => !Tryd.prog.wantsStandIn u) = true := by kernel_rfl
        exact (show Tryd.prog.wantsStandIn t = false by simpa using List.all_eq_true.1 hall t hm)⟩)
    (by kernel_rfl)
end fnExactAfterDrying
#print axioms fnExactAfterDrying.proved
end Go.Proofs.YtnmpfojcmedpeaaDoor
