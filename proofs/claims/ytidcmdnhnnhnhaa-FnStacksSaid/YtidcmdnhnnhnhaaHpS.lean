/-
  Contracts on heaps: a rainy day, of the reference. Conditions: lengths up to 2^20.
-/
import Derived.Test.YtidcmdnhnnhnhaaHpQ
namespace Go.Proofs.Ytidcmdnhnnhnhaa
open Go.RowKit

set_option maxRecDepth 20000 in
set_option maxHeartbeats 4000000 in
theorem spec_RainOn_any (A : Option Addr) (n c : Nat) (H : Nat → HeapD) (r : Int) (w : World) (hn : n ≤ 1048576) (hln : ∀ i, i < n → (H i).n ≤ 1048576) (h : HpR w A n H) :
    Calls Try.prog 42 #[.slice A n c, .int .i64 r] w (RainP w (rainOnR H n r)) := by
  cases h1 : heapsB H n
  · rw [show rainOnR H n r = ⟨noH, 0⟩ by simp [rainOnR, h1]]
    go_enter Try.func42, Try.ntmps42
    go_wp2_with fail
    go_at_call 66
    refine (l7Good_any _ _ _ _ _ hn hln h).mono ?_
    rintro _ w1 ⟨rfl, hb1⟩
    rw [h1]
    go_wp2
    refine bodyPost_ret (v := .tuple #[.slice (some ⟨w1.heap.size, 0, none⟩) 0 0, .int .i64 0, .bool false]) (by simp only [results, Try.results42]; go_simp) rfl ⟨_, _, rfl, HpO.nil _ _ _ _ _, Below.alloc hb1 (Below.size hb1) _⟩
  cases h2 : inB r 0 300
  · rw [show rainOnR H n r = ⟨noH, 0⟩ by simp [rainOnR, h2]]
    go_enter Try.func42, Try.ntmps42
    go_wp2_with fail
    go_at_call 66
    refine (l7Good_any _ _ _ _ _ hn hln h).mono ?_
    rintro _ w1 ⟨rfl, hb1⟩
    rw [h1]
    go_wp2_with fail
    go_at_call 60
    refine (l1In_any _ _ _ _).mono ?_
    rintro _ _ ⟨rfl, rfl⟩
    rw [h2]
    go_wp2
    refine bodyPost_ret (v := .tuple #[.slice (some ⟨w1.heap.size, 0, none⟩) 0 0, .int .i64 0, .bool false]) (by simp only [results, Try.results42]; go_simp) rfl ⟨_, _, rfl, HpO.nil _ _ _ _ _, Below.alloc hb1 (Below.size hb1) _⟩
  rw [show rainOnR H n r = ⟨⟨n, rainD H r, true⟩, sumI (rainX H r) n⟩ by simp [rainOnR, h1, h2]]
  obtain ⟨r0, r1⟩ := inB_true h2
  have HV := hide h1
  have HN := hide hln
  go_enter Try.func42, Try.ntmps42
  go_wp2_with fail
  go_at_call 66
  refine (l7Good_any _ _ _ _ _ hn hln h).mono ?_
  rintro _ w1 ⟨rfl, hb1⟩
  rw [h1]
  go_wp2_with fail
  go_at_call 60
  refine (l1In_any _ _ _ _).mono ?_
  rintro _ _ ⟨rfl, rfl⟩
  rw [h2]
  clear h1 h2
  go_wp2_with fail
  go_at_call 74
  refine (l7Own_any _ _ _ _ _ hn hln (HpR.below h hb1)).mono ?_
  rintro _ w4 ⟨A4, c4, V0, rfl, hX0, hb4⟩
  clear h hln
  go_wp2
  go_loopw [8, 9] (fun s i wr => ∃ (k : Nat) (V : Nat → Value), k ≤ n ∧ i = .int .i64 k ∧ s = .int .i64 (sumI (rainX H r) k) ∧ HpX wr w1.heap.size A4 n (mixR H r k) V ∧ Below w1.heap.size w1 wr) (fun _ i _ => n - (intOf i).toNat)
  case atStart => exact ⟨0, V0, by omega, rfl, rfl, by rw [mixR_zero]; exact hX0, hb4⟩
  case round =>
    clear hX0 hb4
    obtain ⟨k, V, hk, rfl, rfl, hX, hb⟩ := hrel
    by_cases hlt : k < n
    · obtain ⟨g, rfl, hg1, hg2⟩ := hX.form.resolve_left (by omega)
      have HX := hide hX
      obtain ⟨-, -, x1, x2⟩ := hX.top.at_ hlt
      have e0 := x1 0 (by omega)
      have e1 := x1 1 (by omega)
      have e2 := x1 2 (by omega)
      have e3 := x1 3 (by omega)
      have f0 := x2 0 (by omega)
      have f1 := x2 1 (by omega)
      have f2 := x2 2 (by omega)
      have f3 := x2 3 (by omega)
      have ho := hX.lay.own k hlt
      simp only [Nat.zero_add, Nat.add_zero, hpV, mixR_at] at e0 e1 e2 e3 f0 f1 f2 f3 ho
      clear x1 x2 hX
      obtain ⟨A5, c5, hVa, hO5⟩ := own_tab ho
      have HVa := hide hVa
      rw [hVa] at e2
      clear ho hVa
      have hr5 := hO5.sl.rd (Nat.le_refl _)
      clear hO5
      have hlk := HN.out k hlt
      have HLL := lay_hid HV.out hlt
      obtain ⟨s0, s1⟩ := rainS_bd HV.out r0 r1 k hk
      obtain ⟨t0, t1⟩ := rainX_bd HV.out r0 r1 hlt
      have HS := hide (show sumI (rainX H r) (k + 1) = sumI (rainX H r) k + rainX H r k from rfl)
      generalize sumI (rainX H r) k = S at s0 s1 HS ⊢
      go_upto_region 8 with fail
      have hbW : Below wr.heap.size wr (wr.alloc (.cells #[.int .i64 (H k).id, .int .i64 (H k).gr, .slice A5 (H k).n c5, .bool (H k).cov] 27)) := (Below.refl _ _).alloc (Nat.le_refl _) _
      have hsW : (wr.alloc (.cells #[.int .i64 (H k).id, .int .i64 (H k).gr, .slice A5 (H k).n c5, .bool (H k).cov] 27)).heap.size = wr.heap.size + 1 := by simp
      have b0 : World.cell? (wr.alloc (.cells #[.int .i64 (H k).id, .int .i64 (H k).gr, .slice A5 (H k).n c5, .bool (H k).cov] 27)) ⟨wr.heap.size, 0, none⟩ = some (.int .i64 (H k).id) := by rw [World.cell?_alloc_new]; rfl
      have b1 : World.cell? (wr.alloc (.cells #[.int .i64 (H k).id, .int .i64 (H k).gr, .slice A5 (H k).n c5, .bool (H k).cov] 27)) ⟨wr.heap.size, 1, none⟩ = some (.int .i64 (H k).gr) := by rw [World.cell?_alloc_new]; rfl
      have b2 : World.cell? (wr.alloc (.cells #[.int .i64 (H k).id, .int .i64 (H k).gr, .slice A5 (H k).n c5, .bool (H k).cov] 27)) ⟨wr.heap.size, 2, none⟩ = some (.slice A5 (H k).n c5) := by rw [World.cell?_alloc_new]; rfl
      have b3 : World.cell? (wr.alloc (.cells #[.int .i64 (H k).id, .int .i64 (H k).gr, .slice A5 (H k).n c5, .bool (H k).cov] 27)) ⟨wr.heap.size, 3, none⟩ = some (.bool (H k).cov) := by rw [World.cell?_alloc_new]; rfl
      have p2 : World.frozen? (wr.alloc (.cells #[.int .i64 (H k).id, .int .i64 (H k).gr, .slice A5 (H k).n c5, .bool (H k).cov] 27)) ⟨wr.heap.size, 2, none⟩ = false := by exact World.frozen?_alloc_new _ _ _ _
      generalize wr.alloc (.cells #[.int .i64 (H k).id, .int .i64 (H k).gr, .slice A5 (H k).n c5, .bool (H k).cov] 27) = W6 at hbW hsW b0 b1 b2 b3 p2 ⊢
      replace e0 := (Below.cell hbW (p := ⟨g, k * 4, none⟩) hg2).trans e0
      replace e1 := (Below.cell hbW (p := ⟨g, k * 4 + 1, none⟩) hg2).trans e1
      replace e2 := (Below.cell hbW (p := ⟨g, k * 4 + 2, none⟩) hg2).trans e2
      replace e3 := (Below.cell hbW (p := ⟨g, k * 4 + 3, none⟩) hg2).trans e3
      replace f0 := (Below.frozen hbW (p := ⟨g, k * 4, none⟩) hg2).trans f0
      replace f1 := (Below.frozen hbW (p := ⟨g, k * 4 + 1, none⟩) hg2).trans f1
      replace f2 := (Below.frozen hbW (p := ⟨g, k * 4 + 2, none⟩) hg2).trans f2
      replace f3 := (Below.frozen hbW (p := ⟨g, k * 4 + 3, none⟩) hg2).trans f3
      replace hg2 := Nat.lt_of_lt_of_le hg2 (Below.size hbW)
      have hz6 : wr.heap.size < W6.heap.size := by omega
      replace hr5 := Rd.below hr5 hbW
      have hX6 := HX.out.below hbW
      have HX6 := hide hX6
      have hev : ∀ i, i < n → (V i).ownBlock ≠ some wr.heap.size := fun i hi e => by have := HX.out.lay.lt hi e; omega
      have HEV := hide hev
      have hng : wr.heap.size ≠ g := by
        obtain ⟨g', e', -, h2⟩ := HX.out.form.resolve_left (by omega)
        injection e' with e'; injection e' with e'
        omega
      clear hX6 HX hev
      have hbB : Below w1.heap.size w1 W6 := gr hb hbW
      have hsB := hbB.size
      have hsr := hb.size
      by_cases hw : wetB (H k) = true
      · have hw2 := hw
        simp only [wetB, Bool.and_eq_true, Bool.not_eq_true', beq_eq_false_iff_ne] at hw
        obtain ⟨w1', w2'⟩ := hw
        have HC := hide w1'
        rw [w1'] at b3
        have hpos : ((H k).n == 0) = false := by simp; omega
        have HX1 := hide (show rainX H r k = min (r / 10) (topH (H k).n (H k).L) by simp [rainX, hw2])
        have HD := hide (show rainD H r k = takeD (H k) (rainX H r k) by simp [rainD, hw2])
        clear hw2 w1' w2'
        go_wp2_with fail
        go_at_call 71
        refine (l7Top_any _ _ _ _ _ _ _ _ hlk hr5).mono ?_
        rintro _ w7 ⟨rfl, hb7⟩
        generalize topH (H k).n (H k).L = T at HX1 ⊢
        replace b0 := (Below.cell hb7 (p := ⟨wr.heap.size, 0, none⟩) hz6).trans b0
        replace b1 := (Below.cell hb7 (p := ⟨wr.heap.size, 1, none⟩) hz6).trans b1
        replace b2 := (Below.cell hb7 (p := ⟨wr.heap.size, 2, none⟩) hz6).trans b2
        replace b3 := (Below.cell hb7 (p := ⟨wr.heap.size, 3, none⟩) hz6).trans b3
        replace p2 := (Below.frozen hb7 (p := ⟨wr.heap.size, 2, none⟩) hz6).trans p2
        replace e0 := (Below.cell hb7 (p := ⟨g, k * 4, none⟩) hg2).trans e0
        replace e1 := (Below.cell hb7 (p := ⟨g, k * 4 + 1, none⟩) hg2).trans e1
        replace e2 := (Below.cell hb7 (p := ⟨g, k * 4 + 2, none⟩) hg2).trans e2
        replace e3 := (Below.cell hb7 (p := ⟨g, k * 4 + 3, none⟩) hg2).trans e3
        replace f0 := (Below.frozen hb7 (p := ⟨g, k * 4, none⟩) hg2).trans f0
        replace f1 := (Below.frozen hb7 (p := ⟨g, k * 4 + 1, none⟩) hg2).trans f1
        replace f2 := (Below.frozen hb7 (p := ⟨g, k * 4 + 2, none⟩) hg2).trans f2
        replace f3 := (Below.frozen hb7 (p := ⟨g, k * 4 + 3, none⟩) hg2).trans f3
        replace hg2 := Nat.lt_of_lt_of_le hg2 (Below.size hb7)
        replace hz6 := Nat.lt_of_lt_of_le hz6 (Below.size hb7)
        replace hr5 := Rd.below hr5 hb7
        have hX7 := HX6.out.below hb7
        have HX7 := hide hX7
        clear hX7 HX6
        have hs7 := hb7.size
        replace hbB := hbB.trans (hb7.mono hsB)
        go_wp2_with fail
        go_at_call 77
        refine (l1Least_any _ _ _).mono ?_
        rintro _ _ ⟨rfl, rfl⟩
        rw [← HX1.out]
        generalize rainX H r k = X at t0 t1 HX1 HS HD ⊢
        clear HX1
        go_wp2_with fail
        go_at_call 78
        refine (l7Take_any _ _ _ _ _ _ hlk t0 (by omega) HLL hr5).mono ?_
        rintro _ w5 ⟨v5, rfl, hown5, hb5⟩
        replace b0 := (Below.cell hb5 (p := ⟨wr.heap.size, 0, none⟩) hz6).trans b0
        replace b1 := (Below.cell hb5 (p := ⟨wr.heap.size, 1, none⟩) hz6).trans b1
        replace b2 := (Below.cell hb5 (p := ⟨wr.heap.size, 2, none⟩) hz6).trans b2
        replace b3 := (Below.cell hb5 (p := ⟨wr.heap.size, 3, none⟩) hz6).trans b3
        replace p2 := (Below.frozen hb5 (p := ⟨wr.heap.size, 2, none⟩) hz6).trans p2
        replace e0 := (Below.cell hb5 (p := ⟨g, k * 4, none⟩) hg2).trans e0
        replace e1 := (Below.cell hb5 (p := ⟨g, k * 4 + 1, none⟩) hg2).trans e1
        replace e2 := (Below.cell hb5 (p := ⟨g, k * 4 + 2, none⟩) hg2).trans e2
        replace e3 := (Below.cell hb5 (p := ⟨g, k * 4 + 3, none⟩) hg2).trans e3
        replace f0 := (Below.frozen hb5 (p := ⟨g, k * 4, none⟩) hg2).trans f0
        replace f1 := (Below.frozen hb5 (p := ⟨g, k * 4 + 1, none⟩) hg2).trans f1
        replace f2 := (Below.frozen hb5 (p := ⟨g, k * 4 + 2, none⟩) hg2).trans f2
        replace f3 := (Below.frozen hb5 (p := ⟨g, k * 4 + 3, none⟩) hg2).trans f3
        replace hg2 := Nat.lt_of_lt_of_le hg2 (Below.size hb5)
        replace hz6 := Nat.lt_of_lt_of_le hz6 (Below.size hb5)
        clear hr5
        obtain ⟨A6, c6, rfl, -⟩ := own_tab hown5
        have hXE0 := HX7.out.turn4 (d := takeD (H k) X) (e := wr.heap.size) hlt (grown_of_below hb5 _) (own_mono hown5 (by omega)) (fun q hq => .inr (hown5.lt q hq).1) (by rw [mixR_at]; rfl) (by rw [mixR_at]; rfl) (by rw [mixR_at]; rfl) (by omega) HEV.out hng
        rw [mixR_at] at hXE0
        have hXE := mixR_succ H r k ▸ HD.out ▸ hXE0
        have HXE := hide hXE
        clear hXE hXE0
        have hbE : Below w1.heap.size w1 w5 := hbB.trans (hb5.mono (by omega))
        have hbE2 := ((((hbE.setCell (p := ⟨wr.heap.size, 2, none⟩) (by show _ ≤ wr.heap.size; omega) (.slice A6 (takeF (H k).L (H k).n X).1 c6)).setCell (p := ⟨g, k * 4, none⟩) (by show _ ≤ g; omega) (.int .i64 (H k).id)).setCell (p := ⟨g, k * 4 + 1, none⟩) (by show _ ≤ g; omega) (.int .i64 (H k).gr)).setCell (p := ⟨g, k * 4 + 2, none⟩) (by show _ ≤ g; omega) (.slice A6 (takeF (H k).L (H k).n X).1 c6)).setCell (p := ⟨g, k * 4 + 3, none⟩) (by show _ ≤ g; omega) (.bool (H k).cov)
        have HBE := hide hbE2
        clear hown5 hbE hbE2 hb5
        rw [HC.out] at HBE HXE e3
        go_wp2
        go_roundw
        case rel => exact ⟨k + 1, _, by omega, by go_num, by rw [HS.out], HXE.out, HBE.out⟩
        case measure => simp [intOf]; omega
      · have hwf : wetB (H k) = false := by simpa using hw
        have HX1 := hide (show rainX H r k = 0 by simp [rainX, hwf])
        have HM := hide (mixR_dry (r := r) hwf)
        have hdry : (H k).cov = true ∨ ((H k).cov = false ∧ ((H k).n == 0) = true) := by
          simp only [wetB] at hwf
          cases hc : (H k).cov
          · rw [hc] at hwf; exact .inr ⟨rfl, by simpa using hwf⟩
          · exact .inl rfl
        clear hw hwf
        rcases hdry with hd | ⟨hd, hz⟩
        · rw [hd] at b3
          clear hd
          go_wp2
          go_roundw
          case rel => exact ⟨k + 1, _, by omega, by go_num, by rw [HS.out, HX1.out]; go_num, by rw [← HM.out]; exact HX6.out, hbB⟩
          case measure => simp [intOf]; omega
        · rw [hd] at b3
          clear hd
          go_wp2
          go_roundw
          case rel => exact ⟨k + 1, _, by omega, by go_num, by rw [HS.out, HX1.out]; go_num, by rw [← HM.out]; exact HX6.out, hbB⟩
          case measure => simp [intOf]; omega
    · obtain rfl : k = n := by omega
      go_wp2
      have hsB := hb1.size
      refine bodyPost_ret (v := .tuple #[.slice A4 k c4, .int .i64 (sumI (rainX H r) k), .bool true]) (by simp only [results, Try.results42]; go_simp) rfl ⟨_, _, rfl, (hX.hpO.congr fun i hi => mixR_all hi).mono hsB (Nat.le_refl _), gr hb1 hb⟩
end Go.Proofs.Ytidcmdnhnnhnhaa
