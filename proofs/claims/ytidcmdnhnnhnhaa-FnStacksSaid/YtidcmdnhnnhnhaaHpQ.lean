/-
  Contracts on heaps: a rainy day, of the program. Conditions: lengths up to 2^20.
-/
import Derived.Test.YtidcmdnhnnhnhaaHpN
namespace Go.Proofs.Ytidcmdnhnnhnhaa
open Go.RowKit

/-- What a function leaves that returns turned heaps and a number. -/
def RainP (w : World) (R : RainRes) (e : Ending) (w' : World) : Prop :=
  ∃ A' c', e = .returned (.tuple #[.slice A' R.n c', .int .i64 R.x, .bool R.ok]) ∧ HpO w' w.heap.size w'.heap.size A' R.n R.H ∧ Below w.heap.size w w'
theorem mixR_zero (H : Nat → HeapD) (r : Int) : mixR H r 0 = H := by funext i; simp [mixR]
theorem mixR_at (H : Nat → HeapD) (r : Int) (k : Nat) : mixR H r k k = H k := by simp [mixR]
theorem mixR_succ (H : Nat → HeapD) (r : Int) (k : Nat) : setH (mixR H r k) k (rainD H r k) = mixR H r (k + 1) := by
  funext i
  unfold setH mixR
  by_cases h : i = k
  · subst h; simp
  · have : i < k ↔ i < k + 1 := by omega
    simp [h, this]
theorem mixR_dry {H : Nat → HeapD} {r : Int} {k : Nat} (h : wetB (H k) = false) : mixR H r k = mixR H r (k + 1) := by
  rw [← mixR_succ]
  funext i
  unfold setH
  split
  · rename_i e; subst e; rw [mixR_at]; simp [rainD, h]
  · rfl
theorem mixR_all {H : Nat → HeapD} {r : Int} {n i : Nat} (h : i < n) : mixR H r n i = rainD H r i := by simp [mixR, h]
theorem HpO.congr {w : World} {lo hi n : Nat} {A : Option Addr} {H H' : Nat → HeapD} (h : HpO w lo hi A n H) (e : ∀ i, i < n → H i = H' i) : HpO w lo hi A n H' := by
  obtain ⟨B, c, h1, h2, h3, h4⟩ := h
  refine ⟨B, c, h1.congr fun i j hi _ => ?_, fun i hi => e i hi ▸ h2 i hi, fun i j hi hj hij h5 h6 => h3 i j hi hj hij (by rw [e i hi]; exact h5) (by rw [e j hj]; exact h6), fun i hi h5 => h4 i hi (by rw [e i hi]; exact h5)⟩
  unfold hpC
  rw [e i hi]
set_option maxRecDepth 20000 in
set_option maxHeartbeats 4000000 in
theorem RainOn_any (A : Option Addr) (n c : Nat) (H : Nat → HeapD) (r : Int) (w : World) (hn : n ≤ 1048576) (hln : ∀ i, i < n → (H i).n ≤ 1048576) (h : HpR w A n H) :
    Calls Try.prog 43 #[.slice A n c, .int .i64 r] w (RainP w (rainOnR H n r)) := by
  cases h1 : heapsB H n
  · rw [show rainOnR H n r = ⟨noH, 0⟩ by simp [rainOnR, h1]]
    go_enter Try.func43, Try.ntmps43
    go_wp2_with fail
    go_at_call 30
    refine (AreHeaps_any _ _ _ _ _ hn hln h).mono ?_
    rintro _ w1 ⟨rfl, hb1⟩
    rw [h1]
    go_wp2
    refine bodyPost_ret (v := .tuple #[.slice none 0 0, .int .i64 0, .bool false]) (by simp only [results, Try.results43]; go_simp) rfl ⟨_, _, rfl, HpO.nil _ _ _ _ _, hb1⟩
  cases h2 : inB r 0 300
  · rw [show rainOnR H n r = ⟨noH, 0⟩ by simp [rainOnR, h2]]
    go_enter Try.func43, Try.ntmps43
    go_wp2_with fail
    go_at_call 30
    refine (AreHeaps_any _ _ _ _ _ hn hln h).mono ?_
    rintro _ w1 ⟨rfl, hb1⟩
    rw [h1]
    go_wp2_with fail
    go_at_call 79
    refine (within_any _ _ _ _).mono ?_
    rintro _ _ ⟨rfl, rfl⟩
    rw [h2]
    go_wp2
    refine bodyPost_ret (v := .tuple #[.slice none 0 0, .int .i64 0, .bool false]) (by simp only [results, Try.results43]; go_simp) rfl ⟨_, _, rfl, HpO.nil _ _ _ _ _, hb1⟩
  rw [show rainOnR H n r = ⟨⟨n, rainD H r, true⟩, sumI (rainX H r) n⟩ by simp [rainOnR, h1, h2]]
  obtain ⟨r0, r1⟩ := inB_true h2
  have HV := hide h1
  have HN := hide hln
  go_enter Try.func43, Try.ntmps43
  go_wp2_with fail
  go_at_call 30
  refine (AreHeaps_any _ _ _ _ _ hn hln h).mono ?_
  rintro _ w1 ⟨rfl, hb1⟩
  rw [h1]
  go_wp2_with fail
  go_at_call 79
  refine (within_any _ _ _ _).mono ?_
  rintro _ _ ⟨rfl, rfl⟩
  rw [h2]
  clear h1 h2
  go_wp2_with fail
  go_at_call 76
  refine (copyHeaps_any _ _ _ _ _ hn hln (HpR.below h hb1)).mono ?_
  rintro _ w4 ⟨A4, c4, V0, rfl, hX0, hb4⟩
  clear h hln
  go_wp2
  go_loopw [8, 24] (fun s i wr => ∃ (k : Nat) (V : Nat → Value), k ≤ n ∧ i = .int .i64 k ∧ s = .int .i64 (sumI (rainX H r) k) ∧ HpX wr w1.heap.size A4 n (mixR H r k) V ∧ Below w1.heap.size w1 wr) (fun _ i _ => n - (intOf i).toNat)
  case atStart => exact ⟨0, V0, by omega, rfl, rfl, by rw [mixR_zero]; exact hX0, hb4⟩
  case round =>
    clear hX0 hb4
    obtain ⟨k, V, hk, rfl, rfl, hX, hb⟩ := hrel
    by_cases hlt : k < n
    · obtain ⟨g, rfl, hg1, hg2⟩ := hX.form.resolve_left (by omega)
      have HX := hide hX
      obtain ⟨-, -, x1, x2⟩ := hX.top.at_ hlt
      have e0 := x1 0 (by omega)
      have e1 := x1 1 (by omega)
      have e2 := x1 2 (by omega)
      have e3 := x1 3 (by omega)
      have f2 := x2 2 (by omega)
      have ho := hX.lay.own k hlt
      simp only [Nat.zero_add, Nat.add_zero, hpV, mixR_at] at e0 e1 e2 e3 f2 ho
      clear x1 x2 hX
      obtain ⟨A5, c5, hVa, hO5⟩ := own_tab ho
      have HVa := hide hVa
      rw [hVa] at e2
      clear ho hVa
      have hr5 := hO5.sl.rd (Nat.le_refl _)
      clear hO5
      have hlk := HN.out k hlt
      have HLL := lay_hid HV.out hlt
      obtain ⟨s0, s1⟩ := rainS_bd HV.out r0 r1 k hk
      obtain ⟨t0, t1⟩ := rainX_bd HV.out r0 r1 hlt
      have HS := hide (show sumI (rainX H r) (k + 1) = sumI (rainX H r) k + rainX H r k from rfl)
      generalize sumI (rainX H r) k = S at s0 s1 HS ⊢
      go_upto_region 8 with fail
      have hbW : Below wr.heap.size wr (wr.alloc (.cells #[.int .i64 (H k).id, .int .i64 (H k).gr, .slice A5 (H k).n c5, .bool (H k).cov] 27)) := (Below.refl _ _).alloc (Nat.le_refl _) _
      have hsW : (wr.alloc (.cells #[.int .i64 (H k).id, .int .i64 (H k).gr, .slice A5 (H k).n c5, .bool (H k).cov] 27)).heap.size = wr.heap.size + 1 := by simp
      have b2 : World.cell? (wr.alloc (.cells #[.int .i64 (H k).id, .int .i64 (H k).gr, .slice A5 (H k).n c5, .bool (H k).cov] 27)) ⟨wr.heap.size, 2, none⟩ = some (.slice A5 (H k).n c5) := by rw [World.cell?_alloc_new]; rfl
      have b3 : World.cell? (wr.alloc (.cells #[.int .i64 (H k).id, .int .i64 (H k).gr, .slice A5 (H k).n c5, .bool (H k).cov] 27)) ⟨wr.heap.size, 3, none⟩ = some (.bool (H k).cov) := by rw [World.cell?_alloc_new]; rfl
      generalize wr.alloc (.cells #[.int .i64 (H k).id, .int .i64 (H k).gr, .slice A5 (H k).n c5, .bool (H k).cov] 27) = W6 at hbW hsW b2 b3 ⊢
      clear e0 e1 e3
      replace e2 := (hbW.cell (p := ⟨g, k * 4 + 2, none⟩) hg2).trans e2
      replace f2 := (hbW.frozen (p := ⟨g, k * 4 + 2, none⟩) hg2).trans f2
      replace hr5 := Rd.below hr5 hbW
      have hX6 := HX.out.below hbW
      have HX6 := hide hX6
      clear hX6 HX
      have hbB : Below w1.heap.size w1 W6 := gr hb hbW
      have hsB := hbB.size
      by_cases hw : wetB (H k) = true
      · have hw2 := hw
        simp only [wetB, Bool.and_eq_true, Bool.not_eq_true', beq_eq_false_iff_ne] at hw
        obtain ⟨w1', w2'⟩ := hw
        rw [w1'] at b3
        have hpos : ((H k).n == 0) = false := by simp; omega
        have HX1 := hide (show rainX H r k = min (r / 10) (topH (H k).n (H k).L) by simp [rainX, hw2])
        have HD := hide (show rainD H r k = takeD (H k) (rainX H r k) by simp [rainD, hw2])
        clear hw2 w1' w2'
        go_wp2_with fail
        go_at_call 64
        refine (topOf_any _ _ _ _ _ hlk hr5).mono ?_
        rintro _ _ ⟨rfl, rfl⟩
        generalize topH (H k).n (H k).L = T at HX1 ⊢
        generalize rainX H r k = X at t0 t1 HX1 HS HD
        rcases Int.lt_trichotomy (r / 10) T with hq | hq | hq
        · obtain rfl : X = r / 10 := by have := HX1.out; omega
          clear HX1
          go_wp2_with fail
          go_at_call 80
          refine (without_any _ _ _ _ _ _ hlk t0 (by omega) HLL hr5).mono ?_
          rintro _ w5 ⟨v5, rfl, hown5, hb5⟩
          replace e2 := (hb5.cell (p := ⟨g, k * 4 + 2, none⟩) (by show g < _; omega)).trans e2
          replace f2 := (hb5.frozen (p := ⟨g, k * 4 + 2, none⟩) (by show g < _; omega)).trans f2
          clear b2 b3 hr5
          obtain ⟨A6, c6, rfl, -⟩ := own_tab hown5
          have hXE0 := HX6.out.turn (d := takeD (H k) (r / 10)) hlt (grown_of_below hb5 _) (own_mono hown5 (by omega)) (fun q hq => .inr (hown5.lt q hq).1) (by rw [mixR_at]; rfl) (by rw [mixR_at]; rfl) (by rw [mixR_at]; rfl)
          have hXE : HpX (w5.setCell ⟨g, k * 4 + 2, none⟩ (.slice A6 (takeF (H k).L (H k).n (r / 10)).1 c6)) w1.heap.size (some ⟨g, 0, none⟩) n (mixR H r (k + 1)) (setV V k (.slice A6 (takeF (H k).L (H k).n (r / 10)).1 c6)) := by rw [← mixR_succ, HD.out]; exact hXE0
          have HXE := hide hXE
          clear hXE hXE0
          have hg6 : g < w5.heap.size := by have := hb5.size; omega
          have hbE : Below w1.heap.size w1 (w5.setCell ⟨g, k * 4 + 2, none⟩ (.slice A6 (takeF (H k).L (H k).n (r / 10)).1 c6)) := (hbB.trans (hb5.mono hsB)).setCell (p := ⟨g, k * 4 + 2, none⟩) (by show _ ≤ g; omega) _
          clear hown5
          go_wp2
          go_roundw
          case rel => exact ⟨k + 1, _, by omega, by go_num, by rw [HS.out], HXE.out, hbE⟩
          case measure => simp [intOf]; omega
        · subst hq
          obtain rfl : X = r / 10 := by have := HX1.out; omega
          clear HX1
          go_wp2_with fail
          go_at_call 80
          refine (without_any _ _ _ _ _ _ hlk t0 (by omega) HLL hr5).mono ?_
          rintro _ w5 ⟨v5, rfl, hown5, hb5⟩
          replace e2 := (hb5.cell (p := ⟨g, k * 4 + 2, none⟩) (by show g < _; omega)).trans e2
          replace f2 := (hb5.frozen (p := ⟨g, k * 4 + 2, none⟩) (by show g < _; omega)).trans f2
          clear b2 b3 hr5
          obtain ⟨A6, c6, rfl, -⟩ := own_tab hown5
          have hXE0 := HX6.out.turn (d := takeD (H k) (r / 10)) hlt (grown_of_below hb5 _) (own_mono hown5 (by omega)) (fun q hq => .inr (hown5.lt q hq).1) (by rw [mixR_at]; rfl) (by rw [mixR_at]; rfl) (by rw [mixR_at]; rfl)
          have hXE : HpX (w5.setCell ⟨g, k * 4 + 2, none⟩ (.slice A6 (takeF (H k).L (H k).n (r / 10)).1 c6)) w1.heap.size (some ⟨g, 0, none⟩) n (mixR H r (k + 1)) (setV V k (.slice A6 (takeF (H k).L (H k).n (r / 10)).1 c6)) := by rw [← mixR_succ, HD.out]; exact hXE0
          have HXE := hide hXE
          clear hXE hXE0
          have hg6 : g < w5.heap.size := by have := hb5.size; omega
          have hbE : Below w1.heap.size w1 (w5.setCell ⟨g, k * 4 + 2, none⟩ (.slice A6 (takeF (H k).L (H k).n (r / 10)).1 c6)) := (hbB.trans (hb5.mono hsB)).setCell (p := ⟨g, k * 4 + 2, none⟩) (by show _ ≤ g; omega) _
          clear hown5
          go_wp2
          go_roundw
          case rel => exact ⟨k + 1, _, by omega, by go_num, by rw [HS.out], HXE.out, hbE⟩
          case measure => simp [intOf]; omega
        · obtain rfl : X = T := by have := HX1.out; omega
          clear HX1
          go_wp2_with fail
          go_at_call 80
          refine (without_any _ _ _ _ _ _ hlk t0 (by omega) HLL hr5).mono ?_
          rintro _ w5 ⟨v5, rfl, hown5, hb5⟩
          replace e2 := (hb5.cell (p := ⟨g, k * 4 + 2, none⟩) (by show g < _; omega)).trans e2
          replace f2 := (hb5.frozen (p := ⟨g, k * 4 + 2, none⟩) (by show g < _; omega)).trans f2
          clear b2 b3 hr5
          obtain ⟨A6, c6, rfl, -⟩ := own_tab hown5
          have hXE0 := HX6.out.turn (d := takeD (H k) (X)) hlt (grown_of_below hb5 _) (own_mono hown5 (by omega)) (fun q hq => .inr (hown5.lt q hq).1) (by rw [mixR_at]; rfl) (by rw [mixR_at]; rfl) (by rw [mixR_at]; rfl)
          have hXE : HpX (w5.setCell ⟨g, k * 4 + 2, none⟩ (.slice A6 (takeF (H k).L (H k).n (X)).1 c6)) w1.heap.size (some ⟨g, 0, none⟩) n (mixR H r (k + 1)) (setV V k (.slice A6 (takeF (H k).L (H k).n (X)).1 c6)) := by rw [← mixR_succ, HD.out]; exact hXE0
          have HXE := hide hXE
          clear hXE hXE0
          have hg6 : g < w5.heap.size := by have := hb5.size; omega
          have hbE : Below w1.heap.size w1 (w5.setCell ⟨g, k * 4 + 2, none⟩ (.slice A6 (takeF (H k).L (H k).n (X)).1 c6)) := (hbB.trans (hb5.mono hsB)).setCell (p := ⟨g, k * 4 + 2, none⟩) (by show _ ≤ g; omega) _
          clear hown5
          go_wp2
          go_roundw
          case rel => exact ⟨k + 1, _, by omega, by go_num, by rw [HS.out], HXE.out, hbE⟩
          case measure => simp [intOf]; omega
      · have hwf : wetB (H k) = false := by simpa using hw
        have HX1 := hide (show rainX H r k = 0 by simp [rainX, hwf])
        have HM := hide (mixR_dry (r := r) hwf)
        have hdry : (H k).cov = true ∨ ((H k).cov = false ∧ ((H k).n == 0) = true) := by
          simp only [wetB] at hwf
          cases hc : (H k).cov
          · rw [hc] at hwf; exact .inr ⟨rfl, by simpa using hwf⟩
          · exact .inl rfl
        clear hw hwf
        rcases hdry with hd | ⟨hd, hz⟩
        · rw [hd] at b3
          clear hd
          go_wp2
          go_roundw
          case rel => exact ⟨k + 1, _, by omega, by go_num, by rw [HS.out, HX1.out]; go_num, by rw [← HM.out]; exact HX6.out, hbB⟩
          case measure => simp [intOf]; omega
        · rw [hd] at b3
          clear hd
          go_wp2
          go_roundw
          case rel => exact ⟨k + 1, _, by omega, by go_num, by rw [HS.out, HX1.out]; go_num, by rw [← HM.out]; exact HX6.out, hbB⟩
          case measure => simp [intOf]; omega
    · obtain rfl : k = n := by omega
      go_wp2
      have hsB := hb1.size
      refine bodyPost_ret (v := .tuple #[.slice A4 k c4, .int .i64 (sumI (rainX H r) k), .bool true]) (by simp only [results, Try.results43]; go_simp) rfl ⟨_, _, rfl, (hX.hpO.congr fun i hi => mixR_all hi).mono hsB (Nat.le_refl _), gr hb1 hb⟩
end Go.Proofs.Ytidcmdnhnnhnhaa
