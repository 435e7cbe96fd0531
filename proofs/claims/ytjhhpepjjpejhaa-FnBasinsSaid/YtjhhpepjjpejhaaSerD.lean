/-
  Contracts on basins: copies of a series, and a series after a day's sun, of the program and of the reference. Conditions: lengths up to 2^20.
-/
import Derived.Test.YtjhhpepjjpejhaaSerA
import Derived.Test.YtjhhpepjjpejhaaSerT
import Derived.Test.YtjhhpepjjpejhaaApp
import Derived.Test.YtjhhpepjjpejhaaSunB
import Derived.Lib.SliceRun
namespace Go.Proofs.Ytjhhpepjjpejhaa
open Go.RowKit

set_option maxHeartbeats 1000000 in
theorem l8Own_any (A : Option Addr) (n c : Nat) (F : Nat → Nat → Int) (w : World) (hn : n ≤ 1048576) (h : Rd w A n 3 (ints F)) :
    Calls Try.prog 47 #[.slice A n c] w (RowP w (fun A' c' => .slice A' n c') n 3 (ints F)) := by
  obtain ⟨i0, hi0, hz0, hz1, hz2⟩ := info_parts info_basin
  have hown := World.ownsRow_lit (base := w.heap.size) (e := 49) (size := 3) w #[] 0 (Nat.le_refl _) (Nat.zero_le _) rfl
  have h' := Rd.alloc h (.cells #[] 49)
  have hb1 : Below w.heap.size w (w.alloc (.cells #[] 49)) := (Below.refl _ _).alloc (Nat.le_refl _) _
  go_enter Try.func47, Try.ntmps47
  go_wp2_with (at_builtin; refine wpList_append_rd _ rfl (.tmp 3) (.tmp 4) 25 rfl w.heap.size 49 i0 _ 3 24 Try.underlying25 hi0 hz0 hz1 hz2 rfl (by decide) _ _ _ rfl hown _ _ A n c (ints F) rfl h' (fun _ _ _ _ => rfl) (by simp only [maxLen]; omega) (by omega) (by simp) ?_; intro v2 w2 hown2 hg2 _; have hb2 := grown_below hown hg2 (by simp); clear hg2)
  simp only [Nat.zero_add, List.nil_append] at hown2
  obtain ⟨A', c', rfl, hO⟩ := own_tab hown2
  go_ret
  exact ⟨A', c', rfl, hO, hb1.trans hb2⟩

set_option maxHeartbeats 1000000 in
theorem cloneB_any (A : Option Addr) (n c : Nat) (F : Nat → Nat → Int) (w : World) (hn : n ≤ 1048576) (h : Rd w A n 3 (ints F)) :
    Calls Try.prog 50 #[.slice A n c] w (RowP w (fun A' c' => .slice A' n c') n 3 (ints F)) := by
  have q22 : ∀ (w : World) (a : Option Addr) (n c n' c' : Nat), (binOp .eql 25 (.slice a n c) (.slice none n' c')).run Try.prog w = .ok (.bool a.isNone) w := fun w a n c n' c' => Lib.run_eql_slice_nil w _ _ a n c n' c' Try.underlying25
  cases A with
  | none =>
    obtain rfl : n = 0 := by
      rcases Nat.eq_zero_or_pos n with h0 | h0
      · exact h0
      · obtain ⟨b, off, h, -⟩ := h h0
        cases h
    go_enter Try.func50, Try.ntmps50
    go_wp2
    go_ret
    exact ⟨none, 0, rfl, Ow.nil _ _ _ _ _ _, Below.refl _ _⟩
  | some ad =>
    obtain ⟨i0, hi0, hz0, hz1, hz2⟩ := info_parts info_basin
    have hown := World.ownsRow_lit (base := w.heap.size) (e := 49) (size := 3) w #[] 0 (Nat.le_refl _) (Nat.zero_le _) rfl
    have h' := Rd.alloc h (.cells #[] 49)
    have hb1 : Below w.heap.size w (w.alloc (.cells #[] 49)) := (Below.refl _ _).alloc (Nat.le_refl _) _
    go_enter Try.func50, Try.ntmps50
    go_wp2_with (at_builtin; refine wpList_append_rd _ rfl (.tmp 5) (.tmp 6) 25 rfl w.heap.size 49 i0 _ 3 24 Try.underlying25 hi0 hz0 hz1 hz2 rfl (by decide) _ _ _ rfl hown _ _ (some ad) n c (ints F) rfl h' (fun _ _ _ _ => rfl) (by simp only [maxLen]; omega) (by omega) (by simp) ?_; intro v2 w2 hown2 hg2 _; have hb2 := grown_below hown hg2 (by simp); clear hg2)
    simp only [Nat.zero_add, List.nil_append] at hown2
    obtain ⟨A', c', rfl, hO⟩ := own_tab hown2
    go_ret
    exact ⟨A', c', rfl, hO, hb1.trans hb2⟩

/-- The basins while the sun shines: the first k behind it. -/
def mixT (F : Nat → Nat → Int) (rate : Int) (k : Nat) : Nat → Nat → Int := fun i j => if i < k then sunT F rate i j else F i j
theorem mixT_succ (F : Nat → Nat → Int) (rate : Int) (k : Nat) {n : Nat} (i j : Nat) (_hi : i < n) (_hj : j < 3) : upd (ints (mixT F rate k)) k 1 (.int .i64 (F k 1 - lossB F rate k)) i j = ints (mixT F rate (k + 1)) i j := by
  unfold upd mixT
  by_cases h : i = k
  · subst h
    by_cases hj : j = 1
    · subst hj; simp [sunT]
    · simp [hj, sunT]
  · have : i < k ↔ i < k + 1 := by omega
    simp [h, this]
theorem mixT_succ2 (F : Nat → Nat → Int) (rate : Int) (k : Nat) {n : Nat} (i j : Nat) (_hi : i < n) (_hj : j < 3) : upd (upd (ints (mixT F rate k)) k 1 (.int .i64 (F k 1 - lossB F rate k))) k 2 (.int .i64 (F k 2)) i j = ints (mixT F rate (k + 1)) i j := by
  unfold upd mixT
  by_cases h : i = k
  · subst h
    by_cases hj : j = 1
    · subst hj; simp [sunT]
    · by_cases hj2 : j = 2
      · subst hj2; simp [sunT]
      · simp [hj, hj2, sunT]
  · have : i < k ↔ i < k + 1 := by omega
    simp [h, this]

theorem l6Loss_at (F : Nat → Nat → Int) (rate : Int) (k : Nat) (w : World) (hb : brineB (F k 1) (F k 2) = true) (ha : 1 ≤ F k 0) (ha2 : F k 0 ≤ 100000) (hr : 0 ≤ rate) (hr2 : rate ≤ 20000) :
    Calls Try.prog 48 #[.agg #[.int .i64 (F k 1), .int .i64 (F k 2)], .int .i64 (F k 0), .int .i64 rate] w fun e w' => e = .returned (.int .i64 (lossB F rate k)) ∧ Below w.heap.size w w' :=
  l6Loss_any _ _ _ _ _ hb ha ha2 hr hr2
theorem loss_at (F : Nat → Nat → Int) (rate : Int) (k : Nat) (w : World) (hb : brineB (F k 1) (F k 2) = true) (ha : 1 ≤ F k 0) (ha2 : F k 0 ≤ 100000) (hr : 0 ≤ rate) (hr2 : rate ≤ 20000) :
    Calls Try.prog 51 #[.agg #[.int .i64 (F k 1), .int .i64 (F k 2)], .int .i64 (F k 0), .int .i64 rate] w fun e w' => e = .returned (.int .i64 (lossB F rate k)) ∧ Below w.heap.size w w' :=
  loss_any _ _ _ _ _ hb ha ha2 hr hr2

set_option maxRecDepth 20000 in
set_option maxHeartbeats 2000000 in
theorem spec_SunOnSeries_any (A : Option Addr) (n c : Nat) (F : Nat → Nat → Int) (rate : Int) (w : World) (hn : n ≤ 1048576) (h : Rd w A n 3 (ints F)) :
    Calls Try.prog 18 #[.slice A n c, .int .i64 rate] w (RowP w (fun A' c' => .tuple #[.slice A' (sunSerN F n rate) c', .int .i64 (sunSerG F n rate), .bool (sunSerB F n rate)]) (sunSerN F n rate) 3 (ints (sunT F rate))) := by
  cases h1 : seriesB F n
  · rw [show sunSerN F n rate = 0 from by simp [sunSerN, sunSerB, h1], show sunSerG F n rate = 0 from by simp [sunSerG, sunSerB, h1], show sunSerB F n rate = false from by simp [sunSerB, h1]]
    go_enter Try.func18, Try.ntmps18
    go_wp2_with (first | (go_at_call 35; refine (l8Good_any _ _ _ _ _ hn h).mono ?_; rintro _ w1 ⟨rfl, hb_w1⟩; have hc_w1 := bcell hb_w1))
    refine bodyPost_ret (v := .tuple #[.slice (some ⟨w1.heap.size, 0, none⟩) 0 0, .int .i64 0, .bool false]) (by simp only [results, Try.results18]; go_simp) rfl ⟨_, _, rfl, Ow.nil _ _ _ _ _ _, hb_w1.alloc hb_w1.size _⟩
  · cases h2 : inB rate 0 20000
    · rw [show sunSerN F n rate = 0 from by simp [sunSerN, sunSerB, h2], show sunSerG F n rate = 0 from by simp [sunSerG, sunSerB, h2], show sunSerB F n rate = false from by simp [sunSerB, h2]]
      go_enter Try.func18, Try.ntmps18
      go_wp2_with (first | (go_at_call 35; refine (l8Good_any _ _ _ _ _ hn h).mono ?_; rintro _ w1 ⟨rfl, hb_w1⟩; have hc_w1 := bcell hb_w1) | (go_at_call 46; refine (l1In_any _ _ _ _).mono ?_; rintro _ _ ⟨rfl, rfl⟩))
      refine bodyPost_ret (v := .tuple #[.slice (some ⟨w1.heap.size, 0, none⟩) 0 0, .int .i64 0, .bool false]) (by simp only [results, Try.results18]; go_simp) rfl ⟨_, _, rfl, Ow.nil _ _ _ _ _ _, hb_w1.alloc hb_w1.size _⟩
    · rw [show sunSerN F n rate = n from by simp [sunSerN, sunSerB, h1, h2], show sunSerG F n rate = sumI (lossB F rate) n from by simp [sunSerG, sunSerB, h1, h2], show sunSerB F n rate = true from by simp [sunSerB, h1, h2]]
      obtain ⟨r1, r2⟩ := inB_true h2
      have HV := hide h1
      clear h1
      go_enter Try.func18, Try.ntmps18
      go_wp2_with (first | (go_at_call 35; refine (l8Good_any _ _ _ _ _ hn h).mono ?_; rintro _ w1 ⟨rfl, hb_w1⟩; have hc_w1 := bcell hb_w1) | (go_at_call 46; refine (l1In_any _ _ _ _).mono ?_; rintro _ _ ⟨rfl, rfl⟩) | (go_at_call 47; refine (l8Own_any _ _ _ _ _ hn (Rd.below h hb_w1)).mono ?_; rintro _ w2 ⟨A', c', rfl, hO, hb_w2⟩))
      have hz1 := hb_w1.size
      have hz2 := hb_w2.size
      have hO' : Ow w2 w1.heap.size w2.heap.size A' n 3 (ints (mixT F rate 0)) := hO
      have hb0 := gr hb_w1 hb_w2
      clear hO h hc_w1 h2
      go_loopw [8, 9, 10] (fun s i _ wr => ∃ k : Nat, k ≤ n ∧ i = .int .i64 k ∧ s = .int .i64 (sumI (lossB F rate) k) ∧ Ow wr w1.heap.size w2.heap.size A' n 3 (ints (mixT F rate k)) ∧ w2.heap.size ≤ wr.heap.size ∧ Below w.heap.size w wr) (fun _ i _ _ => n - (intOf i).toNat)
      case atStart => exact ⟨0, by omega, rfl, rfl, hO', Nat.le_refl _, hb0⟩
      case round =>
        clear hO' hb0
        obtain ⟨k, hk, rfl, rfl, hO, hs, hb⟩ := hrel
        by_cases hlt : k < n
        · obtain ⟨b, off, rfl, hlo, hhi, -⟩ := hO.sl (by omega)
          obtain ⟨-, -, ho1, ho2⟩ := hO.at_ hlt
          have c0 := ho1 0 (by omega)
          have c1 := ho1 1 (by omega)
          have c2 := ho1 2 (by omega)
          have f1 := ho2 1 (by omega)
          have f2 := ho2 2 (by omega)
          simp only [Nat.add_zero, ints, mixT, Nat.lt_irrefl, if_false] at c0 c1 c2
          clear ho1 ho2
          have hbs : b < wr.heap.size := by omega
          obtain ⟨⟨a1, a2⟩, ⟨p1, p2⟩, p3, p4⟩ := basin_at HV.out hlt
          have hbr := ((seriesB_at HV.out).2 k hlt).2
          have HBR := hide hbr
          clear hbr
          obtain ⟨d1, d2⟩ := lossB_bd HV.out r1 r2 hlt
          obtain ⟨g1, g2⟩ := gone_bd HV.out r1 r2 k hk
          have HS := hide (show sumI (lossB F rate) (k + 1) = sumI (lossB F rate) k + lossB F rate k from rfl)
          have HL := hide (show lossV (F k 1) (F k 2) (F k 0) rate = lossB F rate k from rfl)
          have hloss := fun w => l6Loss_at F rate k w HBR.out a1 a2 r1 r2
          have hloss' := fun w => loss_at F rate k w HBR.out a1 a2 r1 r2
          generalize sumI (lossB F rate) k = S at g1 g2 HS ⊢
          clear hloss'
          have d0 := fun x : After wr => x.cell c0 hbs
          have d1' := fun x : After wr => x.cell c1 hbs
          have d2' := fun x : After wr => x.cell c2 hbs
          clear c0 c1 c2 f1 f2
          go_wp2
          refine region_after (by kernel_rfl) (by kernel_rfl) ?_
          repeat (go_big_quiet_step ((first | (go_at_call 48; exact Calls.after (hloss _)))))
          refine wpQuiet_nil ?_
          rintro _ ⟨x, rfl⟩
          go_wp2
          have c0 := d0 x
          have c1 := d1' x
          have c2 := d2' x
          replace hO := hO.below x.h (by omega)
          have hsx := x.h.size
          replace hb := gr hb x.h
          clear d0 d1' d2' hloss
          generalize x.w = W3 at *
          clear x
          obtain ⟨-, -, -, ho2⟩ := hO.at_ hlt
          have f1 := ho2 1 (by omega)
          have f2 := ho2 2 (by omega)
          clear ho2
          have hbs3 : b < W3.heap.size := by omega
          have hca := acell W3
          refine region_after_tail 19 (by kernel_rfl) (by kernel_rfl) ?_
          simp only [List.take_succ_cons, List.take_zero, List.drop_succ_cons, List.drop_zero]
          repeat (go_big_quiet_step ((first | fail)))
          refine wpQuiet_nil ?_
          rintro _ ⟨z, rfl⟩
          go_wp2
          go_roundw
          case rel =>
            have hsz := z.h.size
            refine ⟨k + 1, by omega, by go_num, by rw [HS.out], ?_, by simp; omega, ?_⟩
            · exact (((hO.below z.h (by omega)).set hlt (j0 := 1) (o := off + k * 3 + 1) (by omega) (by omega) _).set hlt (j0 := 2) (o := off + k * 3 + 2) (by omega) (by omega) _).congr fun i j hi hj => mixT_succ2 F rate k i j hi hj
            · exact ((gr hb z.h).setCell (p := ⟨b, off + k * 3 + 1, none⟩) (by simp; omega) _).setCell (p := ⟨b, off + k * 3 + 2, none⟩) (by simp; omega) _
          case measure => simp [intOf]; omega
        · obtain rfl : k = n := by omega
          go_wp2
          refine bodyPost_ret (v := .tuple #[.slice A' k c', .int .i64 (sumI (lossB F rate) k), .bool true]) (by simp only [results, Try.results18]; go_simp) rfl ⟨_, _, rfl, (hO.mono hz1 hs).congr fun i j hi hj => by simp [mixT, hi], hb⟩

set_option maxRecDepth 20000 in
set_option maxHeartbeats 2000000 in
theorem SunOnSeries_any (A : Option Addr) (n c : Nat) (F : Nat → Nat → Int) (rate : Int) (w : World) (hn : n ≤ 1048576) (h : Rd w A n 3 (ints F)) :
    Calls Try.prog 19 #[.slice A n c, .int .i64 rate] w (RowP w (fun A' c' => .tuple #[.slice A' (sunSerN F n rate) c', .int .i64 (sunSerG F n rate), .bool (sunSerB F n rate)]) (sunSerN F n rate) 3 (ints (sunT F rate))) := by
  cases h1 : seriesB F n
  · rw [show sunSerN F n rate = 0 from by simp [sunSerN, sunSerB, h1], show sunSerG F n rate = 0 from by simp [sunSerG, sunSerB, h1], show sunSerB F n rate = false from by simp [sunSerB, h1]]
    go_enter Try.func19, Try.ntmps19
    go_wp2_with (first | (go_at_call 12; refine (IsSeries_any _ _ _ _ _ hn h).mono ?_; rintro _ w1 ⟨rfl, hb_w1⟩; have hc_w1 := bcell hb_w1))
    refine bodyPost_ret (v := .tuple #[.slice none 0 0, .int .i64 0, .bool false]) (by simp only [results, Try.results19]; go_simp) rfl ⟨_, _, rfl, Ow.nil _ _ _ _ _ _, hb_w1⟩
  · cases h2 : inB rate 0 20000
    · rw [show sunSerN F n rate = 0 from by simp [sunSerN, sunSerB, h2], show sunSerG F n rate = 0 from by simp [sunSerG, sunSerB, h2], show sunSerB F n rate = false from by simp [sunSerB, h2]]
      go_enter Try.func19, Try.ntmps19
      go_wp2_with (first | (go_at_call 12; refine (IsSeries_any _ _ _ _ _ hn h).mono ?_; rintro _ w1 ⟨rfl, hb_w1⟩; have hc_w1 := bcell hb_w1) | (go_at_call 49; refine (isRate_any _ _).mono ?_; rintro _ _ ⟨rfl, rfl⟩))
      refine bodyPost_ret (v := .tuple #[.slice none 0 0, .int .i64 0, .bool false]) (by simp only [results, Try.results19]; go_simp) rfl ⟨_, _, rfl, Ow.nil _ _ _ _ _ _, hb_w1⟩
    · rw [show sunSerN F n rate = n from by simp [sunSerN, sunSerB, h1, h2], show sunSerG F n rate = sumI (lossB F rate) n from by simp [sunSerG, sunSerB, h1, h2], show sunSerB F n rate = true from by simp [sunSerB, h1, h2]]
      obtain ⟨r1, r2⟩ := inB_true h2
      have HV := hide h1
      clear h1
      go_enter Try.func19, Try.ntmps19
      go_wp2_with (first | (go_at_call 12; refine (IsSeries_any _ _ _ _ _ hn h).mono ?_; rintro _ w1 ⟨rfl, hb_w1⟩; have hc_w1 := bcell hb_w1) | (go_at_call 49; refine (isRate_any _ _).mono ?_; rintro _ _ ⟨rfl, rfl⟩) | (go_at_call 50; refine (cloneB_any _ _ _ _ _ hn (Rd.below h hb_w1)).mono ?_; rintro _ w2 ⟨A', c', rfl, hO, hb_w2⟩))
      have hz1 := hb_w1.size
      have hz2 := hb_w2.size
      have hO' : Ow w2 w1.heap.size w2.heap.size A' n 3 (ints (mixT F rate 0)) := hO
      have hb0 := gr hb_w1 hb_w2
      clear hO h hc_w1 h2
      go_loopw [8, 24] (fun s i wr => ∃ k : Nat, k ≤ n ∧ i = .int .i64 k ∧ s = .int .i64 (sumI (lossB F rate) k) ∧ Ow wr w1.heap.size w2.heap.size A' n 3 (ints (mixT F rate k)) ∧ w2.heap.size ≤ wr.heap.size ∧ Below w.heap.size w wr) (fun _ i _ => n - (intOf i).toNat)
      case atStart => exact ⟨0, by omega, rfl, rfl, hO', Nat.le_refl _, hb0⟩
      case round =>
        clear hO' hb0
        obtain ⟨k, hk, rfl, rfl, hO, hs, hb⟩ := hrel
        by_cases hlt : k < n
        · obtain ⟨b, off, rfl, hlo, hhi, -⟩ := hO.sl (by omega)
          obtain ⟨-, -, ho1, ho2⟩ := hO.at_ hlt
          have c0 := ho1 0 (by omega)
          have c1 := ho1 1 (by omega)
          have c2 := ho1 2 (by omega)
          have f1 := ho2 1 (by omega)
          have f2 := ho2 2 (by omega)
          simp only [Nat.add_zero, ints, mixT, Nat.lt_irrefl, if_false] at c0 c1 c2
          clear ho1 ho2
          have hbs : b < wr.heap.size := by omega
          obtain ⟨⟨a1, a2⟩, ⟨p1, p2⟩, p3, p4⟩ := basin_at HV.out hlt
          have hbr := ((seriesB_at HV.out).2 k hlt).2
          have HBR := hide hbr
          clear hbr
          obtain ⟨d1, d2⟩ := lossB_bd HV.out r1 r2 hlt
          obtain ⟨g1, g2⟩ := gone_bd HV.out r1 r2 k hk
          have HS := hide (show sumI (lossB F rate) (k + 1) = sumI (lossB F rate) k + lossB F rate k from rfl)
          have HL := hide (show lossV (F k 1) (F k 2) (F k 0) rate = lossB F rate k from rfl)
          have hloss := fun w => l6Loss_at F rate k w HBR.out a1 a2 r1 r2
          have hloss' := fun w => loss_at F rate k w HBR.out a1 a2 r1 r2
          generalize sumI (lossB F rate) k = S at g1 g2 HS ⊢
          clear hloss
          go_wp2_with fail
          go_at_call 51
          refine (hloss' _).mono ?_
          rintro _ w3 ⟨rfl, hb3⟩
          have hbA : Below wr.heap.size wr w3 := ((Below.refl _ _).alloc (Nat.le_refl _) _).trans (hb3.mono (by simp))
          clear hb3
          have hsz := hbA.size
          have c1' := (hbA.cell (by exact hbs)).trans c1
          have f1' := (hbA.frozen (by exact hbs)).trans f1
          have hbs3 : b < w3.heap.size := by omega
          clear c0 c1 c2 f1 f2 hloss'
          go_wp2
          go_roundw
          case rel =>
            refine ⟨k + 1, by omega, by go_num, by rw [HS.out], ?_, by simp; omega, ?_⟩
            · exact ((hO.below hbA (by omega)).set hlt (j0 := 1) (o := off + k * 3 + 1) (by omega) (by omega) _).congr fun i j hi hj => mixT_succ F rate k i j hi hj
            · exact (gr hb hbA).setCell (p := ⟨b, off + k * 3 + 1, none⟩) (by simp; omega) _
          case measure => simp [intOf]; omega
        · obtain rfl : k = n := by omega
          go_wp2
          refine bodyPost_ret (v := .tuple #[.slice A' k c', .int .i64 (sumI (lossB F rate) k), .bool true]) (by simp only [results, Try.results19]; go_simp) rfl ⟨_, _, rfl, (hO.mono hz1 hs).congr fun i j hi hj => by simp [mixT, hi], hb⟩
end Go.Proofs.Ytjhhpepjjpejhaa
