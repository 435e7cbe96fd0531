/-
  The reference's CoverHeaps. Conditions: lengths up to 2^20.
-/
import Derived.Test.YtidcmdnhnnhnhaaCvA
import Derived.Test.YtidcmdnhnnhnhaaCvD
import Derived.Test.YtidcmdnhnnhnhaaHpH
namespace Go.Proofs.Ytidcmdnhnnhnhaa
open Go.RowKit

def pkC (H : Nat → HeapD) (n q k : Nat) : Option Nat := pickT (fun i => wetP H i && !refC (hpT H) (wetP H) n q i) (hpT H) k
theorem pk_skip {H : Nat → HeapD} {n q k : Nat} (h : (wetP H k && !refC (hpT H) (wetP H) n q k) = false) : pkC H n q (k + 1) = pkC H n q k := by
  unfold pkC
  simp only [pickT]
  cases pickT (fun i => wetP H i && !refC (hpT H) (wetP H) n q i) (hpT H) k with
  | none => simp [h]
  | some b => simp [h]
theorem pk_first {H : Nat → HeapD} {n q k : Nat} (h : (wetP H k && !refC (hpT H) (wetP H) n q k) = true) (hp : pkC H n q k = none) : pkC H n q (k + 1) = some k := by
  unfold pkC at hp ⊢
  simp only [pickT, hp, h, if_true]
theorem pk_more {H : Nat → HeapD} {n q k b : Nat} (h : (wetP H k && !refC (hpT H) (wetP H) n q k) = true) (hp : pkC H n q k = some b) : pkC H n q (k + 1) = if hpT H b < hpT H k then some k else some b := by
  unfold pkC at hp ⊢
  simp only [pickT, hp, h, Bool.true_and, decide_eq_true_eq]
theorem pk_lt {H : Nat → HeapD} {n q k b : Nat} (hp : pkC H n q k = some b) : b < k := ((pickT_spec _ _ k).2 b hp).1
theorem ref_none {H : Nat → HeapD} {n q : Nat} (hp : pkC H n q n = none) : refC (hpT H) (wetP H) n (q + 1) = refC (hpT H) (wetP H) n q := by
  unfold pkC at hp
  simp only [refC, hp]
theorem ref_some {H : Nat → HeapD} {n q b : Nat} (hp : pkC H n q n = some b) : refC (hpT H) (wetP H) n (q + 1) = fun i => decide (i = b) || refC (hpT H) (wetP H) n q i := by
  unfold pkC at hp
  simp only [refC, hp]
theorem gr2 {B : Nat} {a b c : World} (h : Below B a b) (k : Below b.heap.size b c) (hB : B ≤ b.heap.size := by omega) : Below B a c := h.trans (k.mono hB)
set_option maxRecDepth 20000 in
set_option maxHeartbeats 8000000 in
theorem spec_CoverHeaps_any (A : Option Addr) (n c : Nat) (H : Nat → HeapD) (s : Int) (w : World) (hn : n ≤ 1048576) (hln : ∀ i, i < n → (H i).n ≤ 1048576) (h : HpR w A n H) :
    Calls Try.prog 46 #[.slice A n c, .int .i64 s] w (HpP w (coverR H n s)) := by
  cases h1 : heapsB H n
  · rw [show coverR H n s = noH by simp [coverR, h1]]
    go_enter Try.func46, Try.ntmps46
    go_wp2_with fail
    go_at_call 66
    refine (l7Good_any _ _ _ _ _ hn hln h).mono ?_
    rintro _ w1 ⟨rfl, hb1⟩
    rw [h1]
    go_wp2
    refine bodyPost_ret (v := .tuple #[.slice (some ⟨w1.heap.size, 0, none⟩) 0 0, .bool false]) (by simp only [results, Try.results46]; go_simp) rfl ⟨_, _, rfl, HpO.nil _ _ _ _ _, Below.alloc hb1 (Below.size hb1) _⟩
  cases h2 : inB s 0 20
  · rw [show coverR H n s = noH by simp [coverR, h2]]
    go_enter Try.func46, Try.ntmps46
    go_wp2_with fail
    go_at_call 66
    refine (l7Good_any _ _ _ _ _ hn hln h).mono ?_
    rintro _ w1 ⟨rfl, hb1⟩
    rw [h1]
    go_wp2_with fail
    go_at_call 60
    refine (l1In_any _ _ _ _).mono ?_
    rintro _ _ ⟨rfl, rfl⟩
    rw [h2]
    go_wp2
    refine bodyPost_ret (v := .tuple #[.slice (some ⟨w1.heap.size, 0, none⟩) 0 0, .bool false]) (by simp only [results, Try.results46]; go_simp) rfl ⟨_, _, rfl, HpO.nil _ _ _ _ _, Below.alloc hb1 (Below.size hb1) _⟩
  have HREF := hide (cover_ref H n s)
  rw [show coverR H n s = ⟨n, covD (prgC (ordS H n) (covN H n s)) H, true⟩ by simp [coverR, h1, h2], ← HREF.out]
  clear HREF
  obtain ⟨r0, r1⟩ := inB_true h2
  have HV := hide h1
  have HN := hide hln
  obtain ⟨S, rfl⟩ : ∃ S : Nat, s = S := ⟨s.toNat, by omega⟩
  rw [show (S : Int).toNat = S from rfl]
  go_enter Try.func46, Try.ntmps46
  go_wp2_with fail
  go_at_call 66
  refine (l7Good_any _ _ _ _ _ hn hln h).mono ?_
  rintro _ w1 ⟨rfl, hb1⟩
  rw [h1]
  go_wp2_with fail
  go_at_call 60
  refine (l1In_any _ _ _ _).mono ?_
  rintro _ _ ⟨rfl, rfl⟩
  rw [h2]
  clear h1 h2
  go_wp2_with fail
  go_at_call 74
  refine (l7Own_any _ _ _ _ _ hn hln (HpR.below h hb1)).mono ?_
  rintro _ w2 ⟨A4, c4, V, rfl, hX0, hb2⟩
  clear h hln
  have HX0 := hide hX0
  clear hX0
  go_wp2
  go_loopw [7, 8, 9] (fun i _ _ wr => ∃ q : Nat, q ≤ S ∧ i = .int .i64 q ∧ HpX wr w1.heap.size A4 n (covD (refC (hpT H) (wetP H) n q) H) V ∧ Below w1.heap.size w1 wr) (fun i _ _ _ => S - (intOf i).toNat)
  case atStart => exact ⟨0, Nat.zero_le _, rfl, by rw [show refC (hpT H) (wetP H) n 0 = fun _ => false from rfl, covD_none]; exact HX0.out, hb2⟩
  case round =>
    clear HX0 hb2
    obtain ⟨q, hq, rfl, hX, hb⟩ := hrel
    have hzo := hb.size
    have HX := hide hX
    clear hX
    by_cases hlt : q < S
    · obtain ⟨C, hC⟩ : ∃ C, refC (hpT H) (wetP H) n q = C := ⟨_, rfl⟩
      have HC := hide hC
      rw [hC] at HX
      have HPK := hide (show (∀ k, (wetP H k && !C k) = false → pkC H n q (k + 1) = pkC H n q k) ∧ (∀ k, (wetP H k && !C k) = true → pkC H n q k = none → pkC H n q (k + 1) = some k) ∧
          (∀ k b, (wetP H k && !C k) = true → pkC H n q k = some b → pkC H n q (k + 1) = if hpT H b < hpT H k then some k else some b) ∧
          (pkC H n q n = none → refC (hpT H) (wetP H) n (q + 1) = C) ∧ (∀ b, pkC H n q n = some b → refC (hpT H) (wetP H) n (q + 1) = fun i => decide (i = b) || C i) by
        subst hC
        exact ⟨fun k h => pk_skip h, fun k h => pk_first h, fun k b h => pk_more h, ref_none, fun b => ref_some⟩)
      have HLT := hide (fun k b => pk_lt (H := H) (n := n) (q := q) (k := k) (b := b))
      have HP0 := hide (show pkC H n q 0 = none from rfl)
      clear hC HC
      generalize pkC H n q = P at *
      go_wp2
      rename World => wo
      go_loopw [8, 9] (fun b i wx => ∃ k : Nat, k ≤ n ∧ i = .int .i64 k ∧ b = .int .i64 (idxV (P k)) ∧ Below wo.heap.size wo wx) (fun _ i _ => n - (intOf i).toNat)
      case atStart => exact ⟨0, Nat.zero_le _, rfl, by rw [HP0.out]; rfl, Below.refl _ _⟩
      case round =>
        clear HP0
        obtain ⟨k, hk, rfl, rfl, hbx⟩ := hrel
        have hX := HX.out.below hbx
        by_cases hlt2 : k < n
        · obtain ⟨g, rfl, hg1, hg2⟩ := hX.form.resolve_left (by omega)
          have hTOP := hide hX.top
          have hLAY := hide hX.lay
          clear hX
          obtain ⟨-, -, x1, -⟩ := hTOP.out.at_ hlt2
          have e0 := x1 0 (by omega)
          have e1 := x1 1 (by omega)
          have e2 := x1 2 (by omega)
          have e3 := x1 3 (by omega)
          obtain ⟨A5, c5, hVa, hO5⟩ := own_tab (hLAY.out.own k hlt2)
          simp only [Nat.zero_add, Nat.add_zero, hpV, hVa, covD] at e0 e1 e2 e3
          have rk : ∀ y : After wr, Rd y.w A5 (H k).n 1 (ints (H k).L) := fun y => Rd.after (hO5.sl.rd (Nat.le_refl _)) y
          have d0 := fun y : After wr => y.cell e0 hg2
          have d1 := fun y : After wr => y.cell e1 hg2
          have d2 := fun y : After wr => y.cell e2 hg2
          have d3 := fun y : After wr => y.cell e3 hg2
          have nk := HN.out k hlt2
          have sk := sum_hid HV.out hlt2
          clear x1 hVa hO5 e0 e1 e2 e3
          have HPS := hide HPK.out.1
          by_cases hw : (wetP H k && !C k) = true
          · have HF := hide (HPK.out.2.1 k hw)
            have HM := hide (fun b => HPK.out.2.2.1 k b hw)
            simp only [wetP, wetB, Bool.and_eq_true, Bool.not_eq_true', beq_eq_false_iff_ne] at hw
            obtain ⟨⟨q1, q2⟩, q3⟩ := hw
            have hcv : ((H k).cov || C k) = false := by rw [q1, q3]; rfl
            have hpos : decide ((0 : Int) < (H k).n) = true := decide_eq_true (by omega)
            have hpos2 : decide (0 < (H k).n) = true := decide_eq_true (by omega)
            rw [hcv] at d3
            clear q1 q2 q3 hcv
            cases hp : P k with
            | none =>
              have HF2 := hide (HF.out hp)
              rw [show idxV none = -1 from rfl]
              clear hp HF HM
              go_wp2_with fail
              refine region_after (by kernel_rfl) (by kernel_rfl) ?_
              repeat (go_big_quiet_step ((first | fail)))
              refine wpQuiet_nil ?_
              rintro _ ⟨y, rfl⟩
              go_wp2
              go_roundw
              case rel => exact ⟨k + 1, by omega, by go_num, by rw [HF2.out]; rfl, gr hbx y.h⟩
              case measure => simp [intOf]; omega
            | some b =>
              have hbk := HLT.out k b hp
              have HM2 := hide (HM.out b hp)
              rw [show idxV (some b) = (b : Int) from rfl]
              obtain ⟨-, -, x1, -⟩ := hTOP.out.at_ (i := b) (by omega)
              have e0 := x1 0 (by omega)
              have e1 := x1 1 (by omega)
              have e2 := x1 2 (by omega)
              have e3 := x1 3 (by omega)
              obtain ⟨A6, c6, hVb, hO6⟩ := own_tab (hLAY.out.own b (by omega))
              simp only [Nat.zero_add, Nat.add_zero, hpV, hVb, covD] at e0 e1 e2 e3
              have rb : ∀ y : After wr, Rd y.w A6 (H b).n 1 (ints (H b).L) := fun y => Rd.after (hO6.sl.rd (Nat.le_refl _)) y
              have f0 := fun y : After wr => y.cell e0 hg2
              have f1 := fun y : After wr => y.cell e1 hg2
              have f2 := fun y : After wr => y.cell e2 hg2
              have f3 := fun y : After wr => y.cell e3 hg2
              have nb := HN.out b (by omega)
              have sb := sum_hid HV.out (i := b) (by omega)
              have hb0 : decide ((b : Int) < 0) = false := decide_eq_false (by omega)
              clear x1 hVb hO6 e0 e1 e2 e3 hp HF HM
              cases hd : decide (tonsH (H b).n (H b).L < tonsH (H k).n (H k).L)
              · have HM3 := hide (show P (k + 1) = some b by rw [HM2.out, if_neg (show ¬ hpT H b < hpT H k from of_decide_eq_false hd)])
                clear HM2
                go_wp2_with fail
                refine region_after (by kernel_rfl) (by kernel_rfl) ?_
                repeat (go_big_quiet_step ((first | (go_at_call 68; exact Calls.after (l7Tons_any _ _ _ _ _ _ _ _ nk (rk _) sk)) | (go_at_call 68; exact Calls.after (l7Tons_any _ _ _ _ _ _ _ _ nb (rb _) sb)))))
                refine wpQuiet_nil ?_
                rintro _ ⟨y, rfl⟩
                go_wp2
                go_roundw
                case rel => exact ⟨k + 1, by omega, by go_num, by rw [HM3.out]; rfl, gr hbx y.h⟩
                case measure => simp [intOf]; omega
              · have HM3 := hide (show P (k + 1) = some k by rw [HM2.out, if_pos (show hpT H b < hpT H k from of_decide_eq_true hd)])
                clear HM2
                go_wp2_with fail
                refine region_after (by kernel_rfl) (by kernel_rfl) ?_
                repeat (go_big_quiet_step ((first | (go_at_call 68; exact Calls.after (l7Tons_any _ _ _ _ _ _ _ _ nk (rk _) sk)) | (go_at_call 68; exact Calls.after (l7Tons_any _ _ _ _ _ _ _ _ nb (rb _) sb)))))
                refine wpQuiet_nil ?_
                rintro _ ⟨y, rfl⟩
                go_wp2
                go_roundw
                case rel => exact ⟨k + 1, by omega, by go_num, by rw [HM3.out]; rfl, gr hbx y.h⟩
                case measure => simp [intOf]; omega
          · have hwf : (wetP H k && !C k) = false := by simpa using hw
            have HS := hide (HPS.out k hwf)
            have hdry : ((H k).cov || C k) = true ∨ (((H k).cov || C k) = false ∧ (H k).n = 0) := by
              simp only [wetP, wetB] at hwf
              cases h1 : (H k).cov <;> cases h2 : C k <;> simp_all
            clear hw hwf HPS
            generalize P k = pk at *
            rcases hdry with hd | ⟨hd, hz⟩
            · rw [hd] at d3
              clear hd
              go_wp2_with fail
              refine region_after (by kernel_rfl) (by kernel_rfl) ?_
              repeat (go_big_quiet_step ((first | fail)))
              refine wpQuiet_nil ?_
              rintro _ ⟨y, rfl⟩
              go_wp2
              go_roundw
              case rel => exact ⟨k + 1, by omega, by go_num, by rw [HS.out], gr hbx y.h⟩
              case measure => simp [intOf]; omega
            · rw [hd] at d3
              rw [hz] at d2
              clear hd hz
              go_wp2_with fail
              refine region_after (by kernel_rfl) (by kernel_rfl) ?_
              repeat (go_big_quiet_step ((first | fail)))
              refine wpQuiet_nil ?_
              rintro _ ⟨y, rfl⟩
              go_wp2
              go_roundw
              case rel => exact ⟨k + 1, by omega, by go_num, by rw [HS.out], gr hbx y.h⟩
              case measure => simp [intOf]; omega
        · obtain rfl : k = n := by omega
          have HPE := hide HPK.out.2.2.2
          clear HPK
          cases hp : P k with
          | none =>
            have HR := hide (HPE.out.1 hp)
            rw [show idxV none = -1 from rfl]
            have HXn := hide hX
            clear hp HPE hX HX HLT
            go_wp2
            go_roundw
            case rel => exact ⟨q + 1, by omega, by go_num, by rw [HR.out]; exact HXn.out, gr2 hb hbx⟩
            case measure => simp [intOf]; omega
          | some b =>
            have HR := hide (HPE.out.2 b hp)
            have hbk := HLT.out k b hp
            rw [show idxV (some b) = (b : Int) from rfl]
            obtain ⟨g, rfl, hg1, hg2⟩ := hX.form.resolve_left (by omega)
            have HXn := hide hX
            obtain ⟨-, -, x1, x2⟩ := hX.top.at_ hbk
            have e0 := x1 0 (by omega)
            have e1 := x1 1 (by omega)
            have e2 := x1 2 (by omega)
            have e3 := x1 3 (by omega)
            have f0 := x2 0 (by omega)
            have f1 := x2 1 (by omega)
            have f2 := x2 2 (by omega)
            have f3 := x2 3 (by omega)
            obtain ⟨A5, c5, hVa, -⟩ := own_tab (hX.lay.own b hbk)
            have HVa := hide hVa
            simp only [Nat.zero_add, Nat.add_zero, hpV, hVa, covD] at e0 e1 e2 e3 f0 f1 f2 f3
            clear x1 x2 hVa hX hp HPE HX HLT
            go_upto_region 15 with fail
            have hzr := hbx.size
            have hbW : Below wr.heap.size wr (wr.alloc (.cells #[.int .i64 (H b).id, .int .i64 (H b).gr, .slice A5 (H b).n c5, .bool ((H b).cov || C b)] 27)) := (Below.refl _ _).alloc (Nat.le_refl _) _
            have b0 : World.cell? (wr.alloc (.cells #[.int .i64 (H b).id, .int .i64 (H b).gr, .slice A5 (H b).n c5, .bool ((H b).cov || C b)] 27)) ⟨wr.heap.size, 0, none⟩ = some (.int .i64 (H b).id) := by rw [World.cell?_alloc_new]; rfl
            have b1 : World.cell? (wr.alloc (.cells #[.int .i64 (H b).id, .int .i64 (H b).gr, .slice A5 (H b).n c5, .bool ((H b).cov || C b)] 27)) ⟨wr.heap.size, 1, none⟩ = some (.int .i64 (H b).gr) := by rw [World.cell?_alloc_new]; rfl
            have b2 : World.cell? (wr.alloc (.cells #[.int .i64 (H b).id, .int .i64 (H b).gr, .slice A5 (H b).n c5, .bool ((H b).cov || C b)] 27)) ⟨wr.heap.size, 2, none⟩ = some (.slice A5 (H b).n c5) := by rw [World.cell?_alloc_new]; rfl
            have b3 : World.cell? (wr.alloc (.cells #[.int .i64 (H b).id, .int .i64 (H b).gr, .slice A5 (H b).n c5, .bool ((H b).cov || C b)] 27)) ⟨wr.heap.size, 3, none⟩ = some (.bool ((H b).cov || C b)) := by rw [World.cell?_alloc_new]; rfl
            have p3 : World.frozen? (wr.alloc (.cells #[.int .i64 (H b).id, .int .i64 (H b).gr, .slice A5 (H b).n c5, .bool ((H b).cov || C b)] 27)) ⟨wr.heap.size, 3, none⟩ = false := by exact World.frozen?_alloc_new _ _ _ _
            have hlv : ∀ i, i < k → (V i).ownBlock ≠ some wr.heap.size := fun i hi e => by have := HXn.out.lay.lt hi e; omega
            have hX6 := HXn.out.below hbW
            generalize wr.alloc (.cells #[.int .i64 (H b).id, .int .i64 (H b).gr, .slice A5 (H b).n c5, .bool ((H b).cov || C b)] 27) = W6 at hbW b0 b1 b2 b3 p3 hX6 ⊢
            replace e0 := (hbW.cell (p := ⟨g, b * 4, none⟩) hg2).trans e0
            replace e1 := (hbW.cell (p := ⟨g, b * 4 + 1, none⟩) hg2).trans e1
            replace e2 := (hbW.cell (p := ⟨g, b * 4 + 2, none⟩) hg2).trans e2
            replace e3 := (hbW.cell (p := ⟨g, b * 4 + 3, none⟩) hg2).trans e3
            replace f0 := (hbW.frozen (p := ⟨g, b * 4, none⟩) hg2).trans f0
            replace f1 := (hbW.frozen (p := ⟨g, b * 4 + 1, none⟩) hg2).trans f1
            replace f2 := (hbW.frozen (p := ⟨g, b * 4 + 2, none⟩) hg2).trans f2
            replace f3 := (hbW.frozen (p := ⟨g, b * 4 + 3, none⟩) hg2).trans f3
            have hge : g ≠ wr.heap.size := by omega
            have hbY := (gr2 hb hbx).trans (hbW.mono (by omega))
            have h1 := hX6.other (e := wr.heap.size) (o := 3) (by omega) (fun h => hge h.symm) hlv (.bool true)
            have h2 := h1.same hbk (j := 0) (by omega) (b * 4) rfl
            have h3 := h2.same hbk (j := 1) (by omega) (b * 4 + 1) rfl
            have h4 := h3.same hbk (j := 2) (by omega) (b * 4 + 2) rfl
            simp only [hpV, HVa.out, covD] at h2 h3 h4
            have h5 := h4.cover hbk (b * 4 + 3) rfl
            have HX5 := hide h5
            have hzW := hbW.size
            have hew : wr.heap.size < W6.heap.size := by
              rcases Nat.lt_or_ge wr.heap.size W6.heap.size with h | h
              · exact h
              · simp [World.cell?, Array.getElem?_eq_none h] at b0
            have hgW : g < W6.heap.size := by omega
            have HSET := hide (covD_set C H b)
            clear h1 h2 h3 h4 h5 hX6 HXn hlv HVa
            go_wp2
            go_roundw
            case rel => exact ⟨q + 1, by omega, by go_num, by rw [HR.out, ← HSET.out]; exact HX5.out, ((((hbY.setCell (p := ⟨wr.heap.size, 3, none⟩) (by show _ ≤ wr.heap.size; omega) _).setCell (p := ⟨g, b * 4, none⟩) hg1 _).setCell (p := ⟨g, b * 4 + 1, none⟩) hg1 _).setCell (p := ⟨g, b * 4 + 2, none⟩) hg1 _).setCell (p := ⟨g, b * 4 + 3, none⟩) hg1 _⟩
            case measure => simp [intOf]; omega
    · obtain rfl : q = S := by omega
      go_wp2
      refine bodyPost_ret (v := .tuple #[.slice A4 n c4, .bool true]) (by simp only [results, Try.results46]; go_simp) rfl ⟨_, _, rfl, HX.out.hpO.mono (Below.size hb1) (Nat.le_refl _), gr hb1 hb⟩
end Go.Proofs.Ytidcmdnhnnhnhaa
