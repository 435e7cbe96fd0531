/-
  The order of basins by depth, of the reference: each put into its place among those before it. Conditions: lengths up to 2^20.
-/
import Derived.Test.YtjhhpepjjpejhaaOrdA
import Derived.Test.YtjhhpepjjpejhaaOwn
import Derived.Deep.RegionLaw
import Derived.Deep.AppendLies
namespace Go.Proofs.Ytjhhpepjjpejhaa
open Go.RowKit

/-- The first m in order. -/
def ordT (F : Nat → Nat → Int) (m : Nat) : Nat → Nat → Int := fun p _ => (ordN F m p : Int)
/-- Behind the place. -/
def ordU (F : Nat → Nat → Int) (m k : Nat) : Nat → Nat → Int := fun p _ => (ordN F m (k + p) : Int)
theorem ord_row (F : Nat → Nat → Int) (m k : Nat) (hk : k = placeN F (ordN F m) m m) : rowL (ints (ordT F m)) k 1 ++ [.int .i64 (m : Int)] ++ rowL (ints (ordU F m k)) (m - k) 1 = rowL (ints (ordT F (m + 1))) (m + 1) 1 := by
  have hle : k ≤ m := by rw [hk]; exact placeN_le F (ordN F m) m m
  apply List.ext_getElem
  · simp [rowL]; omega
  · intro i h1 h2
    have hi : i < m + 1 := by simpa [rowL] using h2
    simp only [rowL, Nat.mul_one, Nat.div_one, List.getElem_map, List.getElem_range, List.getElem_append, List.length_map, List.length_range, List.length_append, List.length_singleton, ints, ordT, ordU, ordN, insAt, ← hk]
    by_cases a : i < k
    · simp [a, show i < k + 1 by omega]
    · by_cases b : i = k
      · subst b; simp
      · simp [a, b, show ¬ i < k + 1 by omega, show k + (i - (k + 1)) = i - 1 by omega]

theorem sl_init {w : World} {lo hi g off n k : Nat} {F : Nat → Nat → Value} (h : Sl w lo hi (some ⟨g, off, none⟩) n 1 F) (hk : k ≤ n) : Sl w lo hi (some ⟨g, off, none⟩) k 1 F := fun h0 => by
  obtain ⟨b, o, e, h1, h2, hc⟩ := h (by omega)
  exact ⟨b, o, e, h1, h2, fun i j hi hj => hc i j (by omega) hj⟩
theorem sl_rest {w : World} {lo hi g n k : Nat} {F : Nat → Nat → Value} (h : Sl w lo hi (some ⟨g, 0, none⟩) n 1 F) (hk : k ≤ n) : Sl w lo hi (some ⟨g, k, none⟩) (n - k) 1 (fun i j => F (k + i) j) := fun h0 => by
  obtain ⟨b, o, e, h1, h2, hc⟩ := h (by omega)
  obtain ⟨rfl, rfl⟩ : g = b ∧ o = 0 := by injection e with e; injection e with e1 e2; exact ⟨e1, e2.symm⟩
  refine ⟨g, k, rfl, h1, h2, fun i j hi hj => ?_⟩
  have := hc (k + i) j (by omega) hj
  rw [← this, show k + i * 1 + j = 0 + (k + i) * 1 + j by omega]
set_option maxRecDepth 20000 in
set_option maxHeartbeats 4000000 in
theorem spec_DepthOrder_any (A : Option Addr) (n c : Nat) (F : Nat → Nat → Int) (w : World) (hn : n ≤ 1048576) (h : Rd w A n 3 (ints F)) :
    Calls Try.prog 22 #[.slice A n c] w (RowP w (fun A' c' => .tuple #[.slice A' (ordLen F n) c', .bool (seriesB F n)]) (ordLen F n) 1 (ints (ordI F n))) := by
  have hb0 : Below w.heap.size w (w.alloc (.cells #[] 3)) := (Below.refl _ _).alloc (Nat.le_refl _) _
  have h0 := Rd.below h hb0
  have hown := World.ownsRow_lit (base := w.heap.size) (e := 3) (size := 1) w #[] 0 (Nat.le_refl _) (Nat.zero_le _) rfl
  cases h1 : seriesB F n
  · rw [show ordLen F n = 0 by simp [ordLen, h1]]
    go_enter Try.func22, Try.ntmps22
    go_wp2_with fail
    go_at_call 35
    refine (l8Good_any _ _ _ _ _ hn h0).mono ?_
    rintro _ w1 ⟨rfl, hb1⟩
    rw [h1]
    go_wp2
    refine bodyPost_ret (v := .tuple #[.slice (some ⟨w.heap.size, 0, none⟩) 0 0, .bool false]) (by simp only [results, Try.results22]; go_simp) rfl ⟨_, _, rfl, Ow.nil _ _ _ _ _ _, gr hb0 hb1⟩
  · rw [show ordLen F n = n by simp [ordLen, h1]]
    have HV := hide h1
    obtain ⟨i0, hi0, hz0, hz1, hz2⟩ := info_parts info_int
    go_enter Try.func22, Try.ntmps22
    go_wp2_with fail
    go_at_call 35
    refine (l8Good_any _ _ _ _ _ hn h0).mono ?_
    rintro _ w1 ⟨rfl, hb1⟩
    rw [h1]
    clear h1
    have hown1 : w1.ownsRow w.heap.size 3 1 (.slice (some ⟨w.heap.size, 0, none⟩) 0 0) 0 (rowL (ints (ordT F 0)) 0 1) := own_below hown hb1
    have hbA := gr hb0 hb1
    clear hb0 hb1 h0 hown
    go_wp2
    go_loopw [4, 5, 6] (fun v i _ wr => ∃ m : Nat, m ≤ n ∧ i = .int .i64 m ∧ wr.ownsRow w.heap.size 3 1 v m (rowL (ints (ordT F m)) m 1) ∧ v.ownBlock ≠ none ∧ Below w.heap.size w wr) (fun _ i _ _ => n - (intOf i).toNat)
    case atStart => exact ⟨0, by omega, rfl, hown1, by simp [Value.ownBlock], hbA⟩
    case round =>
      clear hown1 hbA
      obtain ⟨m, hm, rfl, ho, hnn, hb⟩ := hrel
      have hn8 := (seriesB_at HV.out).1
      by_cases hlt : m < n
      · obtain ⟨G, cc, rfl, hmc, hGf⟩ := own_form ho
        obtain ⟨B', c', hBe, hT⟩ := own_tab ho
        obtain ⟨rfl, rfl⟩ : G = B' ∧ cc = c' := by injection hBe with e1 e2 e3; exact ⟨e1, e3⟩
        clear hBe
        obtain ⟨g, rfl, hg1, hg2⟩ : ∃ g, G = some ⟨g, 0, none⟩ ∧ w.heap.size ≤ g ∧ g < wr.heap.size := by
          rcases hGf with rfl | h
          · exact absurd rfl hnn
          · exact h
        clear hGf hnn
        go_wp2
        go_loopw [6] (fun j wx => ∃ q : Nat, q ≤ m ∧ j = .int .i64 q ∧ Hid (placeN F (ordN F m) m q = placeN F (ordN F m) m m) ∧ Below wr.heap.size wr wx) (fun j _ => (intOf j).toNat)
        case atStart => exact ⟨m, Nat.le_refl _, rfl, hide rfl, Below.refl _ _⟩
        case round =>
          obtain ⟨q, hq, rfl, hP, hbx⟩ := hrel
          by_cases h0 : 0 < q
          · obtain ⟨r, rfl⟩ : ∃ r, q = r + 1 := ⟨q - 1, by omega⟩
            have hbm := ordN_lt F m r (by omega)
            have HR1 := hide (show (r : Int) + 1 - 1 = r by omega)
            have hd : decide ((0 : Int) < (r : Int) + 1) = true := by simp <;> omega
            obtain ⟨b, off, rfl, -, hbw, hcell⟩ := (Rd.below h (gr hb hbx)) (by omega)
            obtain ⟨g', ho', hge, -, hgw, hgc⟩ := (Rd.below (hT.sl.rd (Nat.le_refl _)) hbx) (by omega)
            obtain ⟨rfl, rfl⟩ : g = g' ∧ ho' = 0 := by injection hge with hge; injection hge with e1 e2; exact ⟨e1, e2.symm⟩
            clear hge
            have e0 := hgc r 0 (by omega) (by omega)
            have i0 := hcell m 0 hlt (by omega)
            have i1 := hcell m 1 hlt (by omega)
            have i2 := hcell m 2 hlt (by omega)
            have k0 := hcell (ordN F m r) 0 (by omega) (by omega)
            have k1 := hcell (ordN F m r) 1 (by omega) (by omega)
            have k2 := hcell (ordN F m r) 2 (by omega) (by omega)
            simp only [Nat.add_zero, Nat.zero_add, Nat.mul_one, ints, ordT] at i0 i1 i2 k0 k1 k2 e0
            clear hcell hgc
            have d0 := fun y : After wr => y.cell e0 hgw
            have d1 := fun y : After wr => y.cell i0 hbw
            have d2 := fun y : After wr => y.cell i1 hbw
            have d3 := fun y : After wr => y.cell i2 hbw
            have d4 := fun y : After wr => y.cell k0 hbw
            have d5 := fun y : After wr => y.cell k1 hbw
            have d6 := fun y : After wr => y.cell k2 hbw
            clear e0 i0 i1 i2 k0 k1 k2
            obtain ⟨p1, p2⟩ := cross_bd HV.out (show ordN F m r < n by omega) hlt
            obtain ⟨p3, p4⟩ := cross_bd HV.out hlt (show ordN F m r < n by omega)
            obtain ⟨-, ⟨a1, a2⟩, a3, a4⟩ := basin_at HV.out hlt
            obtain ⟨-, ⟨b1, b2⟩, b3, b4⟩ := basin_at HV.out (show ordN F m r < n by omega)
            have HA := hide (aheadB_eq F m (ordN F m r))
            unfold massF at p1 p2 p3 p4 HA
            generalize hbk : ordN F m r = bk at *
            have HBK := hide hbk
            clear hbk
            have hbn : bk < n := by omega
            cases ha : aheadB F m bk
            · have hcc := HA.out.symm.trans ha
              go_wp2
              refine region_after (by kernel_rfl) (by kernel_rfl) ?_
              repeat (go_big_quiet_step ((first | (go_at_call 43; exact Calls.after (l2Mass_any _ _ _ (by assumption) (by omega) (by assumption) (by omega))))))
              refine wpQuiet_nil ?_
              rintro _ ⟨y, rfl⟩
              go_wp2
              have HP2 := hide (show r + 1 = placeN F (ordN F m) m m by rw [← hP.out]; simp [placeN, HBK.out, ha])
              clear d0 d1 d2 d3 d4 d5 d6
              have hby := gr hbx y.h
              have hyO := own_below ho hby
              have hTy := hT.sl.agr (Below.agr hby (Nat.le_refl _))
              have hsy := hby.size
              have hgy : g < y.w.heap.size := by omega
              have hbA := gr hb hby
              have hS1 : ∀ w', Below y.w.heap.size y.w w' → Rd w' (some ⟨g, 0, none⟩) (r + 1) 1 (ints (ordT F m)) := fun w' hb' => Rd.below ((sl_init hTy (by omega)).mono (Nat.zero_le _) hsy) hb'
              have hS2 : ∀ w', Below y.w.heap.size y.w w' → Rd w' (if cc = r + 1 then some ⟨g, 0, none⟩ else some ⟨g, r + 1, none⟩) (m - (r + 1)) 1 (ints (ordU F m (r + 1))) := fun w' hb' => by
                split
                · intro h0; omega
                · exact Rd.below ((sl_rest hTy (by omega)).mono (Nat.zero_le _) hsy) hb'
              generalize y.w = W at *
              clear y hby ho hT hTy hbx
              have HROW := hide (ord_row F m (r + 1) HP2.out)
              have hkm : (r + 1 : Nat) ≤ m := by omega
              have hkc : (r + 1 : Nat) ≤ cc := by omega
              have hkm' : decide ((((r + 1 : Nat) : Nat) : Int) ≤ m) = true := by simp <;> omega
              have hkc' : decide ((((r + 1 : Nat) : Nat) : Int) ≤ cc) = true := by simp <;> omega
              have hbase : ∀ o : Obj, W.heap.size ≤ (W.drew.alloc o).heap.size := fun o => by simp
              generalize hkk : (r + 1 : Nat) = kk at *
              clear hkk
              go_region_law (first
                | (go_simp; go_at_call 52; refine (l1Own_own (some ⟨g, 0, none⟩) kk cc (ordT F m) _ (by omega) (hS1 _ (by (repeat' (first | exact Below.refl _ _ | assumption | refine Below.drew ?_ | refine Below.alloc ?_ (by first | omega | exact Below.size (by assumption) | (simp; done) | (simp; omega)) _ | refine Below.setCell ?_ (by first | omega | exact Below.size (by assumption) | (simp; done) | (simp; omega)) _))))).mono ?_; rintro _ w2 ⟨v1, rfl, hown1, hb1⟩; have hz2' := hb1.size; (try simp at hz2'))
                | (have hB2 : Below W.heap.size W (w2.alloc (.cells #[.int .i64 m] 3)) := (gr ((Below.refl _ _).drew) hb1).alloc hz2' _; have hq2 : (w2.alloc (.cells #[.int .i64 m] 3)).ownsRow W.heap.size 3 1 v1 kk (rowL (ints (ordT F m)) kk 1) := (own_mono hown1 (Nat.le_refl W.heap.size)).alloc _; have hn2 : ∀ j u, [Value.int .i64 (m : Int)][j]? = some u → (w2.alloc (.cells #[.int .i64 m] 3)).cell? ((⟨w2.heap.size, 0, none⟩ : Addr).add j) = some u := World.news_of_block (cs := #[.int .i64 m]) (t := 3) (fr := (0, 0)) (heap_alloc_new w2 _); have hs2 : W.heap.size ≤ (w2.alloc (.cells #[.int .i64 m] 3)).heap.size := (by first | omega | (simp; done) | (simp; omega)); refine step_append_lies _ (by rfl) _ _ _ (by rfl) W.heap.size 3 i0 _ 1 8 Try.underlying37 hi0 hz0 hz1 hz2 rfl (by omega) v1 kk _ (by rfl) hq2 ⟨w2.heap.size, 0, none⟩ 1 1 [.int .i64 m] (by rfl) (by rfl) hn2 (by simp [Value.oneCell']) (by omega) (by simp only [maxLen]; omega) (by omega) hs2 _ rfl ?_; intro g5 cap5 w5 hown5 hg5 hat5 hlt5; have hB5 := hB2.trans (grown_below hq2 hg5 hs2))
                | (have hB2 : Below W.heap.size W (w2) := gr (((Below.refl _ _).alloc (Nat.le_refl _) (.cells #[.int .i64 m] 3)).drew) hb1; have hq2 : (w2).ownsRow W.heap.size 3 1 v1 kk (rowL (ints (ordT F m)) kk 1) := own_mono hown1 (by show W.heap.size ≤ (W.alloc _).heap.size; simp); have hn2 : ∀ j u, [Value.int .i64 (m : Int)][j]? = some u → (w2).cell? ((⟨W.heap.size, 0, none⟩ : Addr).add j) = some u := World.news_of_block (cs := #[.int .i64 m]) (t := 3) (fr := (0, 0)) ((hb1.block W.heap.size (by simp)).trans (heap_alloc_new W _)); have hs2 : W.heap.size ≤ (w2).heap.size := (by omega); refine step_append_lies _ (by rfl) _ _ _ (by rfl) W.heap.size 3 i0 _ 1 8 Try.underlying37 hi0 hz0 hz1 hz2 rfl (by omega) v1 kk _ (by rfl) hq2 ⟨W.heap.size, 0, none⟩ 1 1 [.int .i64 m] (by rfl) (by rfl) hn2 (by simp [Value.oneCell']) (by omega) (by simp only [maxLen]; omega) (by omega) hs2 _ rfl ?_; intro g5 cap5 w5 hown5 hg5 hat5 hlt5; have hB5 := hB2.trans (grown_below hq2 hg5 hs2))
                | (refine step_append_rd _ (by rfl) _ _ _ (by rfl) W.heap.size 3 i0 _ 1 8 Try.underlying37 hi0 hz0 hz1 hz2 rfl (by omega) _ (kk + 1) _ (by rfl) hown5 _ _ (if cc = kk then some ⟨g, 0, none⟩ else some ⟨g, kk, none⟩) (m - kk) (cc - kk) (ints (ordU F m kk)) (by rfl) (hS2 _ hB5) (fun _ _ _ _ => rfl) (by simp only [maxLen]; omega) (by omega) (hB5.size) ?_; intro v6 w6 hown6 hg6 hat6; have hB6 := hB5.trans (grown_below hown5 hg6 hB5.size); have hr6 : w6.ownsRow w.heap.size 3 1 v6 (m + 1) (rowL (ints (ordT F (m + 1))) (m + 1) 1) := (by have h6 := own_mono hown6 hbA.size; rwa [HROW.out, show kk + 1 + (m - kk) = m + 1 by omega] at h6); have hn6 : v6.ownBlock ≠ none := (by rcases hat6 with h6 | h6 <;> rw [h6] <;> simp [Value.ownBlock])))
              all_goals
                go_wp2_with fail
                go_roundw
                case rel => exact ⟨m + 1, by omega, by go_num, hr6, hn6, hbA.trans (hB6.mono hbA.size)⟩
                case measure => simp [intOf]; omega
            · have hcc := HA.out.symm.trans ha
              go_wp2
              refine region_after (by kernel_rfl) (by kernel_rfl) ?_
              repeat (go_big_quiet_step ((first | (go_at_call 43; exact Calls.after (l2Mass_any _ _ _ (by assumption) (by omega) (by assumption) (by omega))))))
              refine wpQuiet_nil ?_
              rintro _ ⟨y, rfl⟩
              go_wp2
              have HP2 := hide (show placeN F (ordN F m) m r = placeN F (ordN F m) m m by rw [← hP.out]; simp [placeN, HBK.out, ha])
              go_roundw
              case rel => exact ⟨r, by omega, rfl, HP2, gr hbx y.h⟩
              case measure => simp [intOf]
          · have hd0 : decide ((0 : Int) < (q : Int)) = false := by simp; omega
            go_wp2
            refine region_after (by kernel_rfl) (by kernel_rfl) ?_
            repeat (go_big_quiet_step ((first | fail)))
            refine wpQuiet_nil ?_
            rintro _ ⟨y, rfl⟩
            go_wp2
            have HP2 := hide (show q = placeN F (ordN F m) m m by rw [← hP.out, show q = 0 by omega]; rfl)
            have hby := gr hbx y.h
            have hyO := own_below ho hby
            have hTy := hT.sl.agr (Below.agr hby (Nat.le_refl _))
            have hsy := hby.size
            have hgy : g < y.w.heap.size := by omega
            have hbA := gr hb hby
            have hS1 : ∀ w', Below y.w.heap.size y.w w' → Rd w' (some ⟨g, 0, none⟩) (q) 1 (ints (ordT F m)) := fun w' hb' => Rd.below ((sl_init hTy (by omega)).mono (Nat.zero_le _) hsy) hb'
            have hS2 : ∀ w', Below y.w.heap.size y.w w' → Rd w' (if cc = q then some ⟨g, 0, none⟩ else some ⟨g, q, none⟩) (m - (q)) 1 (ints (ordU F m (q))) := fun w' hb' => by
              split
              · intro h0; omega
              · exact Rd.below ((sl_rest hTy (by omega)).mono (Nat.zero_le _) hsy) hb'
            generalize y.w = W at *
            clear y hby ho hT hTy hbx
            have HROW := hide (ord_row F m (q) HP2.out)
            have hkm : (q : Nat) ≤ m := by omega
            have hkc : (q : Nat) ≤ cc := by omega
            have hkm' : decide ((((q : Nat) : Nat) : Int) ≤ m) = true := by simp <;> omega
            have hkc' : decide ((((q : Nat) : Nat) : Int) ≤ cc) = true := by simp <;> omega
            have hbase : ∀ o : Obj, W.heap.size ≤ (W.drew.alloc o).heap.size := fun o => by simp
            generalize hkk : (q : Nat) = kk at *
            clear hkk
            go_region_law (first
              | (go_simp; go_at_call 52; refine (l1Own_own (some ⟨g, 0, none⟩) kk cc (ordT F m) _ (by omega) (hS1 _ (by (repeat' (first | exact Below.refl _ _ | assumption | refine Below.drew ?_ | refine Below.alloc ?_ (by first | omega | exact Below.size (by assumption) | (simp; done) | (simp; omega)) _ | refine Below.setCell ?_ (by first | omega | exact Below.size (by assumption) | (simp; done) | (simp; omega)) _))))).mono ?_; rintro _ w2 ⟨v1, rfl, hown1, hb1⟩; have hz2' := hb1.size; (try simp at hz2'))
              | (have hB2 : Below W.heap.size W (w2.alloc (.cells #[.int .i64 m] 3)) := (gr ((Below.refl _ _).drew) hb1).alloc hz2' _; have hq2 : (w2.alloc (.cells #[.int .i64 m] 3)).ownsRow W.heap.size 3 1 v1 kk (rowL (ints (ordT F m)) kk 1) := (own_mono hown1 (Nat.le_refl W.heap.size)).alloc _; have hn2 : ∀ j u, [Value.int .i64 (m : Int)][j]? = some u → (w2.alloc (.cells #[.int .i64 m] 3)).cell? ((⟨w2.heap.size, 0, none⟩ : Addr).add j) = some u := World.news_of_block (cs := #[.int .i64 m]) (t := 3) (fr := (0, 0)) (heap_alloc_new w2 _); have hs2 : W.heap.size ≤ (w2.alloc (.cells #[.int .i64 m] 3)).heap.size := (by first | omega | (simp; done) | (simp; omega)); refine step_append_lies _ (by rfl) _ _ _ (by rfl) W.heap.size 3 i0 _ 1 8 Try.underlying37 hi0 hz0 hz1 hz2 rfl (by omega) v1 kk _ (by rfl) hq2 ⟨w2.heap.size, 0, none⟩ 1 1 [.int .i64 m] (by rfl) (by rfl) hn2 (by simp [Value.oneCell']) (by omega) (by simp only [maxLen]; omega) (by omega) hs2 _ rfl ?_; intro g5 cap5 w5 hown5 hg5 hat5 hlt5; have hB5 := hB2.trans (grown_below hq2 hg5 hs2))
              | (have hB2 : Below W.heap.size W (w2) := gr (((Below.refl _ _).alloc (Nat.le_refl _) (.cells #[.int .i64 m] 3)).drew) hb1; have hq2 : (w2).ownsRow W.heap.size 3 1 v1 kk (rowL (ints (ordT F m)) kk 1) := own_mono hown1 (by show W.heap.size ≤ (W.alloc _).heap.size; simp); have hn2 : ∀ j u, [Value.int .i64 (m : Int)][j]? = some u → (w2).cell? ((⟨W.heap.size, 0, none⟩ : Addr).add j) = some u := World.news_of_block (cs := #[.int .i64 m]) (t := 3) (fr := (0, 0)) ((hb1.block W.heap.size (by simp)).trans (heap_alloc_new W _)); have hs2 : W.heap.size ≤ (w2).heap.size := (by omega); refine step_append_lies _ (by rfl) _ _ _ (by rfl) W.heap.size 3 i0 _ 1 8 Try.underlying37 hi0 hz0 hz1 hz2 rfl (by omega) v1 kk _ (by rfl) hq2 ⟨W.heap.size, 0, none⟩ 1 1 [.int .i64 m] (by rfl) (by rfl) hn2 (by simp [Value.oneCell']) (by omega) (by simp only [maxLen]; omega) (by omega) hs2 _ rfl ?_; intro g5 cap5 w5 hown5 hg5 hat5 hlt5; have hB5 := hB2.trans (grown_below hq2 hg5 hs2))
              | (refine step_append_rd _ (by rfl) _ _ _ (by rfl) W.heap.size 3 i0 _ 1 8 Try.underlying37 hi0 hz0 hz1 hz2 rfl (by omega) _ (kk + 1) _ (by rfl) hown5 _ _ (if cc = kk then some ⟨g, 0, none⟩ else some ⟨g, kk, none⟩) (m - kk) (cc - kk) (ints (ordU F m kk)) (by rfl) (hS2 _ hB5) (fun _ _ _ _ => rfl) (by simp only [maxLen]; omega) (by omega) (hB5.size) ?_; intro v6 w6 hown6 hg6 hat6; have hB6 := hB5.trans (grown_below hown5 hg6 hB5.size); have hr6 : w6.ownsRow w.heap.size 3 1 v6 (m + 1) (rowL (ints (ordT F (m + 1))) (m + 1) 1) := (by have h6 := own_mono hown6 hbA.size; rwa [HROW.out, show kk + 1 + (m - kk) = m + 1 by omega] at h6); have hn6 : v6.ownBlock ≠ none := (by rcases hat6 with h6 | h6 <;> rw [h6] <;> simp [Value.ownBlock])))
            all_goals
              go_wp2_with fail
              go_roundw
              case rel => exact ⟨m + 1, by omega, by go_num, hr6, hn6, hbA.trans (hB6.mono hbA.size)⟩
              case measure => simp [intOf]; omega
      · obtain rfl : m = n := by omega
        obtain ⟨G, c', rfl, hT⟩ := own_tab ho
        go_wp2
        refine bodyPost_ret (v := .tuple #[.slice G m c', .bool true]) (by simp only [results, Try.results22]; go_simp) rfl ⟨_, _, rfl, (hT.mono (Nat.le_refl _) (Nat.le_refl _)).congr fun p j _ _ => rfl, hb⟩
end Go.Proofs.Ytjhhpepjjpejhaa
