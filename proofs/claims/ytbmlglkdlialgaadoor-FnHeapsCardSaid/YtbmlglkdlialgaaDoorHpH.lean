/-
  Contracts on heaps: copies of all heaps of the reference, and where a heap of a number stands, of both. Conditions: lengths up to 2^20.
-/
import Derived.Test.YtbmlglkdlialgaaDoorHpG
import Derived.Deep.AppendLies
import Derived.Shelf.Abstract
namespace Go.Proofs.YtbmlglkdlialgaaDoor
open Go.RowKit

theorem rowL_snoc4 (F : Nat → Nat → Value) (k : Nat) : rowL F (k + 1) 4 = rowL F k 4 ++ [F k 0, F k 1, F k 2, F k 3] := by
  have e : (k + 1) * 4 = k * 4 + 1 + 1 + 1 + 1 := by omega
  simp only [rowL, e, List.range_succ, List.map_append, List.map_cons, List.map_nil, List.append_assoc, List.cons_append, List.nil_append]
  have h0 : k * 4 / 4 = k ∧ k * 4 % 4 = 0 := by omega
  have h1 : (k * 4 + 1) / 4 = k ∧ (k * 4 + 1) % 4 = 1 := by omega
  have h2 : (k * 4 + 1 + 1) / 4 = k ∧ (k * 4 + 1 + 1) % 4 = 2 := by omega
  have h3 : (k * 4 + 1 + 1 + 1) / 4 = k ∧ (k * 4 + 1 + 1 + 1) % 4 = 3 := by omega
  rw [h0.1, h0.2, h1.1, h1.2, h2.1, h2.2, h3.1, h3.2]
theorem hpV_snoc (H : Nat → HeapD) (V : Nat → Value) (k : Nat) (v : Value) : rowL (hpV H (setV V k v)) (k + 1) 4 = rowL (hpV H V) k 4 ++ [.int .i64 (H k).id, .int .i64 (H k).gr, v, .bool (H k).cov] := by
  rw [rowL_snoc4]
  have e : rowL (hpV H (setV V k v)) k 4 = rowL (hpV H V) k 4 := rowL_congr fun i j hi hj => by
    match j with
    | 0 => rfl
    | 1 => rfl
    | 2 => simp [hpV, setV, show i ≠ k by omega]
    | _ + 3 => rfl
  rw [e]
  simp [hpV, setV]
theorem LyX.grow {w w' : World} {lo : Nat} {H : Nat → HeapD} {V : Nat → Value} {k p : Nat} (h : LyX w lo H V k p) (hg : w.grownBy w' (some p)) {p' : Nat} (hp : p' = p ∨ p' = w.heap.size) : LyX w' lo H V k p' := by
  refine ⟨fun i hi => (h.own i hi).kept hg (.inr (h.np i hi)), h.ne, fun i hi e => ?_⟩
  rcases hp with rfl | rfl
  · exact h.np i hi e
  · exact absurd (h.lt hi e) (by omega)

set_option maxRecDepth 20000 in
set_option maxHeartbeats 2000000 in
theorem l7Own_any (A : Option Addr) (n c : Nat) (H : Nat → HeapD) (w : World) (hn : n ≤ 1048576) (hln : ∀ i, i < n → (H i).n ≤ 1048576) (h : HpR w A n H) :
    Calls Tryd.prog 45 #[.slice A n c] w (HpCopy w n H) := by
  obtain ⟨B, cc, hS, hL⟩ := h
  have HL := hide hL
  have HN := hide hln
  clear hL hln
  obtain ⟨i0, hi0, hz0, hz1, hz2⟩ := info_parts info_heap
  have hown0 := World.ownsRow_lit (base := w.heap.size) (e := 28) (size := 4) w #[] 0 (Nat.le_refl _) (Nat.zero_le _) rfl
  have hb0 : Below w.heap.size w (w.alloc (.cells #[] 28)) := (Below.refl _ _).alloc (Nat.le_refl _) _
  go_enter Tryd.func45, Tryd.ntmps45
  go_wp2
  go_loopw [3, 4] (fun v i wr => ∃ (k : Nat) (V : Nat → Value) (p : Nat), k ≤ n ∧ i = .int .i64 k ∧ Below w.heap.size w wr ∧ wr.ownsRow w.heap.size 28 4 v k (rowL (hpV H V) k 4) ∧ v.ownBlock = some p ∧ LyX wr w.heap.size H V k p) (fun _ i _ => n - (intOf i).toNat)
  case atStart => exact ⟨0, fun _ => undef, w.heap.size, by omega, rfl, hb0, hown0, rfl, LyX.zero _ _ _ _ _⟩
  case round =>
    clear hown0 hb0
    obtain ⟨k, V, p, hk, rfl, hb, ho, hp, hX⟩ := hrel
    by_cases hlt : k < n
    · obtain ⟨b, off, rfl, hbw, hc⟩ := hp_at hS hb (by omega)
      obtain ⟨c0, c1, c2, c3⟩ := hc k hlt
      clear hc
      have hl := Rd.below (HL.out k hlt).1 hb
      have hlk := HN.out k hlt
      have hpl := (ho.lt p hp).2
      go_upto_region 6 with fail
      have hbW : Below wr.heap.size wr (wr.alloc (.cells #[.int .i64 (H k).id, .int .i64 (H k).gr, .slice (B k) (H k).n (cc k), .bool (H k).cov] 28)) := (Below.refl _ _).alloc (Nat.le_refl _) _
      have hsW : (wr.alloc (.cells #[.int .i64 (H k).id, .int .i64 (H k).gr, .slice (B k) (H k).n (cc k), .bool (H k).cov] 28)).heap.size = wr.heap.size + 1 := by simp
      have e0 : World.cell? (wr.alloc (.cells #[.int .i64 (H k).id, .int .i64 (H k).gr, .slice (B k) (H k).n (cc k), .bool (H k).cov] 28)) ⟨wr.heap.size, 0, none⟩ = some (.int .i64 (H k).id) := by rw [World.cell?_alloc_new]; rfl
      have e1 : World.cell? (wr.alloc (.cells #[.int .i64 (H k).id, .int .i64 (H k).gr, .slice (B k) (H k).n (cc k), .bool (H k).cov] 28)) ⟨wr.heap.size, 1, none⟩ = some (.int .i64 (H k).gr) := by rw [World.cell?_alloc_new]; rfl
      have e2 : World.cell? (wr.alloc (.cells #[.int .i64 (H k).id, .int .i64 (H k).gr, .slice (B k) (H k).n (cc k), .bool (H k).cov] 28)) ⟨wr.heap.size, 2, none⟩ = some (.slice (B k) (H k).n (cc k)) := by rw [World.cell?_alloc_new]; rfl
      have e3 : World.cell? (wr.alloc (.cells #[.int .i64 (H k).id, .int .i64 (H k).gr, .slice (B k) (H k).n (cc k), .bool (H k).cov] 28)) ⟨wr.heap.size, 3, none⟩ = some (.bool (H k).cov) := by rw [World.cell?_alloc_new]; rfl
      have f2 : World.frozen? (wr.alloc (.cells #[.int .i64 (H k).id, .int .i64 (H k).gr, .slice (B k) (H k).n (cc k), .bool (H k).cov] 28)) ⟨wr.heap.size, 2, none⟩ = false := by exact World.frozen?_alloc_new _ _ _ _
      generalize wr.alloc (.cells #[.int .i64 (H k).id, .int .i64 (H k).gr, .slice (B k) (H k).n (cc k), .bool (H k).cov] 28) = W2 at hbW hsW e0 e1 e2 e3 f2 ⊢
      clear c0 c1 c2 c3
      replace hl := Rd.below hl hbW
      go_wp2_with fail
      go_at_call 71
      refine (l1Own_own _ _ _ _ _ hlk hl).mono ?_
      rintro _ w3 ⟨v', rfl, hown, hb3⟩
      obtain ⟨A3, c3, rfl, -⟩ := own_tab hown
      have hz3 := hb3.size
      have e0' := (hb3.cell (p := ⟨wr.heap.size, 0, none⟩) (by show wr.heap.size < _; omega)).trans e0
      have e1' := (hb3.cell (p := ⟨wr.heap.size, 1, none⟩) (by show wr.heap.size < _; omega)).trans e1
      have e2' := (hb3.cell (p := ⟨wr.heap.size, 2, none⟩) (by show wr.heap.size < _; omega)).trans e2
      have e3' := (hb3.cell (p := ⟨wr.heap.size, 3, none⟩) (by show wr.heap.size < _; omega)).trans e3
      have f2' := (hb3.frozen (p := ⟨wr.heap.size, 2, none⟩) (by show wr.heap.size < _; omega)).trans f2
      clear e0 e1 e2 e3 f2 hl
      have hvb : ∀ q, Value.ownBlock (.slice A3 (H k).n c3) = some q → wr.heap.size + 1 ≤ q := fun q hq => by have := (hown.lt q hq).1; omega
      have hbA := gr hbW hb3
      have ho3 := own_set (own_below ho hbA) (g := wr.heap.size) (o := 2) (by rw [hp]; intro e; injection e with e; omega) (.slice A3 (H k).n c3)
      have hX3 := (hX.below hbA).set (g := wr.heap.size) (o := 2) (fun i hi e => by have := hX.lt hi e; omega) (.slice A3 (H k).n c3)
      have hown3 := own_set hown (g := wr.heap.size) (o := 2) (fun e => by have := hvb _ e; omega) (.slice A3 (H k).n c3)
      have hX4 := hX3.snoc (v := .slice A3 (H k).n c3) (own_mono hown3 (by have := hb.size; omega)) (fun e => by have := hvb _ e; omega) (fun i hi => by
        cases hv : Value.ownBlock (.slice A3 (H k).n c3) with
        | none => exact .inl rfl
        | some q => exact .inr fun e => by have := hvb q hv; have := hX.lt hi e.symm; omega)
      have hbB : Below w.heap.size w (w3.setCell ⟨wr.heap.size, 2, none⟩ (.slice A3 (H k).n c3)) := (gr hb hbA).setCell (p := ⟨wr.heap.size, 2, none⟩) hb.size _
      have hzz : w.heap.size ≤ (w3.setCell ⟨wr.heap.size, 2, none⟩ (.slice A3 (H k).n c3)).heap.size := hbB.size
      clear hX hX3 hown3 hown ho
      have HSN := hide (hpV_snoc H V k (.slice A3 (H k).n c3))
      have hzr : wr.heap.size < w3.heap.size := by omega
      have hnw : ∀ j u, [Value.int .i64 (H k).id, .int .i64 (H k).gr, .slice A3 (H k).n c3, .bool (H k).cov][j]? = some u → ((w3.setCell ⟨wr.heap.size, 2, none⟩ (.slice A3 (H k).n c3)).alloc (.cells #[.int .i64 (H k).id, .int .i64 (H k).gr, .slice A3 (H k).n c3, .bool (H k).cov] 28)).cell? ((⟨w3.heap.size, 0, none⟩ : Addr).add j) = some u := by
        have e : (w3.setCell ⟨wr.heap.size, 2, none⟩ (.slice A3 (H k).n c3)).heap.size = w3.heap.size := by simp
        have h1 := heap_alloc_new (w3.setCell ⟨wr.heap.size, 2, none⟩ (.slice A3 (H k).n c3)) (.cells #[.int .i64 (H k).id, .int .i64 (H k).gr, .slice A3 (H k).n c3, .bool (H k).cov] 28)
        rw [e] at h1
        exact World.news_of_block h1
      have hzw : w.heap.size ≤ w3.heap.size := by simpa using hzz
      have ho4 := ho3.alloc (.cells #[.int .i64 (H k).id, .int .i64 (H k).gr, .slice A3 (H k).n c3, .bool (H k).cov] 28)
      go_wp2_with (at_builtin; refine wpList_append_own_at _ rfl _ _ 34 rfl w.heap.size 28 i0 (.agg #[.int .i64 0, .int .i64 0, .slice none 0 0, .bool false]) 4 48 Tryd.underlying34 hi0 hz0 hz1 hz2 rfl (by decide) _ k _ rfl ho4 ⟨w3.heap.size, 0, none⟩ 1 1 [.int .i64 (H k).id, .int .i64 (H k).gr, .slice A3 (H k).n c3, .bool (H k).cov] rfl rfl hnw (by simp [Value.oneCell']) (by simp only [maxLen]; omega) (by omega) (by simp; omega) ?_; intro v5 w5 hown5 hg5 _ hv5)
      have hb5 := (hbB.alloc hzz (.cells #[.int .i64 (H k).id, .int .i64 (H k).gr, .slice A3 (H k).n c3, .bool (H k).cov] 28)).trans (grown_below ho4 hg5 (by simp; omega))
      have hX5 := hX4.below ((Below.refl _ _).alloc (Nat.le_refl _) (.cells #[.int .i64 (H k).id, .int .i64 (H k).gr, .slice A3 (H k).n c3, .bool (H k).cov] 28))
      replace hg5 : World.grownBy ((w3.setCell ⟨wr.heap.size, 2, none⟩ (.slice A3 (H k).n c3)).alloc (.cells #[.int .i64 (H k).id, .int .i64 (H k).gr, .slice A3 (H k).n c3, .bool (H k).cov] 28)) w5 (some p) := by rw [← hp]; exact hg5
      go_roundw
      case rel =>
        rcases hv5 with hv5 | hv5
        · exact ⟨k + 1, _, p, by omega, by go_num, hb5, HSN.out ▸ hown5, hv5.trans hp, hX5.grow hg5 (.inl rfl)⟩
        · exact ⟨k + 1, _, _, by omega, by go_num, hb5, HSN.out ▸ hown5, hv5, hX5.grow hg5 (.inr rfl)⟩
      case measure => simp [intOf]; omega
    · obtain rfl : k = n := by omega
      have hform := ho.lt p hp
      obtain ⟨A5, c5, rfl, hO⟩ := own_tab ho
      have hpA : p = blkO A5 := by
        cases A5 with
        | none => simp [Value.ownBlock] at hp
        | some a => simp [Value.ownBlock] at hp; rw [← hp]; rfl
      have hfm : k = 0 ∨ ∃ g, A5 = some ⟨g, 0, none⟩ ∧ w.heap.size ≤ g ∧ g < wr.heap.size := by
        rcases Nat.eq_zero_or_pos k with h0 | h0
        · exact .inl h0
        · obtain ⟨g, cap, e, h1, h2⟩ := ho.form h0
          injection e with e
          exact .inr ⟨g, e, h1, h2⟩
      go_wp2
      go_ret
      exact ⟨A5, c5, V, rfl, ⟨hO, hpA ▸ hX, hfm⟩, hb⟩

/-- An index, or -1. -/
def idxV : Option Nat → Int
  | some i => i
  | none => -1
theorem heapP_any (a g : Int) (B : Option Addr) (n c : Nat) (cov : Bool) (ib : Nat) (id : Int) (w : World) (hc : w.cell? ⟨ib, 0, none⟩ = some (.int .i64 id)) (hl : ib < w.heap.size) :
    Calls Tryd.prog 67 #[.agg #[.int .i64 a, .int .i64 g, .slice B n c, .bool cov], .pointer (some ⟨ib, 0, none⟩)] w fun e w' => e = .returned (.bool (a == id)) ∧ Below w.heap.size w w' := by
  go_enter Tryd.func67, Tryd.ntmps67
  go_wp2
  go_ret
  exact ⟨rfl, (Below.refl _ _).alloc (Nat.le_refl _) _⟩
set_option maxHeartbeats 1000000 in
theorem heapIdx_any (A : Option Addr) (n c : Nat) (H : Nat → HeapD) (ib : Nat) (id : Int) (w : World) (hn : n ≤ 1048576) (h : HpR w A n H) (hc : w.cell? ⟨ib, 0, none⟩ = some (.int .i64 id)) (hl : ib < w.heap.size) :
    Calls Tryd.prog 66 #[.slice A n c, .func (.func 67) #[] #[.pointer (some ⟨ib, 0, none⟩)]] w fun e w' => e = .returned (.int .i64 (idxV (firstB (idB H id) n))) ∧ Below w.heap.size w w' := by
  have eg : ∀ args w, (callFunc 67 args).run Tryd.prog w = .ok (.enter 67 args) w := enters_of Tryd.func67 (by kernel_rfl) rfl
  obtain ⟨B, cc, hS, -⟩ := h
  go_enter Tryd.func66, Tryd.ntmps66
  go_wp2
  go_loopw [8] (fun i wr => ∃ k : Nat, k ≤ n ∧ i = .int .i64 k ∧ firstB (idB H id) k = none ∧ Below w.heap.size w wr) (fun i _ => n - (intOf i).toNat)
  case atStart => exact ⟨0, by omega, rfl, rfl, Below.refl _ _⟩
  case round =>
    obtain ⟨k, hk, rfl, hf, hb⟩ := hrel
    have HF := hide hf
    clear hf
    by_cases hlt : k < n
    · obtain ⟨b, off, rfl, hbw, hcc⟩ := hp_at hS hb (by omega)
      obtain ⟨c0, c1, c2, c3⟩ := hcc k hlt
      clear hcc
      have hc' := (hb.cell (p := ⟨ib, 0, none⟩) hl).trans hc
      have hl' : ib < wr.heap.size := Nat.lt_of_lt_of_le hl hb.size
      cases hd : ((H k).id == id)
      · go_wp2_with (go_at_fn 67; refine (heapP_any _ _ _ _ _ _ ib id _ hc' hl').mono ?_; rintro _ w2 ⟨rfl, hb2⟩)
        go_roundw
        case rel => exact ⟨k + 1, by omega, by go_num, firstB_succ_none HF.out hd, gr hb hb2⟩
        case measure => simp [intOf]; omega
      · go_wp2_with (go_at_fn 67; refine (heapP_any _ _ _ _ _ _ ib id _ hc' hl').mono ?_; rintro _ w2 ⟨rfl, hb2⟩)
        go_ret
        exact ⟨ret_int (by rw [firstB_at HF.out hd hlt]; rfl), gr hb hb2⟩
    · go_wp2
      go_ret
      obtain rfl : k = n := by omega
      exact ⟨ret_int (by rw [HF.out]; rfl), hb⟩
set_option maxHeartbeats 1000000 in
theorem heapAt_any (A : Option Addr) (n c : Nat) (H : Nat → HeapD) (id : Int) (w : World) (hn : n ≤ 1048576) (h : HpR w A n H) :
    Calls Tryd.prog 40 #[.slice A n c, .int .i64 id] w fun e w' => e = .returned (.int .i64 (idxV (firstB (idB H id) n))) ∧ Below w.heap.size w w' := by
  have hb0 : Below w.heap.size w (w.alloc (.cells #[.int .i64 id] 3)) := (Below.refl _ _).alloc (Nat.le_refl _) _
  have h' := HpR.below h hb0
  have hc : World.cell? (w.alloc (.cells #[.int .i64 id] 3)) ⟨w.heap.size, 0, none⟩ = some (.int .i64 id) := by rw [World.cell?_alloc_new]; rfl
  go_enter Tryd.func40, Tryd.ntmps40
  go_wp2_with fail
  go_at_call 66
  refine (heapIdx_any _ _ _ _ w.heap.size id _ hn h' hc (by simp)).mono ?_
  rintro _ w2 ⟨rfl, hb2⟩
  go_wp2
  go_ret
  exact ⟨rfl, gr hb0 hb2⟩
def findV (H : Nat → HeapD) (n : Nat) (id : Int) : Int := if heapsB H n then idxV (firstB (idB H id) n) else -1
set_option maxHeartbeats 1000000 in
theorem l7Find_any (A : Option Addr) (n c : Nat) (H : Nat → HeapD) (id : Int) (w : World) (hn : n ≤ 1048576) (hln : ∀ i, i < n → (H i).n ≤ 1048576) (h : HpR w A n H) :
    Calls Tryd.prog 43 #[.slice A n c, .int .i64 id] w fun e w' => e = .returned (.int .i64 (findV H n id)) ∧ Below w.heap.size w w' := by
  have HV := hide (show findV H n id = if heapsB H n then idxV (firstB (idB H id) n) else -1 from rfl)
  have hh := h
  obtain ⟨B, cc, hS, -⟩ := h
  go_enter Tryd.func43, Tryd.ntmps43
  go_wp2
  go_loopw [5] (fun i wr => ∃ k : Nat, k ≤ n ∧ i = .int .i64 k ∧ firstB (idB H id) k = none ∧ (0 < k → heapsB H n = true) ∧ Below w.heap.size w wr) (fun i _ => n - (intOf i).toNat)
  case atStart => exact ⟨0, by omega, rfl, rfl, fun h => absurd h (by omega), Below.refl _ _⟩
  case round =>
    obtain ⟨k, hk, rfl, hf, hg, hb⟩ := hrel
    have HF := hide hf
    have HG := hide hg
    clear hf hg
    by_cases hlt : k < n
    · obtain ⟨b, off, rfl, hbw, hcc⟩ := hp_at hS hb (by omega)
      obtain ⟨c0, -, -, -⟩ := hcc k hlt
      clear hcc
      cases h1 : heapsB H n
      · go_wp2_with fail
        go_at_call 53
        refine (l7Good_any _ _ _ _ _ hn hln (HpR.below hh hb)).mono ?_
        rintro _ w2 ⟨rfl, hb2⟩
        rw [h1]
        go_wp2
        go_ret
        exact ⟨ret_int (by rw [HV.out, h1]; rfl), gr hb hb2⟩
      · go_wp2_with fail
        go_at_call 53
        refine (l7Good_any _ _ _ _ _ hn hln (HpR.below hh hb)).mono ?_
        rintro _ w2 ⟨rfl, hb2⟩
        rw [h1]
        have c0' := (hb2.cell (p := ⟨b, off + k * 4, none⟩) hbw).trans c0
        have hbw2 := Nat.lt_of_lt_of_le hbw hb2.size
        clear c0 hbw
        cases hd : ((H k).id == id)
        · go_wp2
          go_roundw
          case rel => exact ⟨k + 1, by omega, by go_num, firstB_succ_none HF.out hd, fun _ => (by first | exact h1 | trivial), gr hb hb2⟩
          case measure => simp [intOf]; omega
        · go_wp2
          go_ret
          exact ⟨ret_int (by rw [HV.out, h1, firstB_at HF.out hd hlt]; rfl), gr hb hb2⟩
    · go_wp2
      go_ret
      obtain rfl : k = n := by omega
      exact ⟨ret_int (by rw [HV.out, HF.out]; simp [idxV]), hb⟩
end Go.Proofs.YtbmlglkdlialgaaDoor
