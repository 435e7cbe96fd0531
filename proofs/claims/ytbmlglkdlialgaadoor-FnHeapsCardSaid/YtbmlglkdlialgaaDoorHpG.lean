/-
  Contracts on heaps: copies of all heaps, and where a heap of a number stands, of the program and of the reference. Conditions: lengths up to 2^20.
-/
import Derived.Test.YtbmlglkdlialgaaDoorHpM
import Derived.Test.YtbmlglkdlialgaaDoorHpT
import Derived.Test.YtbmlglkdlialgaaDoorHpU
import Derived.Lib.SliceRun
namespace Go.Proofs.YtbmlglkdlialgaaDoor
open Go.RowKit

/-- The cells of heaps whose layers are the values V. -/
def hpV (H : Nat → HeapD) (V : Nat → Value) : Nat → Nat → Value := fun i j =>
  match j with
  | 0 => .int .i64 (H i).id
  | 1 => .int .i64 (H i).gr
  | 2 => V i
  | _ => .bool (H i).cov
theorem hpV_eq (H : Nat → HeapD) (B : Nat → Option Addr) (c : Nat → Nat) (i j : Nat) : hpC H B c i j = hpV H (fun i => .slice (B i) (H i).n (c i)) i j := by
  match j with
  | 0 => rfl
  | 1 => rfl
  | 2 => rfl
  | _ + 3 => rfl
/-- Rows of layers of the call's own: of the first k heaps; none shares a block with another, nor with the block p. -/
structure LyX (w : World) (lo : Nat) (H : Nat → HeapD) (V : Nat → Value) (k : Nat) (p : Nat) : Prop where
  own : ∀ i, i < k → w.ownsRow lo 3 1 (V i) (H i).n (rowL (ints (H i).L) (H i).n 1)
  ne : ∀ i j, i < k → j < k → i ≠ j → (V i).ownBlock = none ∨ (V i).ownBlock ≠ (V j).ownBlock
  np : ∀ i, i < k → (V i).ownBlock ≠ some p
theorem LyX.zero (w : World) (lo : Nat) (H : Nat → HeapD) (V : Nat → Value) (p : Nat) : LyX w lo H V 0 p := ⟨fun i hi => absurd hi (by omega), fun i j hi => absurd hi (by omega), fun i hi => absurd hi (by omega)⟩
theorem LyX.lt {w : World} {lo : Nat} {H : Nat → HeapD} {V : Nat → Value} {k p i g : Nat} (h : LyX w lo H V k p) (hi : i < k) (hg : (V i).ownBlock = some g) : g < w.heap.size := ((h.own i hi).lt g hg).2
theorem LyX.below {w w' : World} {lo : Nat} {H : Nat → HeapD} {V : Nat → Value} {k p : Nat} (h : LyX w lo H V k p) (hb : Below w.heap.size w w') : LyX w' lo H V k p :=
  ⟨fun i hi => own_below (h.own i hi) hb, h.ne, h.np⟩
/-- A store into a block that is none of the rows'. -/
theorem own_set {w : World} {B : Nat} {e : TypeId} {sz n : Nat} {v : Value} {xs : List Value} (h : w.ownsRow B e sz v n xs) {g o : Nat} (hg : v.ownBlock ≠ some g) (u : Value) : (w.setCell ⟨g, o, none⟩ u).ownsRow B e sz v n xs := by
  have hset : w.grownBy (w.setCell ⟨g, o, none⟩ u) (some g) := ⟨rfl, rfl, rfl, by simp, fun k hk hn => Below.heap_setCell _ _ _ _ (by intro h; exact hn (by rw [h]))⟩
  exact h.kept hset (.inr hg)
theorem LyX.set {w : World} {lo : Nat} {H : Nat → HeapD} {V : Nat → Value} {k p : Nat} (h : LyX w lo H V k p) {g o : Nat} (hg : ∀ i, i < k → (V i).ownBlock ≠ some g) (u : Value) : LyX (w.setCell ⟨g, o, none⟩ u) lo H V k p :=
  ⟨fun i hi => own_set (h.own i hi) (hg i hi) u, h.ne, h.np⟩
def setV (V : Nat → Value) (a : Nat) (v : Value) : Nat → Value := fun i => if i = a then v else V i
/-- One row more. -/
theorem LyX.snoc {w : World} {lo : Nat} {H : Nat → HeapD} {V : Nat → Value} {k p : Nat} (h : LyX w lo H V k p) {v : Value} (hv : w.ownsRow lo 3 1 v (H k).n (rowL (ints (H k).L) (H k).n 1)) (hp : v.ownBlock ≠ some p)
    (hne : ∀ i, i < k → v.ownBlock = none ∨ v.ownBlock ≠ (V i).ownBlock) : LyX w lo H (setV V k v) (k + 1) p := by
  refine ⟨fun i hi => ?_, fun i j hi hj hij => ?_, fun i hi => ?_⟩
  · unfold setV
    by_cases e : i = k
    · subst e; rw [if_pos rfl]; exact hv
    · rw [if_neg e]; exact h.own i (by omega)
  · unfold setV
    by_cases e : i = k
    · subst e
      rw [if_pos rfl, if_neg (fun e => hij e.symm)]
      exact hne j (by omega)
    · by_cases e2 : j = k
      · subst e2
        rw [if_neg e, if_pos rfl]
        rcases hne i (by omega) with h1 | h1
        · rw [h1]
          cases hx : (V i).ownBlock with
          | none => exact .inl rfl
          | some g => exact .inr (by simp)
        · exact .inr (fun h => h1 h.symm)
      · rw [if_neg e, if_neg e2]; exact h.ne i j (by omega) (by omega) hij
  · unfold setV
    by_cases e : i = k
    · subst e; rw [if_pos rfl]; exact hp
    · rw [if_neg e]; exact h.np i (by omega)
/-- Heaps of the call's own, their layers as rows to which may be appended. -/
structure HpX (w : World) (lo : Nat) (A : Option Addr) (n : Nat) (H : Nat → HeapD) (V : Nat → Value) : Prop where
  top : Ow w lo w.heap.size A n 4 (hpV H V)
  lay : LyX w lo H V n (blkO A)
  form : n = 0 ∨ ∃ g, A = some ⟨g, 0, none⟩ ∧ lo ≤ g ∧ g < w.heap.size
theorem HpX.below {w w' : World} {lo n : Nat} {A : Option Addr} {H : Nat → HeapD} {V : Nat → Value} (h : HpX w lo A n H V) (hb : Below w.heap.size w w') : HpX w' lo A n H V :=
  ⟨(h.top.below hb (Nat.le_refl _)).mono (Nat.le_refl _) hb.size, h.lay.below hb, h.form.imp id fun ⟨g, e, h1, h2⟩ => ⟨g, e, h1, Nat.lt_of_lt_of_le h2 hb.size⟩⟩
theorem own_maxLen {w : World} {B : Nat} {e : TypeId} {sz n : Nat} {v : Value} {xs : List Value} (h : w.ownsRow B e sz v n xs) : n ≤ maxLen := by
  rcases h.2 with ⟨-, h1⟩ | ⟨g, cap, cur, -, -, -, h3, h4, -⟩
  · subst h1; exact Nat.zero_le _
  · exact Nat.le_trans h3 h4
theorem HpX.hpO {w : World} {lo n : Nat} {A : Option Addr} {H : Nat → HeapD} {V : Nat → Value} (h : HpX w lo A n H V) : HpO w lo w.heap.size A n H := by
  have hex : ∀ i, ∃ q : Option Addr × Nat, i < n → V i = .slice q.1 (H i).n q.2 ∧ Ow w lo w.heap.size q.1 (H i).n 1 (ints (H i).L) := fun i => by
    by_cases hi : i < n
    · obtain ⟨A, c, e, hO⟩ := own_tab (h.lay.own i hi)
      exact ⟨(A, c), fun _ => ⟨e, hO⟩⟩
    · exact ⟨(none, 0), fun h => absurd h hi⟩
  obtain ⟨q, hq⟩ := Classical.axiomOfChoice hex
  have hblk : ∀ i, i < n → 0 < (H i).n → (V i).ownBlock = some (blkO (q i).1) := fun i hi h0 => by
    obtain ⟨e, hO⟩ := hq i hi
    obtain ⟨b, off, hA, -⟩ := hO.sl h0
    rw [e, hA]; rfl
  refine ⟨fun i => (q i).1, fun i => (q i).2, h.top.congr fun i j hi hj => ?_, fun i hi => ⟨(hq i hi).2, own_maxLen (h.lay.own i hi)⟩, fun i j hi hj hij h1 h2 => ?_, fun i hi h1 => ?_⟩
  · rw [hpV_eq]
    match j with
    | 0 => rfl
    | 1 => rfl
    | 2 => exact (hq i hi).1
    | _ + 3 => rfl
  · have := h.lay.ne i j hi hj hij
    rw [hblk i hi h1, hblk j hj h2] at this
    rcases this with h | h
    · cases h
    · exact fun e => h (by rw [e])
  · have := h.lay.np i hi
    rw [hblk i hi h1] at this
    exact fun e => this (by rw [e])

set_option maxHeartbeats 1000000 in
theorem cloneI_own (A : Option Addr) (n c : Nat) (F : Nat → Nat → Int) (w : World) (hn : n ≤ 1048576) (h : Rd w A n 1 (ints F)) :
    Calls Tryd.prog 70 #[.slice A n c] w fun e w' => ∃ v, e = .returned v ∧ w'.ownsRow w.heap.size 3 1 v n (rowL (ints F) n 1) ∧ Below w.heap.size w w' := by
  have q22 : ∀ (w : World) (a : Option Addr) (n c n' c' : Nat), (binOp .eql 22 (.slice a n c) (.slice none n' c')).run Tryd.prog w = .ok (.bool a.isNone) w := fun w a n c n' c' => Lib.run_eql_slice_nil w _ _ a n c n' c' Tryd.underlying22
  cases A with
  | none =>
    obtain rfl : n = 0 := by
      rcases Nat.eq_zero_or_pos n with h0 | h0
      · exact h0
      · obtain ⟨b, off, h, -⟩ := h h0
        cases h
    go_enter Tryd.func70, Tryd.ntmps70
    go_wp2
    go_ret
    exact ⟨_, rfl, World.ownsRow_nil _ _ _ _, Below.refl _ _⟩
  | some ad =>
    obtain ⟨i0, hi0, hz0, hz1, hz2⟩ := info_parts info_int
    have hown := World.ownsRow_lit (base := w.heap.size) (e := 3) (size := 1) w #[] 0 (Nat.le_refl _) (Nat.zero_le _) rfl
    have h' := Rd.alloc h (.cells #[] 3)
    have hb1 : Below w.heap.size w (w.alloc (.cells #[] 3)) := (Below.refl _ _).alloc (Nat.le_refl _) _
    go_enter Tryd.func70, Tryd.ntmps70
    go_wp2_with (at_builtin; refine wpList_append_rd _ rfl (.tmp 5) (.tmp 6) 22 rfl w.heap.size 3 i0 _ 1 8 Tryd.underlying22 hi0 hz0 hz1 hz2 rfl (by decide) _ _ _ rfl hown _ _ (some ad) n c (ints F) rfl h' (fun _ _ _ _ => rfl) (by simp only [maxLen]; omega) (by omega) (by simp) ?_; intro v2 w2 hown2 hg2 _; have hb2 := grown_below hown hg2 (by simp); clear hg2)
    simp only [Nat.zero_add, List.nil_append] at hown2
    go_ret
    exact ⟨_, rfl, hown2, hb1.trans hb2⟩
theorem hpV_one (H : Nat → HeapD) (V : Nat → Value) (n : Nat) (h : ∀ i, i < n → (V i).oneCell' = true) : ∀ i j, i < n → j < 4 → (hpV H V i j).oneCell' = true := by
  intro i j hi hj
  match j with
  | 0 => rfl
  | 1 => rfl
  | 2 => exact h i hi
  | _ + 3 => rfl
set_option maxHeartbeats 1000000 in
theorem cloneH_any (A : Option Addr) (n c : Nat) (H : Nat → HeapD) (V : Nat → Value) (w : World) (hn : n ≤ 1048576) (hV : ∀ i, i < n → (V i).oneCell' = true) (h : Rd w A n 4 (hpV H V)) :
    Calls Tryd.prog 69 #[.slice A n c] w fun e w' => ∃ v, e = .returned v ∧ w'.ownsRow w.heap.size 28 4 v n (rowL (hpV H V) n 4) ∧ Below w.heap.size w w' := by
  have q22 : ∀ (w : World) (a : Option Addr) (n c n' c' : Nat), (binOp .eql 34 (.slice a n c) (.slice none n' c')).run Tryd.prog w = .ok (.bool a.isNone) w := fun w a n c n' c' => Lib.run_eql_slice_nil w _ _ a n c n' c' Tryd.underlying34
  cases A with
  | none =>
    obtain rfl : n = 0 := by
      rcases Nat.eq_zero_or_pos n with h0 | h0
      · exact h0
      · obtain ⟨b, off, h, -⟩ := h h0
        cases h
    go_enter Tryd.func69, Tryd.ntmps69
    go_wp2
    go_ret
    exact ⟨_, rfl, World.ownsRow_nil _ _ _ _, Below.refl _ _⟩
  | some ad =>
    obtain ⟨i0, hi0, hz0, hz1, hz2⟩ := info_parts info_heap
    have hown := World.ownsRow_lit (base := w.heap.size) (e := 28) (size := 4) w #[] 0 (Nat.le_refl _) (Nat.zero_le _) rfl
    have h' := Rd.alloc h (.cells #[] 28)
    have hb1 : Below w.heap.size w (w.alloc (.cells #[] 28)) := (Below.refl _ _).alloc (Nat.le_refl _) _
    go_enter Tryd.func69, Tryd.ntmps69
    go_wp2_with (at_builtin; refine wpList_append_rd _ rfl (.tmp 5) (.tmp 6) 34 rfl w.heap.size 28 i0 _ 4 48 Tryd.underlying34 hi0 hz0 hz1 hz2 rfl (by decide) _ _ _ rfl hown _ _ (some ad) n c (hpV H V) rfl h' (hpV_one H V n hV) (by simp only [maxLen]; omega) (by omega) (by simp) ?_; intro v2 w2 hown2 hg2 _; have hb2 := grown_below hown hg2 (by simp); clear hg2)
    simp only [Nat.zero_add, List.nil_append] at hown2
    go_ret
    exact ⟨_, rfl, hown2, hb1.trans hb2⟩
/-- What a function leaves that returns copied heaps. -/
def HpCopy (w : World) (n : Nat) (H : Nat → HeapD) (e : Ending) (w' : World) : Prop :=
  ∃ A' c' V, e = .returned (.slice A' n c') ∧ HpX w' w.heap.size A' n H V ∧ Below w.heap.size w w'
/-- While layers are copied: the rows' values. -/
def mixV (V : Nat → Value) (B : Nat → Option Addr) (c : Nat → Nat) (H : Nat → HeapD) (k : Nat) : Nat → Value := fun i => if i < k then V i else .slice (B i) (H i).n (c i)

theorem mixV_zero (V : Nat → Value) (B : Nat → Option Addr) (c : Nat → Nat) (H : Nat → HeapD) : mixV V B c H 0 = fun i => .slice (B i) (H i).n (c i) := by funext i; simp [mixV]
set_option maxRecDepth 20000 in
set_option maxHeartbeats 2000000 in
theorem copyHeaps_any (A : Option Addr) (n c : Nat) (H : Nat → HeapD) (w : World) (hn : n ≤ 1048576) (hln : ∀ i, i < n → (H i).n ≤ 1048576) (h : HpR w A n H) :
    Calls Tryd.prog 42 #[.slice A n c] w (HpCopy w n H) := by
  obtain ⟨B, cc, hS, hL⟩ := h
  have HL := hide hL
  have HN := hide hln
  clear hL hln
  have hS' : Rd w A n 4 (hpV H (fun i => .slice (B i) (H i).n (cc i))) := hS.congr fun i j _ _ => hpV_eq H B cc i j
  go_enter Tryd.func42, Tryd.ntmps42
  go_wp2_with fail
  go_at_call 69
  refine (cloneH_any _ _ _ _ _ _ hn (fun _ _ => rfl) hS').mono ?_
  rintro _ w1 ⟨v, rfl, hown, hb1⟩
  clear hS'
  obtain ⟨G, cG, hv, hO⟩ := own_tab hown
  have hform : n = 0 ∨ ∃ g, G = some ⟨g, 0, none⟩ ∧ w.heap.size ≤ g ∧ g < w1.heap.size := by
    rcases Nat.eq_zero_or_pos n with h0 | h0
    · exact .inl h0
    · obtain ⟨g, cap, e, h1, h2⟩ := hown.form h0
      rw [hv] at e
      injection e with e
      exact .inr ⟨g, e, h1, h2⟩
  subst hv
  clear hown
  go_wp2
  go_loopw [9] (fun i wr => ∃ (k : Nat) (V : Nat → Value), k ≤ n ∧ i = .int .i64 k ∧ Below w.heap.size w wr ∧ w1.heap.size ≤ wr.heap.size ∧ Ow wr w.heap.size w1.heap.size G n 4 (hpV H (mixV V B cc H k)) ∧ LyX wr w.heap.size H V k (blkO G)) (fun i _ => n - (intOf i).toNat)
  case atStart => exact ⟨0, fun _ => undef, by omega, rfl, hb1, Nat.le_refl _, hO.congr fun i j _ _ => by rw [mixV_zero], LyX.zero _ _ _ _ _⟩
  case round =>
    clear hO
    obtain ⟨k, V, hk, rfl, hb, hs, hO, hX⟩ := hrel
    by_cases hlt : k < n
    · obtain ⟨g, rfl, hg1, hg2⟩ := hform.resolve_left (by omega)
      obtain ⟨-, -, x1, x2⟩ := hO.at_ hlt
      have e2 := x1 2 (by omega)
      have f2 := x2 2 (by omega)
      simp only [Nat.zero_add, hpV, mixV, Nat.lt_irrefl, if_false] at e2 f2
      clear x1 x2
      have hl := Rd.below (HL.out k hlt).1 hb
      have hlk := HN.out k hlt
      have hgr : g < wr.heap.size := by omega
      go_wp2_with fail
      go_at_call 70
      refine (cloneI_own _ _ _ _ _ hlk hl).mono ?_
      rintro _ w2 ⟨v, rfl, hown, hb2⟩
      have e2' := (hb2.cell (p := ⟨g, k * 4 + 2, none⟩) hgr).trans e2
      have f2' := (hb2.frozen (p := ⟨g, k * 4 + 2, none⟩) hgr).trans f2
      have hs2 := hb2.size
      clear e2 f2 hl
      obtain ⟨A2, c2, rfl, -⟩ := own_tab hown
      have hgr2 : g < w2.heap.size := by omega
      go_wp2
      go_roundw
      case rel =>
        have hvb : ∀ q, Value.ownBlock (.slice A2 (H k).n c2) = some q → wr.heap.size ≤ q := fun q hq => (hown.lt q hq).1
        have hvg : Value.ownBlock (.slice A2 (H k).n c2) ≠ some g := fun e => by have := hvb g e; omega
        have hX2 := hX.below hb2
        refine ⟨k + 1, setV V k (.slice A2 (H k).n c2), by omega, by go_num, (gr hb hb2).setCell (p := ⟨g, k * 4 + 2, none⟩) hg1 _, by simp; omega, ?_, ?_⟩
        · refine ((hO.below hb2 (by omega)).set hlt (j0 := 2) (o := k * 4 + 2) (by omega) (by omega) _).congr fun i j hi hj => ?_
          unfold upd
          by_cases hik : i = k
          · subst hik
            match j, hj with
            | 0, _ => simp [hpV]
            | 1, _ => simp [hpV]
            | 2, _ => simp [hpV, mixV, setV]
            | 3, _ => simp [hpV]
          · have hiff : i < k ↔ i < k + 1 := by omega
            match j, hj with
            | 0, _ => simp [hpV]
            | 1, _ => simp [hpV]
            | 2, _ => simp [hpV, mixV, setV, hik, hiff]
            | 3, _ => simp [hpV]
        · refine LyX.snoc (hX2.set (fun i hi => hX.np i hi) _) (own_set (own_mono hown (by omega)) hvg _) hvg fun i hi => ?_
          cases hv : Value.ownBlock (.slice A2 (H k).n c2) with
          | none => exact .inl rfl
          | some q =>
            refine .inr fun e => ?_
            have h1 := hvb q hv
            have h2 := hX.lt hi e.symm
            omega
      case measure => simp [intOf]; omega
    · obtain rfl : k = n := by omega
      go_wp2
      go_ret
      exact ⟨G, cG, V, rfl, ⟨(hO.mono (Nat.le_refl _) hs).congr fun i j hi hj => by
        match j, hj with
        | 0, _ => rfl
        | 1, _ => rfl
        | 2, _ => simp [hpV, mixV, hi]
        | 3, _ => rfl, hX, hform.imp id fun ⟨g, e, h1, h2⟩ => ⟨g, e, h1, by omega⟩⟩, hb⟩
end Go.Proofs.YtbmlglkdlialgaaDoor
