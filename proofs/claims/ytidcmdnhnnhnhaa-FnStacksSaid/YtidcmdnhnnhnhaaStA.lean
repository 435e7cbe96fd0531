/-
  Words for stacks of layers of the call's own: a row of rows. Conditions: none; no program is named here but types.
-/
import Derived.Test.YtidcmdnhnnhnhaaStM
import Derived.Test.YtidcmdnhnnhnhaaHpN
namespace Go.Proofs.Ytidcmdnhnnhnhaa
open Go.RowKit

theorem info_ints : (Try.prog.info? 22).map (fun i => (i.zero, i.size, i.bytes)) = some (some (.slice none 0 0), 1, 24) := by kernel_rfl
/-- Rows of layers in a row. -/
structure TbX (w : World) (lo : Nat) (v : Value) (m : Nat) (H : Nat → HeapD) (V : Nat → Value) (p : Nat) : Prop where
  own : w.ownsRow lo 22 1 v m (rowL (fun i _ => V i) m 1)
  blk : v.ownBlock = some p ∨ v.ownBlock = none
  lay : LyX w lo H V m p
theorem TbX.below {w w' : World} {lo m p : Nat} {v : Value} {H : Nat → HeapD} {V : Nat → Value} (h : TbX w lo v m H V p) (hb : Below w.heap.size w w') : TbX w' lo v m H V p :=
  ⟨own_below h.own hb, h.blk, h.lay.below hb⟩
theorem rowV_snoc (V : Nat → Value) (m : Nat) (u : Value) : rowL (fun i _ => setV V m u i) (m + 1) 1 = rowL (fun i _ => V i) m 1 ++ [u] := by
  simp only [rowL, Nat.mul_one, Nat.div_one, List.range_succ, List.map_append, List.map_cons, List.map_nil]
  congr 1
  · refine List.map_congr_left fun t ht => ?_
    have := List.mem_range.1 ht
    simp [setV, show t ≠ m by omega]
  · simp [setV]
theorem rowV_set (V : Nat → Value) (m b : Nat) (u : Value) : (rowL (fun i _ => V i) m 1).set b u = rowL (fun i _ => setV V b u i) m 1 := by
  apply List.ext_getElem
  · simp [rowL]
  · intro i h1 h2
    simp only [List.getElem_set, rowL, List.getElem_map, List.getElem_range, Nat.div_one, setV]
    by_cases h : b = i
    · subst h; simp
    · rw [if_neg h, if_neg (fun e => h e.symm)]
/-- One row more. -/
theorem TbX.snoc {w w' : World} {lo m p : Nat} {v v' u : Value} {d : HeapD} {H : Nat → HeapD} {V : Nat → Value} (h : TbX w lo v m H V p) (hu : w.ownsRow lo 3 1 u d.n (rowL (ints d.L) d.n 1))
    (hn : u.ownBlock = none ∨ (u.ownBlock ≠ v.ownBlock ∧ ∀ i, i < m → u.ownBlock ≠ (V i).ownBlock)) (ho : w'.ownsRow lo 22 1 v' (m + 1) (rowL (fun i _ => V i) m 1 ++ [u]))
    (hg : w.grownBy w' v.ownBlock) (hv : v'.ownBlock = v.ownBlock ∨ v'.ownBlock = some w.heap.size) : ∃ p', TbX w' lo v' (m + 1) (setH H m d) (setV V m u) p' := by
  have hk : ∀ i, i < m → (V i).ownBlock = none ∨ (V i).ownBlock ≠ v.ownBlock := fun i hi => by
    rcases h.blk with e | e
    · exact .inr fun e' => h.lay.np i hi (e'.trans e)
    · rw [e]
      cases hx : (V i).ownBlock with
      | none => exact .inl rfl
      | some q => exact .inr (by simp)
  have key : ∀ p', (v'.ownBlock = some p' ∨ v'.ownBlock = none) → (∀ i, i < m → (V i).ownBlock ≠ some p') → u.ownBlock ≠ some p' → TbX w' lo v' (m + 1) (setH H m d) (setV V m u) p' := fun p' hb hp hup => by
    have hL : LyX w' lo (setH H m d) V m p' := ⟨fun i hi => by rw [setH_ne (by omega)]; exact (h.lay.own i hi).kept hg (hk i hi), h.lay.ne, hp⟩
    have hu' : w'.ownsRow lo 3 1 u d.n (rowL (ints d.L) d.n 1) := hu.kept hg (hn.imp id fun e => e.1)
    refine ⟨by rw [rowV_snoc]; exact ho, hb, hL.snoc (v := u) (by rw [setH_at]; exact hu') hup fun i hi => ?_⟩
    rcases hn with e | e
    · exact .inl e
    · exact .inr (e.2 i hi)
  have far : ∀ b, v'.ownBlock = b → (b = some w.heap.size ∨ b = none) → ∃ p', TbX w' lo v' (m + 1) (setH H m d) (setV V m u) p' := fun b hb hbb => ⟨w.heap.size, key _ (hb ▸ hbb) (fun i hi e => by have := h.lay.lt hi e; omega) fun e => by have := (hu.lt _ e).2; omega⟩
  rcases hv with hv | hv
  · rcases h.blk with e | e
    · refine ⟨p, key p (.inl (hv.trans e)) h.lay.np fun e' => ?_⟩
      rcases hn with e2 | e2
      · rw [e2] at e'; cases e'
      · exact e2.1 (e'.trans e.symm)
    · exact far none (hv.trans e) (.inr rfl)
  · exact far _ hv (.inl rfl)
/-- One row turned. -/
theorem TbX.put {w w1 : World} {lo m p g cap b : Nat} {u : Value} {d : HeapD} {H : Nat → HeapD} {V : Nat → Value} (h : TbX w lo (.slice (some ⟨g, 0, none⟩) m cap) m H V p) (hb : b < m) (hg : w.grownBy w1 (V b).ownBlock)
    (hu : w1.ownsRow lo 3 1 u d.n (rowL (ints d.L) d.n 1)) (hq : ∀ q, u.ownBlock = some q → (V b).ownBlock = some q ∨ w.heap.size ≤ q) :
    TbX (w1.setCell ⟨g, b, none⟩ u) lo (.slice (some ⟨g, 0, none⟩) m cap) m (setH H b d) (setV V b u) p := by
  have hp : p = g := by
    rcases h.blk with e | e
    · simp [Value.ownBlock] at e; exact e.symm
    · simp [Value.ownBlock] at e
  subst hp
  have hpl : p < w.heap.size := (h.own.lt p rfl).2
  have ho := (h.own.kept hg (.inr fun e => h.lay.np b hb e.symm)).stored b u
  have hL := h.lay.turn hb hpl hg hu hq
  exact ⟨by rw [← rowV_set]; exact ho.1, .inl rfl, hL.set hL.np u⟩
/-- A cell of the top row. -/
theorem TbX.cell {w : World} {lo m p g cap b : Nat} {H : Nat → HeapD} {V : Nat → Value} (h : TbX w lo (.slice (some ⟨g, 0, none⟩) m cap) m H V p) (hb : b < m) : w.cell? ⟨g, b, none⟩ = some (V b) := by
  rw [h.own.cellAt b (by omega)]
  simp [rowL, hb]
theorem TbX.slice {w : World} {lo m p b : Nat} {v : Value} {H : Nat → HeapD} {V : Nat → Value} (h : TbX w lo v m H V p) (hb : b < m) : ∃ A c, V b = .slice A (H b).n c ∧ Rd w A (H b).n 1 (ints (H b).L) := by
  obtain ⟨A, c, e, hO⟩ := own_tab (h.lay.own b hb)
  exact ⟨A, c, e, hO.sl.rd (Nat.le_refl _)⟩
theorem TbX.form {w : World} {lo m p : Nat} {v : Value} {H : Nat → HeapD} {V : Nat → Value} (h : TbX w lo v m H V p) : ∃ A c, v = .slice A m c ∧ (0 < m → ∃ g, A = some ⟨g, 0, none⟩ ∧ lo ≤ g ∧ g < w.heap.size) := by
  obtain ⟨A, c, e, hc, hf⟩ := own_form h.own
  refine ⟨A, c, e, fun h0 => ?_⟩
  obtain ⟨g, cap, e2, h1, h2⟩ := h.own.form h0
  rw [e] at e2
  injection e2 with e2
  exact ⟨g, e2, h1, h2⟩
theorem firstB_all (p : Nat → Bool) (n : Nat) : decide (0 ≤ idxV (firstB (fun i => !(p i)) n)) = !(allB p n) := by
  cases h : firstB (fun i => !(p i)) n with
  | none =>
    have : allB p n = true := allB_of fun k hk => by simpa using firstB_none h k hk
    simp [idxV, this]
  | some i =>
    obtain ⟨h1, h2, -⟩ := firstB_some h
    have : allB p n = false := allB_false h1 (by simpa using h2)
    simp [idxV, this]
theorem stkP_any (n : Int) (w : World) :
    Calls Try.prog 62 #[.int .i64 n] w fun e w' => e = .returned (.bool (!(inB n 1 500))) ∧ w = w' := by
  cases h : inB n 1 500
  all_goals
    go_enter Try.func62, Try.ntmps62
    go_wp2_with (first | (go_at_call 59; refine (isLayer_any _ _).mono ?_; rintro _ _ ⟨rfl, rfl⟩))
    go_ret
    exact ⟨rfl, rfl⟩
set_option maxHeartbeats 1000000 in
theorem stkIdx_any (A : Option Addr) (n c : Nat) (L : Nat → Nat → Int) (w : World) (hn : n ≤ 1048576) (h : Rd w A n 1 (ints L)) :
    Calls Try.prog 89 #[.slice A n c, .func (.func 62) #[] #[]] w fun e w' => e = .returned (.int .i64 (idxV (firstB (fun i => !(layB1 L i)) n))) ∧ w = w' := by
  have eg : ∀ args w, (callFunc 62 args).run Try.prog w = .ok (.enter 62 args) w := enters_of Try.func62 (by kernel_rfl) rfl
  go_enter Try.func89, Try.ntmps89
  go_wp2
  go_loop [8] (fun i => ∃ k : Nat, k ≤ n ∧ i = .int .i64 k ∧ firstB (fun i => !(layB1 L i)) k = none) (fun i => n - (intOf i).toNat)
  case atStart => exact ⟨0, by omega, rfl, rfl⟩
  case round =>
    obtain ⟨k, hk, rfl, hf⟩ := hrel
    have HF := hide hf
    clear hf
    by_cases hlt : k < n
    · obtain ⟨b, off, rfl, -, hbw, hc⟩ := h (by omega)
      have hc0 := hc k 0 hlt (by omega)
      simp only [Nat.add_zero, Nat.mul_one] at hc0
      clear hc
      cases hd : inB (L k 0) 1 500
      · go_wp2_with (go_at_fn 62; refine (stkP_any _ _).mono ?_; rintro _ _ ⟨rfl, rfl⟩)
        go_ret
        exact ⟨ret_int (by rw [firstB_at HF.out (by simp [layB1, hd]) hlt]; rfl), rfl⟩
      · go_wp2_with (go_at_fn 62; refine (stkP_any _ _).mono ?_; rintro _ _ ⟨rfl, rfl⟩)
        go_round
        case rel => exact ⟨k + 1, by omega, by go_num, firstB_succ_none HF.out (by simp only [layB1, hd]; rfl)⟩
        case measure => simp [intOf]; omega
    · go_wp2
      go_ret
      obtain rfl : k = n := by omega
      exact ⟨ret_int (by rw [HF.out]; rfl), rfl⟩
set_option maxHeartbeats 400000 in
theorem stkHas_any (A : Option Addr) (n c : Nat) (L : Nat → Nat → Int) (w : World) (hn : n ≤ 1048576) (h : Rd w A n 1 (ints L)) :
    Calls Try.prog 61 #[.slice A n c, .func (.func 62) #[] #[]] w fun e w' => e = .returned (.bool (!(allB (layB1 L) n))) ∧ w = w' := by
  have H := hide (firstB_all (layB1 L) n)
  go_enter Try.func61, Try.ntmps61
  go_wp2_with fail
  go_at_call 89
  refine (stkIdx_any _ _ _ _ _ hn h).mono ?_
  rintro _ _ ⟨rfl, rfl⟩
  generalize idxV (firstB (fun i => !(layB1 L i)) n) = r at H ⊢
  go_wp2
  go_ret
  exact ⟨ret_bool H.out, rfl⟩
end Go.Proofs.Ytidcmdnhnnhnhaa
