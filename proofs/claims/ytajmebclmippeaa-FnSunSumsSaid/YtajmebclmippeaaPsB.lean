/-
  Rows of cells: rows behind rows, a store, an insertion; copy at elements of several cells. Conditions: none; no program is named here.
-/
import Derived.Test.YtajmebclmippeaaOwn
import Derived.Laws.CopyOwn
namespace Go.Proofs.Ytajmebclmippeaa
open Go.RowKit

theorem rowL_get (F : Nat → Nat → Value) (m sz t : Nat) (h : t < m * sz) : (rowL F m sz)[t]? = some (F (t / sz) (t % sz)) := by
  simp [rowL, h]
theorem rowL_append (F G : Nat → Nat → Value) (a b sz : Nat) (hz : 0 < sz) : rowL F a sz ++ rowL G b sz = rowL (fun r j => if r < a then F r j else G (r - a) j) (a + b) sz := by
  apply List.ext_getElem
  · simp [rowL, Nat.add_mul]
  · intro t h1 h2
    have ht : t < (a + b) * sz := by simpa [rowL] using h2
    rw [Nat.add_mul] at ht
    simp only [rowL, List.getElem_append, List.length_map, List.length_range, List.getElem_map, List.getElem_range]
    by_cases h : t < a * sz
    · rw [dif_pos h, if_pos ((Nat.div_lt_iff_lt_mul hz).2 h)]
    · have e : t = sz * a + (t - a * sz) := by rw [Nat.mul_comm sz a]; have := Nat.not_lt.1 h; omega
      have e1 : t / sz = a + (t - a * sz) / sz := by
        conv => lhs; rw [e]
        exact Nat.mul_add_div hz _ _
      have e2 : t % sz = (t - a * sz) % sz := by
        conv => lhs; rw [e]
        exact Nat.mul_add_mod _ _ _
      rw [dif_neg h, if_neg (by rw [e1]; exact Nat.not_lt.2 (Nat.le_add_right _ _)), e1, e2, Nat.add_sub_cancel_left]
theorem rowL_drop (F : Nat → Nat → Value) (n sz k : Nat) (hz : 0 < sz) : (rowL F n sz).drop (k * sz) = rowL (fun r j => F (k + r) j) (n - k) sz := by
  apply List.ext_getElem
  · simp [rowL, Nat.sub_mul]
  · intro t h1 h2
    simp only [rowL, List.getElem_drop, List.getElem_map, List.getElem_range]
    rw [show k * sz + t = sz * k + t by rw [Nat.mul_comm], Nat.mul_add_div hz, Nat.mul_add_mod]
theorem rowL_set (F : Nat → Nat → Value) (n sz i j : Nat) (u : Value) (hj : j < sz) : (rowL F n sz).set (i * sz + j) u = rowL (upd F i j u) n sz := by
  have hz : 0 < sz := by omega
  apply List.ext_getElem
  · simp [rowL]
  · intro t h1 h2
    simp only [rowL, List.getElem_set, List.getElem_map, List.getElem_range, upd]
    have hd : t = t / sz * sz + t % sz := by rw [Nat.mul_comm]; exact (Nat.div_add_mod t sz).symm
    by_cases h : i * sz + j = t
    · subst h
      have e1 : (i * sz + j) / sz = i := by rw [Nat.mul_comm, Nat.mul_add_div hz, Nat.div_eq_of_lt hj]; rfl
      have e2 : (i * sz + j) % sz = j := by rw [Nat.mul_comm, Nat.mul_add_mod, Nat.mod_eq_of_lt hj]
      rw [if_pos rfl, if_pos ⟨e1, e2⟩]
    · rw [if_neg h, if_neg]
      rintro ⟨rfl, rfl⟩
      exact h hd.symm
/-- One row put in at place k. -/
def insR (F : Nat → Nat → Value) (k : Nat) (x : Nat → Value) : Nat → Nat → Value := fun r j => if r < k then F r j else if r = k then x j else F (r - 1) j
theorem rowL_ins (F : Nat → Nat → Value) (n sz k : Nat) (x : Nat → Value) (hz : 0 < sz) (hk : k ≤ n) : (rowL F n sz).take (k * sz) ++ (rowL (fun _ j => x j) 1 sz ++ (rowL F n sz).drop (k * sz)) = rowL (insR F k x) (n + 1) sz := by
  rw [rowL_take _ _ _ _ hk, rowL_drop _ _ _ _ hz, rowL_append _ _ _ _ _ hz, rowL_append _ _ _ _ _ hz, show k + (1 + (n - k)) = n + 1 by omega]
  refine rowL_congr fun r j hr hj => ?_
  simp only [insR]
  by_cases h1 : r < k
  · rw [if_pos h1, if_pos h1]
  · rw [if_neg h1, if_neg h1]
    by_cases h2 : r = k
    · rw [if_pos (by omega), if_pos h2]
    · rw [if_neg (by omega), if_neg h2, show k + (r - k - 1) = r - 1 by omega]
theorem getElem?_splice {α : Type} (L : List α) (off : Nat) (cs : List α) (h : off + cs.length ≤ L.length) (t : Nat) :
    (splice L off cs)[t]? = if t < off then L[t]? else if t < off + cs.length then cs[t - off]? else L[t]? := by
  have hl : (L.take off).length = off := by rw [List.length_take]; omega
  unfold splice
  by_cases h1 : t < off
  · rw [if_pos h1, List.getElem?_append_left (by omega), List.getElem?_take_of_lt h1]
  · rw [if_neg h1, List.getElem?_append_right (by omega), hl]
    by_cases h2 : t < off + cs.length
    · rw [if_pos h2, List.getElem?_append_left (by omega)]
    · rw [if_neg h2, List.getElem?_append_right (by omega), List.getElem?_drop]
      congr 1
      omega
/-- The tail is moved up, and the new cells are laid in. -/
theorem splice_ins {α : Type} (cur xs vs : List α) (n k m : Nat) (hx : cur.take n = xs) (hn : n + m ≤ cur.length) (hk : k ≤ n) (hv : vs.length = m) :
    (splice (splice cur (k + m) (xs.drop k)) k vs).take (n + m) = xs.take k ++ (vs ++ xs.drop k) := by
  have hxl : xs.length = n := by rw [← hx, List.length_take]; omega
  have hdl : (xs.drop k).length = n - k := by rw [List.length_drop, hxl]
  have hf1 : k + m + (xs.drop k).length ≤ cur.length := by rw [hdl]; omega
  have hsl := length_splice cur (k + m) (xs.drop k) hf1
  apply List.ext_getElem?
  intro t
  rw [List.getElem?_take]
  by_cases h0 : t < n + m
  · rw [if_pos h0, getElem?_splice _ _ _ (by rw [hsl, hv]; omega), getElem?_splice _ _ _ hf1, hdl, hv]
    by_cases h1 : t < k
    · rw [if_pos h1, if_pos (by omega), List.getElem?_append_left (by rw [List.length_take]; omega), List.getElem?_take_of_lt h1, ← hx, List.getElem?_take_of_lt (by omega)]
    · rw [if_neg h1, List.getElem?_append_right (by rw [List.length_take]; omega), List.length_take, hxl, Nat.min_eq_left hk]
      by_cases h2 : t < k + m
      · rw [if_pos h2, List.getElem?_append_left (by omega)]
      · rw [if_neg h2, if_neg h2, if_pos (by omega), List.getElem?_append_right (by omega), hv, show t - k - m = t - (k + m) by omega]
  · rw [if_neg h0, List.getElem?_eq_none]
    simp; omega
/-- The new cells and the tail are laid into a new row. -/
theorem splice_grow {α : Type} (R vs ds : List α) (k m d : Nat) (hn : k + m + d ≤ R.length) (hv : vs.length = m) (hd : ds.length = d) :
    (splice (splice R k vs) (k + m) ds).take (k + m + d) = R.take k ++ (vs ++ ds) := by
  have hf1 : k + vs.length ≤ R.length := by omega
  have hsl := length_splice R k vs hf1
  apply List.ext_getElem?
  intro t
  rw [List.getElem?_take]
  by_cases h0 : t < k + m + d
  · rw [if_pos h0, getElem?_splice _ _ _ (by rw [hsl, hd]; omega), getElem?_splice _ _ _ hf1, hd, hv]
    by_cases h1 : t < k
    · rw [if_pos (by omega), if_pos h1, List.getElem?_append_left (by rw [List.length_take]; omega), List.getElem?_take_of_lt h1]
    · rw [if_neg h1, List.getElem?_append_right (by rw [List.length_take]; omega), List.length_take, Nat.min_eq_left (by omega)]
      by_cases h2 : t < k + m
      · rw [if_pos h2, if_pos h2, List.getElem?_append_left (by omega)]
      · rw [if_neg h2, if_pos h0, List.getElem?_append_right (by omega), hv, show t - k - m = t - (k + m) by omega]
  · rw [if_neg h0, List.getElem?_eq_none]
    simp; omega
section
variable {P : Program}
theorem run_copy_rowS (w : World) (dT sT ty elem : TypeId) (sz g o dLen dCap : Nat) (a : Addr) (sLen sCap : Nat) (cur : Array Value) (t : TypeId) (cs : List Value)
    (hu : P.underlying dT = some (.slice elem)) (hs : (P.info? elem).map (·.size) = some sz)
    (hg : w.heap[g]? = some (.cells cur t (0, 0))) (hn : cs.length = Nat.min sLen dLen * sz)
    (hsrc : ∀ j v, cs[j]? = some v → w.cell? (a.add j) = some v) (hfit : o + cs.length ≤ cur.size) (h1 : ∀ v ∈ cs, v.oneCell' = true) :
    (Builtin.copy_ #[dT, sT] ty #[.slice (some ⟨g, o, none⟩) dLen dCap, .slice (some a) sLen sCap]).run P w =
      .ok (goInt (Nat.min sLen dLen)) (w.setRow g (splice cur.toList o cs).toArray) := by
  have hl := run_loadCells_list (P := P) w a cs hsrc
  have hst := run_storeCells_at P g o t cs 0 cur w hg (by simpa using hfit) h1
  cases hq : P.info? elem with
  | none => simp [hq] at hs
  | some i =>
    have hi : i.size = sz := by simpa [hq] using hs
    have e : Nat.min sLen dLen * i.size = cs.length := by rw [hi, hn]
    simp [Builtin.copy_, run_underlying hu, Builtin.lenOf, Builtin.firstCells, sizeOf, typeInfo, hq, e, hl, hst, splice]
theorem wp_copy_rowS {w : World} {o : Oper} {a : Act} {K : Act → World → Prop} {Q : Exit → Act → World → Prop} (d s : Operand) (dT sT : TypeId)
    (ho : o.op = .call { callee := .builtin .copy, args := #[d, s], argTypes := #[dT, sT] }) (elem : TypeId) (sz : Nat) (hu : P.underlying dT = some (.slice elem)) (hsz : (P.info? elem).map (·.size) = some sz)
    (g off dLen dCap : Nat) (ad : Addr) (sLen sCap : Nat) (hd : a.eval d = .slice (some ⟨g, off, none⟩) dLen dCap) (hs : a.eval s = .slice (some ad) sLen sCap)
    (cur : List Value) (t : TypeId) (hg : w.heap[g]? = some (.cells cur.toArray t (0, 0))) (cs : List Value) (hn : cs.length = Nat.min sLen dLen * sz)
    (hsrc : ∀ j v, cs[j]? = some v → w.cell? (ad.add j) = some v) (hfit : off + cs.length ≤ cur.length) (h1 : ∀ v ∈ cs, v.oneCell' = true)
    (h : ∀ u w', w'.heap[g]? = some (.cells (splice cur off cs).toArray t (0, 0)) → w.grownBy w' (some g) → K (a.put o.dst u) w') : o.wp P a w K Q := by
  have hrun := run_copy_rowS (P := P) w dT sT o.type elem sz g off dLen dCap ad sLen sCap cur.toArray t cs hu hsz hg hn hsrc (by simpa using hfit) h1
  unfold Oper.wp
  simp [execOp, ho, resolve, invoke, builtin, hd, hs, hrun, Result.andThen]
  exact h _ _ (setRow_heap w g _ _ t _ hg) ⟨rfl, rfl, rfl, by simp [World.setRow], fun k _ hk => setRow_other w g k _ (fun e => hk (by simp [e]))⟩
theorem wpList_copy_rowS {w : World} {ops : Array Oper} {rest : List Oper} {o : Oper} {a : Act} {Q : Exit → Act → World → Prop} (hgd : o.guard = none) (d s : Operand) (dT sT : TypeId)
    (ho : o.op = .call { callee := .builtin .copy, args := #[d, s], argTypes := #[dT, sT] }) (elem : TypeId) (sz : Nat) (hu : P.underlying dT = some (.slice elem)) (hsz : (P.info? elem).map (·.size) = some sz)
    (g off dLen dCap : Nat) (ad : Addr) (sLen sCap : Nat) (hd : a.eval d = .slice (some ⟨g, off, none⟩) dLen dCap) (hs : a.eval s = .slice (some ad) sLen sCap)
    (cur : List Value) (t : TypeId) (hg : w.heap[g]? = some (.cells cur.toArray t (0, 0))) (cs : List Value) (hn : cs.length = Nat.min sLen dLen * sz)
    (hsrc : ∀ j v, cs[j]? = some v → w.cell? (ad.add j) = some v) (hfit : off + cs.length ≤ cur.length) (h1 : ∀ v ∈ cs, v.oneCell' = true)
    (h : ∀ u w', w'.heap[g]? = some (.cells (splice cur off cs).toArray t (0, 0)) → w.grownBy w' (some g) → wpList P ops Q rest (a.put o.dst u) w') : wpList P ops Q (o :: rest) a w :=
  wpList_plain hgd fun _ hK => wp_copy_rowS d s dT sT ho elem sz hu hsz g off dLen dCap ad sLen sCap hd hs cur t hg cs hn hsrc hfit h1 fun u w' h2 h3 => hK _ _ (h u w' h2 h3)
theorem step_copy_rowS {w : World} {ops : Array Oper} {o : Oper} {a : Act} {K : Act → World → Prop} {Q : Exit → Act → World → Prop} {E : Prop} (hgd : o.guard = none) (d s : Operand) (dT sT : TypeId)
    (ho : o.op = .call { callee := .builtin .copy, args := #[d, s], argTypes := #[dT, sT] }) (elem : TypeId) (sz : Nat) (hu : P.underlying dT = some (.slice elem)) (hsz : (P.info? elem).map (·.size) = some sz)
    (g off dLen dCap : Nat) (ad : Addr) (sLen sCap : Nat) (hd : a.eval d = .slice (some ⟨g, off, none⟩) dLen dCap) (hs : a.eval s = .slice (some ad) sLen sCap)
    (cur : List Value) (t : TypeId) (hg : w.heap[g]? = some (.cells cur.toArray t (0, 0))) (cs : List Value) (hn : cs.length = Nat.min sLen dLen * sz)
    (hsrc : ∀ j v, cs[j]? = some v → w.cell? (ad.add j) = some v) (hfit : off + cs.length ≤ cur.length) (h1 : ∀ v ∈ cs, v.oneCell' = true)
    (h : ∀ u w', w'.heap[g]? = some (.cells (splice cur off cs).toArray t (0, 0)) → w.grownBy w' (some g) → K (a.put o.dst u) w') :
    if Region.wanted o (yielded ops a.tmps) = true then Oper.wp P o a w K Q else E := by
  have hw : Region.wanted o (yielded ops a.tmps) = true := by simp [Region.wanted, hgd]
  rw [if_pos hw]
  exact wp_copy_rowS d s dT sT ho elem sz hu hsz g off dLen dCap ad sLen sCap hd hs cur t hg cs hn hsrc hfit h1 h
/-- clear of a slice of one element of two cells. -/
theorem run_clear_two (w : World) (t e ty : TypeId) (z : Value) (z0 z1 : Value) (ht : P.underlying t = some (.slice e)) (hv : ∀ w, (zeroValue e).run P w = .ok z w) (hz : z.cells = #[z0, z1]) (h0 : z0.oneCell' = true) (h1 : z1.oneCell' = true) (b o c : Nat)
    (hc : ∀ j, j < 2 → (w.cell? ⟨b, o + j, none⟩).isSome = true) (hf : ∀ j, j < 2 → w.frozen? ⟨b, o + j, none⟩ = false) :
    (Builtin.clear_ #[t] ty #[.slice (some ⟨b, o, none⟩) 1 c]).run P w = .ok (.tuple #[]) ((w.setCell ⟨b, o, none⟩ z0).setCell ⟨b, o + 1, none⟩ z1) := by
  have hzc : (Builtin.zeroCells z.cells 1).toList = [z0, z1] := by
    rw [hz]
    apply List.ext_getElem
    · simp [Builtin.zeroCells]
    · intro i h1 h2
      have hi : i < 2 := by simpa using h2
      rcases (show i = 0 ∨ i = 1 by omega) with rfl | rfl <;> simp [Builtin.zeroCells]
  have hst := run_storeCells_cells (P := P) b o [z0, z1] 0 w (by simpa using hc) (by simpa using hf) (by intro v hv'; simp at hv'; rcases hv' with rfl | rfl <;> assumption)
  simp only [Nat.add_zero] at hst
  simp [Builtin.clear_, run_underlying ht, hv, hzc, hst, World.setCells]
end
end Go.Proofs.Ytajmebclmippeaa
