/-
  Appending a slice that came in, nil or empty or not, to a row of the call's own; rows as lists of cells and as tables. Conditions: no program is named here.
-/
import Derived.Test.YtbmlglkdlialgaaDoorTail
import Derived.Maps.AppendAt
import Derived.Laws.OwnMore
namespace Go.Proofs.YtbmlglkdlialgaaDoor
open Go.RowKit

/-- A table, laid in a row. -/
def rowL (F : Nat → Nat → Value) (m sz : Nat) : List Value := (List.range (m * sz)).map fun t => F (t / sz) (t % sz)
theorem rowL_len (F : Nat → Nat → Value) (m sz : Nat) : (rowL F m sz).length = m * sz := by simp [rowL]
theorem rowL_at {F : Nat → Nat → Value} {m sz i j : Nat} (hi : i < m) (hj : j < sz) : (rowL F m sz).getD (i * sz + j) undef = F i j := by
  have hz : 0 < sz := by omega
  have e1 : (i * sz + j) / sz = i := by rw [Nat.mul_comm, Nat.mul_add_div hz, Nat.div_eq_of_lt hj]; rfl
  have e2 : (i * sz + j) % sz = j := by rw [Nat.mul_comm, Nat.mul_add_mod, Nat.mod_eq_of_lt hj]
  have hlt : i * sz + j < m * sz := by have := Nat.mul_le_mul_right sz (show i + 1 ≤ m by omega); rw [Nat.add_mul] at this; omega
  simp [rowL, hlt, e1, e2]
theorem rowL_one {F : Nat → Nat → Value} {m sz : Nat} (h : ∀ i j, i < m → j < sz → (F i j).oneCell' = true) : ∀ u ∈ rowL F m sz, u.oneCell' = true := by
  intro u hu
  simp only [rowL, List.mem_map, List.mem_range] at hu
  obtain ⟨t, ht, rfl⟩ := hu
  have hz : 0 < sz := by rcases Nat.eq_zero_or_pos sz with e | e; · subst e; simp at ht
                         · exact e
  exact h _ _ ((Nat.div_lt_iff_lt_mul hz).2 ht) (Nat.mod_lt _ hz)
theorem cells_add (b off t : Nat) : (⟨b, off, none⟩ : Addr).add t = ⟨b, off + t, none⟩ := by
  unfold Addr.add
  split
  · rename_i h; subst h; simp
  · simp
theorem rowL_cells {w : World} {lo hi b off m sz : Nat} {F : Nat → Nat → Value} (h : Sl w lo hi (some ⟨b, off, none⟩) m sz F) : ∀ j u, (rowL F m sz)[j]? = some u → w.cell? ((⟨b, off, none⟩ : Addr).add j) = some u := by
  intro t u hu
  have hlt : t < m * sz := by
    have := (List.getElem?_eq_some_iff.1 hu).1
    rwa [rowL_len] at this
  have hz : 0 < sz := by rcases Nat.eq_zero_or_pos sz with e | e; · subst e; simp at hlt
                         · exact e
  have hm : 0 < m := by rcases Nat.eq_zero_or_pos m with e | e; · subst e; simp at hlt
                        · exact e
  obtain ⟨b', off', e, -, -, hc⟩ := h hm
  obtain ⟨rfl, rfl⟩ : b = b' ∧ off = off' := by injection e with e; injection e with h1 h2; exact ⟨h1, h2⟩
  have h3 := hc (t / sz) (t % sz) ((Nat.div_lt_iff_lt_mul hz).2 hlt) (Nat.mod_lt _ hz)
  have e : t / sz * sz + t % sz = t := by rw [Nat.mul_comm]; exact Nat.div_add_mod t sz
  rw [Nat.add_assoc, e] at h3
  rw [cells_add, h3]
  have hu' : u = F (t / sz) (t % sz) := by simpa [rowL, hlt] using hu.symm
  rw [hu']
theorem own_tab {w : World} {B : Nat} {e : TypeId} {sz n : Nat} {v : Value} {F : Nat → Nat → Value} (h : w.ownsRow B e sz v n (rowL F n sz)) :
    ∃ A c, v = .slice A n c ∧ Ow w B w.heap.size A n sz F := by
  obtain ⟨A, c, e, hO⟩ := own_sl h
  exact ⟨A, c, e, hO.congr fun i j hi hj => rowL_at hi hj⟩

/-- What a function leaves that returns a slice of its own. -/
def RowP (w : World) (mk : Option Addr → Nat → Value) (n sz : Nat) (F : Nat → Nat → Value) (e : Ending) (w' : World) : Prop :=
  ∃ A' c', e = .returned (mk A' c') ∧ Ow w' w.heap.size w'.heap.size A' n sz F ∧ Below w.heap.size w w'
section
variable {P : Program} (w : World)
theorem run_append_no (base : Nat) (t ty e : TypeId) (i : TypeInfo) (size : Nat) (ht : P.underlying t = some (.slice e)) (hi : P.info? e = some i)
    (v : Value) (n : Nat) (xs : List Value) (hown : w.ownsRow base e size v n xs) (c : Nat) : (Builtin.append_ #[t, t] ty #[v, .slice none 0 c]).run P w = .ok v w := by
  rcases hown.2 with ⟨rfl, rfl⟩ | ⟨g, cap, cur, rfl, _, _, hnc, _⟩
  · simp [Builtin.append_, run_underlying ht, sizeOf, typeInfo, hi, Builtin.lenOf, Builtin.firstCells]
  · simp [Builtin.append_, run_underlying ht, sizeOf, typeInfo, hi, Builtin.lenOf, Builtin.firstCells, hnc, storeCells]
/-- append(v, xs...), xs read as F. -/
theorem run_append_rd (base : Nat) (t ty e : TypeId) (i : TypeInfo) (z : Value) (size bytes : Nat) (ht : P.underlying t = some (.slice e)) (hi : P.info? e = some i) (hz : i.zero = some z)
    (hsize : i.size = size) (hby : i.bytes = bytes) (hzs : z.cells.size = size) (hsz : 0 < size)
    (v : Value) (n : Nat) (xs : List Value) (hown : w.ownsRow base e size v n xs)
    (lo hi' : Nat) (A : Option Addr) (m c : Nat) (F : Nat → Nat → Value) (hr : Sl w lo hi' A m size F) (h1 : ∀ i j, i < m → j < size → (F i j).oneCell' = true)
    (h63 : n + m ≤ maxLen) (hbytes : (n + m) * bytes ≤ 140737488355328) (hbase : base ≤ w.heap.size) :
    ∃ v' w', (Builtin.append_ #[t, t] ty #[v, .slice A m c]).run P w = .ok v' w' ∧ w'.ownsRow base e size v' (n + m) (xs ++ rowL F m size) ∧ w.grownBy w' v.ownBlock ∧
      (v'.ownBlock = v.ownBlock ∨ v'.ownBlock = some w.heap.size) := by
  rcases A with _ | ad
  · have hm : m = 0 := by
      rcases Nat.eq_zero_or_pos m with h0 | h0
      · exact h0
      · obtain ⟨b, off, h, -⟩ := hr h0
        cases h
    subst hm
    exact ⟨v, w, run_append_no w base t ty e i size ht hi v n xs hown c, by simpa [rowL] using hown, World.grownBy.refl w _, .inl rfl⟩
  · have hcells : ∀ j u, (rowL F m size)[j]? = some u → w.cell? (ad.add j) = some u := by
      rcases Nat.eq_zero_or_pos m with h0 | h0
      · subst h0; intro j u hu; simp [rowL] at hu
      · obtain ⟨b, off, h, -⟩ := hr h0
        injection h with h
        subst h
        exact rowL_cells hr
    obtain ⟨v', w', hrun, h2, h3, _, h5⟩ := run_append_own_at (P := P) w base t ty e i z size bytes ht hi hz hsize hby hzs hsz v n xs hown ad m c (rowL F m size) (rowL_len F m size) hcells (rowL_one h1) h63 hbytes hbase
    exact ⟨v', w', hrun, h2, h3, h5⟩
theorem wp_append_rd {o : Oper} {a : Act} {K : Act → World → Prop} {Q : Exit → Act → World → Prop} (s x : Operand) (t : TypeId)
    (ho : o.op = .call { callee := .builtin .append, args := #[s, x], argTypes := #[t, t] })
    (base : Nat) (e : TypeId) (i : TypeInfo) (z : Value) (size bytes : Nat) (ht : P.underlying t = some (.slice e)) (hi : P.info? e = some i) (hz : i.zero = some z)
    (hsize : i.size = size) (hby : i.bytes = bytes) (hzs : z.cells.size = size) (hsz : 0 < size)
    (v : Value) (n : Nat) (xs : List Value) (hs : a.eval s = v) (hown : w.ownsRow base e size v n xs)
    (lo hi' : Nat) (A : Option Addr) (m c : Nat) (F : Nat → Nat → Value) (hx : a.eval x = .slice A m c) (hr : Sl w lo hi' A m size F) (h1 : ∀ i j, i < m → j < size → (F i j).oneCell' = true)
    (h63 : n + m ≤ maxLen) (hbytes : (n + m) * bytes ≤ 140737488355328) (hbase : base ≤ w.heap.size)
    (h : ∀ v' w', w'.ownsRow base e size v' (n + m) (xs ++ rowL F m size) → w.grownBy w' v.ownBlock → (v'.ownBlock = v.ownBlock ∨ v'.ownBlock = some w.heap.size) → K (a.put o.dst v') w') : o.wp P a w K Q := by
  obtain ⟨v', w', hrun, h2, h3, h4⟩ := run_append_rd (P := P) w base t o.type e i z size bytes ht hi hz hsize hby hzs hsz v n xs hown lo hi' A m c F hr h1 h63 hbytes hbase
  unfold Oper.wp execOp
  simp only [ho, resolve, invoke, builtin, Sem.run_bind, Sem.run_pure, Result.andThen_ok, List.map_toArray, List.map_cons, List.map_nil, hs, hx, hrun]
  exact h v' w' h2 h3 h4
theorem wpList_append_rd {ops : Array Oper} {rest : List Oper} {o : Oper} {a : Act} {Q : Exit → Act → World → Prop} (hgd : o.guard = none) (s x : Operand) (t : TypeId)
    (ho : o.op = .call { callee := .builtin .append, args := #[s, x], argTypes := #[t, t] })
    (base : Nat) (e : TypeId) (i : TypeInfo) (z : Value) (size bytes : Nat) (ht : P.underlying t = some (.slice e)) (hi : P.info? e = some i) (hz : i.zero = some z)
    (hsize : i.size = size) (hby : i.bytes = bytes) (hzs : z.cells.size = size) (hsz : 0 < size)
    (v : Value) (n : Nat) (xs : List Value) (hs : a.eval s = v) (hown : w.ownsRow base e size v n xs)
    (lo hi' : Nat) (A : Option Addr) (m c : Nat) (F : Nat → Nat → Value) (hx : a.eval x = .slice A m c) (hr : Sl w lo hi' A m size F) (h1 : ∀ i j, i < m → j < size → (F i j).oneCell' = true)
    (h63 : n + m ≤ maxLen) (hbytes : (n + m) * bytes ≤ 140737488355328) (hbase : base ≤ w.heap.size)
    (h : ∀ v' w', w'.ownsRow base e size v' (n + m) (xs ++ rowL F m size) → w.grownBy w' v.ownBlock → (v'.ownBlock = v.ownBlock ∨ v'.ownBlock = some w.heap.size) → wpList P ops Q rest (a.put o.dst v') w') : wpList P ops Q (o :: rest) a w :=
  wpList_plain hgd fun _ hK => wp_append_rd w s x t ho base e i z size bytes ht hi hz hsize hby hzs hsz v n xs hs hown lo hi' A m c F hx hr h1 h63 hbytes hbase fun v' w' h2 h3 h4 => hK _ _ (h v' w' h2 h3 h4)
theorem step_append_rd {ops : Array Oper} {o : Oper} {a : Act} {K : Act → World → Prop} {Q : Exit → Act → World → Prop} {E : Prop} (hgd : o.guard = none) (s x : Operand) (t : TypeId)
    (ho : o.op = .call { callee := .builtin .append, args := #[s, x], argTypes := #[t, t] })
    (base : Nat) (e : TypeId) (i : TypeInfo) (z : Value) (size bytes : Nat) (ht : P.underlying t = some (.slice e)) (hi : P.info? e = some i) (hz : i.zero = some z)
    (hsize : i.size = size) (hby : i.bytes = bytes) (hzs : z.cells.size = size) (hsz : 0 < size)
    (v : Value) (n : Nat) (xs : List Value) (hs : a.eval s = v) (hown : w.ownsRow base e size v n xs)
    (lo hi' : Nat) (A : Option Addr) (m c : Nat) (F : Nat → Nat → Value) (hx : a.eval x = .slice A m c) (hr : Sl w lo hi' A m size F) (h1 : ∀ i j, i < m → j < size → (F i j).oneCell' = true)
    (h63 : n + m ≤ maxLen) (hbytes : (n + m) * bytes ≤ 140737488355328) (hbase : base ≤ w.heap.size)
    (h : ∀ v' w', w'.ownsRow base e size v' (n + m) (xs ++ rowL F m size) → w.grownBy w' v.ownBlock → (v'.ownBlock = v.ownBlock ∨ v'.ownBlock = some w.heap.size) → K (a.put o.dst v') w') :
    if Region.wanted o (yielded ops a.tmps) = true then Oper.wp P o a w K Q else E := by
  have hw : Region.wanted o (yielded ops a.tmps) = true := by simp [Region.wanted, hgd]
  rw [if_pos hw]
  exact wp_append_rd w s x t ho base e i z size bytes ht hi hz hsize hby hzs hsz v n xs hs hown lo hi' A m c F hx hr h1 h63 hbytes hbase h
end
end Go.Proofs.YtbmlglkdlialgaaDoor
