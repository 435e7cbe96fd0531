/-
  How heaps, as the statements read them, come to the walks. Conditions: none; no program is named here.
-/
import Derived.Test.YtbmlglkdlialgaaDoorOpen
import Derived.Test.YtbmlglkdlialgaaDoorHpB
namespace Go.Proofs.YtbmlglkdlialgaaDoor
open Go.ChangeShapes Go.WideShapes Go.ChangeAt Go.RowKit Go.Deep
section
variable {H : Type} {enc : TypeId × Value → H} {P : Program} {w : World} {base : Nat} {spare : Nat → Bool} {held : Bool}
/-- The four cells of a heap, its layers in the world. -/
def heapCs (w : World) (cs : List Value) : Prop :=
  ∃ (h : HeapD) (B : Option Addr) (c : Nat), cs = [.int .i64 h.id, .int .i64 h.gr, .slice B h.n c, .bool h.cov] ∧ Rd w B h.n 1 (ints h.L) ∧ h.n ≤ maxLen
theorem ints_of_slice {t e : TypeId} {n : Nat} {cs : List Value} {y : DataW H × List MemPlace} (ht : P.underlying t = some (.slice e)) (he : P.underlying e = some (.int .i64)) (hc : P.cellsOf e = 1)
    (h : DataW.trod enc P w base spare held n t cs = some y) : ∃ (B : Option Addr) (m c : Nat) (L : Nat → Nat → Int), cs = [.slice B m c] ∧ Rd w B m 1 (ints L) ∧ m ≤ maxLen := by
  have key : ∀ (B : Option Addr) (m c : Nat), cs = [.slice B m c] → ∃ (B : Option Addr) (m c : Nat) (L : Nat → Nat → Int), cs = [.slice B m c] ∧ Rd w B m 1 (ints L) ∧ m ≤ maxLen := fun B m c hcs => by
    subst hcs
    obtain ⟨hl, F, hF, hp⟩ := rows_of_trod (sz := 1) ht hc (by decide) (fun cs => ∃ l : List Int, cs = l.map (Value.int .i64)) (fun n cs y hy _ => by obtain ⟨z, e, -, -⟩ := DataW.trod_int he hy; exact ⟨[z], by rw [e]; rfl⟩) h
    obtain ⟨L, hL⟩ := ints_of_rows hF hp
    exact ⟨B, m, c, L, rfl, hL, hl⟩
  rcases DataW.trod_slice ht h with ⟨e, -⟩ | ⟨a, len, cap, -, -, -, -, e, -⟩
  · exact key _ _ _ e
  · exact key _ _ _ e
theorem heap_of_struct {t e : TypeId} {f0 f1 f2 f3 : Field} {cs : List Value} {n : Nat} {y : DataW H × List MemPlace} (hs : P.underlying t = some (.struct #[f0, f1, f2, f3])) (hone : oneCellFields P #[f0, f1, f2, f3] = true)
    (h0 : P.underlying f0.type = some (.int .i64)) (h1 : P.underlying f1.type = some (.int .i64)) (h2 : P.underlying f2.type = some (.slice e)) (h3 : P.underlying f3.type = some .bool)
    (he : P.underlying e = some (.int .i64)) (hc : P.cellsOf e = 1) (h : DataW.trod enc P w base spare held n t cs = some y) (hl : cs.length = 4) : heapCs w cs := by
  match cs, hl with
  | [c0, c1, c2, c3], _ =>
    obtain ⟨xs, n', _, hx, _, hlen, hg⟩ := DataW.trod_struct hs h
    obtain ⟨o0, k0⟩ := hone_of hone 0 f0 rfl
    obtain ⟨o1, k1⟩ := hone_of hone 1 f1 rfl
    obtain ⟨o2, k2⟩ := hone_of hone 2 f2 rfl
    obtain ⟨o3, k3⟩ := hone_of hone 3 f3 rfl
    match xs, hlen with
    | [y0, y1, y2, y3], _ =>
      obtain ⟨z0, e0, -, -⟩ := DataW.trod_int h0 (by simpa [o0, k0] using hg 0 f0 rfl)
      obtain ⟨z1, e1, -, -⟩ := DataW.trod_int h1 (by simpa [o1, k1] using hg 1 f1 rfl)
      obtain ⟨B, m, c, L, e2, hB, hm⟩ := ints_of_slice (cs := [c2]) (y := y2) h2 he hc (by simpa [o2, k2] using hg 2 f2 rfl)
      obtain ⟨b, e3, -⟩ := DataW.trod_bool h3 (by simpa [o3, k3] using hg 3 f3 rfl)
      simp at e0 e1 e2 e3
      exact ⟨⟨z0, z1, m, L, b⟩, B, c, by rw [e0, e1, e2, e3], hB, hm⟩
theorem heaps_of_rows {A : Option Addr} {len : Nat} {F : Nat → Nat → Value} (h : Rd w A len 4 F) (hp : ∀ i, i < len → heapCs w ((List.range 4).map (F i))) : ∃ H, HpR w A len H := by
  have hex : ∀ i, ∃ q : HeapD × Option Addr × Nat, i < len → (List.range 4).map (F i) = [.int .i64 q.1.id, .int .i64 q.1.gr, .slice q.2.1 q.1.n q.2.2, .bool q.1.cov] ∧ Rd w q.2.1 q.1.n 1 (ints q.1.L) ∧ q.1.n ≤ maxLen := fun i => by
    by_cases hi : i < len
    · obtain ⟨d, B, c, h1, h2, h3⟩ := hp i hi
      exact ⟨(d, B, c), fun _ => ⟨h1, h2, h3⟩⟩
    · exact ⟨(⟨0, 0, 0, fun _ _ => 0, false⟩, none, 0), fun h => absurd h hi⟩
  obtain ⟨q, hq⟩ := Classical.axiomOfChoice hex
  refine ⟨fun i => (q i).1, fun i => (q i).2.1, fun i => (q i).2.2, h.congr fun i j hi hj => ?_, fun i hi => ⟨(hq i hi).2.1, (hq i hi).2.2⟩⟩
  have e := (hq i hi).1
  have e4 : (List.range 4).map (F i) = [F i 0, F i 1, F i 2, F i 3] := rfl
  rw [e4] at e
  simp at e
  match j, hj with
  | 0, _ => exact e.1
  | 1, _ => exact e.2.1
  | 2, _ => exact e.2.2.1
  | 3, _ => exact e.2.2.2
end
end Go.Proofs.YtbmlglkdlialgaaDoor
