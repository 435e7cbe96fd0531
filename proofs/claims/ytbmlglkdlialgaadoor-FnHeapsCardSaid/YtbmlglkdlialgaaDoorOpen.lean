/-
  How a law's arguments, as the statements read them, come to the walks: slices of structs as tables of cells. Conditions: none; no program is named here.
-/
import Derived.Test.YtbmlglkdlialgaaDoorBase
import Derived.ProofKit
import Derived.OpenShut
import Derived.ShutString
import Derived.ChangeOld
import Derived.Lib.SmallJoins
namespace Go.Proofs.YtbmlglkdlialgaaDoor
open Go.ChangeShapes Go.WideShapes Go.ChangeAt Go.RowKit Go.Deep

theorem add_form (b off : Nat) (k : Nat) : (⟨b, off, none⟩ : Addr).add k = ⟨b, off + k, none⟩ := by
  unfold Addr.add
  split
  · rename_i h; subst h; simp
  · simp
theorem cell_form {w : World} {a : Addr} {v : Value} (h : w.cell? a = some v) : a = ⟨a.block, a.off, none⟩ ∧ a.block < w.heap.size := by
  unfold World.cell? at h
  split at h
  · rename_i c e f hb
    refine ⟨?_, ?_⟩
    · cases hs : a.spot with
      | none => cases a; simp at hs; subst hs; rfl
      | some s => simp [hs] at h
    · exact (Array.getElem?_eq_some_iff.1 hb).1
  · simp at h
section
variable {H : Type} {enc : TypeId × Value → H} {P : Program} {w : World} {base : Nat} {spare : Nat → Bool} {held : Bool}
theorem rows_of_trod {t e sz : Nat} {fuel : Nat} {A : Option Addr} {len cap : Nat} {x : DataW H × List MemPlace} (ht : P.underlying t = some (.slice e)) (hsz : P.cellsOf e = sz) (hsz0 : 0 < sz) (P0 : List Value → Prop)
    (hel : ∀ n cs y, DataW.trod enc P w base spare held n e cs = some y → cs.length = sz → P0 cs)
    (h : DataW.trod enc P w base spare held fuel t [.slice A len cap] = some x) :
    len ≤ maxLen ∧ ∃ F, Rd w A len sz F ∧ ∀ i, i < len → P0 ((List.range sz).map (F i)) := by
  rcases open_slice ht h with ⟨h0, -⟩ | ⟨a, l, c, m, n, D, Pl, hcs, hb, hl, hm, hmm, hx, hi⟩
  · simp at h0
    obtain ⟨rfl, rfl, rfl⟩ := h0
    exact ⟨Nat.zero_le _, fun _ _ => undef, Sl.nil w 0 w.heap.size none sz _, fun i hi => absurd hi (by omega)⟩
  · simp at hcs
    obtain ⟨rfl, rfl, rfl⟩ := hcs
    have hlm : len ≤ m := by rw [hmm]; split <;> omega
    refine ⟨by omega, fun i j => (w.cell? (a.add (i * sz + j))).getD undef, fun hn => ?_, fun i hil => ?_⟩
    · have key : ∀ i j, i < len → j < sz → ∃ v, w.cell? (a.add (i * sz + j)) = some v := by
        intro i j hil hj
        obtain ⟨cs', hc, -⟩ := hi i (by omega)
        rw [hsz] at hc
        obtain ⟨-, hcl, hat⟩ := World.cells?_some hc
        have := hat j hj
        rw [List.getElem?_eq_getElem (by omega)] at this
        have e : (a.add (i * sz)).add j = a.add (i * sz + j) := by
          unfold Addr.add
          by_cases h1 : i * sz = 0 <;> by_cases h2 : j = 0 <;> simp [h1, h2, Nat.add_assoc]
        rw [e] at this
        exact ⟨_, this⟩
      obtain ⟨v0, hv0⟩ := key 0 0 hn hsz0
      have hv0' : w.cell? a = some v0 := by simpa [Addr.add] using hv0
      obtain ⟨hf, hlt⟩ := cell_form hv0'
      refine ⟨a.block, a.off, congrArg _ hf, Nat.zero_le _, hlt, fun i j hil hj => ?_⟩
      obtain ⟨v, hv⟩ := key i j hil hj
      have hv' := hv
      rw [hf, add_form, ← Nat.add_assoc] at hv'
      rw [hv']
      simp only [hv, Option.getD_some]
    · obtain ⟨cs', hc, ht'⟩ := hi i (by omega)
      rw [hsz] at hc
      obtain ⟨-, hcl, hat⟩ := World.cells?_some hc
      have := hel _ _ _ ht' hcl
      have e : (List.range sz).map (fun j => (w.cell? (a.add (i * sz + j))).getD undef) = cs' := by
        refine List.ext_getElem (by simp [hcl]) fun j h1 h2 => ?_
        have hj : j < sz := by simpa using h1
        have := hat j hj
        rw [List.getElem?_eq_getElem (by omega)] at this
        have e : (a.add (i * sz)).add j = a.add (i * sz + j) := by
          unfold Addr.add
          by_cases h1 : i * sz = 0 <;> by_cases h2 : j = 0 <;> simp [h1, h2, Nat.add_assoc]
        rw [e] at this
        simp [this]
      rw [e]
      exact this

/-- .. whose cells are all ints. -/
theorem ints_of_rows {A : Option Addr} {len sz : Nat} {F : Nat → Nat → Value} (h : Rd w A len sz F) (hp : ∀ i, i < len → ∃ l : List Int, (List.range sz).map (F i) = l.map (Value.int .i64)) :
    ∃ G, Rd w A len sz (ints G) := by
  refine ⟨fun i j => intOf (F i j), h.congr fun i j hi hj => ?_⟩
  obtain ⟨l, hl⟩ := hp i hi
  have h1 : ((List.range sz).map (F i))[j]? = some (F i j) := by simp [hj]
  rw [hl] at h1
  simp only [List.getElem?_map] at h1
  cases hlj : l[j]? with
  | none => simp [hlj] at h1
  | some z => simp [hlj] at h1; show F i j = .int .i64 (intOf (F i j)); rw [← h1]; rfl

theorem ints_of_struct2 {t : TypeId} {f0 f1 : Field} {cs : List Value} {n : Nat} {y : DataW H × List MemPlace} (hs : P.underlying t = some (.struct #[f0, f1])) (hone : oneCellFields P #[f0, f1] = true)
    (h0 : P.underlying f0.type = some (.int .i64)) (h1 : P.underlying f1.type = some (.int .i64)) (h : DataW.trod enc P w base spare held n t cs = some y) (hl : cs.length = 2) :
    ∃ l : List Int, cs = l.map (Value.int .i64) := by
  match cs, hl with
  | [c0, c1], _ =>
    obtain ⟨xs, n', _, hx, _, hlen, hg⟩ := DataW.trod_struct hs h
    obtain ⟨o0, k0⟩ := hone_of hone 0 f0 rfl
    obtain ⟨o1, k1⟩ := hone_of hone 1 f1 rfl
    match xs, hlen with
    | [y0, y1], _ =>
      obtain ⟨z0, e0, -, -⟩ := DataW.trod_int h0 (by simpa [o0, k0] using hg 0 f0 rfl)
      obtain ⟨z1, e1, -, -⟩ := DataW.trod_int h1 (by simpa [o1, k1] using hg 1 f1 rfl)
      simp at e0 e1
      exact ⟨[z0, z1], by rw [e0, e1]; rfl⟩
end
end Go.Proofs.YtbmlglkdlialgaaDoor
