/-
  Plain functions on kinds of salt and liquors that the contracts of this seat name. Conditions: none; no program is named here.
-/
import Derived.Test.YtnmpfojcmedpeaaDoorMath
import Derived.Lib.SlTrimSet
namespace Go.Proofs.YtnmpfojcmedpeaaDoor
open Go.RowKit

/-- The k-th byte. -/
def byteI (s : ByteArray) (k : Nat) : Int := ((s.data.toList.getD k 0).toNat : Int)
theorem byteI_at (s : ByteArray) (k : Nat) (h : k < s.size) : byteI s k = ((s[k].toNat : Nat) : Int) := by
  have e : s.data.toList.getD k 0 = s[k] := by
    rw [List.getD_eq_getElem?_getD, List.getElem?_eq_getElem (by simpa using h)]; rfl
  unfold byteI; rw [e]
def wordB (s : ByteArray) : Bool := inB s.size 1 10 && allB (fun k => inB (byteI s k) 97 122) s.size
def azL : List UInt8 := [97, 98, 99, 100, 101, 102, 103, 104, 105, 106, 107, 108, 109, 110, 111, 112, 113, 114, 115, 116, 117, 118, 119, 120, 121, 122]
theorem az_has (b : UInt8) : azL.contains b = inB (b.toNat : Int) 97 122 := by
  have key : ∀ n : Nat, n < 256 → azL.contains (UInt8.ofNat n) = (decide (97 ≤ n) && decide (n ≤ 122)) := by decide +kernel
  have := key b.toNat b.toNat_lt
  rw [UInt8.ofNat_toNat] at this
  rw [this]
  unfold inB
  rw [Bool.eq_iff_iff]
  simp only [Bool.and_eq_true, decide_eq_true_eq]
  omega
theorem trimS_nil (l cs : List UInt8) : (Lib.trimS l cs).isEmpty = l.all (cs.contains ·) := by
  have dw : ∀ (p : UInt8 → Bool) (l : List UInt8), (l.dropWhile p).isEmpty = l.all p := by
    intro p l
    induction l with
    | nil => rfl
    | cons a l ih =>
      rw [List.dropWhile_cons]
      cases hp : p a
      · simp [hp]
      · simp [hp, ih]
  unfold Lib.trimS Lib.trimLeftS Lib.trimRightS
  rw [dw]
  cases h : l.all (cs.contains ·) with
  | true =>
    rw [List.all_eq_true] at h ⊢
    intro x hx
    exact h x (List.mem_reverse.1 ((List.dropWhile_sublist _).subset (List.mem_reverse.1 hx)))
  | false =>
    have h2 : (l.reverse.dropWhile (cs.contains ·)).isEmpty = false := by rw [dw, List.all_reverse, h]
    cases hd : l.reverse.dropWhile (cs.contains ·) with
    | nil => rw [hd] at h2; cases h2
    | cons a t =>
      have ha : cs.contains a = false := by
        have hne : l.reverse.dropWhile (cs.contains ·) ≠ [] := by rw [hd]; simp
        have := List.head_dropWhile_not (cs.contains ·) hne
        simpa only [hd, List.head_cons] using this
      rw [List.all_eq_false]
      exact ⟨a, by simp, by simpa using ha⟩
theorem all_bytes (s : ByteArray) : s.data.toList.all (azL.contains ·) = allB (fun k => inB (byteI s k) 97 122) s.size := by
  have hl : s.data.toList.length = s.size := by rw [Array.length_toList]; rfl
  cases h : allB (fun k => inB (byteI s k) 97 122) s.size with
  | true =>
    rw [List.all_eq_true]
    intro x hx
    obtain ⟨i, hi, rfl⟩ := List.mem_iff_getElem.1 hx
    have := allB_at h i (by omega)
    simp only [byteI, List.getD_eq_getElem?_getD, List.getElem?_eq_getElem hi, Option.getD_some] at this
    rw [az_has]; exact this
  | false =>
    cases h2 : s.data.toList.all (azL.contains ·) with
    | false => rfl
    | true =>
      rw [List.all_eq_true] at h2
      have : allB (fun k => inB (byteI s k) 97 122) s.size = true := allB_of fun k hk => by
        have := h2 (s.data.toList[k]'(by omega)) (List.getElem_mem _)
        rw [az_has] at this
        simp only [byteI, List.getD_eq_getElem?_getD, List.getElem?_eq_getElem (show k < s.data.toList.length by omega), Option.getD_some]
        exact this
      rw [this] at h; cases h
/-- One name before another. -/
def ltS (a b : ByteArray) : Bool := Op.bytesLess a.toList b.toList
/-- The cells of kinds. -/
def kdC (S : Nat → ByteArray) (F : Nat → Nat → Int) : Nat → Nat → Value := fun i j =>
  match j with
  | 0 => .string (S i)
  | j => .int .i64 (F i j)
def kindB (S : Nat → ByteArray) (F : Nat → Nat → Int) (k : Nat) : Bool := wordB (S k) && inB (F k 1) 0 9 && inB (F k 2) 1 1000 && (decide (k = 0) || ltS (S (k - 1)) (S k))
def kindsB (S : Nat → ByteArray) (F : Nat → Nat → Int) (n : Nat) : Bool := allB (kindB S F) n && inB n 1 6
theorem kindsB_at {S : Nat → ByteArray} {F : Nat → Nat → Int} {n : Nat} (h : kindsB S F n = true) : (1 ≤ n ∧ n ≤ 6) ∧ ∀ k, k < n → (0 ≤ F k 1 ∧ F k 1 ≤ 9) ∧ 1 ≤ F k 2 ∧ F k 2 ≤ 1000 := by
  simp only [kindsB, Bool.and_eq_true] at h
  have h1 := inB_true h.2
  refine ⟨by omega, fun k hk => ?_⟩
  have h2 := allB_at h.1 k hk
  simp only [kindB, Bool.and_eq_true] at h2
  exact ⟨inB_true h2.1.1.2, inB_true h2.1.2⟩
def saltB (L : Nat → Nat → Int) (k : Nat) : Bool := inB (L k 0) 0 1000000
def liqB (S : Nat → ByteArray) (F : Nat → Nat → Int) (n : Nat) (x : Int) (m : Nat) (L : Nat → Nat → Int) : Bool := kindsB S F n && inB x 0 1000000 && decide (m = n) && allB (saltB L) m
theorem liqB_at {S : Nat → ByteArray} {F : Nat → Nat → Int} {n : Nat} {x : Int} {m : Nat} {L : Nat → Nat → Int} (h : liqB S F n x m L = true) :
    kindsB S F n = true ∧ (0 ≤ x ∧ x ≤ 1000000) ∧ m = n ∧ ∀ k, k < n → 0 ≤ L k 0 ∧ L k 0 ≤ 1000000 := by
  simp only [liqB, Bool.and_eq_true, decide_eq_true_eq] at h
  refine ⟨h.1.1.1, inB_true h.1.1.2, h.1.2, fun k hk => ?_⟩
  exact inB_true (allB_at h.2 k (by have := h.1.2; omega))
def askB (S : Nat → ByteArray) (F : Nat → Nat → Int) (n : Nat) (x : Int) (m : Nat) (L : Nat → Nat → Int) (i : Int) : Bool := liqB S F n x m L && inB i 0 ((n : Int) - 1)
def keepsV (g x : Int) : Int := g * x / 1000
def isFullR (S : Nat → ByteArray) (F : Nat → Nat → Int) (n : Nat) (x : Int) (m : Nat) (L : Nat → Nat → Int) (i : Int) : Bool × Bool :=
  if askB S F n x m L i then (decide (keepsV (F i.toNat 2) x < L i.toNat 0), true) else (false, false)
def massR (S : Nat → ByteArray) (F : Nat → Nat → Int) (n : Nat) (x : Int) (m : Nat) (L : Nat → Nat → Int) : Int × Bool :=
  if liqB S F n x m L then (x + sumI (fun j => L j 0) m, true) else (0, false)
theorem salts_bd {S : Nat → ByteArray} {F : Nat → Nat → Int} {n : Nat} {x : Int} {m : Nat} {L : Nat → Nat → Int} (h : liqB S F n x m L = true) : ∀ k, k ≤ m → 0 ≤ sumI (fun j => L j 0) k ∧ sumI (fun j => L j 0) k ≤ 6000000 := fun k hk => by
  obtain ⟨h1, h2, rfl, h4⟩ := liqB_at h
  have h5 := (kindsB_at h1).1
  have := sumI_bound (f := fun j => L j 0) (b := 1000000) (n := m) (fun i hi => h4 i hi) k hk
  omega
/-- After how many kilograms there is too much of a kind; -1: never. -/
def dryV (g s x : Int) : Int := if s = 0 then -1 else max 0 (x - (1000 * s - 1) / g)
def fullV (g s x : Int) : Int := if s = 0 then x + 1 else max 0 (x - (1000 * s - 1) / g)
theorem fullV_ceil {g s x : Int} (hg : 1 ≤ g) (hs : 1 ≤ s) : max (x - (1000 * s + g - 1) / g + 1) 0 = fullV g s x := by
  have e : (1000 * s + g - 1) / g = (1000 * s - 1) / g + 1 := by
    rw [show 1000 * s + g - 1 = (1000 * s - 1) + 1 * g by omega, Int.add_mul_ediv_right _ _ (by omega)]
  unfold fullV; rw [if_neg (by omega), e]; omega
theorem div_bd {g s : Int} (hg : 1 ≤ g) (hs : 1 ≤ s) (hs2 : s ≤ 1000000) : 0 ≤ (1000 * s - 1) / g ∧ (1000 * s - 1) / g ≤ 1000000000 := by
  have h1 : 0 ≤ (1000 * s - 1) / g := Int.ediv_nonneg (by omega) (by omega)
  have h2 : (1000 * s - 1) / g ≤ 1000 * s - 1 := Int.ediv_le_self _ (by omega)
  omega
theorem fullV_bd {g s x : Int} (hg : 1 ≤ g) (hs : 0 ≤ s) (hs2 : s ≤ 1000000) (hx : 0 ≤ x) : 0 ≤ fullV g s x ∧ fullV g s x ≤ x + 1 ∧ (s ≠ 0 → fullV g s x ≤ x ∧ fullV g s x = dryV g s x) ∧ (s = 0 → fullV g s x = x + 1 ∧ dryV g s x = -1) := by
  by_cases h0 : s = 0
  · unfold fullV dryV; simp [h0]; omega
  · have := div_bd hg (show 1 ≤ s by omega) hs2
    unfold fullV dryV; rw [if_neg h0, if_neg h0]
    refine ⟨by omega, by omega, fun _ => ⟨by omega, rfl⟩, fun h => absurd h h0⟩
theorem dryV_bd {g s x : Int} (hg : 1 ≤ g) (hs : 0 ≤ s) (hs2 : s ≤ 1000000) (hx : 0 ≤ x) : -1 ≤ dryV g s x ∧ dryV g s x ≤ x := by
  have := fullV_bd hg hs hs2 hx
  by_cases h0 : s = 0
  · have := this.2.2.2 h0; omega
  · have := this.2.2.1 h0; omega
def dryKeepR (S : Nat → ByteArray) (F : Nat → Nat → Int) (n : Nat) (x : Int) (m : Nat) (L : Nat → Nat → Int) (i : Int) : Int × Bool :=
  if askB S F n x m L i then (if fullV (F i.toNat 2) (L i.toNat 0) x = 0 then (0, false) else (fullV (F i.toNat 2) (L i.toNat 0) x - 1, true)) else (0, false)
/-- The kind of which there is too much first, and after how many kilograms. -/
def firstF (F L : Nat → Nat → Int) (x : Int) : Nat → Option (Nat × Int)
  | 0 => none
  | k + 1 => match firstF F L x k with
    | none => if L k 0 = 0 then none else some (k, fullV (F k 2) (L k 0) x)
    | some p => if L k 0 ≠ 0 ∧ fullV (F k 2) (L k 0) x < p.2 then some (k, fullV (F k 2) (L k 0) x) else some p
def firstFR (S : Nat → ByteArray) (F : Nat → Nat → Int) (n : Nat) (x : Int) (m : Nat) (L : Nat → Nat → Int) : Int × Int × Bool :=
  if liqB S F n x m L then (match firstF F L x n with | some p => (p.1, p.2, true) | none => (0, 0, false)) else (0, 0, false)
/-- Up to how many kilograms there is not too much of another kind. -/
def pureHi (F L : Nat → Nat → Int) (x : Int) (i : Int) : Nat → Int
  | 0 => x
  | k + 1 => if (k : Int) = i then pureHi F L x i k else min (pureHi F L x i k) (fullV (F k 2) (L k 0) x - 1)
def pureR (S : Nat → ByteArray) (F : Nat → Nat → Int) (n : Nat) (x : Int) (m : Nat) (L : Nat → Nat → Int) (i : Int) : Int × Int × Bool :=
  if askB S F n x m L i then (if pureHi F L x i n < fullV (F i.toNat 2) (L i.toNat 0) x then (0, 0, false) else (fullV (F i.toNat 2) (L i.toNat 0) x, pureHi F L x i n, true)) else (0, 0, false)
end Go.Proofs.YtnmpfojcmedpeaaDoor
