/-
  Texts of heaps: numerals with a sign between them, of the program. Conditions: at most 12 layers of 0 to 1000 tons; the library's table as the text lays it.
-/
import Derived.Test.YtbmlglkdlialgaaDoorHtA
import Derived.Test.YtbmlglkdlialgaaDoorInts
import Derived.Test.YtbmlglkdlialgaaDoorHpA
namespace Go.Proofs.YtbmlglkdlialgaaDoor
open Go.RowKit

/-- The first k numbers with '+' between them. -/
def jS (L : Nat → Nat → Int) : Nat → ByteArray
  | 0 => ⟨#[]⟩
  | k + 1 => (if k = 0 then jS L k else jS L k ++ ⟨#[43]⟩) ++ decS (L k 0).toNat
def headS (id gr : Int) : ByteArray := (((⟨#[104]⟩ : ByteArray) ++ decS id.toNat ++ ⟨#[32, 103]⟩) ++ decS gr.toNat) ++ ⟨#[58, 32]⟩
def textS (id gr : Int) (n : Nat) (L : Nat → Nat → Int) (cv : Bool) : ByteArray :=
  if cv then ((if n = 0 then headS id gr ++ ⟨#[101, 109, 112, 116, 121]⟩ else headS id gr) ++ jS L n) ++ ⟨#[32, 99, 111, 118, 101, 114, 101, 100]⟩
  else (if n = 0 then headS id gr ++ ⟨#[101, 109, 112, 116, 121]⟩ else headS id gr) ++ jS L n
theorem jS_size {L : Nat → Nat → Int} : ∀ n, (∀ i, i < n → 0 ≤ L i 0 ∧ L i 0 ≤ 1000) → (jS L n).size ≤ 22 * n := by
  intro n
  induction n with
  | zero => intro _; simp [jS, ByteArray.size]
  | succ k ih =>
    intro h
    have h1 := ih fun i hi => h i (by omega)
    have h2 := decS_size (n := (L k 0).toNat) (by have := h k (by omega); omega)
    simp only [jS]
    split
    · rw [ByteArray.size_append]; omega
    · rw [ByteArray.size_append, ByteArray.size_append]
      have : (⟨#[43]⟩ : ByteArray).size = 1 := rfl
      omega
def wordsS (L : Nat → Nat → Int) (n : Nat) : List ByteArray := (List.range n).map fun i => decS (L i 0).toNat
theorem join_snoc (sep y : List UInt8) : ∀ (xs : List (List UInt8)), xs ≠ [] → Lib.join (xs ++ [y]) sep = Lib.join xs sep ++ (sep ++ y) := by
  intro xs h
  cases xs with
  | nil => exact absurd rfl h
  | cons x r => rw [List.cons_append, Lib.join_cons, Lib.join_cons]; simp [Lib.joinTail]
theorem jS_join (L : Nat → Nat → Int) : ∀ n, (⟨(Lib.join ((wordsS L n).map (·.data.toList)) [43]).toArray⟩ : ByteArray) = jS L n := by
  intro n
  induction n with
  | zero => rfl
  | succ k ih =>
    have e : (wordsS L (k + 1)).map (·.data.toList) = (wordsS L k).map (·.data.toList) ++ [(decS (L k 0).toNat).data.toList] := by
      simp [wordsS, List.range_succ]
    rw [e]
    simp only [jS]
    by_cases h0 : k = 0
    · subst h0
      rw [if_pos rfl]
      simp only [wordsS, List.range_zero, List.map_nil, List.nil_append, Lib.join_one, jS]
      apply ByteArray.ext
      simp
    · rw [if_neg h0, join_snoc _ _ _ (by simp [wordsS, h0]), ← ih]
      apply ByteArray.ext
      simp
theorem info_str : (Tryd.prog.info? 9).map (fun i => (i.zero, i.size, i.bytes)) = some (some (.string ⟨#[]⟩), 1, 16) := by kernel_rfl
theorem mk_str (n : Nat) (hn : n ≤ 1048576) (u : World) : (Instr.makeSlice 72 (.int .i64 (n : Int)) (.int .i64 (n : Int))).run Tryd.prog u =
      .ok (.slice (some ⟨u.heap.size, 0, none⟩) n n) (u.alloc (.cells (madeCells #[.string ⟨#[]⟩] n) 9)) := by
  obtain ⟨i0, hi, hz0, hz1, hz2⟩ := info_parts info_str
  have h := run_make (P := Tryd.prog) u 72 9 i0 _ Tryd.underlying72 hi hz0 .i64 .i64 (n : Int) (n : Int) (by omega) (Int.le_refl _) (by rw [hz2]; omega) (by omega)
  simpa [hz1, Value.cells] using h
set_option maxHeartbeats 1000000 in
theorem decimals_any (A : Option Addr) (n c B : Nat) (L : Nat → Nat → Int) (w : World) (hn : n ≤ 12) (HL : Hid (∀ i, i < n → 0 ≤ L i 0 ∧ L i 0 ≤ 1000)) (hB : B ≤ w.heap.size) (ht : Tab B w) (h : Rd w A n 1 (ints L)) :
    Calls Tryd.prog 32 #[.slice A n c, .string ⟨#[43]⟩] w fun e w' => e = .returned (.string (jS L n)) ∧ Below w.heap.size w w' := by
  have hmk := mk_str n (by omega)
  have HT := hide ht
  clear ht
  go_enter Tryd.func32, Tryd.ntmps32
  go_wp2
  have hM : Ow (w.alloc (.cells (madeCells #[.string ⟨#[]⟩] n) 9)) w.heap.size (w.heap.size + 1) (some ⟨w.heap.size, 0, none⟩) n 1 (fun _ j => #[Value.string ⟨#[]⟩][j]!) := by
    have := Ow.made w #[.string ⟨#[]⟩] n 1 9 rfl
    rwa [Nat.mul_one] at this
  have hb1 : Below w.heap.size w (w.alloc (.cells (madeCells #[.string ⟨#[]⟩] n) 9)) := (Below.refl _ _).alloc (Nat.le_refl _) _
  have hs1 : w.heap.size + 1 ≤ (w.alloc (.cells (madeCells #[.string ⟨#[]⟩] n) 9)).heap.size := by simp
  generalize w.alloc (.cells (madeCells #[.string ⟨#[]⟩] n) 9) = w1 at hM hb1 hs1 ⊢
  go_loopw [13] (fun i wr => ∃ k : Nat, k ≤ n ∧ i = .int .i64 k ∧ Below w.heap.size w wr ∧ w.heap.size + 1 ≤ wr.heap.size ∧ ∃ G, Ow wr w.heap.size (w.heap.size + 1) (some ⟨w.heap.size, 0, none⟩) n 1 G ∧ ∀ i j, i < k → j < 1 → G i j = .string (decS (L i 0).toNat)) (fun i _ => n - (intOf i).toNat)
  case atStart => exact ⟨0, by omega, rfl, hb1, hs1, _, hM, fun i j hi => absurd hi (by omega)⟩
  case round =>
    clear hM hb1 hs1
    obtain ⟨k, hk, rfl, hb, hs, G, hG, hGF⟩ := hrel
    by_cases hlt : k < n
    · obtain ⟨b, off, rfl, -, hbw, hc⟩ := Rd.below h hb (by omega)
      have hc0 := hc k 0 hlt (by omega)
      simp only [Nat.add_zero, Nat.mul_one, ints] at hc0
      obtain ⟨l0, l1⟩ := HL.out k hlt
      obtain ⟨z, hz⟩ : ∃ z : Nat, L k 0 = z := ⟨(L k 0).toNat, by omega⟩
      have HZ := hide (show (L k 0).toNat = z by omega)
      rw [hz] at hc0 l1
      clear hc hz l0
      have htr : Tab B wr := HT.out.on (hb.mono hB)
      go_wp2_with fail
      go_at_call 31
      refine (decimal_any z B _ (by omega) htr).mono ?_
      rintro _ w2 ⟨rfl, hb2⟩
      have hG2 := hG.agr (Below.agr hb2 (by omega))
      obtain ⟨-, -, ho1, ho2⟩ := hG2.at_ hlt
      have ho10 := ho1 0 (by omega)
      have ho20 := ho2 0 (by omega)
      simp only [Nat.add_zero, Nat.zero_add, Nat.mul_one] at ho10 ho20
      clear ho1 ho2
      have hz2 := hb2.size
      have hG3 := hG2.set hlt (j0 := 0) (o := k) (by omega) (by omega) (.string (decS z))
      have hb3 := (gr hb hb2).setCell (p := ⟨w.heap.size, k, none⟩) (Nat.le_refl _) (.string (decS z))
      go_wp2
      go_roundw
      case rel =>
        refine ⟨k + 1, by omega, by go_num, hb3, by simp; omega, _, hG3, fun i j hi hj => ?_⟩
        obtain rfl : j = 0 := by omega
        unfold upd
        by_cases hik : i = k
        · subst hik; simp [HZ.out]
        · simp [hik, hGF i 0 (by omega) (by omega)]
      case measure => simp [intOf]; omega
    · obtain rfl : k = n := by omega
      have hxl : (wordsS L k).length = k := by simp [wordsS]
      have hcells : ∀ (j : Nat) x, (wordsS L k)[j]? = some x → wr.cell? ⟨w.heap.size, 0 + j, none⟩ = some (.string x) := fun j x hj => by
        have hjk : j < k := by have := (List.getElem?_eq_some_iff.1 hj).1; rwa [hxl] at this
        obtain ⟨-, -, ho1, -⟩ := hG.at_ hjk
        have h1 := ho1 0 (by omega)
        rw [hGF j 0 hjk (by omega)] at h1
        simp only [Nat.mul_one, Nat.add_zero] at h1
        rw [h1]
        simp [wordsS, hjk] at hj
        rw [hj]
      have hlen : (Lib.join ((wordsS L k).map (·.data.toList)) [43]).length ≤ 140737488355328 := by
        have h1 := jS_size k HL.out
        rw [← jS_join] at h1
        simp only [ByteArray.size, List.size_toArray] at h1
        omega
      have hJ := Tryd.strings_Join w.heap.size 0 k (wordsS L k) ⟨#[43]⟩ wr hcells (by omega) (by rw [hxl]; omega) (by rw [hxl]; exact Nat.le_refl _) hlen
      rw [hxl] at hJ
      have HJ := hide (jS_join L k)
      clear hcells hlen hG hGF
      go_wp2_with fail
      go_at_call 63
      refine hJ.mono ?_
      rintro _ w2 ⟨rfl, hb2⟩
      go_wp2
      go_ret
      exact ⟨by rw [← HJ.out]; rfl, gr hb hb2⟩
end Go.Proofs.YtbmlglkdlialgaaDoor
