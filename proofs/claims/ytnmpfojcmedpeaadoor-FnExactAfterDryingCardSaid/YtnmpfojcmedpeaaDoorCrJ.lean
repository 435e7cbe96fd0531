/-
  Contracts of the laws' marks on kinds and liquors. Conditions: lengths up to 2^20.
-/
import Derived.Test.YtnmpfojcmedpeaaDoorCrU
import Derived.Test.YtnmpfojcmedpeaaDoorCrI
namespace Go.Proofs.YtnmpfojcmedpeaaDoor
open Go.RowKit

theorem div_pow {q : Int} {r : Nat} (h0 : 0 < q) (h : q < 10 ^ r) : ∃ s, r = s + 1 ∧ q / 10 < 10 ^ s := by
  cases r with
  | zero => simp at h; omega
  | succ s => exact ⟨s, rfl, by rw [Int.pow_succ] at h; omega⟩
set_option maxRecDepth 20000 in
set_option maxHeartbeats 1000000 in
theorem markText_any (k : Int) (w : World) (h0 : 1 ≤ k) (h1 : k ≤ 4294967296) :
    Calls Tryd.prog 81 #[.int .i64 k] w fun e w' => ∃ s, e = .returned (.string s) ∧ Below w.heap.size w w' := by
  have hd : decide (k ≤ 0) = false := by simp; omega
  go_enter Tryd.func81, Tryd.ntmps81
  go_wp2
  go_loopw [0, 3] (fun q s wr => ∃ (j : Int) (t : ByteArray) (r : Nat), q = .int .i64 j ∧ s = .string t ∧ 0 ≤ j ∧ j ≤ 4294967296 ∧ j < 10 ^ r ∧ t.size + r = 11 ∧ Below w.heap.size w wr) (fun q _ _ => (intOf q).toNat)
  case atStart => exact ⟨k, ⟨#[]⟩, 11, rfl, rfl, by omega, h1, by omega, rfl, Below.refl _ _⟩
  case round =>
    obtain ⟨j, t, r, rfl, rfl, j0, j1, j2, ht, hb⟩ := hrel
    by_cases hj : 0 < j
    · obtain ⟨r, rfl, hq⟩ := div_pow hj j2
      have hd : decide (0 < j) = true := by simpa using hj
      have hts : t.size ≤ 10 := by omega
      have HT := hide ht
      have HQ := hide hq
      have m1 : 0 ≤ j % 10 := by omega
      have m2 : j % 10 < 10 := by omega
      have hcv : ∀ u : World, (convert 22 9 (.slice (some ⟨u.heap.size, 0, none⟩) 1 1)).run Tryd.prog (u.alloc (.cells #[.int .u8 (48 + j % 10)] 5)) = .ok (.string (ByteArray.empty.push (UInt8.ofNat (48 + j % 10).toNat))) (u.alloc (.cells #[.int .u8 (48 + j % 10)] 5)) := fun u => by
        rw [run_convert_bytes_string _ _ _ 5 _ _ _ Tryd.underlying22 Tryd.underlying5 Tryd.underlying9]
        exact run_bytesToString _ _ 1 1 [48 + j % 10] (run_loadCells_list (P := Tryd.prog) _ _ [.int .u8 (48 + j % 10)] (fun i v hi => by
          cases i with
          | zero => simp at hi; subst hi; exact World.cell?_alloc_new _ _ _ _
          | succ i => simp at hi))
      clear ht hq j2
      go_wp2
      go_roundw
      case rel =>
        refine ⟨j / 10, _, r, by go_num, rfl, by omega, by omega, HQ.out, ?_, hb.alloc hb.size _⟩
        have := HT.out
        rw [ByteArray.size_append, ByteArray.size_push]
        have : ByteArray.empty.size = 0 := rfl
        omega
      case measure => simp [intOf]; omega
    · have hd : decide (0 < j) = false := by simpa using hj
      have hts : t.size ≤ 11 := by omega
      clear ht j2
      go_wp2
      refine bodyPost_ret (v := .string (⟨#[109]⟩ ++ t)) (by simp only [results, Tryd.results81]; go_simp) rfl ⟨⟨_, rfl⟩, hb⟩

set_option maxHeartbeats 1000000 in
theorem markKindS_any (lo hi : Nat) (A : Option Addr) (n c : Nat) (k0 : Int) (F : Nat → Nat → Value) (w : World) (hn : n ≤ 1048576) (h0 : 1 ≤ k0) (h1 : k0 ≤ 1048576) (hh : hi ≤ w.heap.size) (h : Ow w lo hi A n 3 F) :
    Calls Tryd.prog 49 #[.slice A n c, .int .i64 k0] w fun e w' => e = .returned (.int .i64 (k0 + 3 * n)) ∧ Tch lo hi w w' := by
  go_enter Tryd.func49, Tryd.ntmps49
  go_wp2
  go_loopw [1, 5] (fun q i wr => ∃ k : Nat, k ≤ n ∧ i = .int .i64 k ∧ q = .int .i64 (k0 + 3 * k) ∧ Tch lo hi w wr ∧ ∃ G, Ow wr lo hi A n 3 G) (fun _ i _ => n - (intOf i).toNat)
  case atStart => exact ⟨0, by omega, rfl, by simp, Tch.refl _ _ _, F, h⟩
  case round =>
    obtain ⟨k, hk, rfl, rfl, ht, G, hG⟩ := hrel
    by_cases hlt : k < n
    · obtain ⟨b, off, rfl, hlo, hhi, -⟩ := hG.sl (by omega)
      have hsz := ht.size
      go_wp2_with fail
      go_at_call 81
      refine (markText_any _ _ (by omega) (by omega)).mono ?_
      rintro _ w1 ⟨s, rfl, hb1⟩
      have hbs : b < w1.heap.size := by have := hb1.size; omega
      replace hG := hG.below hb1 (by omega)
      replace ht := ht.trans (Tch.of_below (lo := lo) (hi := hi) hb1)
      obtain ⟨-, -, ho1, ho2⟩ := hG.at_ hlt
      have p0 := ho1 0 (by omega)
      have p1 := ho1 1 (by omega)
      have p2 := ho1 2 (by omega)
      have f0 := ho2 0 (by omega)
      have f1 := ho2 1 (by omega)
      have f2 := ho2 2 (by omega)
      simp only [Nat.add_zero] at p0 f0
      clear ho1 ho2 hb1
      go_wp2
      go_roundw
      case rel =>
        exact ⟨k + 1, by omega, by go_num, by go_num, ((ht.setCell (by exact hlo) (by exact hhi) _).setCell (by exact hlo) (by exact hhi) _).setCell (by exact hlo) (by exact hhi) _, _, (((hG.set hlt (j0 := 0) (o := off + k * 3) (by omega) (by omega) _).set hlt (j0 := 1) (o := off + k * 3 + 1) (by omega) (by omega) _).set hlt (j0 := 2) (o := off + k * 3 + 2) (by omega) (by omega) _)⟩
      case measure => simp [intOf]; omega
    · obtain rfl : k = n := by omega
      go_wp2
      go_ret
      exact ⟨rfl, ht⟩

set_option maxHeartbeats 1000000 in
theorem markLiquor_any (lo hi : Nat) (x : Int) (A : Option Addr) (n c : Nat) (k0 : Int) (F : Nat → Nat → Value) (w : World) (hn : n ≤ 1048576) (h0 : 0 ≤ k0) (h1 : k0 ≤ 4294967296) (hh : hi ≤ w.heap.size) (h : Ow w lo hi A n 1 F) :
    Calls Tryd.prog 50 #[.agg #[.int .i64 x, .slice A n c], .int .i64 k0] w fun e w' => e = .returned (.int .i64 (k0 + n)) ∧ Tch lo hi w w' ∧ Ow w' lo hi A n 1 (ints (marks1 k0)) := by
  go_enter Tryd.func50, Tryd.ntmps50
  go_wp2_with fail
  go_at_call 51
  refine (markIntS_any lo hi _ _ _ _ F _ hn h0 h1 (by simp; omega) (h.alloc hh _)).mono ?_
  rintro _ w1 ⟨rfl, ht, hO⟩
  have ht' : Tch lo hi w w1 := ((Tch.refl lo hi w).alloc _).trans ht
  clear ht
  go_wp2
  go_ret
  exact ⟨rfl, ht', hO⟩

set_option maxHeartbeats 1000000 in
theorem heldLiquor_any (x : Int) (A : Option Addr) (n c : Nat) (k0 : Int) (w : World) (hn : n ≤ 1048576) (h0 : 0 ≤ k0) (h1 : k0 ≤ 4294967296) (h : Rd w A n 1 (ints (marks1 k0))) :
    Calls Tryd.prog 52 #[.agg #[.int .i64 x, .slice A n c], .int .i64 k0] w fun e w' => e = .returned (.int .i64 (k0 + n)) ∧ Below w.heap.size w w' := by
  have hd : decide (k0 + (n : Int) < 0) = false := by simp; omega
  go_enter Tryd.func52, Tryd.ntmps52
  go_wp2_with fail
  go_at_call 53
  refine (heldIntS_any _ _ _ _ _ hn h0 h1 (Rd.alloc h _)).mono ?_
  rintro _ _ ⟨rfl, rfl⟩
  have hb : Below w.heap.size w (w.alloc (.cells #[.int .i64 x, .slice A n c] 27)) := (Below.refl _ _).alloc (Nat.le_refl _) _
  go_wp2
  go_ret
  exact ⟨rfl, hb⟩

theorem FallI.R {w : World} {mk : Option Addr → Nat → Option Addr → Nat → Value} {n : Nat} {F1 F2 : Nat → Nat → Value} {e : Ending} {w' : World} (h : FallI w mk n F1 F2 e w') : FallR w mk n F1 F2 e w' := by
  obtain ⟨A1, c1, A2, c2, mid, he, h1, h2, o1, o2, hb⟩ := h
  exact ⟨A1, c1, A2, c2, he, o1.mono (Nat.le_refl _) h2, o2.mono h1 (Nat.le_refl _), hb⟩
/-- A box of two cells, as it is read. -/
def Bx (w : World) (lo hi e : Nat) (p q : Value) : Prop := Sl w lo hi (some ⟨e, 0, none⟩) 1 2 (fun _ j => #[p, q][j]!)
theorem Bx.of {w : World} {lo hi e : Nat} {p q : Value} (h0 : w.cell? ⟨e, 0, none⟩ = some p) (h1 : w.cell? ⟨e, 1, none⟩ = some q) (hl : lo ≤ e) (hh : e < hi) : Bx w lo hi e p q := fun _ => by
  refine ⟨e, 0, rfl, hl, hh, fun i j hi hj => ?_⟩
  obtain rfl : i = 0 := by omega
  rcases (by omega : j = 0 ∨ j = 1) with rfl | rfl
  · simpa using h0
  · simpa using h1
theorem Bx.at_ {w : World} {lo hi e : Nat} {p q : Value} (h : Bx w lo hi e p q) : e < hi ∧ w.cell? ⟨e, 0, none⟩ = some p ∧ w.cell? ⟨e, 1, none⟩ = some q := by
  obtain ⟨b, off, e1, -, h2, hc⟩ := h (by omega)
  obtain ⟨rfl, rfl⟩ : e = b ∧ 0 = off := by injection e1 with e1; injection e1 with h1 h2; exact ⟨h1, h2⟩
  exact ⟨h2, by simpa using hc 0 0 (by omega) (by omega), by simpa using hc 0 1 (by omega) (by omega)⟩
theorem Bx.agr {w w' : World} {lo hi e : Nat} {p q : Value} (h : Bx w lo hi e p q) (ha : Agr lo hi w w') : Bx w' lo hi e p q := Sl.agr h ha
theorem Bx.new (w : World) (t : TypeId) (p q : Value) : Bx (w.alloc (.cells #[p, q] t)) w.heap.size (w.heap.size + 1) w.heap.size p q :=
  Bx.of (by rw [World.cell?_alloc_new]; rfl) (by rw [World.cell?_alloc_new]; rfl) (Nat.le_refl _) (Nat.lt_succ_self _)
end Go.Proofs.YtnmpfojcmedpeaaDoor
