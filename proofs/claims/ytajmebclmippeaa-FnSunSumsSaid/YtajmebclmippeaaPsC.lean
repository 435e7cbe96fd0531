/-
  Contracts of the library's functions on slices of suns: IndexFunc and DeleteFunc at the program's test. Conditions: lengths up to 2^20.
-/
import Derived.Test.YtajmebclmippeaaPsA
import Derived.Test.YtajmebclmippeaaPsB
import Derived.Shelf.Abstract
namespace Go.Proofs.Ytajmebclmippeaa
open Go.RowKit

/-- An index, or -1. -/
def idxV : Option Nat → Int
  | some i => i
  | none => -1
def dayB (F : Nat → Nat → Int) (t : Int) : Nat → Bool := fun i => F i 0 == t
theorem own_ow {w : World} {B : Nat} {e : TypeId} {sz n c : Nat} {A : Option Addr} {F : Nat → Nat → Value} (h : w.ownsRow B e sz (.slice A n c) n (rowL F n sz)) : Ow w B w.heap.size A n sz F := by
  obtain ⟨A', c', e1, hO⟩ := own_tab h
  injection e1 with e2
  rw [e2]; exact hO
theorem own_put {w : World} {B : Nat} {e : TypeId} {sz n g c : Nat} {F : Nat → Nat → Value} (h : w.ownsRow B e sz (.slice (some ⟨g, 0, none⟩) n c) n (rowL F n sz)) (i j o : Nat) (hj : j < sz) (ho : o = i * sz + j) (u : Value) :
    (w.setCell ⟨g, o, none⟩ u).ownsRow B e sz (.slice (some ⟨g, 0, none⟩) n c) n (rowL (upd F i j u) n sz) := by
  have := (h.stored o u).1
  rw [ho, rowL_set _ _ _ _ _ _ hj] at this
  rw [ho]; exact this
/-- The rows from i0 to k moved down by one. -/
def shF (F : Nat → Nat → Int) (i0 k : Nat) : Nat → Nat → Int := fun r j => if i0 ≤ r ∧ r < k then F (r + 1) j else F r j
theorem shF_step (F : Nat → Nat → Int) (i0 k r j : Nat) (hk : i0 ≤ k) (hj : j < 2) : upd (upd (ints (shF F i0 k)) k 0 (.int .i64 (F (k + 1) 0))) k 1 (.int .i64 (F (k + 1) 1)) r j = ints (shF F i0 (k + 1)) r j := by
  unfold upd
  by_cases h : r = k
  · subst h
    rcases (show j = 0 ∨ j = 1 by omega) with rfl | rfl
    · simp [shF, hk]
    · simp [shF, hk]
  · simp only [ints, shF, h, false_and, if_false]
    by_cases h1 : i0 ≤ r ∧ r < k
    · rw [if_pos h1, if_pos (by omega)]
    · rw [if_neg h1, if_neg (by omega)]
theorem shF_zero (F : Nat → Nat → Int) (i0 : Nat) : shF F i0 i0 = F := by
  funext r j
  simp only [shF]
  rw [if_neg (by omega)]
theorem sunP_any (d g t : Int) (sb : Nat) (w : World) (hc : w.cell? ⟨sb, 0, none⟩ = some (.int .i64 t)) (hl : sb < w.heap.size) :
    Calls Try.prog 85 #[.agg #[.int .i64 d, .int .i64 g], .pointer (some ⟨sb, 0, none⟩)] w fun e w' => e = .returned (.bool (d == t)) ∧ Below w.heap.size w w' := by
  go_enter Try.func85, Try.ntmps85
  go_wp2
  go_ret
  exact ⟨rfl, (Below.refl _ _).alloc (Nat.le_refl _) _⟩
set_option maxHeartbeats 1000000 in
theorem sunIdx_any (A : Option Addr) (n c : Nat) (F : Nat → Nat → Int) (sb : Nat) (t : Int) (w : World) (hn : n ≤ 1048576) (h : Rd w A n 2 (ints F)) (hc : w.cell? ⟨sb, 0, none⟩ = some (.int .i64 t)) (hl : sb < w.heap.size) :
    Calls Try.prog 92 #[.slice A n c, .func (.func 85) #[] #[.pointer (some ⟨sb, 0, none⟩)]] w fun e w' => e = .returned (.int .i64 (idxV (firstB (dayB F t) n))) ∧ Below w.heap.size w w' := by
  have eg : ∀ args w, (callFunc 85 args).run Try.prog w = .ok (.enter 85 args) w := enters_of Try.func85 (by kernel_rfl) rfl
  go_enter Try.func92, Try.ntmps92
  go_wp2
  go_loopw [8] (fun i wr => ∃ k : Nat, k ≤ n ∧ i = .int .i64 k ∧ firstB (dayB F t) k = none ∧ Below w.heap.size w wr) (fun i _ => n - (intOf i).toNat)
  case atStart => exact ⟨0, by omega, rfl, rfl, Below.refl _ _⟩
  case round =>
    obtain ⟨k, hk, rfl, hf, hb⟩ := hrel
    have HF := hide hf
    clear hf
    by_cases hlt : k < n
    · obtain ⟨b, off, rfl, -, hbw, hcc⟩ := Rd.below h hb (by omega)
      have c0 := hcc k 0 hlt (by omega)
      have c1 := hcc k 1 hlt (by omega)
      simp only [Nat.add_zero, ints] at c0 c1
      clear hcc
      have hc' := (hb.cell (p := ⟨sb, 0, none⟩) hl).trans hc
      have hl' : sb < wr.heap.size := Nat.lt_of_lt_of_le hl hb.size
      cases hd : (F k 0 == t)
      · go_wp2_with (go_at_fn 85; refine (sunP_any _ _ _ sb _ hc' hl').mono ?_; rintro _ w2 ⟨rfl, hb2⟩)
        go_roundw
        case rel => exact ⟨k + 1, by omega, by go_num, firstB_succ_none HF.out hd, gr hb hb2⟩
        case measure => simp [intOf]; omega
      · go_wp2_with (go_at_fn 85; refine (sunP_any _ _ _ sb _ hc' hl').mono ?_; rintro _ w2 ⟨rfl, hb2⟩)
        go_ret
        exact ⟨ret_int (by rw [firstB_at HF.out hd hlt]; rfl), gr hb hb2⟩
    · go_wp2
      go_ret
      obtain rfl : k = n := by omega
      exact ⟨ret_int (by rw [HF.out]; rfl), hb⟩
end Go.Proofs.Ytajmebclmippeaa
