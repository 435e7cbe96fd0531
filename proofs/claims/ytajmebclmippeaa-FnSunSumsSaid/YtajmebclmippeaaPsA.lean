/-
  Contracts of the library's functions on slices of suns: Clone. Conditions: lengths up to 2^20.
-/
import Derived.Test.YtajmebclmippeaaSunT
import Derived.Test.YtajmebclmippeaaSunC
import Derived.Test.YtajmebclmippeaaSunP
import Derived.Test.YtajmebclmippeaaOwn
import Derived.Test.YtajmebclmippeaaApp
namespace Go.Proofs.Ytajmebclmippeaa
open Go.RowKit

set_option maxHeartbeats 1000000 in
theorem cloneS_any (A : Option Addr) (n c : Nat) (F : Nat → Nat → Int) (w : World) (hn : n ≤ 1048576) (h : Rd w A n 2 (ints F)) :
    Calls Try.prog 84 #[.slice A n c] w fun e w' => ∃ v, e = .returned v ∧ w'.ownsRow w.heap.size 55 2 v n (rowL (ints F) n 2) ∧ Below w.heap.size w w' := by
  have q22 : ∀ (w : World) (a : Option Addr) (n c n' c' : Nat), (binOp .eql 25 (.slice a n c) (.slice none n' c')).run Try.prog w = .ok (.bool a.isNone) w := fun w a n c n' c' => Lib.run_eql_slice_nil w _ _ a n c n' c' Try.underlying25
  cases A with
  | none =>
    obtain rfl : n = 0 := by
      rcases Nat.eq_zero_or_pos n with h0 | h0
      · exact h0
      · obtain ⟨b, off, h, -⟩ := h h0
        cases h
    go_enter Try.func84, Try.ntmps84
    go_wp2
    go_ret
    exact ⟨_, rfl, World.ownsRow_nil _ _ _ _, Below.refl _ _⟩
  | some ad =>
    obtain ⟨i0, hi0, hz0, hz1, hz2⟩ := info_parts info_sun
    have hown := World.ownsRow_lit (base := w.heap.size) (e := 55) (size := 2) w #[] 0 (Nat.le_refl _) (Nat.zero_le _) rfl
    have h' := Rd.alloc h (.cells #[] 55)
    have hb1 : Below w.heap.size w (w.alloc (.cells #[] 55)) := (Below.refl _ _).alloc (Nat.le_refl _) _
    go_enter Try.func84, Try.ntmps84
    go_wp2_with (at_builtin; refine wpList_append_rd _ rfl (.tmp 5) (.tmp 6) 25 rfl w.heap.size 55 i0 _ 2 16 Try.underlying25 hi0 hz0 hz1 hz2 rfl (by decide) _ _ _ rfl hown _ _ (some ad) n c (ints F) rfl h' (fun _ _ _ _ => rfl) (by simp only [maxLen]; omega) (by omega) (by simp) ?_; intro v2 w2 hown2 hg2 _; have hb2 := grown_below hown hg2 (by simp); clear hg2)
    simp only [Nat.zero_add, List.nil_append] at hown2
    go_ret
    exact ⟨_, rfl, hown2, hb1.trans hb2⟩
end Go.Proofs.Ytajmebclmippeaa
