/-
  Contracts for the law FnCrystals: falls with named results, comparison of liquors. Conditions: lengths up to 2^20.
-/
import Derived.Test.YtnmpfojcmedpeaaDoorFnKv
import Derived.Test.YtnmpfojcmedpeaaDoorSerV
import Derived.Test.YtnmpfojcmedpeaaDoorDrP
namespace Go.Proofs.YtnmpfojcmedpeaaDoor
open Go.RowKit

theorem FallOut_w (A : Option Addr) (n c : Nat) (S : Nat → ByteArray) (F : Nat → Nat → Int) (x : Int) (B : Option Addr) (m d : Nat) (L : Nat → Nat → Int) (w : World) {N : Nat} {X : Int} {ok : Bool} {Fs Fg : Nat → Nat → Int} (hn : n ≤ 1048576) (hm : m ≤ 1048576) (HS : Hid (∀ i, i < n → (S i).size ≤ 9223372036854775807)) (h : Rd w A n 3 (kdC S F)) (hL : Rd w B m 1 (ints L))
    (h1 : dryN S F n x m L 0 = N) (h2 : dryX S F n x m L 0 = X) (h3 : dryB S F n x m L 0 = ok) (h4 : fallS F L (x - 0) = Fs) (h5 : fallG F L (x - 0) = Fg) :
    Calls Tryd.prog 26 #[.slice A n c, .agg #[.int .i64 x, .slice B m d]] w fun e w' => ∃ A1 c1 A2 c2, e = .returned (.tuple #[.agg #[.int .i64 X, .slice A1 N c1], .slice A2 N c2, .bool ok]) ∧ Rd w' A1 N 1 (ints Fs) ∧ Rd w' A2 N 1 (ints Fg) ∧ Below w.heap.size w w' :=
  (FallOut_any A n c S F x B m d L w hn hm HS h hL).mono fun e w' hh => by
    subst h1 h2 h3 h4 h5
    obtain ⟨A1, c1, A2, c2, mid, he, q1, q2, o1, o2, hb⟩ := hh
    exact ⟨A1, c1, A2, c2, he, o1.sl.rd q2, o2.sl.rd (Nat.le_refl _), hb⟩
theorem spec_FallOut_w (A : Option Addr) (n c : Nat) (S : Nat → ByteArray) (F : Nat → Nat → Int) (x : Int) (B : Option Addr) (m d : Nat) (L : Nat → Nat → Int) (w : World) {N : Nat} {X : Int} {ok : Bool} {Fs Fg : Nat → Nat → Int} (hn : n ≤ 1048576) (hm : m ≤ 1048576) (HS : Hid (∀ i, i < n → (S i).size ≤ 9223372036854775807)) (h : Rd w A n 3 (kdC S F)) (hL : Rd w B m 1 (ints L))
    (h1 : dryN S F n x m L 0 = N) (h2 : dryX S F n x m L 0 = X) (h3 : dryB S F n x m L 0 = ok) (h4 : fallS F L (x - 0) = Fs) (h5 : fallG F L (x - 0) = Fg) :
    Calls Tryd.prog 27 #[.slice A n c, .agg #[.int .i64 x, .slice B m d]] w fun e w' => ∃ A1 c1 A2 c2, e = .returned (.tuple #[.agg #[.int .i64 X, .slice A1 N c1], .slice A2 N c2, .bool ok]) ∧ Rd w' A1 N 1 (ints Fs) ∧ Rd w' A2 N 1 (ints Fg) ∧ Below w.heap.size w w' :=
  (spec_FallOut_any A n c S F x B m d L w hn hm HS h hL).mono fun e w' hh => by
    subst h1 h2 h3 h4 h5
    obtain ⟨A1, c1, A2, c2, he, o1, o2, hb⟩ := hh
    exact ⟨A1, c1, A2, c2, he, o1.sl.rd (Nat.le_refl _), o2.sl.rd (Nat.le_refl _), hb⟩
theorem AfterDrying_w (A : Option Addr) (n c : Nat) (S : Nat → ByteArray) (F : Nat → Nat → Int) (x : Int) (B : Option Addr) (m d : Nat) (L : Nat → Nat → Int) (y : Int) (w : World) {N : Nat} {X : Int} {ok : Bool} {Fs Fg : Nat → Nat → Int} (hn : n ≤ 1048576) (hm : m ≤ 1048576) (HS : Hid (∀ i, i < n → (S i).size ≤ 9223372036854775807)) (h : Rd w A n 3 (kdC S F)) (hL : Rd w B m 1 (ints L))
    (h1 : dryN S F n x m L y = N) (h2 : dryX S F n x m L y = X) (h3 : dryB S F n x m L y = ok) (h4 : fallS F L (x - y) = Fs) (h5 : fallG F L (x - y) = Fg) :
    Calls Tryd.prog 36 #[.slice A n c, .agg #[.int .i64 x, .slice B m d], .int .i64 y] w fun e w' => ∃ A1 c1 A2 c2, e = .returned (.tuple #[.agg #[.int .i64 X, .slice A1 N c1], .slice A2 N c2, .bool ok]) ∧ Rd w' A1 N 1 (ints Fs) ∧ Rd w' A2 N 1 (ints Fg) ∧ Below w.heap.size w w' :=
  (AfterDrying_any A n c S F x B m d L y w hn hm HS h hL).mono fun e w' hh => by
    subst h1 h2 h3 h4 h5
    obtain ⟨A1, c1, A2, c2, mid, he, q1, q2, o1, o2, hb⟩ := hh
    exact ⟨A1, c1, A2, c2, he, o1.sl.rd q2, o2.sl.rd (Nat.le_refl _), hb⟩
theorem spec_AfterDrying_w (A : Option Addr) (n c : Nat) (S : Nat → ByteArray) (F : Nat → Nat → Int) (x : Int) (B : Option Addr) (m d : Nat) (L : Nat → Nat → Int) (y : Int) (w : World) {N : Nat} {X : Int} {ok : Bool} {Fs Fg : Nat → Nat → Int} (hn : n ≤ 1048576) (hm : m ≤ 1048576) (HS : Hid (∀ i, i < n → (S i).size ≤ 9223372036854775807)) (h : Rd w A n 3 (kdC S F)) (hL : Rd w B m 1 (ints L))
    (h1 : dryN S F n x m L y = N) (h2 : dryX S F n x m L y = X) (h3 : dryB S F n x m L y = ok) (h4 : fallS F L (x - y) = Fs) (h5 : fallG F L (x - y) = Fg) :
    Calls Tryd.prog 37 #[.slice A n c, .agg #[.int .i64 x, .slice B m d], .int .i64 y] w fun e w' => ∃ A1 c1 A2 c2, e = .returned (.tuple #[.agg #[.int .i64 X, .slice A1 N c1], .slice A2 N c2, .bool ok]) ∧ Rd w' A1 N 1 (ints Fs) ∧ Rd w' A2 N 1 (ints Fg) ∧ Below w.heap.size w w' :=
  (spec_AfterDrying_any A n c S F x B m d L y w hn hm HS h hL).mono fun e w' hh => by
    subst h1 h2 h3 h4 h5
    obtain ⟨A1, c1, A2, c2, he, o1, o2, hb⟩ := hh
    exact ⟨A1, c1, A2, c2, he, o1.sl.rd (Nat.le_refl _), o2.sl.rd (Nat.le_refl _), hb⟩
set_option maxHeartbeats 1000000 in
theorem vLiquor_yes (x : Int) (A B : Option Addr) (n c c' : Nat) (F : Nat → Nat → Int) (w : World) (hn : n ≤ 1048576) (h : Rd w A n 1 (ints F)) (h' : Rd w B n 1 (ints F)) :
    Calls Tryd.prog 28 #[.agg #[.int .i64 x, .slice A n c], .agg #[.int .i64 x, .slice B n c']] w fun e w' => e = .returned (.bool true) ∧ Below w.heap.size w w' := by
  go_enter Tryd.func28, Tryd.ntmps28
  go_upto_region 1 with fail
  have hX := (Box2.new w 27 (.int .i64 x) (.slice A n c)).alloc (.cells #[.int .i64 x, .slice B n c'] 27)
  have hY := Box2.new (w.alloc (.cells #[.int .i64 x, .slice A n c] 27)) 27 (.int .i64 x) (.slice B n c')
  have hbA : Below w.heap.size w ((w.alloc (.cells #[.int .i64 x, .slice A n c] 27)).alloc (.cells #[.int .i64 x, .slice B n c'] 27)) := ((Below.refl _ _).alloc (Nat.le_refl _) _).alloc (by simp) _
  have hs1 : (w.alloc (.cells #[.int .i64 x, .slice A n c] 27)).heap.size = w.heap.size + 1 := by simp
  rw [hs1] at hY
  clear hs1
  generalize (w.alloc (.cells #[.int .i64 x, .slice A n c] 27)).alloc (.cells #[.int .i64 x, .slice B n c'] 27) = W at hX hY hbA ⊢
  obtain ⟨kX, p0, p1, -, -⟩ := hX
  obtain ⟨kY, q0, q1, -, -⟩ := hY
  go_wp2_with fail
  go_at_call 29
  refine (vInts_yes _ _ _ _ _ _ _ hn (Rd.below h hbA) (Rd.below h' hbA)).mono ?_
  rintro _ w1 ⟨rfl, hb⟩
  go_wp2
  go_ret
  exact ⟨rfl, gr hbA hb⟩
end Go.Proofs.YtnmpfojcmedpeaaDoor
