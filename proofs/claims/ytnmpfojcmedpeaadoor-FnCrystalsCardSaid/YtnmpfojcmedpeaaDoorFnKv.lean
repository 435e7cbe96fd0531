/-
  Contracts for the laws FnDrying and FnCrystals: those on liquors, with named results. Conditions: lengths up to 2^20.
-/
import Derived.Test.YtnmpfojcmedpeaaDoorCrL
import Derived.Test.YtnmpfojcmedpeaaDoorCrF
import Derived.Test.YtnmpfojcmedpeaaDoorCrE
import Derived.Test.YtnmpfojcmedpeaaDoorCrI
import Derived.Test.YtnmpfojcmedpeaaDoorDrN
namespace Go.Proofs.YtnmpfojcmedpeaaDoor
open Go.RowKit

theorem IsFull_w (A : Option Addr) (n c : Nat) (S : Nat → ByteArray) (F : Nat → Nat → Int) (x : Int) (B : Option Addr) (m d : Nat) (L : Nat → Nat → Int) (i : Int) (w : World) {v : Bool} {T : Bool} (hn : n ≤ 1048576) (hm : m ≤ 1048576) (HS : Hid (∀ i, i < n → (S i).size ≤ 9223372036854775807)) (h : Rd w A n 3 (kdC S F)) (hL : Rd w B m 1 (ints L)) (hE : isFullR S F n x m L i = (v, T)) :
    Calls Tryd.prog 18 #[.slice A n c, .agg #[.int .i64 x, .slice B m d], .int .i64 i] w fun e w' => e = .returned (.tuple #[.bool v, .bool T]) ∧ Below w.heap.size w w' := by
  have := IsFull_any A n c S F x B m d L i w hn hm HS h hL
  rw [hE] at this
  exact this
theorem spec_IsFull_w (A : Option Addr) (n c : Nat) (S : Nat → ByteArray) (F : Nat → Nat → Int) (x : Int) (B : Option Addr) (m d : Nat) (L : Nat → Nat → Int) (i : Int) (w : World) {v : Bool} {T : Bool} (hn : n ≤ 1048576) (hm : m ≤ 1048576) (HS : Hid (∀ i, i < n → (S i).size ≤ 9223372036854775807)) (h : Rd w A n 3 (kdC S F)) (hL : Rd w B m 1 (ints L)) (hE : isFullR S F n x m L i = (v, T)) :
    Calls Tryd.prog 39 #[.slice A n c, .agg #[.int .i64 x, .slice B m d], .int .i64 i] w fun e w' => e = .returned (.tuple #[.bool v, .bool T]) ∧ Below w.heap.size w w' := by
  have := spec_IsFull_any A n c S F x B m d L i w hn hm HS h hL
  rw [hE] at this
  exact this
theorem DryToKeep_w (A : Option Addr) (n c : Nat) (S : Nat → ByteArray) (F : Nat → Nat → Int) (x : Int) (B : Option Addr) (m d : Nat) (L : Nat → Nat → Int) (i : Int) (w : World) {v : Int} {T : Bool} (hn : n ≤ 1048576) (hm : m ≤ 1048576) (HS : Hid (∀ i, i < n → (S i).size ≤ 9223372036854775807)) (h : Rd w A n 3 (kdC S F)) (hL : Rd w B m 1 (ints L)) (hE : dryKeepR S F n x m L i = (v, T)) :
    Calls Tryd.prog 20 #[.slice A n c, .agg #[.int .i64 x, .slice B m d], .int .i64 i] w fun e w' => e = .returned (.tuple #[.int .i64 v, .bool T]) ∧ Below w.heap.size w w' := by
  have := DryToKeep_any A n c S F x B m d L i w hn hm HS h hL
  rw [hE] at this
  exact this
theorem spec_DryToKeep_w (A : Option Addr) (n c : Nat) (S : Nat → ByteArray) (F : Nat → Nat → Int) (x : Int) (B : Option Addr) (m d : Nat) (L : Nat → Nat → Int) (i : Int) (w : World) {v : Int} {T : Bool} (hn : n ≤ 1048576) (hm : m ≤ 1048576) (HS : Hid (∀ i, i < n → (S i).size ≤ 9223372036854775807)) (h : Rd w A n 3 (kdC S F)) (hL : Rd w B m 1 (ints L)) (hE : dryKeepR S F n x m L i = (v, T)) :
    Calls Tryd.prog 21 #[.slice A n c, .agg #[.int .i64 x, .slice B m d], .int .i64 i] w fun e w' => e = .returned (.tuple #[.int .i64 v, .bool T]) ∧ Below w.heap.size w w' := by
  have := spec_DryToKeep_any A n c S F x B m d L i w hn hm HS h hL
  rw [hE] at this
  exact this
theorem FirstToFall_w (A : Option Addr) (n c : Nat) (S : Nat → ByteArray) (F : Nat → Nat → Int) (x : Int) (B : Option Addr) (m d : Nat) (L : Nat → Nat → Int) (w : World) {u : Int} {v : Int} {T : Bool} (hn : n ≤ 1048576) (hm : m ≤ 1048576) (HS : Hid (∀ i, i < n → (S i).size ≤ 9223372036854775807)) (h : Rd w A n 3 (kdC S F)) (hL : Rd w B m 1 (ints L)) (hE : firstFR S F n x m L = (u, v, T)) :
    Calls Tryd.prog 16 #[.slice A n c, .agg #[.int .i64 x, .slice B m d]] w fun e w' => e = .returned (.tuple #[.int .i64 u, .int .i64 v, .bool T]) ∧ Below w.heap.size w w' := by
  have := FirstToFall_any A n c S F x B m d L w hn hm HS h hL
  rw [hE] at this
  exact this
theorem spec_FirstToFall_w (A : Option Addr) (n c : Nat) (S : Nat → ByteArray) (F : Nat → Nat → Int) (x : Int) (B : Option Addr) (m d : Nat) (L : Nat → Nat → Int) (w : World) {u : Int} {v : Int} {T : Bool} (hn : n ≤ 1048576) (hm : m ≤ 1048576) (HS : Hid (∀ i, i < n → (S i).size ≤ 9223372036854775807)) (h : Rd w A n 3 (kdC S F)) (hL : Rd w B m 1 (ints L)) (hE : firstFR S F n x m L = (u, v, T)) :
    Calls Tryd.prog 17 #[.slice A n c, .agg #[.int .i64 x, .slice B m d]] w fun e w' => e = .returned (.tuple #[.int .i64 u, .int .i64 v, .bool T]) ∧ Below w.heap.size w w' := by
  have := spec_FirstToFall_any A n c S F x B m d L w hn hm HS h hL
  rw [hE] at this
  exact this
theorem PureBetween_w (A : Option Addr) (n c : Nat) (S : Nat → ByteArray) (F : Nat → Nat → Int) (x : Int) (B : Option Addr) (m d : Nat) (L : Nat → Nat → Int) (i : Int) (w : World) {u : Int} {v : Int} {T : Bool} (hn : n ≤ 1048576) (hm : m ≤ 1048576) (HS : Hid (∀ i, i < n → (S i).size ≤ 9223372036854775807)) (h : Rd w A n 3 (kdC S F)) (hL : Rd w B m 1 (ints L)) (hE : pureR S F n x m L i = (u, v, T)) :
    Calls Tryd.prog 23 #[.slice A n c, .agg #[.int .i64 x, .slice B m d], .int .i64 i] w fun e w' => e = .returned (.tuple #[.int .i64 u, .int .i64 v, .bool T]) ∧ Below w.heap.size w w' := by
  have := PureBetween_any A n c S F x B m d L i w hn hm HS h hL
  rw [hE] at this
  exact this
theorem spec_PureBetween_w (A : Option Addr) (n c : Nat) (S : Nat → ByteArray) (F : Nat → Nat → Int) (x : Int) (B : Option Addr) (m d : Nat) (L : Nat → Nat → Int) (i : Int) (w : World) {u : Int} {v : Int} {T : Bool} (hn : n ≤ 1048576) (hm : m ≤ 1048576) (HS : Hid (∀ i, i < n → (S i).size ≤ 9223372036854775807)) (h : Rd w A n 3 (kdC S F)) (hL : Rd w B m 1 (ints L)) (hE : pureR S F n x m L i = (u, v, T)) :
    Calls Tryd.prog 24 #[.slice A n c, .agg #[.int .i64 x, .slice B m d], .int .i64 i] w fun e w' => e = .returned (.tuple #[.int .i64 u, .int .i64 v, .bool T]) ∧ Below w.heap.size w w' := by
  have := spec_PureBetween_any A n c S F x B m d L i w hn hm HS h hL
  rw [hE] at this
  exact this
theorem LiquorMass_w (A : Option Addr) (n c : Nat) (S : Nat → ByteArray) (F : Nat → Nat → Int) (x : Int) (B : Option Addr) (m d : Nat) (L : Nat → Nat → Int) (w : World) {v : Int} {T : Bool} (hn : n ≤ 1048576) (hm : m ≤ 1048576) (HS : Hid (∀ i, i < n → (S i).size ≤ 9223372036854775807)) (h : Rd w A n 3 (kdC S F)) (hL : Rd w B m 1 (ints L)) (hE : massR S F n x m L = (v, T)) :
    Calls Tryd.prog 34 #[.slice A n c, .agg #[.int .i64 x, .slice B m d]] w fun e w' => e = .returned (.tuple #[.int .i64 v, .bool T]) ∧ Below w.heap.size w w' := by
  have := LiquorMass_any A n c S F x B m d L w hn hm HS h hL
  rw [hE] at this
  exact this
theorem spec_LiquorMass_w (A : Option Addr) (n c : Nat) (S : Nat → ByteArray) (F : Nat → Nat → Int) (x : Int) (B : Option Addr) (m d : Nat) (L : Nat → Nat → Int) (w : World) {v : Int} {T : Bool} (hn : n ≤ 1048576) (hm : m ≤ 1048576) (HS : Hid (∀ i, i < n → (S i).size ≤ 9223372036854775807)) (h : Rd w A n 3 (kdC S F)) (hL : Rd w B m 1 (ints L)) (hE : massR S F n x m L = (v, T)) :
    Calls Tryd.prog 41 #[.slice A n c, .agg #[.int .i64 x, .slice B m d]] w fun e w' => e = .returned (.tuple #[.int .i64 v, .bool T]) ∧ Below w.heap.size w w' := by
  have := spec_LiquorMass_any A n c S F x B m d L w hn hm HS h hL
  rw [hE] at this
  exact this
end Go.Proofs.YtnmpfojcmedpeaaDoor
