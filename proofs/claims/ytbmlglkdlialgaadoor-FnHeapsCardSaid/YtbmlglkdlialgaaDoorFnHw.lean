/-
  Contracts for the law FnHeaps: comparison, named results. Conditions: lengths up to 2^20.
-/
import Derived.Test.YtbmlglkdlialgaaDoorHeP
import Derived.Test.YtbmlglkdlialgaaDoorHpF
import Derived.Test.YtbmlglkdlialgaaDoorHpJ
import Derived.Test.YtbmlglkdlialgaaDoorHpK
import Derived.Test.YtbmlglkdlialgaaDoorHpN
import Derived.Test.YtbmlglkdlialgaaDoorHpP
import Derived.Test.YtbmlglkdlialgaaDoorHtD
namespace Go.Proofs.YtbmlglkdlialgaaDoor
open Go.RowKit

set_option maxHeartbeats 400000 in
theorem rInts_yes (A B : Option Addr) (n c c' : Nat) (F : Nat → Nat → Int) (w : World) (hn : n ≤ 1048576) (h : Rd w A n 1 (ints F)) (h' : Rd w B n 1 (ints F)) :
    Calls Tryd.prog 46 #[.slice A n c, .slice B n c'] w fun e w' => e = .returned (.bool true) ∧ Below w.heap.size w w' := by
  go_enter Tryd.func46, Tryd.ntmps46
  go_wp2
  go_loopw [5] (fun i wr => ∃ k : Nat, k ≤ n ∧ i = .int .i64 k ∧ Below w.heap.size w wr) (fun i _ => n - (intOf i).toNat)
  case atStart => exact ⟨0, by omega, rfl, Below.refl _ _⟩
  case round =>
    obtain ⟨k, hk, rfl, hb⟩ := hrel
    by_cases hlt : k < n
    · obtain ⟨b, off, rfl, -, hbw, hc⟩ := Rd.below h hb (by omega)
      obtain ⟨b', off', rfl, -, hbw', hc'⟩ := Rd.below h' hb (by omega)
      have hc0 := fun x : After wr => x.cell (hc k 0 hlt (by omega)) hbw
      have hc0' := fun x : After wr => x.cell (hc' k 0 hlt (by omega)) hbw'
      simp only [Nat.add_zero, Nat.mul_one] at hc0 hc0'
      clear hc hc'
      go_wp2
      refine region_after (by kernel_rfl) (by kernel_rfl) ?_
      repeat (go_big_quiet_step ((first | fail)))
      refine wpQuiet_nil ?_
      rintro _ ⟨x, rfl⟩
      go_wp2
      go_roundw
      case rel => exact ⟨k + 1, by omega, by go_num, hb.trans (x.h.mono hb.size)⟩
      case measure => simp [intOf]; omega
    · obtain rfl : k = n := by omega
      go_wp2
      go_ret
      exact ⟨rfl, hb⟩
set_option maxHeartbeats 2000000 in
theorem rHeaps_yes (A B : Option Addr) (n c c' : Nat) (H : Nat → HeapD) (w : World) (hn : n ≤ 1048576) (hl : ∀ i, i < n → (H i).n ≤ 1048576) (h : HpR w A n H) (h' : HpR w B n H) :
    Calls Tryd.prog 14 #[.slice A n c, .slice B n c'] w fun e w' => e = .returned (.bool true) ∧ Below w.heap.size w w' := by
  obtain ⟨C, cc, hS, hL⟩ := h
  obtain ⟨C', cc', hS', hL'⟩ := h'
  have HL := hide hL
  have HL' := hide hL'
  have HN := hide hl
  clear hL hL' hl
  go_enter Tryd.func14, Tryd.ntmps14
  go_wp2
  go_loopw [5] (fun i wr => ∃ k : Nat, k ≤ n ∧ i = .int .i64 k ∧ Below w.heap.size w wr) (fun i _ => n - (intOf i).toNat)
  case atStart => exact ⟨0, by omega, rfl, Below.refl _ _⟩
  case round =>
    obtain ⟨k, hk, rfl, hb⟩ := hrel
    by_cases hlt : k < n
    · obtain ⟨b, off, rfl, hbw, hc⟩ := hp_at hS hb (by omega)
      obtain ⟨b', off', rfl, hbw', hc'⟩ := hp_at hS' hb (by omega)
      obtain ⟨e0, e1, e2, e3⟩ := hc k hlt
      obtain ⟨f0, f1, f2, f3⟩ := hc' k hlt
      have a0 := fun x : After wr => x.cell e0 hbw
      have a1 := fun x : After wr => x.cell e1 hbw
      have a2 := fun x : After wr => x.cell e2 hbw
      have a3 := fun x : After wr => x.cell e3 hbw
      have b0 := fun x : After wr => x.cell f0 hbw'
      have b1 := fun x : After wr => x.cell f1 hbw'
      have b2 := fun x : After wr => x.cell f2 hbw'
      have b3 := fun x : After wr => x.cell f3 hbw'
      have r1 := fun x : After wr => Rd.after (Rd.below (HL.out k hlt).1 hb) x
      have r2 := fun x : After wr => Rd.after (Rd.below (HL'.out k hlt).1 hb) x
      have hk2 := HN.out k hlt
      clear hc hc' e0 e1 e2 e3 f0 f1 f2 f3
      go_wp2
      refine region_after (by kernel_rfl) (by kernel_rfl) ?_
      repeat (go_big_quiet_step ((first | (go_at_call 46; exact Calls.after (rInts_yes _ _ _ _ _ _ _ hk2 (r1 _) (r2 _))))))
      refine wpQuiet_nil ?_
      rintro _ ⟨x, rfl⟩
      go_wp2
      go_roundw
      case rel => exact ⟨k + 1, by omega, by go_num, hb.trans (x.h.mono hb.size)⟩
      case measure => simp [intOf]; omega
    · obtain rfl : k = n := by omega
      go_wp2
      go_ret
      exact ⟨rfl, hb⟩
/-- The same results with names. -/
def NamH (w : World) (N : Nat) (G : Nat → HeapD) (mk : Option Addr → Nat → Value) (e : Ending) (w' : World) : Prop := ∃ A' c', e = .returned (mk A' c') ∧ HpR w' A' N G ∧ Below w.heap.size w w'
theorem PutLayer_w (A : Option Addr) (n c : Nat) (H : Nat → HeapD) (id gd t : Int) (w : World) {N : Nat} {G : Nat → HeapD} {ok : Bool} (hn : n ≤ 1048576) (hl : ∀ i, i < n → (H i).n ≤ 1048576) (h : HpR w A n H) (h1 : (putR H n id gd t).n = N) (h2 : (putR H n id gd t).H = G) (h4 : (putR H n id gd t).ok = ok) :
    Calls Tryd.prog 12 #[.slice A n c, .int .i64 id, .int .i64 gd, .int .i64 t] w (NamH w N G fun A' c' => .tuple #[.slice A' N c', .bool ok]) :=
  (PutLayer_any A n c H id gd t w hn hl h).mono fun e w' ⟨A', c', he, hO, hb⟩ => by
    subst h1 h2 h4
    exact ⟨A', c', he, hO.sl.rd (Nat.le_refl _), hb⟩
theorem spec_PutLayer_w (A : Option Addr) (n c : Nat) (H : Nat → HeapD) (id gd t : Int) (w : World) {N : Nat} {G : Nat → HeapD} {ok : Bool} (hn : n ≤ 1048576) (hl : ∀ i, i < n → (H i).n ≤ 1048576) (h : HpR w A n H) (h1 : (putR H n id gd t).n = N) (h2 : (putR H n id gd t).H = G) (h4 : (putR H n id gd t).ok = ok) :
    Calls Tryd.prog 13 #[.slice A n c, .int .i64 id, .int .i64 gd, .int .i64 t] w (NamH w N G fun A' c' => .tuple #[.slice A' N c', .bool ok]) :=
  (spec_PutLayer_any A n c H id gd t w hn hl h).mono fun e w' ⟨A', c', he, hO, hb⟩ => by
    subst h1 h2 h4
    exact ⟨A', c', he, hO.sl.rd (Nat.le_refl _), hb⟩
theorem TakeTons_w (A : Option Addr) (n c : Nat) (H : Nat → HeapD) (id t : Int) (w : World) {N : Nat} {G : Nat → HeapD} {ok : Bool} (hn : n ≤ 1048576) (hl : ∀ i, i < n → (H i).n ≤ 1048576) (h : HpR w A n H) (h1 : (takeR H n id t).n = N) (h2 : (takeR H n id t).H = G) (h4 : (takeR H n id t).ok = ok) :
    Calls Tryd.prog 16 #[.slice A n c, .int .i64 id, .int .i64 t] w (NamH w N G fun A' c' => .tuple #[.slice A' N c', .bool ok]) :=
  (TakeTons_any A n c H id t w hn hl h).mono fun e w' ⟨A', c', he, hO, hb⟩ => by
    subst h1 h2 h4
    exact ⟨A', c', he, hO.sl.rd (Nat.le_refl _), hb⟩
theorem spec_TakeTons_w (A : Option Addr) (n c : Nat) (H : Nat → HeapD) (id t : Int) (w : World) {N : Nat} {G : Nat → HeapD} {ok : Bool} (hn : n ≤ 1048576) (hl : ∀ i, i < n → (H i).n ≤ 1048576) (h : HpR w A n H) (h1 : (takeR H n id t).n = N) (h2 : (takeR H n id t).H = G) (h4 : (takeR H n id t).ok = ok) :
    Calls Tryd.prog 22 #[.slice A n c, .int .i64 id, .int .i64 t] w (NamH w N G fun A' c' => .tuple #[.slice A' N c', .bool ok]) :=
  (spec_TakeTons_any A n c H id t w hn hl h).mono fun e w' ⟨A', c', he, hO, hb⟩ => by
    subst h1 h2 h4
    exact ⟨A', c', he, hO.sl.rd (Nat.le_refl _), hb⟩
theorem rBig_any (A : Option Addr) (n c : Nat) (w : World) :
    Calls Tryd.prog 10 #[.slice A n c] w fun e w' => e = .returned (.bool (decide (65536 < (n : Int)))) ∧ w = w' := by
  go_enter Tryd.func10, Tryd.ntmps10
  go_wp2
  go_ret
  exact ⟨rfl, rfl⟩
theorem heapTextR_snd (id g : Int) (n : Nat) (L : Nat → Nat → Int) (cov : Bool) : (heapTextR id g n L cov).2 = heapB id g n L := by
  unfold heapTextR
  split
  · next h => rw [h]
  · next h => exact (Bool.eq_false_iff.2 h).symm
theorem text_law7 (id g : Int) (n : Nat) (L : Nat → Nat → Int) (cov : Bool) : ∃ (S : ByteArray) (f : Bool), heapTextR id g n L cov = (S, f) ∧ heapB id g n L = f :=
  ⟨_, _, rfl, (heapTextR_snd id g n L cov).symm⟩
theorem big_of {H : Nat → HeapD} {n : Nat} (h : ∀ i, i < n → (H i).n ≤ 20) : ∀ i, i < n → (H i).n ≤ 1048576 := fun i hi => by have := h i hi; omega
theorem big_of1 {H : Nat → HeapD} {n : Nat} (h : ∀ i, i < n → (H i).n ≤ 21) : ∀ i, i < n → (H i).n ≤ 1048576 := fun i hi => by have := h i hi; omega
end Go.Proofs.YtbmlglkdlialgaaDoor
