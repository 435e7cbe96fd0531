/-
  Contracts for the law FnStacks: comparison, sums, named results. Conditions: lengths up to 2^20.
-/
import Derived.Test.YtidcmdnhnnhnhaaStP
import Derived.Test.YtidcmdnhnnhnhaaStC
import Derived.Test.YtidcmdnhnnhnhaaStD
import Derived.Test.YtidcmdnhnnhnhaaHpS
import Derived.Test.YtidcmdnhnnhnhaaHpP
import Derived.Test.YtidcmdnhnnhnhaaCvE
import Derived.Test.YtidcmdnhnnhnhaaCvF
namespace Go.Proofs.Ytidcmdnhnnhnhaa
open Go.RowKit

set_option maxHeartbeats 400000 in
theorem rInts_yes (A B : Option Addr) (n c c' : Nat) (F : Nat → Nat → Int) (w : World) (hn : n ≤ 1048576) (h : Rd w A n 1 (ints F)) (h' : Rd w B n 1 (ints F)) :
    Calls Try.prog 87 #[.slice A n c, .slice B n c'] w fun e w' => e = .returned (.bool true) ∧ Below w.heap.size w w' := by
  go_enter Try.func87, Try.ntmps87
  go_wp2
  go_loopw [5] (fun i wr => ∃ k : Nat, k ≤ n ∧ i = .int .i64 k ∧ Below w.heap.size w wr) (fun i _ => n - (intOf i).toNat)
  case atStart => exact ⟨0, by omega, rfl, Below.refl _ _⟩
  case round =>
    obtain ⟨k, hk, rfl, hb⟩ := hrel
    by_cases hlt : k < n
    · obtain ⟨b, off, rfl, -, hbw, hc⟩ := Rd.below h hb (by omega)
      obtain ⟨b', off', rfl, -, hbw', hc'⟩ := Rd.below h' hb (by omega)
      have hc0 := fun x : After wr => x.cell (hc k 0 hlt (by omega)) hbw
      have hc0' := fun x : After wr => x.cell (hc' k 0 hlt (by omega)) hbw'
      simp only [Nat.add_zero, Nat.mul_one] at hc0 hc0'
      clear hc hc'
      go_wp2
      refine region_after (by kernel_rfl) (by kernel_rfl) ?_
      repeat (go_big_quiet_step ((first | fail)))
      refine wpQuiet_nil ?_
      rintro _ ⟨x, rfl⟩
      go_wp2
      go_roundw
      case rel => exact ⟨k + 1, by omega, by go_num, hb.trans (x.h.mono hb.size)⟩
      case measure => simp [intOf]; omega
    · obtain rfl : k = n := by omega
      go_wp2
      go_ret
      exact ⟨rfl, hb⟩
set_option maxHeartbeats 2000000 in
theorem rHeaps_yes (A B : Option Addr) (n c c' : Nat) (H : Nat → HeapD) (w : World) (hn : n ≤ 1048576) (hl : ∀ i, i < n → (H i).n ≤ 1048576) (h : HpR w A n H) (h' : HpR w B n H) :
    Calls Try.prog 50 #[.slice A n c, .slice B n c'] w fun e w' => e = .returned (.bool true) ∧ Below w.heap.size w w' := by
  obtain ⟨C, cc, hS, hL⟩ := h
  obtain ⟨C', cc', hS', hL'⟩ := h'
  have HL := hide hL
  have HL' := hide hL'
  have HN := hide hl
  clear hL hL' hl
  go_enter Try.func50, Try.ntmps50
  go_wp2
  go_loopw [5] (fun i wr => ∃ k : Nat, k ≤ n ∧ i = .int .i64 k ∧ Below w.heap.size w wr) (fun i _ => n - (intOf i).toNat)
  case atStart => exact ⟨0, by omega, rfl, Below.refl _ _⟩
  case round =>
    obtain ⟨k, hk, rfl, hb⟩ := hrel
    by_cases hlt : k < n
    · obtain ⟨b, off, rfl, hbw, hc⟩ := hp_at hS hb (by omega)
      obtain ⟨b', off', rfl, hbw', hc'⟩ := hp_at hS' hb (by omega)
      obtain ⟨e0, e1, e2, e3⟩ := hc k hlt
      obtain ⟨f0, f1, f2, f3⟩ := hc' k hlt
      have a0 := fun x : After wr => x.cell e0 hbw
      have a1 := fun x : After wr => x.cell e1 hbw
      have a2 := fun x : After wr => x.cell e2 hbw
      have a3 := fun x : After wr => x.cell e3 hbw
      have b0 := fun x : After wr => x.cell f0 hbw'
      have b1 := fun x : After wr => x.cell f1 hbw'
      have b2 := fun x : After wr => x.cell f2 hbw'
      have b3 := fun x : After wr => x.cell f3 hbw'
      have r1 := fun x : After wr => Rd.after (Rd.below (HL.out k hlt).1 hb) x
      have r2 := fun x : After wr => Rd.after (Rd.below (HL'.out k hlt).1 hb) x
      have hk2 := HN.out k hlt
      clear hc hc' e0 e1 e2 e3 f0 f1 f2 f3
      go_wp2
      refine region_after (by kernel_rfl) (by kernel_rfl) ?_
      repeat (go_big_quiet_step ((first | (go_at_call 87; exact Calls.after (rInts_yes _ _ _ _ _ _ _ hk2 (r1 _) (r2 _))))))
      refine wpQuiet_nil ?_
      rintro _ ⟨x, rfl⟩
      go_wp2
      go_roundw
      case rel => exact ⟨k + 1, by omega, by go_num, hb.trans (x.h.mono hb.size)⟩
      case measure => simp [intOf]; omega
    · obtain rfl : k = n := by omega
      go_wp2
      go_ret
      exact ⟨rfl, hb⟩
theorem Ts.rdT {w w' : World} {A : Option Addr} {n : Nat} {H : Nat → HeapD} (h : TsR w A n H) (hb : Below w.heap.size w w') : TsR w' A n H := by
  obtain ⟨B, c, h1, h2⟩ := h
  exact ⟨B, c, Rd.below h1 hb, fun i hi => ⟨Rd.below (h2 i hi).1 hb, (h2 i hi).2⟩⟩
set_option maxHeartbeats 2000000 in
theorem rTable_yes (A B : Option Addr) (n c c' : Nat) (H : Nat → HeapD) (w : World) (hn : n ≤ 1048576) (hl : ∀ i, i < n → (H i).n ≤ 1048576) (h : TsR w A n H) (h' : TsR w B n H) :
    Calls Try.prog 53 #[.slice A n c, .slice B n c'] w fun e w' => e = .returned (.bool true) ∧ Below w.heap.size w w' := by
  obtain ⟨C, cc, hS, hL⟩ := h
  obtain ⟨C', cc', hS', hL'⟩ := h'
  have HL := hide hL
  have HL' := hide hL'
  have HN := hide hl
  clear hL hL' hl
  go_enter Try.func53, Try.ntmps53
  go_wp2
  go_loopw [5] (fun i wr => ∃ k : Nat, k ≤ n ∧ i = .int .i64 k ∧ Below w.heap.size w wr) (fun i _ => n - (intOf i).toNat)
  case atStart => exact ⟨0, by omega, rfl, Below.refl _ _⟩
  case round =>
    obtain ⟨k, hk, rfl, hb⟩ := hrel
    by_cases hlt : k < n
    · obtain ⟨b, off, rfl, -, hbw, hc⟩ := Rd.below hS hb (by omega)
      obtain ⟨b', off', rfl, -, hbw', hc'⟩ := Rd.below hS' hb (by omega)
      have a0 := fun x : After wr => x.cell (hc k 0 hlt (by omega)) hbw
      have b0 := fun x : After wr => x.cell (hc' k 0 hlt (by omega)) hbw'
      simp only [Nat.add_zero, Nat.mul_one, tsC] at a0 b0
      have r1 := fun x : After wr => Rd.after (Rd.below (HL.out k hlt).1 hb) x
      have r2 := fun x : After wr => Rd.after (Rd.below (HL'.out k hlt).1 hb) x
      have hk2 := HN.out k hlt
      clear hc hc'
      go_wp2
      refine region_after (by kernel_rfl) (by kernel_rfl) ?_
      repeat (go_big_quiet_step ((first | (go_at_call 87; exact Calls.after (rInts_yes _ _ _ _ _ _ _ hk2 (r1 _) (r2 _))))))
      refine wpQuiet_nil ?_
      rintro _ ⟨x, rfl⟩
      go_wp2
      go_roundw
      case rel => exact ⟨k + 1, by omega, by go_num, hb.trans (x.h.mono hb.size)⟩
      case measure => simp [intOf]; omega
    · obtain rfl : k = n := by omega
      go_wp2
      go_ret
      exact ⟨rfl, hb⟩
theorem rSum_any (B : Option Addr) (n c : Nat) (L : Nat → Nat → Int) (w : World) (hn : n ≤ 1048576) (h : Rd w B n 1 (ints L)) (HB : Hid (∀ k, k ≤ n → 0 ≤ sumI (fun j => L j 0) k ∧ sumI (fun j => L j 0) k ≤ 1000000000000)) :
    Calls Try.prog 54 #[.slice B n c] w fun e w' => e = .returned (.int .i64 (sumI (fun j => L j 0) n)) ∧ w = w' := by
  go_enter Try.func54, Try.ntmps54
  go_wp2
  go_loop [3, 4] (fun s i => ∃ k : Nat, k ≤ n ∧ i = .int .i64 k ∧ s = .int .i64 (sumI (fun j => L j 0) k)) (fun _ i => n - (intOf i).toNat)
  case atStart => exact ⟨0, by omega, rfl, rfl⟩
  case round =>
    obtain ⟨k, hk, rfl, rfl⟩ := hrel
    by_cases hlt : k < n
    · obtain ⟨b, off, rfl, -, hbw, hc⟩ := h (by omega)
      have hc0 := hc k 0 hlt (by omega)
      simp only [Nat.add_zero, Nat.mul_one] at hc0
      clear hc
      obtain ⟨g1, g2⟩ := HB.out k hk
      obtain ⟨g3, g4⟩ := HB.out (k + 1) (by omega)
      have HS := hide (show sumI (fun j => L j 0) (k + 1) = sumI (fun j => L j 0) k + L k 0 from rfl)
      rw [HS.out] at g3 g4
      generalize sumI (fun j => L j 0) k = S at g1 g2 g3 g4 HS ⊢
      go_wp2
      go_round
      case rel => exact ⟨k + 1, by omega, by go_num, by rw [HS.out]⟩
      case measure => simp [intOf]; omega
    · obtain rfl : k = n := by omega
      go_wp2
      go_ret
      exact ⟨rfl, rfl⟩
/-- The same results with names. -/
def NamH (w : World) (N : Nat) (G : Nat → HeapD) (mk : Option Addr → Nat → Value) (e : Ending) (w' : World) : Prop := ∃ A' c', e = .returned (mk A' c') ∧ HpR w' A' N G ∧ Below w.heap.size w w'
theorem RainOn_w (A : Option Addr) (n c : Nat) (H : Nat → HeapD) (r : Int) (w : World) {N : Nat} {G : Nat → HeapD} {X : Int} {ok : Bool} (hn : n ≤ 1048576) (hl : ∀ i, i < n → (H i).n ≤ 1048576) (h : HpR w A n H) (h1 : (rainOnR H n r).n = N) (h2 : (rainOnR H n r).H = G) (h3 : (rainOnR H n r).x = X) (h4 : (rainOnR H n r).ok = ok) :
    Calls Try.prog 43 #[.slice A n c, .int .i64 r] w (NamH w N G fun A' c' => .tuple #[.slice A' N c', .int .i64 X, .bool ok]) :=
  (RainOn_any A n c H r w hn hl h).mono fun e w' ⟨A', c', he, hO, hb⟩ => by
    subst h1 h2 h3 h4
    exact ⟨A', c', he, hO.sl.rd (Nat.le_refl _), hb⟩
theorem spec_RainOn_w (A : Option Addr) (n c : Nat) (H : Nat → HeapD) (r : Int) (w : World) {N : Nat} {G : Nat → HeapD} {X : Int} {ok : Bool} (hn : n ≤ 1048576) (hl : ∀ i, i < n → (H i).n ≤ 1048576) (h : HpR w A n H) (h1 : (rainOnR H n r).n = N) (h2 : (rainOnR H n r).H = G) (h3 : (rainOnR H n r).x = X) (h4 : (rainOnR H n r).ok = ok) :
    Calls Try.prog 42 #[.slice A n c, .int .i64 r] w (NamH w N G fun A' c' => .tuple #[.slice A' N c', .int .i64 X, .bool ok]) :=
  (spec_RainOn_any A n c H r w hn hl h).mono fun e w' ⟨A', c', he, hO, hb⟩ => by
    subst h1 h2 h3 h4
    exact ⟨A', c', he, hO.sl.rd (Nat.le_refl _), hb⟩
theorem CoverHeaps_w (A : Option Addr) (n c : Nat) (H : Nat → HeapD) (r : Int) (w : World) {N : Nat} {G : Nat → HeapD} {ok : Bool} (hn : n ≤ 1048576) (hl : ∀ i, i < n → (H i).n ≤ 1048576) (h : HpR w A n H) (h1 : (coverR H n r).n = N) (h2 : (coverR H n r).H = G) (h4 : (coverR H n r).ok = ok) :
    Calls Try.prog 47 #[.slice A n c, .int .i64 r] w (NamH w N G fun A' c' => .tuple #[.slice A' N c', .bool ok]) :=
  (CoverHeaps_any A n c H r w hn hl h).mono fun e w' ⟨A', c', he, hO, hb⟩ => by
    subst h1 h2 h4
    exact ⟨A', c', he, hO.sl.rd (Nat.le_refl _), hb⟩
theorem spec_CoverHeaps_w (A : Option Addr) (n c : Nat) (H : Nat → HeapD) (r : Int) (w : World) {N : Nat} {G : Nat → HeapD} {ok : Bool} (hn : n ≤ 1048576) (hl : ∀ i, i < n → (H i).n ≤ 1048576) (h : HpR w A n H) (h1 : (coverR H n r).n = N) (h2 : (coverR H n r).H = G) (h4 : (coverR H n r).ok = ok) :
    Calls Try.prog 46 #[.slice A n c, .int .i64 r] w (NamH w N G fun A' c' => .tuple #[.slice A' N c', .bool ok]) :=
  (spec_CoverHeaps_any A n c H r w hn hl h).mono fun e w' ⟨A', c', he, hO, hb⟩ => by
    subst h1 h2 h4
    exact ⟨A', c', he, hO.sl.rd (Nat.le_refl _), hb⟩
def NamT (w : World) (N : Nat) (G : Nat → HeapD) (mk : Option Addr → Nat → Value) (e : Ending) (w' : World) : Prop := ∃ A' c', e = .returned (mk A' c') ∧ TsR w' A' N G ∧ Below w.heap.size w w'
theorem StackLayers_w (A : Option Addr) (n c : Nat) (F : Nat → Nat → Int) (w : World) {N : Nat} {G : Nat → HeapD} {ok : Bool} (hn : n ≤ 1048576) (h : Rd w A n 1 (ints F)) (h1 : (stackR F n).m = N) (h2 : (stackR F n).H = G) (h4 : (stackR F n).ok = ok) :
    Calls Try.prog 21 #[.slice A n c] w (NamT w N G fun A' c' => .tuple #[.slice A' N c', .bool ok]) :=
  (StackLayers_any A n c F w hn h).mono fun e w' ⟨v, V, p, he, hT, hb⟩ => by
    subst h1 h2 h4
    obtain ⟨A', c', rfl, hO⟩ := hT.tsO
    exact ⟨A', c', he, hO.sl.mono (Nat.zero_le _) (Nat.le_refl _), hb⟩
theorem spec_StackLayers_w (A : Option Addr) (n c : Nat) (F : Nat → Nat → Int) (w : World) {N : Nat} {G : Nat → HeapD} {ok : Bool} (hn : n ≤ 1048576) (h : Rd w A n 1 (ints F)) (h1 : (stackR F n).m = N) (h2 : (stackR F n).H = G) (h4 : (stackR F n).ok = ok) :
    Calls Try.prog 19 #[.slice A n c] w (NamT w N G fun A' c' => .tuple #[.slice A' N c', .bool ok]) :=
  (spec_StackLayers_any A n c F w hn h).mono fun e w' ⟨v, V, p, he, hT, hb⟩ => by
    subst h1 h2 h4
    obtain ⟨A', c', rfl, hO⟩ := hT.tsO
    exact ⟨A', c', he, hO.sl.mono (Nat.zero_le _) (Nat.le_refl _), hb⟩
theorem Hp.congr {w : World} {lo hi n : Nat} {A : Option Addr} {H H' : Nat → HeapD} (h : Hp w lo hi A n H) (e : ∀ i, i < n → H i = H' i) : Hp w lo hi A n H' := by
  obtain ⟨B, c, h1, h2⟩ := h
  refine ⟨B, c, h1.congr fun i j hi _ => ?_, fun i hi => e i hi ▸ h2 i hi⟩
  unfold hpC
  rw [e i hi]
end Go.Proofs.Ytidcmdnhnnhnhaa
