/-
  The library's stable sort at the program's order of heaps by tons. Conditions: valid heaps.
-/
import Derived.Test.YtidcmdnhnnhnhaaCvB
namespace Go.Proofs.Ytidcmdnhnnhnhaa
open Go.RowKit

theorem insertion0_any (G : Option Addr) (cc lb : Nat) (w : World) :
    Calls Try.prog 99 #[.slice G 0 cc, .int .i64 0, .int .i64 0, .func (.func 82) #[] #[.pointer (some ⟨lb, 0, none⟩)]] w fun e w' => e = .returned (.tuple #[]) ∧ w = w' := by
  go_enter Try.func99, Try.ntmps99
  go_wp2
  go_loop [8, 9] (fun a _ => a = .int .i64 1) (fun _ _ => 0)
  case atStart => exact rfl
  case round =>
    subst hrel
    go_wp2
    go_end0
    exact ⟨rfl, rfl⟩
set_option maxRecDepth 20000 in
set_option maxHeartbeats 2000000 in
theorem stable0_any (G : Option Addr) (cc lb : Nat) (w : World) :
    Calls Try.prog 95 #[.slice G 0 cc, .int .i64 0, .func (.func 82) #[] #[.pointer (some ⟨lb, 0, none⟩)]] w fun e w' => e = .returned (.tuple #[]) ∧ w = w' := by
  go_enter Try.func95, Try.ntmps95
  go_wp2
  go_loop [7, 8] (fun a b => a = .int .i64 0 ∧ b = .int .i64 20) (fun _ _ => 0)
  case atStart => exact ⟨rfl, rfl⟩
  case round =>
    obtain ⟨rfl, rfl⟩ := hrel
    go_wp2_with fail
    go_at_call 99
    refine (insertion0_any G cc lb _).mono ?_
    rintro _ w2 ⟨rfl, rfl⟩
    go_wp2
    go_loop [6] (fun a => a = .int .i64 20) (fun _ => 0)
    case atStart => exact rfl
    case round =>
      subst hrel
      go_wp2
      go_end0
      exact ⟨rfl, rfl⟩
set_option maxRecDepth 20000 in
set_option maxHeartbeats 2000000 in
theorem stable_any (lo hi lb g o cc M : Nat) (A : Option Addr) (n c : Nat) (H : Nat → HeapD) (O : Nat → Nat) (w : World) (HV : Hid (heapsB H n = true)) (h : Hp w 0 lo A n H) (hc : w.cell? ⟨lb, 0, none⟩ = some (.slice A n c)) (hl : lb < lo) (hh : hi ≤ w.heap.size) (hlh : lo ≤ hi)
    (hM : 1 ≤ M) (hM2 : M ≤ 10) (HO : Hid (∀ j, j < M → O j < n))
    (hO : Ow w lo hi (some ⟨g, o, none⟩) M 1 (ints fun p _ => O p)) :
    Calls Try.prog 95 #[.slice (some ⟨g, o, none⟩) M cc, .int .i64 M, .func (.func 82) #[] #[.pointer (some ⟨lb, 0, none⟩)]] w fun e w' => e = .returned (.tuple #[]) ∧ Below lo w w' ∧ Ow w' lo hi (some ⟨g, o, none⟩) M 1 (ints fun p _ => srtT (hpT H) O M p) := by
  have hd1 : decide ((20 : Int) ≤ M) = false := by simp; omega
  have hd2 : decide ((20 : Int) < M) = false := by simp; omega
  go_enter Try.func95, Try.ntmps95
  go_wp2
  go_loop [7, 8] (fun a b => a = .int .i64 0 ∧ b = .int .i64 20) (fun _ _ => 0)
  case atStart => exact ⟨rfl, rfl⟩
  case round =>
    obtain ⟨rfl, rfl⟩ := hrel
    go_wp2_with fail
    go_at_call 99
    refine (insertion_any lo hi lb g o cc M A n c H O _ HV h hc hl hh hlh hM hM2 HO hO).mono ?_
    rintro _ w2 ⟨rfl, hb2, hO2⟩
    go_wp2
    go_loop [6] (fun a => a = .int .i64 20) (fun _ => 0)
    case atStart => exact rfl
    case round =>
      subst hrel
      go_wp2
      go_end0
      exact ⟨rfl, hb2, hO2⟩
theorem sort_any (lo hi lb cc M : Nat) (G A : Option Addr) (n c : Nat) (H : Nat → HeapD) (O : Nat → Nat) (w : World) (HV : Hid (heapsB H n = true)) (h : Hp w 0 lo A n H) (hc : w.cell? ⟨lb, 0, none⟩ = some (.slice A n c)) (hl : lb < lo) (hh : hi ≤ w.heap.size) (hlh : lo ≤ hi)
    (hM2 : M ≤ 10) (HO : Hid (∀ j, j < M → O j < n))
    (hO : Ow w lo hi G M 1 (ints fun p _ => O p)) :
    Calls Try.prog 81 #[.slice G M cc, .func (.func 82) #[] #[.pointer (some ⟨lb, 0, none⟩)]] w fun e w' => e = .returned (.tuple #[]) ∧ Below lo w w' ∧ Ow w' lo hi G M 1 (ints fun p _ => srtT (hpT H) O M p) := by
  rcases Nat.eq_zero_or_pos M with rfl | hM
  · go_enter Try.func81, Try.ntmps81
    go_wp2_with fail
    go_at_call 95
    refine (stable0_any G cc lb _).mono ?_
    rintro _ _ ⟨rfl, rfl⟩
    go_wp2
    go_end0
    exact ⟨rfl, Below.refl _ _, Ow.nil _ _ _ _ _ _⟩
  · obtain ⟨g, o, rfl, -, -, -⟩ := hO.sl hM
    go_enter Try.func81, Try.ntmps81
    go_wp2_with fail
    go_at_call 95
    refine (stable_any lo hi lb g o cc M A n c H O _ HV h hc hl hh hlh hM hM2 HO hO).mono ?_
    rintro _ w2 ⟨rfl, hb2, hO2⟩
    go_wp2
    go_end0
    exact ⟨rfl, hb2, hO2⟩
end Go.Proofs.Ytidcmdnhnnhnhaa
