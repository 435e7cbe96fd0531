/-
  Contracts on showers: the wettest day, of the program and of the reference. Conditions: lengths up to 2^20.
-/
import Derived.Test.YtcjjpkleipjibaaRainC
namespace Go.Proofs.Ytcjjpkleipjibaa
open Go.RowKit

set_option maxHeartbeats 1000000 in
theorem spec_WettestDay_any (A : Option Addr) (n c : Nat) (F : Nat → Nat → Int) (w : World) (hn : n ≤ 1048576) (h : Rd w A n 2 (ints F)) :
    Calls Try.prog 19 #[.slice A n c] w fun e w' => e = .returned (.tuple #[.int .i64 (wettestR F n).1, .bool (wettestR F n).2]) ∧ Below w.heap.size w w' := by
  cases h1 : showsB F n
  · have HR := hide (show wettestR F n = (0, false) by simp [wettestR, h1])
    go_enter Try.func19, Try.ntmps19
    go_wp2_with (first | (go_at_call 53; refine (l9Good_any _ _ _ _ _ hn h).mono ?_; rintro _ w1 ⟨rfl, hb_w1⟩; have hc_w1 := bcell hb_w1))
    go_ret2
    exact ⟨ret_p HR.out, hb_w1⟩
  · by_cases h0 : n = 0
    · subst h0
      have HR := hide (show wettestR F 0 = (0, false) by simp [wettestR])
      go_enter Try.func19, Try.ntmps19
      go_wp2_with (first | (go_at_call 53; refine (l9Good_any _ _ _ _ _ hn h).mono ?_; rintro _ w1 ⟨rfl, hb_w1⟩; have hc_w1 := bcell hb_w1))
      go_ret2
      exact ⟨ret_p HR.out, hb_w1⟩
    · have HR := hide (show wettestR F n = (F (bestI (fun i => F i 1) n) 0, true) by simp [wettestR, h1, h0])
      have hn0 : ((n : Int) == 0) = false := by simp; omega
      have hpos : 0 < n := by omega
      clear h0
      go_enter Try.func19, Try.ntmps19
      go_wp2_with (first | (go_at_call 53; refine (l9Good_any _ _ _ _ _ hn h).mono ?_; rintro _ w1 ⟨rfl, hb_w1⟩; have hc_w1 := bcell hb_w1))
      clear hc_w1
      go_loopw [4, 5] (fun b i wr => ∃ k : Nat, 1 ≤ k ∧ k ≤ n ∧ i = .int .i64 k ∧ b = .int .i64 (bestI (fun i => F i 1) k : Nat) ∧ Below w.heap.size w wr) (fun _ i _ => n - (intOf i).toNat)
      case atStart => exact ⟨1, by omega, by omega, rfl, by simp [bestI], hb_w1⟩
      case round =>
        obtain ⟨k, hk1, hk, rfl, rfl, hb⟩ := hrel
        have hpl := bestI_lt (fun i => F i 1) k hk1
        have HS := hide (show bestI (fun i => F i 1) (k + 1) = if F (bestI (fun i => F i 1) k) 1 < F k 1 then k else bestI (fun i => F i 1) k from rfl)
        generalize hp : bestI (fun i => F i 1) k = p at hpl HS ⊢
        have HP := hide hp
        clear hp
        obtain ⟨q, off, rfl, -, hbw, hc⟩ := Rd.below h hb (by omega)
        by_cases hlt : k < n
        · have hc0 := fun x : After wr => x.cell (hc k 1 hlt (by omega)) hbw
          have hc1 := fun x : After wr => x.cell (hc p 1 (by omega) (by omega)) hbw
          have hpn : p < n := by omega
          clear hc
          go_wp2
          refine region_after (by kernel_rfl) (by kernel_rfl) ?_
          repeat (go_big_quiet_step ((first | fail)))
          refine wpQuiet_nil ?_
          rintro _ ⟨x, rfl⟩
          by_cases hg : F p 1 < F k 1
          · go_wp2
            go_roundw
            case rel => exact ⟨k + 1, by omega, by omega, by go_num, by rw [HS.out, if_pos hg], hb.trans (x.h.mono hb.size)⟩
            case measure => simp [intOf]; omega
          · go_wp2
            go_roundw
            case rel => exact ⟨k + 1, by omega, by omega, by go_num, by rw [HS.out, if_neg hg], hb.trans (x.h.mono hb.size)⟩
            case measure => simp [intOf]; omega
        · have hc0 := hc p 0 (by omega) (by omega)
          simp only [Nat.add_zero] at hc0
          clear hc
          have hpn : p < n := by omega
          have HE := hide (show k = n by omega)
          go_wp2
          go_ret2
          exact ⟨ret_p (by rw [HR.out, ← HE.out, HP.out]), hb⟩

set_option maxHeartbeats 1000000 in
theorem WettestDay_any (A : Option Addr) (n c : Nat) (F : Nat → Nat → Int) (w : World) (hn : n ≤ 1048576) (h : Rd w A n 2 (ints F)) :
    Calls Try.prog 20 #[.slice A n c] w fun e w' => e = .returned (.tuple #[.int .i64 (wettestR F n).1, .bool (wettestR F n).2]) ∧ Below w.heap.size w w' := by
  cases h1 : showsB F n
  · have HR := hide (show wettestR F n = (0, false) by simp [wettestR, h1])
    go_enter Try.func20, Try.ntmps20
    go_wp2_with (first | (go_at_call 17; refine (AreShowers_any _ _ _ _ _ hn h).mono ?_; rintro _ w1 ⟨rfl, hb_w1⟩; have hc_w1 := bcell hb_w1))
    go_ret2
    exact ⟨ret_p HR.out, hb_w1⟩
  · by_cases h0 : n = 0
    · subst h0
      have HR := hide (show wettestR F 0 = (0, false) by simp [wettestR])
      go_enter Try.func20, Try.ntmps20
      go_wp2_with (first | (go_at_call 17; refine (AreShowers_any _ _ _ _ _ hn h).mono ?_; rintro _ w1 ⟨rfl, hb_w1⟩; have hc_w1 := bcell hb_w1))
      go_ret2
      exact ⟨ret_p HR.out, hb_w1⟩
    · have HR := hide (show wettestR F n = (F (bestI (fun i => F i 1) n) 0, true) by simp [wettestR, h1, h0])
      have hn0 : ((n : Int) == 0) = false := by simp; omega
      have hpos : 0 < n := by omega
      clear h0
      go_enter Try.func20, Try.ntmps20
      go_wp2_with fail
      go_at_call 17
      refine (AreShowers_any _ _ _ _ _ hn h).mono ?_
      rintro _ w1 ⟨rfl, hb1⟩
      obtain ⟨q, off, rfl, -, hbw, hc⟩ := Rd.below h hb1 hpos
      have hc0 := hc 0 0 hpos (by omega)
      have hc1 := hc 0 1 hpos (by omega)
      simp only [Nat.add_zero, Nat.zero_mul] at hc0 hc1
      go_wp2
      generalize hW : w1.alloc (.cells #[.int .i64 (F 0 0), .int .i64 (F 0 1)] 68) = W2
      have hb2 : Below w.heap.size w W2 := by rw [← hW]; exact hb1.alloc hb1.size _
      have hs2 : w1.heap.size < W2.heap.size := by rw [← hW]; simp
      have hO : Ow W2 w1.heap.size (w1.heap.size + 1) (some ⟨w1.heap.size, 0, none⟩) 1 2 (fun _ j => ints F 0 j) := by
        rw [← hW]; exact (Ow.box w1 #[.int .i64 (F 0 0), .int .i64 (F 0 1)] _).congr fun i j _ hj => by match j, hj with | 0, _ => rfl | 1, _ => rfl
      have hw1 := hb1.size
      clear hW hc0 hc1 hc
      go_loopw [20] (fun i wr => ∃ k : Nat, k ≤ n ∧ i = .int .i64 k ∧ Ow wr w1.heap.size (w1.heap.size + 1) (some ⟨w1.heap.size, 0, none⟩) 1 2 (fun _ j => ints F (bestI (fun i => F i 1) k) j) ∧ w1.heap.size < wr.heap.size ∧ Below w.heap.size w wr) (fun i _ => n - (intOf i).toNat)
      case atStart => exact ⟨0, by omega, rfl, hO, hs2, hb2⟩
      case round =>
        obtain ⟨k, hk, rfl, hOr, hsr, hb⟩ := hrel
        have HS := hide (show bestI (fun i => F i 1) (k + 1) = if F (bestI (fun i => F i 1) k) 1 < F k 1 then k else bestI (fun i => F i 1) k from rfl)
        generalize hp : bestI (fun i => F i 1) k = p at hOr HS
        have HP := hide hp
        clear hp
        obtain ⟨-, -, g, f⟩ := hOr.at_ (i := 0) (by omega)
        have g0 := g 0 (by omega)
        have g1 := g 1 (by omega)
        have f0 := f 0 (by omega)
        have f1 := f 1 (by omega)
        simp only [Nat.zero_mul, Nat.zero_add] at g0 g1 f0 f1
        clear g f
        by_cases hlt : k < n
        · obtain ⟨q', off', ee, -, hbw, hc⟩ := Rd.below h hb hpos
          obtain ⟨rfl, rfl⟩ : q = q' ∧ off = off' := by injection ee with ee; injection ee with h1 h2; exact ⟨h1, h2⟩
          have hc0 := hc k 0 hlt (by omega)
          have hc1 := hc k 1 hlt (by omega)
          simp only [Nat.add_zero] at hc0 hc1
          clear hc ee
          by_cases hg : F p 1 < F k 1
          · go_wp2
            go_roundw
            case rel =>
              refine ⟨k + 1, by omega, by go_num, ?_⟩
              rw [HS.out, if_pos hg]
              refine ⟨(((hOr.set (i0 := 0) (j0 := 0) (o := 0) (by omega) (by omega) rfl (.int .i64 (F k 0))).set (i0 := 0) (j0 := 1) (o := 1) (by omega) (by omega) rfl (.int .i64 (F k 1))).alloc (by simp; omega) _).congr fun i j _ hj => ?_, by simp; omega, ?_⟩
              · obtain rfl : i = 0 := by omega
                match j, hj with
                | 0, _ => simp [upd]
                | 1, _ => simp [upd]
              · exact (((hb.setCell (p := ⟨w1.heap.size, 0, none⟩) hw1 _).setCell (p := ⟨w1.heap.size, 1, none⟩) hw1 _).alloc (by simp; exact hb.size) _)
            case measure => simp [intOf]; omega
          · go_wp2
            go_roundw
            case rel =>
              refine ⟨k + 1, by omega, by go_num, ?_⟩
              rw [HS.out, if_neg hg]
              exact ⟨hOr.alloc (by omega) _, by simp; omega, hb.alloc hb.size _⟩
            case measure => simp [intOf]; omega
        · have HE := hide (show k = n by omega)
          go_wp2
          go_ret2
          exact ⟨ret_p (by rw [HR.out, ← HE.out, HP.out]), hb⟩
end Go.Proofs.Ytcjjpkleipjibaa
