/-
  Contracts on kinds of salt: words, and whether kinds are valid, of the program and of the reference. Conditions: lengths up to 2^20.
-/
import Derived.Test.YtnmpfojcmedpeaaDoorNum
import Derived.Test.YtnmpfojcmedpeaaDoorCrM
import Derived.Test.YtnmpfojcmedpeaaDoorShelf
namespace Go.Proofs.YtnmpfojcmedpeaaDoor
open Go.RowKit

set_option maxHeartbeats 1000000 in
theorem l2Word_any (s : ByteArray) (w : World) (hs : s.size ≤ 9223372036854775807) :
    Calls Tryd.prog 87 #[.string s] w fun e w' => e = .returned (.bool (wordB s)) ∧ w = w' := by
  go_enter Tryd.func87, Tryd.ntmps87
  go_wp2
  go_loop [3] (fun i => ∃ k : Nat, k ≤ s.size ∧ i = .int .i64 k ∧ allB (fun k => inB (byteI s k) 97 122) k = true) (fun i => s.size - (intOf i).toNat)
  case atStart => exact ⟨0, by omega, rfl, rfl⟩
  case round =>
    obtain ⟨k, hk, rfl, hgood⟩ := hrel
    have HG := hide hgood
    clear hgood
    by_cases hlt : k < s.size
    · have HZ := hide (fun he : inB (byteI s k) 97 122 = false => (by rw [wordB, allB_false (p := fun k => inB (byteI s k) 97 122) hlt he]; simp : wordB s = false))
      have HZ1 := hide (fun he : inB (byteI s k) 97 122 = true => allB_succ (p := fun k => inB (byteI s k) 97 122) HG.out he)
      have HB := hide (byteI_at s k hlt)
      by_cases h1 : (s[k].toNat : Int) < 97
      · go_wp2
        go_ret
        exact ⟨ret_bool (HZ.out (by rw [HB.out]; simp [inB]; omega)).symm, rfl⟩
      · by_cases h2 : 122 < (s[k].toNat : Int)
        · go_wp2
          go_ret
          exact ⟨ret_bool (HZ.out (by rw [HB.out]; simp [inB]; omega)).symm, rfl⟩
        · go_wp2
          go_round
          case rel => exact ⟨k + 1, by omega, by go_num, HZ1.out (by rw [HB.out]; simp [inB]; omega)⟩
          case measure => simp [intOf]; omega
    · obtain rfl : k = s.size := by omega
      go_wp2_with (first | (go_at_call 73; refine (l1In_any _ _ _ _).mono ?_; rintro _ _ ⟨rfl, rfl⟩))
      go_ret
      exact ⟨ret_bool (by unfold wordB; rw [HG.out]; simp), rfl⟩

theorem trim_any (s : ByteArray) (w : World) (hs : s.size ≤ 9223372036854775807) :
    Calls Tryd.prog 86 #[.string s, .string ⟨#[97, 98, 99, 100, 101, 102, 103, 104, 105, 106, 107, 108, 109, 110, 111, 112, 113, 114, 115, 116, 117, 118, 119, 120, 121, 122]⟩] w fun e w' => e = .returned (.string ⟨(Lib.trimS s.data.toList azL).toArray⟩) ∧ Below w.heap.size w w' :=
  Any.strings_Trim_laid Tryd.lays160 (by kernel_rfl) s ⟨#[97, 98, 99, 100, 101, 102, 103, 104, 105, 106, 107, 108, 109, 110, 111, 112, 113, 114, 115, 116, 117, 118, 119, 120, 121, 122]⟩ w hs (by decide) (ascii_of_all (by decide))

set_option maxHeartbeats 1000000 in
theorem isWord_any (s : ByteArray) (w : World) (hs : s.size ≤ 9223372036854775807) :
    Calls Tryd.prog 66 #[.string s] w fun e w' => e = .returned (.bool (wordB s)) ∧ Below w.heap.size w w' := by
  cases h1 : inB s.size 1 10
  · have HW := hide (show wordB s = false by unfold wordB; rw [h1]; rfl)
    go_enter Tryd.func66, Tryd.ntmps66
    go_wp2_with (first | (go_at_call 63; refine (within_any _ _ _ _).mono ?_; rintro _ _ ⟨rfl, rfl⟩))
    go_ret
    exact ⟨ret_bool HW.out.symm, Below.refl _ _⟩
  · have hcon := trim_any s w hs
    have hemp : (⟨(Lib.trimS s.data.toList azL).toArray⟩ : ByteArray).toList.isEmpty = wordB s := by
      rw [Lib.toList_data]
      show (Lib.trimS s.data.toList azL).isEmpty = _
      rw [trimS_nil, all_bytes]
      unfold wordB; rw [h1]; rfl
    generalize wordB s = W at hemp ⊢
    generalize (⟨(Lib.trimS s.data.toList azL).toArray⟩ : ByteArray) = r at hcon hemp
    cases W
    all_goals
      go_enter Tryd.func66, Tryd.ntmps66
      go_wp2_with (first | (go_at_call 63; refine (within_any _ _ _ _).mono ?_; rintro _ _ ⟨rfl, rfl⟩) | (go_at_call 86; refine (hcon).mono ?_; rintro _ w1 ⟨rfl, hb_w1⟩; have hc_w1 := bcell hb_w1))
      go_ret
      exact ⟨rfl, hb_w1⟩

set_option maxHeartbeats 2000000 in
theorem l10Good_any (A : Option Addr) (n c : Nat) (S : Nat → ByteArray) (F : Nat → Nat → Int) (w : World) (hn : n ≤ 1048576) (HS : Hid (∀ i, i < n → (S i).size ≤ 9223372036854775807)) (h : Rd w A n 3 (kdC S F)) :
    Calls Tryd.prog 67 #[.slice A n c] w fun e w' => e = .returned (.bool (kindsB S F n)) ∧ Below w.heap.size w w' := by
  go_enter Tryd.func67, Tryd.ntmps67
  go_wp2
  go_loopw [3] (fun i wr => ∃ k : Nat, k ≤ n ∧ i = .int .i64 k ∧ allB (kindB S F) k = true ∧ Below w.heap.size w wr) (fun i _ => n - (intOf i).toNat)
  case atStart => exact ⟨0, by omega, rfl, rfl, Below.refl _ _⟩
  case round =>
    obtain ⟨k, hk, rfl, hgood, hb⟩ := hrel
    have HG := hide hgood
    clear hgood
    by_cases hlt : k < n
    · obtain ⟨b, off, rfl, -, hbw, hc⟩ := Rd.below h hb (by omega)
      have c0 : wr.cell? ⟨b, off + k * 3, none⟩ = some (.string (S k)) := by simpa [kdC] using hc k 0 hlt (by omega)
      have c1 : wr.cell? ⟨b, off + k * 3 + 1, none⟩ = some (.int .i64 (F k 1)) := by simpa [kdC] using hc k 1 hlt (by omega)
      have c2 : wr.cell? ⟨b, off + k * 3 + 2, none⟩ = some (.int .i64 (F k 2)) := by simpa [kdC] using hc k 2 hlt (by omega)
      have cp : wr.cell? ⟨b, off + (k - 1) * 3, none⟩ = some (.string (S (k - 1))) := by simpa [kdC] using hc (k - 1) 0 (by omega) (by omega)
      clear hc
      have hsk := HS.out k hlt
      have HZ := hide (fun he : kindB S F k = false => (by simp [kindsB, allB_false hlt he] : kindsB S F n = false))
      have HZ1 := hide (fun he : kindB S F k = true => allB_succ HG.out he)
      have HB := hide (show kindB S F k = (wordB (S k) && inB (F k 1) 0 9 && inB (F k 2) 1 1000 && (decide (k = 0) || Op.bytesLess (S (k - 1)).toList (S k).toList)) from rfl)
      go_wp2
      have hbW : Below wr.heap.size wr (wr.alloc (.cells #[.string (S k), .int .i64 (F k 1), .int .i64 (F k 2)] 46)) := (Below.refl _ _).alloc (Nat.le_refl _) _
      have hsW : wr.heap.size < (wr.alloc (.cells #[.string (S k), .int .i64 (F k 1), .int .i64 (F k 2)] 46)).heap.size := by simp
      have e0 : World.cell? (wr.alloc (.cells #[.string (S k), .int .i64 (F k 1), .int .i64 (F k 2)] 46)) ⟨wr.heap.size, 0, none⟩ = some (.string (S k)) := by rw [World.cell?_alloc_new]; rfl
      have e1 : World.cell? (wr.alloc (.cells #[.string (S k), .int .i64 (F k 1), .int .i64 (F k 2)] 46)) ⟨wr.heap.size, 1, none⟩ = some (.int .i64 (F k 1)) := by rw [World.cell?_alloc_new]; rfl
      have e2 : World.cell? (wr.alloc (.cells #[.string (S k), .int .i64 (F k 1), .int .i64 (F k 2)] 46)) ⟨wr.heap.size, 2, none⟩ = some (.int .i64 (F k 2)) := by rw [World.cell?_alloc_new]; rfl
      generalize wr.alloc (.cells #[.string (S k), .int .i64 (F k 1), .int .i64 (F k 2)] 46) = W2 at hbW hsW e0 e1 e2 ⊢
      have hbz : b < W2.heap.size := by omega
      have ep := (hbW.cell (by exact hbw)).trans cp
      clear c0 c1 c2 cp
      have d0 := fun x : After W2 => x.cell e0 hsW
      have d1 := fun x : After W2 => x.cell e1 hsW
      have d2 := fun x : After W2 => x.cell e2 hsW
      have dp := fun x : After W2 => x.cell ep hbz
      clear e0 e1 e2 ep
      have hbx := fun x : After W2 => gr hb (gr hbW x.h)
      cases h1 : wordB (S k)
      · refine region_after (by kernel_rfl) (by kernel_rfl) ?_
        repeat (go_big_quiet_step ((first | (go_at_call 87; exact Calls.after_same (l2Word_any _ _ hsk)) | (go_at_call 73; exact Calls.after_same (l1In_any _ _ _ _)))))
        refine wpQuiet_nil ?_
        rintro _ ⟨x, rfl⟩
        go_wp2
        go_ret
        exact ⟨ret_bool (HZ.out (by rw [HB.out, h1]; rfl)).symm, hbx x⟩
      cases h2 : inB (F k 1) 0 9
      · refine region_after (by kernel_rfl) (by kernel_rfl) ?_
        repeat (go_big_quiet_step ((first | (go_at_call 87; exact Calls.after_same (l2Word_any _ _ hsk)) | (go_at_call 73; exact Calls.after_same (l1In_any _ _ _ _)))))
        refine wpQuiet_nil ?_
        rintro _ ⟨x, rfl⟩
        go_wp2
        go_ret
        exact ⟨ret_bool (HZ.out (by rw [HB.out, h1, h2]; rfl)).symm, hbx x⟩
      cases h3 : inB (F k 2) 1 1000
      · refine region_after (by kernel_rfl) (by kernel_rfl) ?_
        repeat (go_big_quiet_step ((first | (go_at_call 87; exact Calls.after_same (l2Word_any _ _ hsk)) | (go_at_call 73; exact Calls.after_same (l1In_any _ _ _ _)))))
        refine wpQuiet_nil ?_
        rintro _ ⟨x, rfl⟩
        go_wp2
        go_ret
        exact ⟨ret_bool (HZ.out (by rw [HB.out, h1, h2, h3]; rfl)).symm, hbx x⟩
      by_cases h5 : 0 < k
      · have h6 : decide (k = 0) = false := by simp; omega
        cases h4 : Op.bytesLess (S (k - 1)).toList (S k).toList
        · have HB0 := hide (HZ.out (by rw [HB.out, h1, h2, h3, h4, h6]; rfl))
          clear h6
          refine region_after (by kernel_rfl) (by kernel_rfl) ?_
          repeat (go_big_quiet_step ((first | (go_at_call 87; exact Calls.after_same (l2Word_any _ _ hsk)) | (go_at_call 73; exact Calls.after_same (l1In_any _ _ _ _)))))
          refine wpQuiet_nil ?_
          rintro _ ⟨x, rfl⟩
          go_wp2
          go_ret
          exact ⟨ret_bool HB0.out.symm, hbx x⟩
        · have HB1 := hide (HZ1.out (by rw [HB.out, h1, h2, h3, h4, h6]; rfl))
          clear h6
          refine region_after (by kernel_rfl) (by kernel_rfl) ?_
          repeat (go_big_quiet_step ((first | (go_at_call 87; exact Calls.after_same (l2Word_any _ _ hsk)) | (go_at_call 73; exact Calls.after_same (l1In_any _ _ _ _)))))
          refine wpQuiet_nil ?_
          rintro _ ⟨x, rfl⟩
          go_wp2
          go_roundw
          case rel => exact ⟨k + 1, by omega, by go_num, HB1.out, hbx x⟩
          case measure => simp [intOf]; omega
      · have h4 : decide (0 < (k : Int)) = false := by simp; omega
        have h6 : decide (k = 0) = true := by simp; omega
        have HB1 := hide (HZ1.out (by rw [HB.out, h1, h2, h3, h6]; rfl))
        clear h6
        refine region_after (by kernel_rfl) (by kernel_rfl) ?_
        repeat (go_big_quiet_step ((first | (go_at_call 87; exact Calls.after_same (l2Word_any _ _ hsk)) | (go_at_call 73; exact Calls.after_same (l1In_any _ _ _ _)))))
        refine wpQuiet_nil ?_
        rintro _ ⟨x, rfl⟩
        go_wp2
        go_roundw
        case rel => exact ⟨k + 1, by omega, by go_num, HB1.out, hbx x⟩
        case measure => simp [intOf]; omega
    · go_wp2_with (first | (go_at_call 73; refine (l1In_any _ _ _ _).mono ?_; rintro _ _ ⟨rfl, rfl⟩))
      go_ret
      obtain rfl : k = n := by omega
      exact ⟨ret_bool (by simp [kindsB, HG.out]), hb⟩
set_option maxHeartbeats 2000000 in
theorem AreKinds_any (A : Option Addr) (n c : Nat) (S : Nat → ByteArray) (F : Nat → Nat → Int) (w : World) (hn : n ≤ 1048576) (HS : Hid (∀ i, i < n → (S i).size ≤ 9223372036854775807)) (h : Rd w A n 3 (kdC S F)) :
    Calls Tryd.prog 32 #[.slice A n c] w fun e w' => e = .returned (.bool (kindsB S F n)) ∧ Below w.heap.size w w' := by
  go_enter Tryd.func32, Tryd.ntmps32
  go_wp2
  go_loopw [7] (fun i wr => ∃ k : Nat, k ≤ n ∧ i = .int .i64 k ∧ allB (kindB S F) k = true ∧ Below w.heap.size w wr) (fun i _ => n - (intOf i).toNat)
  case atStart => exact ⟨0, by omega, rfl, rfl, Below.refl _ _⟩
  case round =>
    obtain ⟨k, hk, rfl, hgood, hb⟩ := hrel
    have HG := hide hgood
    clear hgood
    by_cases hlt : k < n
    · obtain ⟨b, off, rfl, -, hbw, hc⟩ := Rd.below h hb (by omega)
      have c0 : wr.cell? ⟨b, off + k * 3, none⟩ = some (.string (S k)) := by simpa [kdC] using hc k 0 hlt (by omega)
      have c1 : wr.cell? ⟨b, off + k * 3 + 1, none⟩ = some (.int .i64 (F k 1)) := by simpa [kdC] using hc k 1 hlt (by omega)
      have c2 : wr.cell? ⟨b, off + k * 3 + 2, none⟩ = some (.int .i64 (F k 2)) := by simpa [kdC] using hc k 2 hlt (by omega)
      have cp : wr.cell? ⟨b, off + (k - 1) * 3, none⟩ = some (.string (S (k - 1))) := by simpa [kdC] using hc (k - 1) 0 (by omega) (by omega)
      clear hc
      have hsk := HS.out k hlt
      have HZ := hide (fun he : kindB S F k = false => (by simp [kindsB, allB_false hlt he] : kindsB S F n = false))
      have HZ1 := hide (fun he : kindB S F k = true => allB_succ HG.out he)
      have HB := hide (show kindB S F k = (wordB (S k) && inB (F k 1) 0 9 && inB (F k 2) 1 1000 && (decide (k = 0) || Op.bytesLess (S (k - 1)).toList (S k).toList)) from rfl)
      go_wp2
      have hbW : Below wr.heap.size wr (wr.alloc (.cells #[.string (S k), .int .i64 (F k 1), .int .i64 (F k 2)] 46)) := (Below.refl _ _).alloc (Nat.le_refl _) _
      have hsW : wr.heap.size < (wr.alloc (.cells #[.string (S k), .int .i64 (F k 1), .int .i64 (F k 2)] 46)).heap.size := by simp
      have e0 : World.cell? (wr.alloc (.cells #[.string (S k), .int .i64 (F k 1), .int .i64 (F k 2)] 46)) ⟨wr.heap.size, 0, none⟩ = some (.string (S k)) := by rw [World.cell?_alloc_new]; rfl
      have e1 : World.cell? (wr.alloc (.cells #[.string (S k), .int .i64 (F k 1), .int .i64 (F k 2)] 46)) ⟨wr.heap.size, 1, none⟩ = some (.int .i64 (F k 1)) := by rw [World.cell?_alloc_new]; rfl
      have e2 : World.cell? (wr.alloc (.cells #[.string (S k), .int .i64 (F k 1), .int .i64 (F k 2)] 46)) ⟨wr.heap.size, 2, none⟩ = some (.int .i64 (F k 2)) := by rw [World.cell?_alloc_new]; rfl
      generalize wr.alloc (.cells #[.string (S k), .int .i64 (F k 1), .int .i64 (F k 2)] 46) = W2 at hbW hsW e0 e1 e2 ⊢
      have hbz : b < W2.heap.size := by omega
      have ep := (hbW.cell (by exact hbw)).trans cp
      clear c0 c1 c2 cp
      have d0 := fun x : After W2 => x.cell e0 hsW
      have d1 := fun x : After W2 => x.cell e1 hsW
      have d2 := fun x : After W2 => x.cell e2 hsW
      have dp := fun x : After W2 => x.cell ep hbz
      clear e0 e1 e2 ep
      have hbx := fun x : After W2 => gr hb (gr hbW x.h)
      cases h1 : wordB (S k)
      · refine region_after (by kernel_rfl) (by kernel_rfl) ?_
        repeat (go_big_quiet_step ((first | (go_at_call 66; exact Calls.after (isWord_any _ _ hsk)) | (go_at_call 63; exact Calls.after_same (within_any _ _ _ _)))))
        refine wpQuiet_nil ?_
        rintro _ ⟨x, rfl⟩
        go_wp2
        go_ret
        exact ⟨ret_bool (HZ.out (by rw [HB.out, h1]; rfl)).symm, hbx x⟩
      cases h2 : inB (F k 1) 0 9
      · refine region_after (by kernel_rfl) (by kernel_rfl) ?_
        repeat (go_big_quiet_step ((first | (go_at_call 66; exact Calls.after (isWord_any _ _ hsk)) | (go_at_call 63; exact Calls.after_same (within_any _ _ _ _)))))
        refine wpQuiet_nil ?_
        rintro _ ⟨x, rfl⟩
        go_wp2
        go_ret
        exact ⟨ret_bool (HZ.out (by rw [HB.out, h1, h2]; rfl)).symm, hbx x⟩
      cases h3 : inB (F k 2) 1 1000
      · refine region_after (by kernel_rfl) (by kernel_rfl) ?_
        repeat (go_big_quiet_step ((first | (go_at_call 66; exact Calls.after (isWord_any _ _ hsk)) | (go_at_call 63; exact Calls.after_same (within_any _ _ _ _)))))
        refine wpQuiet_nil ?_
        rintro _ ⟨x, rfl⟩
        go_wp2
        go_ret
        exact ⟨ret_bool (HZ.out (by rw [HB.out, h1, h2, h3]; rfl)).symm, hbx x⟩
      by_cases h5 : 0 < k
      · have h6 : decide (k = 0) = false := by simp; omega
        cases h4 : Op.bytesLess (S (k - 1)).toList (S k).toList
        · have HB0 := hide (HZ.out (by rw [HB.out, h1, h2, h3, h4, h6]; rfl))
          clear h6
          refine region_after (by kernel_rfl) (by kernel_rfl) ?_
          repeat (go_big_quiet_step ((first | (go_at_call 66; exact Calls.after (isWord_any _ _ hsk)) | (go_at_call 63; exact Calls.after_same (within_any _ _ _ _)))))
          refine wpQuiet_nil ?_
          rintro _ ⟨x, rfl⟩
          go_wp2
          go_ret
          exact ⟨ret_bool HB0.out.symm, hbx x⟩
        · have HB1 := hide (HZ1.out (by rw [HB.out, h1, h2, h3, h4, h6]; rfl))
          clear h6
          refine region_after (by kernel_rfl) (by kernel_rfl) ?_
          repeat (go_big_quiet_step ((first | (go_at_call 66; exact Calls.after (isWord_any _ _ hsk)) | (go_at_call 63; exact Calls.after_same (within_any _ _ _ _)))))
          refine wpQuiet_nil ?_
          rintro _ ⟨x, rfl⟩
          go_wp2
          go_roundw
          case rel => exact ⟨k + 1, by omega, by go_num, HB1.out, hbx x⟩
          case measure => simp [intOf]; omega
      · have h4 : decide (0 < (k : Int)) = false := by simp; omega
        have h6 : decide (k = 0) = true := by simp; omega
        have HB1 := hide (HZ1.out (by rw [HB.out, h1, h2, h3, h6]; rfl))
        clear h6
        refine region_after (by kernel_rfl) (by kernel_rfl) ?_
        repeat (go_big_quiet_step ((first | (go_at_call 66; exact Calls.after (isWord_any _ _ hsk)) | (go_at_call 63; exact Calls.after_same (within_any _ _ _ _)))))
        refine wpQuiet_nil ?_
        rintro _ ⟨x, rfl⟩
        go_wp2
        go_roundw
        case rel => exact ⟨k + 1, by omega, by go_num, HB1.out, hbx x⟩
        case measure => simp [intOf]; omega
    · go_wp2_with (first | (go_at_call 63; refine (within_any _ _ _ _).mono ?_; rintro _ _ ⟨rfl, rfl⟩))
      go_ret
      obtain rfl : k = n := by omega
      exact ⟨ret_bool (by simp [kindsB, HG.out]), hb⟩
theorem spec_AreKinds_any (A : Option Addr) (n c : Nat) (S : Nat → ByteArray) (F : Nat → Nat → Int) (w : World) (hn : n ≤ 1048576) (HS : Hid (∀ i, i < n → (S i).size ≤ 9223372036854775807)) (h : Rd w A n 3 (kdC S F)) :
    Calls Tryd.prog 33 #[.slice A n c] w fun e w' => e = .returned (.bool (kindsB S F n)) ∧ Below w.heap.size w w' := by
  go_enter Tryd.func33, Tryd.ntmps33
  go_wp2_with (first | (go_at_call 67; refine (l10Good_any _ _ _ _ _ _ hn HS h).mono ?_; rintro _ w1 ⟨rfl, hb_w1⟩; have hc_w1 := bcell hb_w1))
  go_ret
  exact ⟨rfl, hb_w1⟩
end Go.Proofs.YtnmpfojcmedpeaaDoor
