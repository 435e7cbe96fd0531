/-
  Contracts on workers: what a gang rakes on a day and in a week, sizes of the gangs, of the program and of the reference. Conditions: valid workers.
-/
import Derived.Test.YtmblkjnpibcmoaaWkA
import Derived.Test.YtmblkjnpibcmoaaApp
import Derived.Test.YtmblkjnpibcmoaaInts
namespace Go.Proofs.Ytmblkjnpibcmoaa
open Go.RowKit

set_option maxHeartbeats 2000000 in
theorem raked_any (A : Option Addr) (n c : Nat) (F : Nat → Nat → Int) (C : Nat → Bool) (g d o : Int) (w : World) (HV : Hid (worksB F n = true)) (h : Rd w A n 5 (wkC F C)) :
    Calls Try.prog 60 #[.slice A n c, .int .i64 g, .int .i64 d, .int .i64 o] w fun e w' => e = .returned (.int .i64 (rakedV F C n g d o)) ∧ Below w.heap.size w w' := by
  have hn12 := (worksB_at HV.out).1
  go_enter Try.func60, Try.ntmps60
  go_wp2
  go_loopw [9, 10, 11, 16] (fun q s c i wr => ∃ k : Nat, k ≤ n ∧ i = .int .i64 k ∧ q = .int .i64 (rkN F g d o k) ∧ s = .int .i64 (rkS F g d o k) ∧ c = .bool (rkC F C g d o k) ∧ Below w.heap.size w wr) (fun _ _ _ i _ => n - (intOf i).toNat)
  case atStart => exact ⟨0, by omega, rfl, rfl, rfl, rfl, Below.refl _ _⟩
  case round =>
    obtain ⟨k, hk, rfl, rfl, rfl, rfl, hb⟩ := hrel
    obtain ⟨⟨n1, n2⟩, s1, s2⟩ := rk_bd HV.out g d o k hk
    by_cases hlt : k < n
    · obtain ⟨b, off, rfl, hbw, hc⟩ := wk_at h hb (by omega)
      obtain ⟨c0, c1, c2, c3, c4⟩ := hc k hlt
      clear hc
      obtain ⟨-, -, ⟨r1, r2⟩, -⟩ := work_at HV.out hlt
      go_upto_region 5 with fail
      have hbW : Below wr.heap.size wr (wr.alloc (.cells #[.int .i64 (F k 0), .int .i64 (F k 1), .int .i64 (F k 2), .bool (C k), .int .i64 (F k 4)] 54)) := (Below.refl _ _).alloc (Nat.le_refl _) _
      have hsW : wr.heap.size < (wr.alloc (.cells #[.int .i64 (F k 0), .int .i64 (F k 1), .int .i64 (F k 2), .bool (C k), .int .i64 (F k 4)] 54)).heap.size := by simp
      have e0 : World.cell? (wr.alloc (.cells #[.int .i64 (F k 0), .int .i64 (F k 1), .int .i64 (F k 2), .bool (C k), .int .i64 (F k 4)] 54)) ⟨wr.heap.size, 0, none⟩ = some (.int .i64 (F k 0)) := by rw [World.cell?_alloc_new]; rfl
      have e1 : World.cell? (wr.alloc (.cells #[.int .i64 (F k 0), .int .i64 (F k 1), .int .i64 (F k 2), .bool (C k), .int .i64 (F k 4)] 54)) ⟨wr.heap.size, 1, none⟩ = some (.int .i64 (F k 1)) := by rw [World.cell?_alloc_new]; rfl
      have e2 : World.cell? (wr.alloc (.cells #[.int .i64 (F k 0), .int .i64 (F k 1), .int .i64 (F k 2), .bool (C k), .int .i64 (F k 4)] 54)) ⟨wr.heap.size, 2, none⟩ = some (.int .i64 (F k 2)) := by rw [World.cell?_alloc_new]; rfl
      have e3 : World.cell? (wr.alloc (.cells #[.int .i64 (F k 0), .int .i64 (F k 1), .int .i64 (F k 2), .bool (C k), .int .i64 (F k 4)] 54)) ⟨wr.heap.size, 3, none⟩ = some (.bool (C k)) := by rw [World.cell?_alloc_new]; rfl
      have e4 : World.cell? (wr.alloc (.cells #[.int .i64 (F k 0), .int .i64 (F k 1), .int .i64 (F k 2), .bool (C k), .int .i64 (F k 4)] 54)) ⟨wr.heap.size, 4, none⟩ = some (.int .i64 (F k 4)) := by rw [World.cell?_alloc_new]; rfl
      generalize wr.alloc (.cells #[.int .i64 (F k 0), .int .i64 (F k 1), .int .i64 (F k 2), .bool (C k), .int .i64 (F k 4)] 54) = W2 at hbW hsW e0 e1 e2 e3 e4 ⊢
      clear c0 c1 c2 c3 c4
      cases h1 : (F k 1 == g)
      · have HS := hide (show rkN F g d o (k + 1) = rkN F g d o k ∧ rkS F g d o (k + 1) = rkS F g d o k ∧ rkC F C g d o (k + 1) = rkC F C g d o k by simp [rkN, rkS, rkC, inG, h1])
        go_wp2
        go_roundw
        case rel => exact ⟨k + 1, by omega, by go_num, by rw [HS.out.1], by rw [HS.out.2.1], by rw [HS.out.2.2], gr hb hbW⟩
        case measure => simp [intOf]; omega
      cases h2 : (F k 4 == d)
      · cases h3 : (F k 0 == o)
        · have hin : inG F g d o k = true := by simp [inG, h1, h2, h3]
          have HS := hide (show rkN F g d o (k + 1) = rkN F g d o k + 1 ∧ rkS F g d o (k + 1) = rkS F g d o k + F k 2 ∧ rkC F C g d o (k + 1) = (rkC F C g d o k || C k) by simp [rkN, rkS, rkC, hin])
          generalize rkN F g d o k = N at *
          generalize rkS F g d o k = S at *
          generalize rkC F C g d o k = K at *
          clear hin
          have h2' : (F k 4 != d) = true := by simp [bne, h2]
          have h3' : (F k 0 != o) = true := by simp [bne, h3]
          cases K
          · go_wp2
            go_roundw
            case rel => exact ⟨k + 1, by omega, by go_num, by rw [HS.out.1], by rw [HS.out.2.1], by rw [HS.out.2.2]; rfl, gr hb hbW⟩
            case measure => simp [intOf]; omega
          · go_wp2
            go_roundw
            case rel => exact ⟨k + 1, by omega, by go_num, by rw [HS.out.1], by rw [HS.out.2.1], by rw [HS.out.2.2]; rfl, gr hb hbW⟩
            case measure => simp [intOf]; omega
        · have h2' : (F k 4 != d) = true := by simp [bne, h2]
          have h3' : (F k 0 != o) = false := by simp [bne, h3]
          have HS := hide (show rkN F g d o (k + 1) = rkN F g d o k ∧ rkS F g d o (k + 1) = rkS F g d o k ∧ rkC F C g d o (k + 1) = rkC F C g d o k by simp [rkN, rkS, rkC, inG, h3])
          go_wp2
          go_roundw
          case rel => exact ⟨k + 1, by omega, by go_num, by rw [HS.out.1], by rw [HS.out.2.1], by rw [HS.out.2.2], gr hb hbW⟩
          case measure => simp [intOf]; omega
      · have h2' : (F k 4 != d) = false := by simp [bne, h2]
        have HS := hide (show rkN F g d o (k + 1) = rkN F g d o k ∧ rkS F g d o (k + 1) = rkS F g d o k ∧ rkC F C g d o (k + 1) = rkC F C g d o k by simp [rkN, rkS, rkC, inG, h2])
        go_wp2
        go_roundw
        case rel => exact ⟨k + 1, by omega, by go_num, by rw [HS.out.1], by rw [HS.out.2.1], by rw [HS.out.2.2], gr hb hbW⟩
        case measure => simp [intOf]; omega
    · obtain rfl : k = n := by omega
      have HR := hide (show worksG F C k g d o = (!decide (rkN F g d o k < 2) && rkC F C g d o k) from rfl)
      have HV2 := hide (show rakedV F C k g d o = if worksG F C k g d o then rkS F g d o k else 0 from rfl)
      cases h4 : decide (rkN F g d o k < 2)
      · cases h5 : rkC F C g d o k
        · have HR2 := hide (show worksG F C k g d o = false by rw [HR.out, h4, h5]; rfl)
          go_wp2
          go_ret
          exact ⟨by rw [HV2.out, HR2.out]; rfl, hb⟩
        · have HR2 := hide (show worksG F C k g d o = true by rw [HR.out, h4, h5]; rfl)
          go_wp2
          go_ret
          exact ⟨by rw [HV2.out, HR2.out]; rfl, hb⟩
      · have HR2 := hide (show worksG F C k g d o = false by rw [HR.out, h4]; rfl)
        go_wp2
        go_ret
        exact ⟨by rw [HV2.out, HR2.out]; rfl, hb⟩
set_option maxHeartbeats 2000000 in
theorem l5Raked_any (A : Option Addr) (n c : Nat) (F : Nat → Nat → Int) (C : Nat → Bool) (g d o : Int) (w : World) (HV : Hid (worksB F n = true)) (h : Rd w A n 5 (wkC F C)) :
    Calls Try.prog 58 #[.slice A n c, .int .i64 g, .int .i64 d, .int .i64 o] w fun e w' => e = .returned (.tuple #[.int .i64 (rakedV F C n g d o), .bool (worksG F C n g d o)]) ∧ Below w.heap.size w w' := by
  have hn12 := (worksB_at HV.out).1
  go_enter Try.func58, Try.ntmps58
  go_wp2
  go_loopw [10, 11, 12, 13] (fun q s c i wr => ∃ k : Nat, k ≤ n ∧ i = .int .i64 k ∧ q = .int .i64 (rkN F g d o k) ∧ s = .int .i64 (rkS F g d o k) ∧ c = .bool (rkC F C g d o k) ∧ Below w.heap.size w wr) (fun _ _ _ i _ => n - (intOf i).toNat)
  case atStart => exact ⟨0, by omega, rfl, rfl, rfl, rfl, Below.refl _ _⟩
  case round =>
    obtain ⟨k, hk, rfl, rfl, rfl, rfl, hb⟩ := hrel
    obtain ⟨⟨n1, n2⟩, s1, s2⟩ := rk_bd HV.out g d o k hk
    by_cases hlt : k < n
    · obtain ⟨b, off, rfl, hbw, hc⟩ := wk_at h hb (by omega)
      obtain ⟨c0, c1, c2, c3, c4⟩ := hc k hlt
      clear hc
      obtain ⟨-, -, ⟨r1, r2⟩, -⟩ := work_at HV.out hlt
      go_upto_region 6 with fail
      have hbW : Below wr.heap.size wr (wr.alloc (.cells #[.int .i64 (F k 0), .int .i64 (F k 1), .int .i64 (F k 2), .bool (C k), .int .i64 (F k 4)] 54)) := (Below.refl _ _).alloc (Nat.le_refl _) _
      have hsW : wr.heap.size < (wr.alloc (.cells #[.int .i64 (F k 0), .int .i64 (F k 1), .int .i64 (F k 2), .bool (C k), .int .i64 (F k 4)] 54)).heap.size := by simp
      have e0 : World.cell? (wr.alloc (.cells #[.int .i64 (F k 0), .int .i64 (F k 1), .int .i64 (F k 2), .bool (C k), .int .i64 (F k 4)] 54)) ⟨wr.heap.size, 0, none⟩ = some (.int .i64 (F k 0)) := by rw [World.cell?_alloc_new]; rfl
      have e1 : World.cell? (wr.alloc (.cells #[.int .i64 (F k 0), .int .i64 (F k 1), .int .i64 (F k 2), .bool (C k), .int .i64 (F k 4)] 54)) ⟨wr.heap.size, 1, none⟩ = some (.int .i64 (F k 1)) := by rw [World.cell?_alloc_new]; rfl
      have e2 : World.cell? (wr.alloc (.cells #[.int .i64 (F k 0), .int .i64 (F k 1), .int .i64 (F k 2), .bool (C k), .int .i64 (F k 4)] 54)) ⟨wr.heap.size, 2, none⟩ = some (.int .i64 (F k 2)) := by rw [World.cell?_alloc_new]; rfl
      have e3 : World.cell? (wr.alloc (.cells #[.int .i64 (F k 0), .int .i64 (F k 1), .int .i64 (F k 2), .bool (C k), .int .i64 (F k 4)] 54)) ⟨wr.heap.size, 3, none⟩ = some (.bool (C k)) := by rw [World.cell?_alloc_new]; rfl
      have e4 : World.cell? (wr.alloc (.cells #[.int .i64 (F k 0), .int .i64 (F k 1), .int .i64 (F k 2), .bool (C k), .int .i64 (F k 4)] 54)) ⟨wr.heap.size, 4, none⟩ = some (.int .i64 (F k 4)) := by rw [World.cell?_alloc_new]; rfl
      generalize wr.alloc (.cells #[.int .i64 (F k 0), .int .i64 (F k 1), .int .i64 (F k 2), .bool (C k), .int .i64 (F k 4)] 54) = W2 at hbW hsW e0 e1 e2 e3 e4 ⊢
      clear c0 c1 c2 c3 c4
      cases h1 : (F k 1 == g)
      · have HS := hide (show rkN F g d o (k + 1) = rkN F g d o k ∧ rkS F g d o (k + 1) = rkS F g d o k ∧ rkC F C g d o (k + 1) = rkC F C g d o k by simp [rkN, rkS, rkC, inG, h1])
        go_wp2
        go_roundw
        case rel => exact ⟨k + 1, by omega, by go_num, by rw [HS.out.1], by rw [HS.out.2.1], by rw [HS.out.2.2], gr hb hbW⟩
        case measure => simp [intOf]; omega
      cases h2 : (F k 4 == d)
      · cases h3 : (F k 0 == o)
        · have hin : inG F g d o k = true := by simp [inG, h1, h2, h3]
          have HS := hide (show rkN F g d o (k + 1) = rkN F g d o k + 1 ∧ rkS F g d o (k + 1) = rkS F g d o k + F k 2 ∧ rkC F C g d o (k + 1) = (rkC F C g d o k || C k) by simp [rkN, rkS, rkC, hin])
          generalize rkN F g d o k = N at *
          generalize rkS F g d o k = S at *
          generalize rkC F C g d o k = K at *
          clear hin
          have h2' : (F k 4 != d) = true := by simp [bne, h2]
          have h3' : (F k 0 != o) = true := by simp [bne, h3]
          cases K
          · go_wp2
            go_roundw
            case rel => exact ⟨k + 1, by omega, by go_num, by rw [HS.out.1], by rw [HS.out.2.1], by rw [HS.out.2.2]; rfl, gr hb hbW⟩
            case measure => simp [intOf]; omega
          · go_wp2
            go_roundw
            case rel => exact ⟨k + 1, by omega, by go_num, by rw [HS.out.1], by rw [HS.out.2.1], by rw [HS.out.2.2]; rfl, gr hb hbW⟩
            case measure => simp [intOf]; omega
        · have h2' : (F k 4 != d) = true := by simp [bne, h2]
          have h3' : (F k 0 != o) = false := by simp [bne, h3]
          have HS := hide (show rkN F g d o (k + 1) = rkN F g d o k ∧ rkS F g d o (k + 1) = rkS F g d o k ∧ rkC F C g d o (k + 1) = rkC F C g d o k by simp [rkN, rkS, rkC, inG, h3])
          go_wp2
          go_roundw
          case rel => exact ⟨k + 1, by omega, by go_num, by rw [HS.out.1], by rw [HS.out.2.1], by rw [HS.out.2.2], gr hb hbW⟩
          case measure => simp [intOf]; omega
      · have h2' : (F k 4 != d) = false := by simp [bne, h2]
        have HS := hide (show rkN F g d o (k + 1) = rkN F g d o k ∧ rkS F g d o (k + 1) = rkS F g d o k ∧ rkC F C g d o (k + 1) = rkC F C g d o k by simp [rkN, rkS, rkC, inG, h2])
        go_wp2
        go_roundw
        case rel => exact ⟨k + 1, by omega, by go_num, by rw [HS.out.1], by rw [HS.out.2.1], by rw [HS.out.2.2], gr hb hbW⟩
        case measure => simp [intOf]; omega
    · obtain rfl : k = n := by omega
      have HR := hide (show worksG F C k g d o = (!decide (rkN F g d o k < 2) && rkC F C g d o k) from rfl)
      have HV2 := hide (show rakedV F C k g d o = if worksG F C k g d o then rkS F g d o k else 0 from rfl)
      cases h4 : decide (rkN F g d o k < 2)
      · cases h5 : rkC F C g d o k
        · have HR2 := hide (show worksG F C k g d o = false by rw [HR.out, h4, h5]; rfl)
          go_wp2
          go_ret2
          exact ⟨by rw [HV2.out, HR2.out]; rfl, hb⟩
        · have HR2 := hide (show worksG F C k g d o = true by rw [HR.out, h4, h5]; rfl)
          go_wp2
          go_ret2
          exact ⟨by rw [HV2.out, HR2.out]; rfl, hb⟩
      · have HR2 := hide (show worksG F C k g d o = false by rw [HR.out, h4]; rfl)
        go_wp2
        go_ret2
        exact ⟨by rw [HV2.out, HR2.out]; rfl, hb⟩
end Go.Proofs.Ytmblkjnpibcmoaa
