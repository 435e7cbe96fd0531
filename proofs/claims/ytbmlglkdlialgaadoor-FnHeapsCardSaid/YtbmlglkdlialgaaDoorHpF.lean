/-
  Contracts on heaps: the one on which a layer is put best, of the program and of the reference. Conditions: lengths up to 2^20.
-/
import Derived.Test.YtbmlglkdlialgaaDoorHpE
namespace Go.Proofs.YtbmlglkdlialgaaDoor
open Go.RowKit

theorem heapForR_cases {H : Nat → HeapD} {n : Nat} {g t : Int} (h1 : heapsB H n = true) (h2 : inB g 1 4 = true) (h3 : inB t 1 500 = true) :
    heapForR H n g t = if forI H g t n < 0 then (0, false) else ((H (forI H g t n).toNat).id, true) := by simp [heapForR, h1, h2, h3]

set_option maxRecDepth 20000 in
set_option maxHeartbeats 2000000 in
theorem spec_HeapFor_any (A : Option Addr) (n c : Nat) (H : Nat → HeapD) (g t : Int) (w : World) (hn : n ≤ 1048576) (hln : ∀ i, i < n → (H i).n ≤ 1048576) (h : HpR w A n H) :
    Calls Tryd.prog 20 #[.slice A n c, .int .i64 g, .int .i64 t] w fun e w' => e = .returned (.tuple #[.int .i64 (heapForR H n g t).1, .bool (heapForR H n g t).2]) ∧ Below w.heap.size w w' := by
  cases h1 : heapsB H n
  · have HR := hide (show heapForR H n g t = (0, false) by simp [heapForR, h1])
    go_enter Tryd.func20, Tryd.ntmps20
    go_wp2_with (first | (go_at_call 53; refine (l7Good_any _ _ _ _ _ hn hln h).mono ?_; rintro _ w1 ⟨rfl, hb_w1⟩; have hc_w1 := bcell hb_w1))
    go_ret2
    exact ⟨ret_p HR.out, hb_w1⟩
  cases h2 : inB g 1 4
  · have HR := hide (show heapForR H n g t = (0, false) by simp [heapForR, h2])
    go_enter Tryd.func20, Tryd.ntmps20
    go_wp2_with (first | (go_at_call 53; refine (l7Good_any _ _ _ _ _ hn hln h).mono ?_; rintro _ w1 ⟨rfl, hb_w1⟩; have hc_w1 := bcell hb_w1) | (go_at_call 54; refine (l7Grade_any _ _).mono ?_; rintro _ _ ⟨rfl, rfl⟩))
    go_ret2
    exact ⟨ret_p HR.out, hb_w1⟩
  cases h3 : inB t 1 500
  · have HR := hide (show heapForR H n g t = (0, false) by simp [heapForR, h3])
    go_enter Tryd.func20, Tryd.ntmps20
    go_wp2_with (first | (go_at_call 53; refine (l7Good_any _ _ _ _ _ hn hln h).mono ?_; rintro _ w1 ⟨rfl, hb_w1⟩; have hc_w1 := bcell hb_w1) | (go_at_call 54; refine (l7Grade_any _ _).mono ?_; rintro _ _ ⟨rfl, rfl⟩) | (go_at_call 55; refine (l1In_any _ _ _ _).mono ?_; rintro _ _ ⟨rfl, rfl⟩))
    go_ret2
    exact ⟨ret_p HR.out, hb_w1⟩
  have HR := hide (heapForR_cases h1 h2 h3)
  have HV := hide h1
  have HN := hide hln
  go_enter Tryd.func20, Tryd.ntmps20
  go_wp2_with (first | (go_at_call 53; refine (l7Good_any _ _ _ _ _ hn hln h).mono ?_; rintro _ w1 ⟨rfl, hb_w1⟩; have hc_w1 := bcell hb_w1) | (go_at_call 54; refine (l7Grade_any _ _).mono ?_; rintro _ _ ⟨rfl, rfl⟩) | (go_at_call 55; refine (l1In_any _ _ _ _).mono ?_; rintro _ _ ⟨rfl, rfl⟩))
  clear h1 h2 h3 hln hc_w1
  obtain ⟨B, cc, hS, hL⟩ := h
  have HL := hide hL
  clear hL
  go_loopw [8, 9] (fun q i wr => ∃ k : Nat, k ≤ n ∧ i = .int .i64 k ∧ q = .int .i64 (forI H g t k) ∧ Below w.heap.size w wr) (fun _ i _ => n - (intOf i).toNat)
  case atStart => exact ⟨0, by omega, rfl, rfl, hb_w1⟩
  case round =>
    obtain ⟨k, hk, rfl, rfl, hb⟩ := hrel
    obtain ⟨hS1, hS2⟩ := forI_bd H g t k
    by_cases hlt : k < n
    · obtain ⟨b, off, rfl, hbw, hc⟩ := hp_at hS hb (by omega)
      obtain ⟨c0, c1, c2, c3⟩ := hc k hlt
      have HS := hide (show forI H g t (k + 1) = if takesB (H k) g t = true ∧ (forI H g t k < 0 ∨ topH (H k).n (H k).L < topH (H (forI H g t k).toNat).n (H (forI H g t k).toNat).L) then (k : Int) else forI H g t k from rfl)
      have HVk := hide ((heapsB_at HV.out).2 k hlt).1
      have hlk := HN.out k hlt
      have HTB := hide (show takesB ⟨(H k).id, (H k).gr, (H k).n, (H k).L, (H k).cov⟩ g t = takesB (H k) g t from rfl)
      have d0 := fun x : After wr => x.cell c0 hbw
      have d1 := fun x : After wr => x.cell c1 hbw
      have d2 := fun x : After wr => x.cell c2 hbw
      have d3 := fun x : After wr => x.cell c3 hbw
      clear c0 c1 c2 c3
      have hl1 := fun x : After wr => Rd.after (Rd.below (HL.out k hlt).1 hb) x
      have hcan : ∀ x : After wr, Calls Tryd.prog 44 #[.agg #[.int .i64 (H k).id, .int .i64 (H k).gr, .slice (B k) (H k).n (cc k), .bool (H k).cov], .int .i64 g, .int .i64 t] x.w fun e w' => e = .returned (.bool (takesB (H k) g t)) ∧ Below x.w.heap.size x.w w' := fun x => l7Can_any _ _ _ _ _ _ _ _ _ _ HVk (hl1 x)
      generalize forI H g t k = S at hS1 hS2 HS ⊢
      generalize takesB (H k) g t = T at hcan HS
      go_wp2
      cases T
      · clear hc
        refine region_after (by kernel_rfl) (by kernel_rfl) ?_
        repeat (go_big_quiet_step ((first | (go_at_call 44; exact Calls.after (hcan _)))))
        refine wpQuiet_nil ?_
        rintro _ ⟨x, rfl⟩
        go_wp2
        go_roundw
        case rel => exact ⟨k + 1, by omega, by go_num, by rw [HS.out]; simp, gr hb x.h⟩
        case measure => simp [intOf]; omega
      · by_cases hS : S < 0
        · obtain rfl : S = -1 := by omega
          clear hS hc
          refine region_after (by kernel_rfl) (by kernel_rfl) ?_
          repeat (go_big_quiet_step ((first | (go_at_call 44; exact Calls.after (hcan _)))))
          refine wpQuiet_nil ?_
          rintro _ ⟨x, rfl⟩
          go_wp2
          go_roundw
          case rel => exact ⟨k + 1, by omega, by go_num, by rw [HS.out, if_pos ⟨rfl, Or.inl (by omega)⟩], gr hb x.h⟩
          case measure => simp [intOf]; omega
        · obtain ⟨p, rfl⟩ : ∃ p : Nat, S = p := ⟨S.toNat, by omega⟩
          have hpn : p < n := by omega
          obtain ⟨p0, p1, p2, p3⟩ := hc p hpn
          have q0 := fun x : After wr => x.cell p0 hbw
          have q1 := fun x : After wr => x.cell p1 hbw
          have q2 := fun x : After wr => x.cell p2 hbw
          have q3 := fun x : After wr => x.cell p3 hbw
          have hlp := HN.out p hpn
          have hl2 := fun x : After wr => Rd.after (Rd.below (HL.out p hpn).1 hb) x
          clear hc hS p0 p1 p2 p3
          have hS : decide ((p : Int) < 0) = false := by simp
          rw [show (p : Int).toNat = p from Int.toNat_natCast p] at HS
          by_cases hs : topH (H k).n (H k).L < topH (H p).n (H p).L
          · refine region_after (by kernel_rfl) (by kernel_rfl) ?_
            repeat (go_big_quiet_step ((first | (go_at_call 44; exact Calls.after (hcan _)) | (go_at_call 56; exact Calls.after (by first | exact l7Top_any _ _ _ _ _ _ _ _ hlk (hl1 _) | exact l7Top_any _ _ _ _ _ _ _ _ hlp (hl2 _))))))
            refine wpQuiet_nil ?_
            rintro _ ⟨x, rfl⟩
            go_wp2
            go_roundw
            case rel => exact ⟨k + 1, by omega, by go_num, by rw [HS.out, if_pos ⟨rfl, Or.inr hs⟩], gr hb x.h⟩
            case measure => simp [intOf]; omega
          · refine region_after (by kernel_rfl) (by kernel_rfl) ?_
            repeat (go_big_quiet_step ((first | (go_at_call 44; exact Calls.after (hcan _)) | (go_at_call 56; exact Calls.after (by first | exact l7Top_any _ _ _ _ _ _ _ _ hlk (hl1 _) | exact l7Top_any _ _ _ _ _ _ _ _ hlp (hl2 _))))))
            refine wpQuiet_nil ?_
            rintro _ ⟨x, rfl⟩
            go_wp2
            go_roundw
            case rel => exact ⟨k + 1, by omega, by go_num, by rw [HS.out, if_neg (fun hh => hs (hh.2.resolve_left (by omega)))], gr hb x.h⟩
            case measure => simp [intOf]; omega
    · obtain rfl : k = n := by omega
      by_cases hS0 : forI H g t k < 0
      · have HR' := hide (show heapForR H k g t = (0, false) by rw [HR.out, if_pos hS0])
        go_wp2
        go_ret2
        exact ⟨ret_p HR'.out, hb⟩
      · have HR' := hide (show heapForR H k g t = ((H (forI H g t k).toNat).id, true) by rw [HR.out, if_neg hS0])
        obtain ⟨p, hp⟩ : ∃ p : Nat, forI H g t k = p := ⟨(forI H g t k).toNat, by omega⟩
        have hpk : p < k := by omega
        rw [hp] at HR' ⊢
        rw [show (p : Int).toNat = p from Int.toNat_natCast p] at HR'
        have hd : decide ((p : Int) < 0) = false := by simp
        obtain ⟨b, off, rfl, hbw, hc⟩ := hp_at hS hb (by omega)
        have c0 := (hc p hpk).1
        clear hc hS0 hp hS1 hS2
        go_wp2
        go_ret2
        exact ⟨ret_p HR'.out, hb⟩

set_option maxRecDepth 20000 in
set_option maxHeartbeats 2000000 in
theorem HeapFor_any (A : Option Addr) (n c : Nat) (H : Nat → HeapD) (g t : Int) (w : World) (hn : n ≤ 1048576) (hln : ∀ i, i < n → (H i).n ≤ 1048576) (h : HpR w A n H) :
    Calls Tryd.prog 19 #[.slice A n c, .int .i64 g, .int .i64 t] w fun e w' => e = .returned (.tuple #[.int .i64 (heapForR H n g t).1, .bool (heapForR H n g t).2]) ∧ Below w.heap.size w w' := by
  cases h1 : heapsB H n
  · have HR := hide (show heapForR H n g t = (0, false) by simp [heapForR, h1])
    go_enter Tryd.func19, Tryd.ntmps19
    go_wp2_with (first | (go_at_call 17; refine (AreHeaps_any _ _ _ _ _ hn hln h).mono ?_; rintro _ w1 ⟨rfl, hb_w1⟩; have hc_w1 := bcell hb_w1))
    go_ret2
    exact ⟨ret_p HR.out, hb_w1⟩
  cases h2 : inB g 1 4
  · have HR := hide (show heapForR H n g t = (0, false) by simp [heapForR, h2])
    go_enter Tryd.func19, Tryd.ntmps19
    go_wp2_with (first | (go_at_call 17; refine (AreHeaps_any _ _ _ _ _ hn hln h).mono ?_; rintro _ w1 ⟨rfl, hb_w1⟩; have hc_w1 := bcell hb_w1) | (go_at_call 47; refine (isGrade_any _ _).mono ?_; rintro _ _ ⟨rfl, rfl⟩))
    go_ret2
    exact ⟨ret_p HR.out, hb_w1⟩
  cases h3 : inB t 1 500
  · have HR := hide (show heapForR H n g t = (0, false) by simp [heapForR, h3])
    go_enter Tryd.func19, Tryd.ntmps19
    go_wp2_with (first | (go_at_call 17; refine (AreHeaps_any _ _ _ _ _ hn hln h).mono ?_; rintro _ w1 ⟨rfl, hb_w1⟩; have hc_w1 := bcell hb_w1) | (go_at_call 47; refine (isGrade_any _ _).mono ?_; rintro _ _ ⟨rfl, rfl⟩) | (go_at_call 51; refine (isLayer_any _ _).mono ?_; rintro _ _ ⟨rfl, rfl⟩))
    go_ret2
    exact ⟨ret_p HR.out, hb_w1⟩
  have HR := hide (heapForR_cases h1 h2 h3)
  have HV := hide h1
  have HN := hide hln
  go_enter Tryd.func19, Tryd.ntmps19
  go_wp2_with (first | (go_at_call 17; refine (AreHeaps_any _ _ _ _ _ hn hln h).mono ?_; rintro _ w1 ⟨rfl, hb_w1⟩; have hc_w1 := bcell hb_w1) | (go_at_call 47; refine (isGrade_any _ _).mono ?_; rintro _ _ ⟨rfl, rfl⟩) | (go_at_call 51; refine (isLayer_any _ _).mono ?_; rintro _ _ ⟨rfl, rfl⟩))
  clear h1 h2 h3 hln hc_w1
  obtain ⟨B, cc, hS, hL⟩ := h
  have HL := hide hL
  clear hL
  go_loopw [8, 26] (fun q i wr => ∃ k : Nat, k ≤ n ∧ i = .int .i64 k ∧ q = .int .i64 (forI H g t k) ∧ Below w.heap.size w wr) (fun _ i _ => n - (intOf i).toNat)
  case atStart => exact ⟨0, by omega, rfl, rfl, hb_w1⟩
  case round =>
    obtain ⟨k, hk, rfl, rfl, hb⟩ := hrel
    obtain ⟨hS1, hS2⟩ := forI_bd H g t k
    by_cases hlt : k < n
    · obtain ⟨b, off, rfl, hbw, hc⟩ := hp_at hS hb (by omega)
      obtain ⟨c0, c1, c2, c3⟩ := hc k hlt
      have HS := hide (show forI H g t (k + 1) = if takesB (H k) g t = true ∧ (forI H g t k < 0 ∨ topH (H k).n (H k).L < topH (H (forI H g t k).toNat).n (H (forI H g t k).toNat).L) then (k : Int) else forI H g t k from rfl)
      have HVk := hide ((heapsB_at HV.out).2 k hlt).1
      have hlk := HN.out k hlt
      have HTB := hide (show takesB ⟨(H k).id, (H k).gr, (H k).n, (H k).L, (H k).cov⟩ g t = takesB (H k) g t from rfl)
      generalize forI H g t k = S at hS1 hS2 HS ⊢
      go_wp2
      have hbW : Below wr.heap.size wr (wr.alloc (.cells #[.int .i64 (H k).id, .int .i64 (H k).gr, .slice (B k) (H k).n (cc k), .bool (H k).cov] 28)) := (Below.refl _ _).alloc (Nat.le_refl _) _
      have hsW : wr.heap.size < (wr.alloc (.cells #[.int .i64 (H k).id, .int .i64 (H k).gr, .slice (B k) (H k).n (cc k), .bool (H k).cov] 28)).heap.size := by simp
      have e0 : World.cell? (wr.alloc (.cells #[.int .i64 (H k).id, .int .i64 (H k).gr, .slice (B k) (H k).n (cc k), .bool (H k).cov] 28)) ⟨wr.heap.size, 0, none⟩ = some (.int .i64 (H k).id) := by rw [World.cell?_alloc_new]; rfl
      have e1 : World.cell? (wr.alloc (.cells #[.int .i64 (H k).id, .int .i64 (H k).gr, .slice (B k) (H k).n (cc k), .bool (H k).cov] 28)) ⟨wr.heap.size, 1, none⟩ = some (.int .i64 (H k).gr) := by rw [World.cell?_alloc_new]; rfl
      have e2 : World.cell? (wr.alloc (.cells #[.int .i64 (H k).id, .int .i64 (H k).gr, .slice (B k) (H k).n (cc k), .bool (H k).cov] 28)) ⟨wr.heap.size, 2, none⟩ = some (.slice (B k) (H k).n (cc k)) := by rw [World.cell?_alloc_new]; rfl
      have e3 : World.cell? (wr.alloc (.cells #[.int .i64 (H k).id, .int .i64 (H k).gr, .slice (B k) (H k).n (cc k), .bool (H k).cov] 28)) ⟨wr.heap.size, 3, none⟩ = some (.bool (H k).cov) := by rw [World.cell?_alloc_new]; rfl
      generalize wr.alloc (.cells #[.int .i64 (H k).id, .int .i64 (H k).gr, .slice (B k) (H k).n (cc k), .bool (H k).cov] 28) = W2 at hbW hsW e0 e1 e2 e3 ⊢
      clear c0 c1 c2 c3
      have hbz : b < W2.heap.size := by omega
      have d0 := fun x : After W2 => x.cell e0 hsW
      have d1 := fun x : After W2 => x.cell e1 hsW
      have d2 := fun x : After W2 => x.cell e2 hsW
      have d3 := fun x : After W2 => x.cell e3 hsW
      clear e0 e1 e2 e3
      have hl1 := fun x : After W2 => Rd.after (Rd.below (HL.out k hlt).1 (gr hb hbW)) x
      have hbx := fun x : After W2 => gr hb (gr hbW x.h)
      have hcan : ∀ x : After W2, Calls Tryd.prog 41 #[.agg #[.int .i64 (H k).id, .int .i64 (H k).gr, .slice (B k) (H k).n (cc k), .bool (H k).cov], .int .i64 g, .int .i64 t] x.w fun e w' => e = .returned (.bool (takesB (H k) g t)) ∧ Below x.w.heap.size x.w w' := fun x => takes_any _ _ _ _ _ _ _ _ _ _ hlk (hl1 x)
      generalize takesB (H k) g t = T at hcan HS
      cases T
      · clear hc
        refine region_after (by kernel_rfl) (by kernel_rfl) ?_
        repeat (go_big_quiet_step ((first | (go_at_call 41; exact Calls.after (hcan _)))))
        refine wpQuiet_nil ?_
        rintro _ ⟨x, rfl⟩
        go_wp2
        go_roundw
        case rel => exact ⟨k + 1, by omega, by go_num, by rw [HS.out]; simp, hbx x⟩
        case measure => simp [intOf]; omega
      · by_cases hS : S < 0
        · obtain rfl : S = -1 := by omega
          clear hS hc
          refine region_after (by kernel_rfl) (by kernel_rfl) ?_
          repeat (go_big_quiet_step ((first | (go_at_call 41; exact Calls.after (hcan _)))))
          refine wpQuiet_nil ?_
          rintro _ ⟨x, rfl⟩
          go_wp2
          go_roundw
          case rel => exact ⟨k + 1, by omega, by go_num, by rw [HS.out, if_pos ⟨rfl, Or.inl (by omega)⟩], hbx x⟩
          case measure => simp [intOf]; omega
        · obtain ⟨p, rfl⟩ : ∃ p : Nat, S = p := ⟨S.toNat, by omega⟩
          have hpn : p < n := by omega
          have p2 := (hbW.cell (by exact hbw)).trans (hc p hpn).2.2.1
          have q2 := fun x : After W2 => x.cell p2 hbz
          have hlp := HN.out p hpn
          have hl2 := fun x : After W2 => Rd.after (Rd.below (HL.out p hpn).1 (gr hb hbW)) x
          clear hc hS p2
          have hS : decide ((p : Int) < 0) = false := by simp
          rw [show (p : Int).toNat = p from Int.toNat_natCast p] at HS
          by_cases hs : topH (H k).n (H k).L < topH (H p).n (H p).L
          · refine region_after (by kernel_rfl) (by kernel_rfl) ?_
            repeat (go_big_quiet_step ((first | (go_at_call 41; exact Calls.after (hcan _)) | (go_at_call 52; exact Calls.after_same (by first | exact topOf_any _ _ _ _ _ hlk (hl1 _) | exact topOf_any _ _ _ _ _ hlp (hl2 _))))))
            refine wpQuiet_nil ?_
            rintro _ ⟨x, rfl⟩
            go_wp2
            go_roundw
            case rel => exact ⟨k + 1, by omega, by go_num, by rw [HS.out, if_pos ⟨rfl, Or.inr hs⟩], hbx x⟩
            case measure => simp [intOf]; omega
          · refine region_after (by kernel_rfl) (by kernel_rfl) ?_
            repeat (go_big_quiet_step ((first | (go_at_call 41; exact Calls.after (hcan _)) | (go_at_call 52; exact Calls.after_same (by first | exact topOf_any _ _ _ _ _ hlk (hl1 _) | exact topOf_any _ _ _ _ _ hlp (hl2 _))))))
            refine wpQuiet_nil ?_
            rintro _ ⟨x, rfl⟩
            go_wp2
            go_roundw
            case rel => exact ⟨k + 1, by omega, by go_num, by rw [HS.out, if_neg (fun hh => hs (hh.2.resolve_left (by omega)))], hbx x⟩
            case measure => simp [intOf]; omega
    · obtain rfl : k = n := by omega
      by_cases hS0 : forI H g t k < 0
      · have HR' := hide (show heapForR H k g t = (0, false) by rw [HR.out, if_pos hS0])
        go_wp2
        go_ret2
        exact ⟨ret_p HR'.out, hb⟩
      · have HR' := hide (show heapForR H k g t = ((H (forI H g t k).toNat).id, true) by rw [HR.out, if_neg hS0])
        obtain ⟨p, hp⟩ : ∃ p : Nat, forI H g t k = p := ⟨(forI H g t k).toNat, by omega⟩
        have hpk : p < k := by omega
        rw [hp] at HR' ⊢
        rw [show (p : Int).toNat = p from Int.toNat_natCast p] at HR'
        have hd : decide ((p : Int) < 0) = false := by simp
        obtain ⟨b, off, rfl, hbw, hc⟩ := hp_at hS hb (by omega)
        have c0 := (hc p hpk).1
        clear hc hS0 hp hS1 hS2
        go_wp2
        go_ret2
        exact ⟨ret_p HR'.out, hb⟩
end Go.Proofs.YtbmlglkdlialgaaDoor
