/-
  Contracts on heaps: the highest, of the program and of the reference. Conditions: lengths up to 2^20.
-/
import Derived.Test.YtidcmdnhnnhnhaaHpC
namespace Go.Proofs.Ytidcmdnhnnhnhaa
open Go.RowKit

theorem bestH_one (p : HeapD → HeapD → Bool) (H : Nat → HeapD) : bestH p H 1 = 0 := by unfold bestH; split <;> rfl
theorem hp_at' {w w' : World} {b off : Nat} {n : Nat} {H : Nat → HeapD} {B : Nat → Option Addr} {c : Nat → Nat} (h1 : Sl w 0 w.heap.size (some ⟨b, off, none⟩) n 4 (hpC H B c)) (hb : Below w.heap.size w w') (hn : 0 < n) :
    b < w'.heap.size ∧ ∀ k, k < n → w'.cell? ⟨b, off + k * 4, none⟩ = some (.int .i64 (H k).id) ∧ w'.cell? ⟨b, off + k * 4 + 1, none⟩ = some (.int .i64 (H k).gr) ∧
      w'.cell? ⟨b, off + k * 4 + 2, none⟩ = some (.slice (B k) (H k).n (c k)) ∧ w'.cell? ⟨b, off + k * 4 + 3, none⟩ = some (.bool (H k).cov) := by
  obtain ⟨b', off', e, h2, hc⟩ := hp_at h1 hb hn
  obtain ⟨rfl, rfl⟩ : b = b' ∧ off = off' := by injection e with e; injection e with h1 h2; exact ⟨h1, h2⟩
  exact ⟨h2, hc⟩
theorem box4_at {w : World} {g : Nat} {H : Nat → HeapD} {B : Nat → Option Addr} {c : Nat → Nat} {p : Nat} (h : Ow w g (g + 1) (some ⟨g, 0, none⟩) 1 4 (fun _ j => hpC H B c p j)) :
    (w.cell? ⟨g, 0, none⟩ = some (.int .i64 (H p).id) ∧ w.cell? ⟨g, 1, none⟩ = some (.int .i64 (H p).gr) ∧ w.cell? ⟨g, 2, none⟩ = some (.slice (B p) (H p).n (c p)) ∧ w.cell? ⟨g, 3, none⟩ = some (.bool (H p).cov)) ∧
    w.frozen? ⟨g, 0, none⟩ = false ∧ w.frozen? ⟨g, 1, none⟩ = false ∧ w.frozen? ⟨g, 2, none⟩ = false ∧ w.frozen? ⟨g, 3, none⟩ = false := by
  obtain ⟨-, -, cc, f⟩ := h.at_ (i := 0) (by omega)
  have c0 := cc 0 (by omega)
  have c1 := cc 1 (by omega)
  have c2 := cc 2 (by omega)
  have c3 := cc 3 (by omega)
  have f0 := f 0 (by omega)
  have f1 := f 1 (by omega)
  have f2 := f 2 (by omega)
  have f3 := f 3 (by omega)
  simp only [Nat.zero_mul, Nat.zero_add] at c0 c1 c2 c3 f0 f1 f2 f3
  exact ⟨⟨c0, c1, c2, c3⟩, f0, f1, f2, f3⟩
theorem box4_set {w : World} {g : Nat} {H : Nat → HeapD} {B : Nat → Option Addr} {c : Nat → Nat} {p : Nat} (h : Ow w g (g + 1) (some ⟨g, 0, none⟩) 1 4 (fun _ j => hpC H B c p j)) (k : Nat) :
    Ow ((((w.setCell ⟨g, 0, none⟩ (.int .i64 (H k).id)).setCell ⟨g, 1, none⟩ (.int .i64 (H k).gr)).setCell ⟨g, 2, none⟩ (.slice (B k) (H k).n (c k))).setCell ⟨g, 3, none⟩ (.bool (H k).cov)) g (g + 1) (some ⟨g, 0, none⟩) 1 4 (fun _ j => hpC H B c k j) :=
  ((((h.set (i0 := 0) (j0 := 0) (o := 0) (by omega) (by omega) rfl _).set (i0 := 0) (j0 := 1) (o := 1) (by omega) (by omega) rfl _).set (i0 := 0) (j0 := 2) (o := 2) (by omega) (by omega) rfl _).set (i0 := 0) (j0 := 3) (o := 3) (by omega) (by omega) rfl _).congr fun i j hi hj => by
    obtain rfl : i = 0 := by omega
    match j, hj with
    | 0, _ => simp [upd, hpC]
    | 1, _ => simp [upd, hpC]
    | 2, _ => simp [upd, hpC]
    | 3, _ => simp [upd, hpC]
theorem box4_new (w : World) (t : TypeId) (H : Nat → HeapD) (B : Nat → Option Addr) (c : Nat → Nat) (p : Nat) :
    Ow (w.alloc (.cells #[.int .i64 (H p).id, .int .i64 (H p).gr, .slice (B p) (H p).n (c p), .bool (H p).cov] t)) w.heap.size (w.heap.size + 1) (some ⟨w.heap.size, 0, none⟩) 1 4 (fun _ j => hpC H B c p j) :=
  (Ow.box w #[.int .i64 (H p).id, .int .i64 (H p).gr, .slice (B p) (H p).n (c p), .bool (H p).cov] t).congr fun i j _ hj => by
    match j, hj with
    | 0, _ => rfl
    | 1, _ => rfl
    | 2, _ => rfl
    | 3, _ => rfl

set_option maxHeartbeats 2000000 in
theorem spec_HighestHeap_any (A : Option Addr) (n c : Nat) (H : Nat → HeapD) (w : World) (hn : n ≤ 1048576) (hln : ∀ i, i < n → (H i).n ≤ 1048576) (h : HpR w A n H) :
    Calls Try.prog 34 #[.slice A n c] w fun e w' => e = .returned (.tuple #[.int .i64 (highestR H n).1, .bool (highestR H n).2]) ∧ Below w.heap.size w w' := by
  cases h1 : heapsB H n
  · have HR := hide (show highestR H n = (0, false) by simp [highestR, h1])
    go_enter Try.func34, Try.ntmps34
    go_wp2_with (first | (go_at_call 66; refine (l7Good_any _ _ _ _ _ hn hln h).mono ?_; rintro _ w1 ⟨rfl, hb_w1⟩; have hc_w1 := bcell hb_w1))
    go_ret2
    exact ⟨ret_p HR.out, hb_w1⟩
  by_cases h0 : n = 0
  · subst h0
    have HR := hide (show highestR H 0 = (0, false) by simp [highestR])
    go_enter Try.func34, Try.ntmps34
    go_wp2_with (first | (go_at_call 66; refine (l7Good_any _ _ _ _ _ hn hln h).mono ?_; rintro _ w1 ⟨rfl, hb_w1⟩; have hc_w1 := bcell hb_w1))
    go_ret2
    exact ⟨ret_p HR.out, hb_w1⟩
  have HR := hide (show highestR H n = ((H (bestH higherB H n)).id, true) by simp [highestR, h1, h0])
  have hn0 : ((n : Int) == 0) = false := by simp; omega
  have hpos : 0 < n := by omega
  have HV := hide h1
  have HN := hide hln
  clear h0
  go_enter Try.func34, Try.ntmps34
  go_wp2_with (first | (go_at_call 66; refine (l7Good_any _ _ _ _ _ hn hln h).mono ?_; rintro _ w1 ⟨rfl, hb_w1⟩; have hc_w1 := bcell hb_w1))
  clear h1 hln hc_w1
  obtain ⟨B, cc, hS, hL⟩ := h
  have HL := hide hL
  clear hL
  obtain ⟨b, off, rfl, -, -⟩ := hp_at hS (Below.refl _ _) hpos
  go_loopw [4, 5] (fun q i wr => ∃ k : Nat, 1 ≤ k ∧ k ≤ n ∧ i = .int .i64 k ∧ q = .int .i64 (bestH higherB H k : Nat) ∧ Below w.heap.size w wr) (fun _ i _ => n - (intOf i).toNat)
  case atStart => exact ⟨1, by omega, by omega, rfl, by rw [bestH_one]; rfl, hb_w1⟩
  case round =>
    obtain ⟨k, hk1, hk, rfl, rfl, hb⟩ := hrel
    have hpl := bestH_lt higherB H k hk1
    have HS := hide (show bestH higherB H (k + 1) = if higherB (H k) (H (bestH higherB H k)) then k else bestH higherB H k from rfl)
    generalize hp : bestH higherB H k = p at hpl HS ⊢
    have HP := hide hp
    clear hp
    obtain ⟨hbw, hc⟩ := hp_at' hS hb hpos
    by_cases hlt : k < n
    · have hpn : p < n := by omega
      obtain ⟨-, -, v12, -⟩ := heapB_at ((heapsB_at HV.out).2 k hlt).1
      obtain ⟨-, -, u12, -⟩ := heapB_at ((heapsB_at HV.out).2 p hpn).1
      have HTk := tons_hid HV.out hlt
      have HTp := tons_hid HV.out hpn
      have HL1 := (HL.out k hlt).1
      have HL2 := (HL.out p hpn).1
      have hB := hide (show higherB (H k) (H p) = (decide ((H p).n < (H k).n) || ((H k).n == (H p).n && decide (tonsH (H p).n (H p).L < tonsH (H k).n (H k).L))) from rfl)
      have d0 := fun x : After wr => x.cell (hc k hlt).2.2.1 hbw
      have d1 := fun x : After wr => x.cell (hc p hpn).2.2.1 hbw
      clear hc
      go_wp2
      refine region_after (by kernel_rfl) (by kernel_rfl) ?_
      repeat (go_big_quiet_step ((first | fail)))
      refine wpQuiet_nil ?_
      rintro _ ⟨x, rfl⟩
      clear d0 d1
      replace hb := gr hb x.h
      generalize x.w = W2 at *
      clear x
      obtain ⟨hbw, hc⟩ := hp_at' hS hb hpos
      obtain ⟨c0, c1, c2, c3⟩ := hc k hlt
      obtain ⟨p0, p1, p2, p3⟩ := hc p hpn
      clear hc
      have d0 := fun x : After W2 => x.cell c0 hbw
      have d1 := fun x : After W2 => x.cell c1 hbw
      have d2 := fun x : After W2 => x.cell c2 hbw
      have d3 := fun x : After W2 => x.cell c3 hbw
      have q0 := fun x : After W2 => x.cell p0 hbw
      have q1 := fun x : After W2 => x.cell p1 hbw
      have q2 := fun x : After W2 => x.cell p2 hbw
      have q3 := fun x : After W2 => x.cell p3 hbw
      clear c0 c1 c2 c3 p0 p1 p2 p3
      have hl1 := fun x : After W2 => Rd.after (Rd.below HL1 hb) x
      have hl2 := fun x : After W2 => Rd.after (Rd.below HL2 hb) x
      clear HL1 HL2
      go_wp2
      by_cases hg : (H p).n < (H k).n
      · have hB' := hide (show higherB (H k) (H p) = true by rw [hB.out]; simp [hg])
        refine region_after (by kernel_rfl) (by kernel_rfl) ?_
        repeat (go_big_quiet_step ((first | (go_at_call 68; exact Calls.after (by first | exact l7Tons_any _ _ _ _ _ _ _ _ (by omega) (hl1 _) HTk | exact l7Tons_any _ _ _ _ _ _ _ _ (by omega) (hl2 _) HTp)))))
        refine wpQuiet_nil ?_
        rintro _ ⟨x, rfl⟩
        go_wp2
        go_roundw
        case rel => exact ⟨k + 1, by omega, by omega, by go_num, by rw [HS.out, if_pos hB'.out], gr hb x.h⟩
        case measure => simp [intOf]; omega
      · have hg' : decide ((H p).n < (H k).n) = false := by simpa using hg
        by_cases he : (H k).n = (H p).n
        · have he' : (((H k).n : Int) == ((H p).n : Int)) = true := by simp [he]
          have heN : ((H k).n == (H p).n) = true := by simp [he]
          have hq : decide (((H p).n : Int) < ((H k).n : Int)) = false := by simp; omega
          have HE := hide he
          cases ht : decide (tonsH (H p).n (H p).L < tonsH (H k).n (H k).L)
          · have hB' := hide (show higherB (H k) (H p) = false by rw [hB.out, hg', heN, ht]; rfl)
            clear he hg
            refine region_after (by kernel_rfl) (by kernel_rfl) ?_
            repeat (go_big_quiet_step ((first | (go_at_call 68; exact Calls.after (by first | exact l7Tons_any _ _ _ _ _ _ _ _ (by omega) (hl1 _) HTk | exact l7Tons_any _ _ _ _ _ _ _ _ (by omega) (hl2 _) HTp)))))
            refine wpQuiet_nil ?_
            rintro _ ⟨x, rfl⟩
            go_wp2
            go_roundw
            case rel => exact ⟨k + 1, by omega, by omega, by go_num, by rw [HS.out, hB'.out]; rfl, gr hb x.h⟩
            case measure => simp [intOf]; omega
          · have hB' := hide (show higherB (H k) (H p) = true by rw [hB.out, hg', heN, ht]; rfl)
            clear he hg
            refine region_after (by kernel_rfl) (by kernel_rfl) ?_
            repeat (go_big_quiet_step ((first | (go_at_call 68; exact Calls.after (by first | exact l7Tons_any _ _ _ _ _ _ _ _ (by omega) (hl1 _) HTk | exact l7Tons_any _ _ _ _ _ _ _ _ (by omega) (hl2 _) HTp)))))
            refine wpQuiet_nil ?_
            rintro _ ⟨x, rfl⟩
            go_wp2
            go_roundw
            case rel => exact ⟨k + 1, by omega, by omega, by go_num, by rw [HS.out, if_pos hB'.out], gr hb x.h⟩
            case measure => simp [intOf]; omega
        · have he' : (((H k).n : Int) == ((H p).n : Int)) = false := by simp; omega
          have heN : ((H k).n == (H p).n) = false := by simp; omega
          have hB' := hide (show higherB (H k) (H p) = false by rw [hB.out, hg', heN]; rfl)
          have hq : decide (((H p).n : Int) < ((H k).n : Int)) = false := by simp; omega
          clear he hg
          refine region_after (by kernel_rfl) (by kernel_rfl) ?_
          repeat (go_big_quiet_step ((first | (go_at_call 68; exact Calls.after (by first | exact l7Tons_any _ _ _ _ _ _ _ _ (by omega) (hl1 _) HTk | exact l7Tons_any _ _ _ _ _ _ _ _ (by omega) (hl2 _) HTp)))))
          refine wpQuiet_nil ?_
          rintro _ ⟨x, rfl⟩
          go_wp2
          go_roundw
          case rel => exact ⟨k + 1, by omega, by omega, by go_num, by rw [HS.out, hB'.out]; rfl, gr hb x.h⟩
          case measure => simp [intOf]; omega
    · have hpn : p < n := by omega
      have hc0 := (hc p hpn).1
      clear hc
      have HE := hide (show k = n by omega)
      go_wp2
      go_ret2
      exact ⟨ret_p (by rw [HR.out, ← HE.out, HP.out]), hb⟩


set_option maxRecDepth 20000 in
set_option maxHeartbeats 2000000 in
theorem HighestHeap_any (A : Option Addr) (n c : Nat) (H : Nat → HeapD) (w : World) (hn : n ≤ 1048576) (hln : ∀ i, i < n → (H i).n ≤ 1048576) (h : HpR w A n H) :
    Calls Try.prog 35 #[.slice A n c] w fun e w' => e = .returned (.tuple #[.int .i64 (highestR H n).1, .bool (highestR H n).2]) ∧ Below w.heap.size w w' := by
  cases h1 : heapsB H n
  · have HR := hide (show highestR H n = (0, false) by simp [highestR, h1])
    go_enter Try.func35, Try.ntmps35
    go_wp2_with (first | (go_at_call 30; refine (AreHeaps_any _ _ _ _ _ hn hln h).mono ?_; rintro _ w1 ⟨rfl, hb_w1⟩; have hc_w1 := bcell hb_w1))
    go_ret2
    exact ⟨ret_p HR.out, hb_w1⟩
  by_cases h0 : n = 0
  · subst h0
    have HR := hide (show highestR H 0 = (0, false) by simp [highestR])
    go_enter Try.func35, Try.ntmps35
    go_wp2_with (first | (go_at_call 30; refine (AreHeaps_any _ _ _ _ _ hn hln h).mono ?_; rintro _ w1 ⟨rfl, hb_w1⟩; have hc_w1 := bcell hb_w1))
    go_ret2
    exact ⟨ret_p HR.out, hb_w1⟩
  have HR := hide (show highestR H n = ((H (bestH higherB H n)).id, true) by simp [highestR, h1, h0])
  have hn0 : ((n : Int) == 0) = false := by simp; omega
  have hpos : 0 < n := by omega
  have HV := hide h1
  have HN := hide hln
  clear h0
  obtain ⟨B, cc, hS, hL⟩ := id h
  have HL := hide hL
  clear hL
  obtain ⟨b, off, rfl, -, -⟩ := hp_at hS (Below.refl _ _) hpos
  go_enter Try.func35, Try.ntmps35
  go_wp2_with fail
  go_at_call 30
  refine (AreHeaps_any _ _ _ _ _ hn hln h).mono ?_
  rintro _ w1 ⟨rfl, hb1⟩
  rw [h1]
  clear h1 hln h
  obtain ⟨hbw, hc⟩ := hp_at' hS hb1 hpos
  obtain ⟨c0, c1, c2, c3⟩ := hc 0 hpos
  simp only [Nat.zero_mul, Nat.add_zero] at c0 c1 c2 c3
  clear hc
  go_wp2
  have hO := box4_new w1 27 H B cc 0
  have hb2 : Below w.heap.size w (w1.alloc (.cells #[.int .i64 (H 0).id, .int .i64 (H 0).gr, .slice (B 0) (H 0).n (cc 0), .bool (H 0).cov] 27)) := hb1.alloc hb1.size _
  have hs2 : w1.heap.size < (w1.alloc (.cells #[.int .i64 (H 0).id, .int .i64 (H 0).gr, .slice (B 0) (H 0).n (cc 0), .bool (H 0).cov] 27)).heap.size := by simp
  generalize w1.alloc (.cells #[.int .i64 (H 0).id, .int .i64 (H 0).gr, .slice (B 0) (H 0).n (cc 0), .bool (H 0).cov] 27) = W1 at hO hb2 hs2 ⊢
  have hw1 := hb1.size
  clear c0 c1 c2 c3 hbw
  go_loopw [21] (fun i wr => ∃ k : Nat, k ≤ n ∧ i = .int .i64 k ∧ Ow wr w1.heap.size (w1.heap.size + 1) (some ⟨w1.heap.size, 0, none⟩) 1 4 (fun _ j => hpC H B cc (bestH higherB H k) j) ∧ w1.heap.size < wr.heap.size ∧ Below w.heap.size w wr) (fun i _ => n - (intOf i).toNat)
  case atStart => exact ⟨0, by omega, rfl, hO, hs2, hb2⟩
  case round =>
    clear hO hb2 hs2
    obtain ⟨k, hk, rfl, hO, hs, hb⟩ := hrel
    have hpl : bestH higherB H k < n := by
      rcases Nat.eq_zero_or_pos k with h0 | h0
      · subst h0; exact hpos
      · have := bestH_lt higherB H k h0; omega
    have HS := hide (show bestH higherB H (k + 1) = if higherB (H k) (H (bestH higherB H k)) then k else bestH higherB H k from rfl)
    generalize hp : bestH higherB H k = p at hpl HS hO
    have HP := hide hp
    clear hp
    by_cases hlt : k < n
    · obtain ⟨hbw, hc⟩ := hp_at' hS hb hpos
      obtain ⟨c0, c1, c2, c3⟩ := hc k hlt
      clear hc
      have hpn : p < n := by omega
      obtain ⟨-, -, v12, -⟩ := heapB_at ((heapsB_at HV.out).2 k hlt).1
      obtain ⟨-, -, u12, -⟩ := heapB_at ((heapsB_at HV.out).2 p hpn).1
      have HTk := tons_hid HV.out hlt
      have HTp := tons_hid HV.out hpn
      have HL1 := (HL.out k hlt).1
      have HL2 := (HL.out p hpn).1
      have hB := hide (show higherB (H k) (H p) = (decide ((H p).n < (H k).n) || ((H k).n == (H p).n && decide (tonsH (H p).n (H p).L < tonsH (H k).n (H k).L))) from rfl)
      obtain ⟨⟨a0, a1, a2, a3⟩, -⟩ := box4_at hO
      go_wp2
      have hbW : Below wr.heap.size wr (wr.alloc (.cells #[.int .i64 (H k).id, .int .i64 (H k).gr, .slice (B k) (H k).n (cc k), .bool (H k).cov] 27)) := (Below.refl _ _).alloc (Nat.le_refl _) _
      have hsW : wr.heap.size < (wr.alloc (.cells #[.int .i64 (H k).id, .int .i64 (H k).gr, .slice (B k) (H k).n (cc k), .bool (H k).cov] 27)).heap.size := by simp
      have e0 : World.cell? (wr.alloc (.cells #[.int .i64 (H k).id, .int .i64 (H k).gr, .slice (B k) (H k).n (cc k), .bool (H k).cov] 27)) ⟨wr.heap.size, 0, none⟩ = some (.int .i64 (H k).id) := by rw [World.cell?_alloc_new]; rfl
      have e1 : World.cell? (wr.alloc (.cells #[.int .i64 (H k).id, .int .i64 (H k).gr, .slice (B k) (H k).n (cc k), .bool (H k).cov] 27)) ⟨wr.heap.size, 1, none⟩ = some (.int .i64 (H k).gr) := by rw [World.cell?_alloc_new]; rfl
      have e2 : World.cell? (wr.alloc (.cells #[.int .i64 (H k).id, .int .i64 (H k).gr, .slice (B k) (H k).n (cc k), .bool (H k).cov] 27)) ⟨wr.heap.size, 2, none⟩ = some (.slice (B k) (H k).n (cc k)) := by rw [World.cell?_alloc_new]; rfl
      have e3 : World.cell? (wr.alloc (.cells #[.int .i64 (H k).id, .int .i64 (H k).gr, .slice (B k) (H k).n (cc k), .bool (H k).cov] 27)) ⟨wr.heap.size, 3, none⟩ = some (.bool (H k).cov) := by rw [World.cell?_alloc_new]; rfl
      generalize wr.alloc (.cells #[.int .i64 (H k).id, .int .i64 (H k).gr, .slice (B k) (H k).n (cc k), .bool (H k).cov] 27) = W2 at hbW hsW e0 e1 e2 e3 ⊢
      clear c0 c1 c2 c3 a0 a1 a2 a3
      replace hO := hO.below hbW (by omega)
      have hz2 : w1.heap.size < W2.heap.size := by omega
      obtain ⟨⟨a0, a1, a2, a3⟩, -⟩ := box4_at hO
      have d2 := fun x : After W2 => x.cell e2 hsW
      have q2 := fun x : After W2 => x.cell a2 hz2
      have hl1 := fun x : After W2 => Rd.after (Rd.below HL1 (gr hb hbW)) x
      have hl2 := fun x : After W2 => Rd.after (Rd.below HL2 (gr hb hbW)) x
      have HT1 := hide (show tonsH (H k).n (H k).L = sumI (fun j => (H k).L j 0) (H k).n from rfl)
      have HT2 := hide (show tonsH (H p).n (H p).L = sumI (fun j => (H p).L j 0) (H p).n from rfl)
      have E0 := hide e0
      have E1 := hide e1
      have E2 := hide e2
      have E3 := hide e3
      clear HL1 HL2 a0 a1 a2 a3 e0 e1 e2 e3
      have fin : ∀ x : After W2, higherB (H k) (H p) = false → Ow x.w w1.heap.size (w1.heap.size + 1) (some ⟨w1.heap.size, 0, none⟩) 1 4 (fun _ j => hpC H B cc (bestH higherB H (k + 1)) j) ∧ w1.heap.size < x.w.heap.size ∧ Below w.heap.size w x.w := fun x hB' => by
        rw [HS.out, hB']
        exact ⟨hO.below x.h (by omega), by have := x.h.size; omega, gr hb (gr hbW x.h)⟩
      have HF := hide fin
      clear fin
      by_cases hg : (H p).n < (H k).n
      · have hB' := hide (show higherB (H k) (H p) = true by rw [hB.out]; simp [hg])
        have hg2 : decide ((0 : Int) < ((H k).n : Int) - ((H p).n : Int)) = true := by simp; omega
        refine region_after (by kernel_rfl) (by kernel_rfl) ?_
        repeat (go_big_quiet_step ((first | (go_at_call 69; exact Calls.after_same (by first | exact sumOf_any _ _ _ _ _ (by omega) (hl1 _) HTk | exact sumOf_any _ _ _ _ _ (by omega) (hl2 _) HTp)))))
        refine wpQuiet_nil ?_
        rintro _ ⟨x, rfl⟩
        clear d2 q2 hl1 hl2
        replace hO := hO.below x.h (by omega)
        obtain ⟨⟨a0, a1, a2, a3⟩, f0, f1, f2, f3⟩ := box4_at hO
        have e0 := x.cell E0.out hsW
        have e1 := x.cell E1.out hsW
        have e2 := x.cell E2.out hsW
        have e3 := x.cell E3.out hsW
        have hsx := x.h.size
        go_wp2
        go_roundw
        case rel =>
          refine ⟨k + 1, by omega, by go_num, ?_, by simp; omega, ?_⟩
          · rw [HS.out, if_pos hB'.out]; exact box4_set hO k
          · exact ((((gr hb (gr hbW x.h)).setCell (p := ⟨w1.heap.size, 0, none⟩) hw1 _).setCell (p := ⟨w1.heap.size, 1, none⟩) hw1 _).setCell (p := ⟨w1.heap.size, 2, none⟩) hw1 _).setCell (p := ⟨w1.heap.size, 3, none⟩) hw1 _
        case measure => simp [intOf]; omega
      · have hg' : decide ((H p).n < (H k).n) = false := by simpa using hg
        have hg2 : decide ((0 : Int) < ((H k).n : Int) - ((H p).n : Int)) = false := by simp; omega
        have hg3 : decide (((H p).n : Int) < ((H k).n : Int)) = false := by simp; omega
        by_cases he : (H k).n = (H p).n
        · have he' : (((H k).n : Int) - ((H p).n : Int) == 0) = true := by simp [he]
          have heN : ((H k).n == (H p).n) = true := by simp [he]
          by_cases ht : sumI (fun j => (H p).L j 0) (H p).n < sumI (fun j => (H k).L j 0) (H k).n
          · have hB' := hide (show higherB (H k) (H p) = true by rw [hB.out, hg', heN, HT1.out, HT2.out]; simpa using ht)
            clear he hg
            refine region_after (by kernel_rfl) (by kernel_rfl) ?_
            repeat (go_big_quiet_step ((first | (go_at_call 69; exact Calls.after_same (by first | exact sumOf_any _ _ _ _ _ (by omega) (hl1 _) HTk | exact sumOf_any _ _ _ _ _ (by omega) (hl2 _) HTp)))))
            refine wpQuiet_nil ?_
            rintro _ ⟨x, rfl⟩
            clear d2 q2 hl1 hl2
            replace hO := hO.below x.h (by omega)
            obtain ⟨⟨a0, a1, a2, a3⟩, f0, f1, f2, f3⟩ := box4_at hO
            have e0 := x.cell E0.out hsW
            have e1 := x.cell E1.out hsW
            have e2 := x.cell E2.out hsW
            have e3 := x.cell E3.out hsW
            have hsx := x.h.size
            go_wp2
            go_roundw
            case rel =>
              refine ⟨k + 1, by omega, by go_num, ?_, by simp; omega, ?_⟩
              · rw [HS.out, if_pos hB'.out]; exact box4_set hO k
              · exact ((((gr hb (gr hbW x.h)).setCell (p := ⟨w1.heap.size, 0, none⟩) hw1 _).setCell (p := ⟨w1.heap.size, 1, none⟩) hw1 _).setCell (p := ⟨w1.heap.size, 2, none⟩) hw1 _).setCell (p := ⟨w1.heap.size, 3, none⟩) hw1 _
            case measure => simp [intOf]; omega
          · have hB' := hide (show higherB (H k) (H p) = false by rw [hB.out, hg', heN, HT1.out, HT2.out]; simpa using ht)
            clear he hg
            refine region_after (by kernel_rfl) (by kernel_rfl) ?_
            repeat (go_big_quiet_step ((first | (go_at_call 69; exact Calls.after_same (by first | exact sumOf_any _ _ _ _ _ (by omega) (hl1 _) HTk | exact sumOf_any _ _ _ _ _ (by omega) (hl2 _) HTp)))))
            refine wpQuiet_nil ?_
            rintro _ ⟨x, rfl⟩
            go_wp2
            go_roundw
            case rel => exact ⟨k + 1, by omega, by go_num, HF.out x hB'.out⟩
            case measure => simp [intOf]; omega
        · have he' : (((H k).n : Int) - ((H p).n : Int) == 0) = false := by simp; omega
          have heN : ((H k).n == (H p).n) = false := by simp; omega
          have hB' := hide (show higherB (H k) (H p) = false by rw [hB.out, hg', heN]; rfl)
          clear he hg
          refine region_after (by kernel_rfl) (by kernel_rfl) ?_
          repeat (go_big_quiet_step ((first | (go_at_call 69; exact Calls.after_same (by first | exact sumOf_any _ _ _ _ _ (by omega) (hl1 _) HTk | exact sumOf_any _ _ _ _ _ (by omega) (hl2 _) HTp)))))
          refine wpQuiet_nil ?_
          rintro _ ⟨x, rfl⟩
          go_wp2
          go_roundw
          case rel => exact ⟨k + 1, by omega, by go_num, HF.out x hB'.out⟩
          case measure => simp [intOf]; omega
    · have hz : w1.heap.size < wr.heap.size := hs
      obtain ⟨⟨a0, -, -, -⟩, -⟩ := box4_at hO
      have HE := hide (show k = n by omega)
      go_wp2
      go_ret2
      exact ⟨ret_p (by rw [HR.out, ← HE.out, HP.out]), hb⟩
end Go.Proofs.Ytidcmdnhnnhnhaa
