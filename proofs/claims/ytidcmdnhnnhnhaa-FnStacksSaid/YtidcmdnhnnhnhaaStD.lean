/-
  Contracts of the laws' helpers on lists of lists of numbers: comparison, marks, and whether the marks are held. Conditions: lengths up to 2^20.
-/
import Derived.Test.YtidcmdnhnnhnhaaStB
import Derived.Test.YtidcmdnhnnhnhaaHpL
namespace Go.Proofs.Ytidcmdnhnnhnhaa
open Go.RowKit

/-- The cells of a row of rows. -/
def tsC (H : Nat → HeapD) (B : Nat → Option Addr) (c : Nat → Nat) : Nat → Nat → Value := fun i _ => .slice (B i) (H i).n (c i)
def Ts (w : World) (lo hi : Nat) (A : Option Addr) (n : Nat) (H : Nat → HeapD) : Prop :=
  ∃ B c, Sl w lo hi A n 1 (tsC H B c) ∧ ∀ i, i < n → Sl w lo hi (B i) (H i).n 1 (ints (H i).L) ∧ (H i).n ≤ maxLen
theorem Ts.mono {w : World} {lo hi lo' hi' : Nat} {A : Option Addr} {n : Nat} {H : Nat → HeapD} (h : Ts w lo hi A n H) (hl : lo' ≤ lo) (hh : hi ≤ hi') : Ts w lo' hi' A n H := by
  obtain ⟨B, c, h1, h2⟩ := h
  exact ⟨B, c, h1.mono hl hh, fun i hi => ⟨(h2 i hi).1.mono hl hh, (h2 i hi).2⟩⟩
abbrev TsR (w : World) (A : Option Addr) (n : Nat) (H : Nat → HeapD) : Prop := Ts w 0 w.heap.size A n H
/-- .. of the call's own: no two rows share a block, nor one with the top row. -/
def TsO (w : World) (lo hi : Nat) (A : Option Addr) (n : Nat) (H : Nat → HeapD) : Prop :=
  ∃ B c, Ow w lo hi A n 1 (tsC H B c) ∧ (∀ i, i < n → Ow w lo hi (B i) (H i).n 1 (ints (H i).L) ∧ (H i).n ≤ maxLen) ∧
    (∀ i j, i < n → j < n → i ≠ j → 0 < (H i).n → 0 < (H j).n → blkO (B i) ≠ blkO (B j)) ∧ ∀ i, i < n → 0 < (H i).n → blkO (B i) ≠ blkO A
theorem TsO.agr {w w' : World} {lo hi : Nat} {A : Option Addr} {n : Nat} {H : Nat → HeapD} (h : TsO w lo hi A n H) (ha : Agr lo hi w w') : TsO w' lo hi A n H := by
  obtain ⟨B, c, h1, h2, h3, h4⟩ := h
  exact ⟨B, c, h1.agr ha, fun i hi => ⟨(h2 i hi).1.agr ha, (h2 i hi).2⟩, h3, h4⟩
theorem TsO.sl {w : World} {lo hi : Nat} {A : Option Addr} {n : Nat} {H : Nat → HeapD} (h : TsO w lo hi A n H) : Ts w lo hi A n H := by
  obtain ⟨B, c, h1, h2, h3, h4⟩ := h
  exact ⟨B, c, h1.sl, fun i hi => ⟨(h2 i hi).1.sl, (h2 i hi).2⟩⟩
theorem TbX.tsO {w : World} {lo n p : Nat} {v : Value} {H : Nat → HeapD} {V : Nat → Value} (h : TbX w lo v n H V p) : ∃ A c, v = .slice A n c ∧ TsO w lo w.heap.size A n H := by
  obtain ⟨A, c, e, hO⟩ := own_tab h.own
  refine ⟨A, c, e, ?_⟩
  have hex : ∀ i, ∃ q : Option Addr × Nat, i < n → V i = .slice q.1 (H i).n q.2 ∧ Ow w lo w.heap.size q.1 (H i).n 1 (ints (H i).L) := fun i => by
    by_cases hi : i < n
    · obtain ⟨A, c, e, hO⟩ := own_tab (h.lay.own i hi)
      exact ⟨(A, c), fun _ => ⟨e, hO⟩⟩
    · exact ⟨(none, 0), fun h => absurd h hi⟩
  obtain ⟨q, hq⟩ := Classical.axiomOfChoice hex
  have hblk : ∀ i, i < n → 0 < (H i).n → (V i).ownBlock = some (blkO (q i).1) := fun i hi h0 => by
    obtain ⟨e, hO⟩ := hq i hi
    obtain ⟨b, off, hA, -⟩ := hO.sl h0
    rw [e, hA]; rfl
  refine ⟨fun i => (q i).1, fun i => (q i).2, hO.congr fun i j hi hj => (hq i hi).1, fun i hi => ⟨(hq i hi).2, own_maxLen (h.lay.own i hi)⟩, fun i j hi hj hij h1 h2 => ?_, fun i hi h1 => ?_⟩
  · have := h.lay.ne i j hi hj hij
    rw [hblk i hi h1, hblk j hj h2] at this
    rcases this with h | h
    · cases h
    · exact fun e => h (by rw [e])
  · have h2 := h.lay.np i hi
    rw [hblk i hi h1] at h2
    obtain ⟨b, off, hA, -⟩ := hO.sl (show 0 < n by omega)
    intro e'
    rcases h.blk with hb | hb
    · rw [e, hA] at hb
      simp [Value.ownBlock] at hb
      rw [hA] at e'
      exact h2 (by rw [e', ← hb]; rfl)
    · rw [e, hA] at hb
      simp [Value.ownBlock] at hb
/-- What a function leaves that returns stacks, as the laws read it. -/
def StkQ (w : World) (R : StkRes) (e : Ending) (w' : World) : Prop :=
  ∃ A c, e = .returned (.tuple #[.slice A R.m c, .bool R.ok]) ∧ TsO w' w.heap.size w'.heap.size A R.m R.H ∧ Below w.heap.size w w'
theorem StkP.q {w w' : World} {R : StkRes} {e : Ending} (h : StkP w R e w') : StkQ w R e w' := by
  obtain ⟨v, V, p, he, hT, hb⟩ := h
  obtain ⟨A, c, rfl, hO⟩ := hT.tsO
  exact ⟨A, c, he, hO, hb⟩
/-- Marks. -/
def mkS (k0 : Int) (H : Nat → HeapD) : Nat → Int
  | 0 => k0
  | i + 1 => mkS k0 H i + (H i).n
def mkT (k0 : Int) (H : Nat → HeapD) : Nat → HeapD := fun i => ⟨0, 0, (H i).n, marks1 (mkS k0 H i), false⟩
def mixT (k0 : Int) (H : Nat → HeapD) (k : Nat) : Nat → HeapD := fun i => if i < k then mkT k0 H i else H i
theorem mkS_bd {k0 : Int} {H : Nat → HeapD} {n : Nat} (h : ∀ i, i < n → (H i).n ≤ 1048576) : ∀ i, i ≤ n → k0 ≤ mkS k0 H i ∧ mkS k0 H i ≤ k0 + i * 1048576 := by
  intro i
  induction i with
  | zero => intro _; simp [mkS]
  | succ i ih =>
    intro hi
    have := ih (by omega)
    have := h i (by omega)
    simp only [mkS]
    omega
theorem mixT_at (k0 : Int) (H : Nat → HeapD) (k : Nat) : mixT k0 H (k + 1) k = mkT k0 H k := by simp [mixT]
theorem mixT_ne (k0 : Int) (H : Nat → HeapD) {k i : Nat} (h : i ≠ k) : mixT k0 H (k + 1) i = mixT k0 H k i := by
  have : i < k + 1 ↔ i < k := by omega
  simp [mixT, this]
theorem mixT_n (k0 : Int) (H : Nat → HeapD) (k i : Nat) : (mixT k0 H k i).n = (H i).n := by
  unfold mixT; split <;> rfl

set_option maxHeartbeats 1000000 in
theorem eqIntSS_yes (A A' : Option Addr) (n c c' : Nat) (H : Nat → HeapD) (w : World) (hn : n ≤ 1048576) (hln : ∀ i, i < n → (H i).n ≤ 1048576) (h : TsR w A n H) (h' : TsR w A' n H) :
    Calls Try.prog 22 #[.slice A n c, .slice A' n c'] w fun e w' => e = .returned (.bool true) ∧ Below w.heap.size w w' := by
  obtain ⟨B, cc, hS, hL⟩ := h
  obtain ⟨B', cc', hS', hL'⟩ := h'
  have HL := hide hL
  have HL' := hide hL'
  have HN := hide hln
  clear hL hL' hln
  go_enter Try.func22, Try.ntmps22
  go_wp2
  go_loopw [5] (fun i wr => ∃ k : Nat, k ≤ n ∧ i = .int .i64 k ∧ Below w.heap.size w wr) (fun i _ => n - (intOf i).toNat)
  case atStart => exact ⟨0, by omega, rfl, Below.refl _ _⟩
  case round =>
    obtain ⟨k, hk, rfl, hb⟩ := hrel
    by_cases hlt : k < n
    · obtain ⟨b, off, rfl, -, hbw, hc⟩ := Rd.below hS hb (by omega)
      obtain ⟨b', off', rfl, -, hbw', hc'⟩ := Rd.below hS' hb (by omega)
      have k0 := hc k 0 hlt (by omega)
      have k0' := hc' k 0 hlt (by omega)
      simp only [Nat.add_zero, Nat.mul_one, tsC] at k0 k0'
      have d0 := fun x : After wr => x.cell k0 hbw
      have d0' := fun x : After wr => x.cell k0' hbw'
      clear hc hc' k0 k0'
      have hl := fun x : After wr => Rd.after (Rd.below (HL.out k hlt).1 hb) x
      have hl' := fun x : After wr => Rd.after (Rd.below (HL'.out k hlt).1 hb) x
      have hlk := HN.out k hlt
      go_wp2
      refine region_after (by kernel_rfl) (by kernel_rfl) ?_
      repeat (go_big_quiet_step ((first | (go_at_call 23; exact Calls.after (eqIntS_yes _ _ _ _ _ _ _ hlk (hl _) (hl' _))))))
      refine wpQuiet_nil ?_
      rintro _ ⟨x, rfl⟩
      go_wp2
      go_roundw
      case rel => exact ⟨k + 1, by omega, by go_num, gr hb x.h⟩
      case measure => simp [intOf]; omega
    · obtain rfl : k = n := by omega
      go_wp2
      go_ret
      exact ⟨rfl, hb⟩
set_option maxHeartbeats 4000000 in
theorem markIntSS_any (lo hi : Nat) (A : Option Addr) (n c : Nat) (H : Nat → HeapD) (w : World) (hn : n ≤ 1048576) (hln : ∀ i, i < n → (H i).n ≤ 1048576) (hh : hi ≤ w.heap.size) (h : TsO w lo hi A n H) :
    Calls Try.prog 25 #[.slice A n c, .int .i64 1] w fun e w' => e = .returned (.int .i64 (mkS 1 H n)) ∧ Tch lo hi w w' ∧ TsO w' lo hi A n (mkT 1 H) := by
  have HN := hide hln
  have HK := hide (mkS_bd (k0 := 1) hln)
  clear hln
  obtain ⟨B, cc, hT, hL, hne, hnA⟩ := h
  have HL := hide hL
  have HNE := hide hne
  have HNA := hide hnA
  clear hL hne hnA
  go_enter Try.func25, Try.ntmps25
  go_wp2
  go_loopw [1, 5] (fun q i wr => ∃ k : Nat, k ≤ n ∧ i = .int .i64 k ∧ q = .int .i64 (mkS 1 H k) ∧ Tch lo hi w wr ∧ Ow wr lo hi A n 1 (tsC H B cc) ∧ Hid (∀ i, i < n → Ow wr lo hi (B i) (H i).n 1 (ints (mixT 1 H k i).L) ∧ (H i).n ≤ maxLen)) (fun _ i _ => n - (intOf i).toNat)
  case atStart => exact ⟨0, by omega, rfl, rfl, Tch.refl _ _ _, hT, hide fun i hi => by simpa [mixT] using HL.out i hi⟩
  case round =>
    clear hT HL
    obtain ⟨k, hk, rfl, rfl, ht, hT, HL⟩ := hrel
    obtain ⟨k1, k2⟩ := HK.out k hk
    have HS := hide (show mkS 1 H (k + 1) = mkS 1 H k + (H k).n from rfl)
    by_cases hlt : k < n
    · obtain ⟨b, off, rfl, hb1, hb2, hc⟩ := hT.sl (by omega)
      have k0 := hc k 0 hlt (by omega)
      simp only [Nat.add_zero, Nat.mul_one, tsC] at k0
      clear hc
      obtain ⟨hlO, hlm⟩ := HL.out k hlt
      have hlk := HN.out k hlt
      have hsz := ht.size
      have hbs : b < wr.heap.size := by omega
      have hnb : 0 < (H k).n → blkO (B k) ≠ b := fun h0 => HNA.out k hlt h0
      have hbB : 0 < (H k).n → blkO (B k) < wr.heap.size := fun h0 => by have := (hlO.bd h0).2; omega
      obtain ⟨l, hi', hl0, hl1, hl2, hl3⟩ : ∃ l hi', Ow wr l hi' (B k) (H k).n 1 (ints (mixT 1 H k k).L) ∧ hi' ≤ wr.heap.size ∧ (∀ q, l ≤ q → q < hi' → 0 < (H k).n ∧ q = blkO (B k)) ∧ (l < hi' → lo ≤ l ∧ hi' ≤ hi) := by
        rcases Nat.eq_zero_or_pos (H k).n with h0 | h0
        · exact ⟨0, 0, by rw [h0]; exact Ow.nil _ _ _ _ _ _, Nat.zero_le _, fun q h1 h2 => by omega, fun h => by omega⟩
        · have h2 := hlO.bd h0
          exact ⟨blkO (B k), blkO (B k) + 1, hlO.tightB, by have := hbB h0; omega, fun q h1 h2 => ⟨h0, by omega⟩, fun _ => ⟨h2.1, h2.2⟩⟩
      generalize hK : mkS 1 H k = K at *
      have HKK := hide hK
      clear hK
      go_wp2_with fail
      go_at_call 24
      refine (markIntS_any l hi' _ _ _ K _ _ hlk (by omega) (by omega) hl1 hl0).mono ?_
      rintro _ w2 ⟨rfl, ht2, hO2⟩
      have hnl : ¬ (l ≤ b ∧ b < hi') := fun h => by have := hl2 b h.1 h.2; exact hnb this.1 this.2.symm
      have HT2 := hide ht2
      have HO2 := hide hO2
      have HT := hide hT
      have HH2 := hide hl2
      have HH3 := hide hl3
      clear ht2 hO2 hl0 hT hlO hl2 hl3 k0
      go_wp2
      go_roundw
      case rel =>
        have hbk : w2.heap[b]? = wr.heap[b]? := HT2.out.block b hbs hnl
        refine ⟨k + 1, by omega, by go_num, by rw [HS.out], ht.trans (HT2.out.wide HH3.out), HT.out.far fun _ => hbk, hide fun i hin => ⟨?_, (HL.out i hin).2⟩⟩
        by_cases e : i = k
        · subst e
          rw [mixT_at]
          have hO2 := HO2.out.loose (lo := lo) (hi := hi) fun h0 => (HL.out i hin).1.bd h0
          simp only [mkT, HKK.out]
          exact hO2
        · rw [mixT_ne 1 H e]
          refine (HL.out i hin).1.far fun h0 => ?_
          have hil := ((HL.out i hin).1.bd h0).2
          refine HT2.out.block (blkO (B i)) (by omega) fun hx => ?_
          obtain ⟨q1, q2⟩ := HH2.out _ hx.1 hx.2
          exact HNE.out i k hin hlt e h0 q1 q2
      case measure => simp [intOf]; omega
    · obtain rfl : k = n := by omega
      go_wp2
      go_ret
      exact ⟨rfl, ht, B, cc, hT, fun i hi => by simpa [mixT, hi, mkT] using HL.out i hi, fun i j hi hj hij h1 h2 => HNE.out i j hi hj hij h1 h2, fun i hi h1 => HNA.out i hi h1⟩
set_option maxHeartbeats 1000000 in
theorem heldIntSS_any (A : Option Addr) (n c : Nat) (H : Nat → HeapD) (w : World) (hn : n ≤ 1048576) (hln : ∀ i, i < n → (H i).n ≤ 1048576) (h : TsR w A n (mkT 1 H)) :
    Calls Try.prog 26 #[.slice A n c, .int .i64 1] w fun e w' => e = .returned (.int .i64 (mkS 1 H n)) ∧ w = w' := by
  have HN := hide hln
  have HK := hide (mkS_bd (k0 := 1) hln)
  clear hln
  obtain ⟨B, cc, hS, hL⟩ := h
  have HL := hide hL
  clear hL
  go_enter Try.func26, Try.ntmps26
  go_wp2
  go_loop [1, 5] (fun q i => ∃ k : Nat, k ≤ n ∧ i = .int .i64 k ∧ q = .int .i64 (mkS 1 H k)) (fun _ i => n - (intOf i).toNat)
  case atStart => exact ⟨0, by omega, rfl, rfl⟩
  case round =>
    obtain ⟨k, hk, rfl, rfl⟩ := hrel
    obtain ⟨k1, k2⟩ := HK.out k hk
    have HS := hide (show mkS 1 H (k + 1) = mkS 1 H k + (H k).n from rfl)
    by_cases hlt : k < n
    · obtain ⟨b, off, rfl, -, hbw, hc⟩ := hS (by omega)
      have k0 := hc k 0 hlt (by omega)
      have hl := (HL.out k hlt).1
      have hlk := HN.out k hlt
      simp only [Nat.add_zero, Nat.mul_one, tsC, mkT] at k0 hl
      clear hc
      generalize hK : mkS 1 H k = K at *
      have HKK := hide hK
      clear hK
      go_wp2_with fail
      go_at_call 65
      refine (heldIntS_any _ _ _ K _ hlk (by omega) (by omega) hl).mono ?_
      rintro _ _ ⟨rfl, rfl⟩
      have hd : decide (K + ((H k).n : Int) < 0) = false := decide_eq_false (by omega)
      go_wp2
      go_round
      case rel => exact ⟨k + 1, by omega, by go_num, by rw [HS.out]⟩
      case measure => simp [intOf]; omega
    · obtain rfl : k = n := by omega
      go_wp2
      go_ret
      exact ⟨rfl, rfl⟩
end Go.Proofs.Ytidcmdnhnnhnhaa
