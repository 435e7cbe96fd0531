/-
  Contracts: LongestDry of the program and of the reference. Conditions: lengths up to 2^20.
-/
import Derived.Test.YtcjjpkleipjibaaSpanB
namespace Go.Proofs.Ytcjjpkleipjibaa
open Go.RowKit

theorem pairs_own {w : World} {B m : Nat} {e : TypeId} {v : Value} {L : List (Int × Int)} (h : w.ownsRow B e 2 v m (pairsL L)) (hm : m = L.length) :
    ∃ A c, v = .slice A m c ∧ Ow w B w.heap.size A m 2 (ints (tabP L)) := by
  obtain ⟨A, c, e, hO⟩ := own_sl h
  exact ⟨A, c, e, hO.congr fun i j hi hj => pairsL_at L i j (by omega) hj⟩
theorem spanS_in {F : Nat → Nat → Int} {n : Nat} {a b : Int} (hs : showsB F n = true) (ha : 0 ≤ a) (ha2 : a ≤ 4000) : ∀ k, k ≤ n → ∀ p ∈ (spanS F a b k).1, 0 ≤ p.1 ∧ p.1 ≤ p.2 ∧ p.2 ≤ 4000 := by
  intro k
  induction k with
  | zero => intro _ p hp; simp [spanS] at hp
  | succ k ih =>
    intro hk p hp
    have h0 := ih (by omega)
    obtain ⟨-, -, g2, g3, -⟩ := span_bd (b := b) hs ha ha2 k (by omega)
    have hd := ((showsB_at hs).2 k (by omega)).1
    simp only [spanS] at hp
    split at hp
    · simp only at hp
      split at hp
      · rcases List.mem_append.1 hp with hp | hp
        · exact h0 p hp
        · obtain rfl : p = ((spanS F a b k).2, F k 0 - 1) := by simpa using hp
          simp only
          omega
      · exact h0 p hp
    · exact h0 p hp
theorem dryL_bd (F : Nat → Nat → Int) (n : Nat) (a b : Int) : (dryL F n a b).length ≤ 21 ∧ ∀ i, i < (dryL F n a b).length → 0 ≤ tabP (dryL F n a b) i 0 ∧ tabP (dryL F n a b) i 0 ≤ tabP (dryL F n a b) i 1 ∧ tabP (dryL F n a b) i 1 ≤ 4000 := by
  cases h1 : showsB F n
  · simp [dryL, h1]
  · cases h2 : spanB a b
    · simp [dryL, h2]
    · have hb := spanB_true h2
      have e : dryL F n a b = spanEnd b (spanS F a b n) := by simp [dryL, h1, h2]
      have hn := (showsB_at h1).1
      obtain ⟨-, g1, g2, g3, -⟩ := span_bd (b := b) h1 hb.1 hb.2.1 n (Nat.le_refl _)
      have hin := spanS_in (b := b) h1 hb.1 hb.2.1 n (Nat.le_refl _)
      have hall : ∀ p ∈ dryL F n a b, 0 ≤ p.1 ∧ p.1 ≤ p.2 ∧ p.2 ≤ 4000 := by
        intro p hp
        rw [e] at hp
        unfold spanEnd at hp
        split at hp
        · rcases List.mem_append.1 hp with hp | hp
          · exact hin p hp
          · obtain rfl : p = ((spanS F a b n).2, b) := by simpa using hp
            simp only
            omega
        · exact hin p hp
      refine ⟨?_, fun i hi => ?_⟩
      · rw [e]; unfold spanEnd; split
        · simp; omega
        · omega
      · have := hall ((dryL F n a b).getD i (0, 0)) (by rw [List.getD_eq_getElem?_getD, List.getElem?_eq_getElem hi]; exact List.getElem_mem _)
        simpa [tabP] using this

/-- What LongestDry returns. -/
def dryG (F : Nat → Nat → Int) (n : Nat) (a b : Int) : Nat → Int := fun i => tabP (dryL F n a b) i 1 - tabP (dryL F n a b) i 0
def longR (F : Nat → Nat → Int) (n : Nat) (a b : Int) : Int × Int × Bool :=
  if (dryL F n a b).length = 0 then (0, 0, false) else (tabP (dryL F n a b) (bestI (dryG F n a b) (dryL F n a b).length) 0, tabP (dryL F n a b) (bestI (dryG F n a b) (dryL F n a b).length) 1, true)

set_option maxHeartbeats 2000000 in
theorem spec_LongestDry_any (A : Option Addr) (n c : Nat) (F : Nat → Nat → Int) (a b : Int) (w : World) (hn : n ≤ 1048576) (h : Rd w A n 2 (ints F)) :
    Calls Try.prog 25 #[.slice A n c, .int .i64 a, .int .i64 b] w fun e w' => e = .returned (.tuple #[.int .i64 (longR F n a b).1, .int .i64 (longR F n a b).2.1, .bool (longR F n a b).2.2]) ∧ Below w.heap.size w w' := by
  cases h1 : showsB F n
  · have HR := hide (show longR F n a b = (0, 0, false) by simp [longR, dryL, h1])
    go_enter Try.func25, Try.ntmps25
    go_wp2_with (first | (go_at_call 53; refine (l9Good_any _ _ _ _ _ hn h).mono ?_; rintro _ w1 ⟨rfl, hb_w1⟩; have hc_w1 := bcell hb_w1))
    rw [HR.out]
    refine bodyPost_ret (v := .tuple #[.int .i64 0, .int .i64 0, .bool false]) (by simp only [results, Try.results25]; go_simp) rfl ⟨rfl, ?_⟩
    exact hb_w1
  · cases h2 : spanB a b
    · have HR := hide (show longR F n a b = (0, 0, false) by simp [longR, dryL, h2])
      go_enter Try.func25, Try.ntmps25
      go_wp2_with (first | (go_at_call 53; refine (l9Good_any _ _ _ _ _ hn h).mono ?_; rintro _ w1 ⟨rfl, hb_w1⟩; have hc_w1 := bcell hb_w1) | (go_at_call 64; refine (l6Span_any _ _ _).mono ?_; rintro _ _ ⟨rfl, rfl⟩))
      rw [HR.out]
      refine bodyPost_ret (v := .tuple #[.int .i64 0, .int .i64 0, .bool false]) (by simp only [results, Try.results25]; go_simp) rfl ⟨rfl, ?_⟩
      exact hb_w1
    · have HD := hide (show dryL F n a b = spanEnd b (spanS F a b n) by simp [dryL, h1, h2])
      have HV := hide h1
      have ha : 0 ≤ a ∧ a ≤ 4000 := by have := spanB_true h2; omega
      obtain ⟨hl, hbd⟩ := dryL_bd F n a b
      have HR := hide (show longR F n a b = if (dryL F n a b).length = 0 then (0, 0, false) else (tabP (dryL F n a b) (bestI (dryG F n a b) (dryL F n a b).length) 0, tabP (dryL F n a b) (bestI (dryG F n a b) (dryL F n a b).length) 1, true) from rfl)
      have HG := hide (show ∀ i, dryG F n a b i = tabP (dryL F n a b) i 1 - tabP (dryL F n a b) i 0 from fun _ => rfl)
      generalize longR F n a b = R at HR ⊢
      generalize dryG F n a b = G at HR HG
      have hln : ∀ (w2 : World) (v : Value), w2.ownsRow w.heap.size 63 2 v (spanEnd b (spanS F a b n)).length (pairsL (spanEnd b (spanS F a b n))) → ∃ A c, v = .slice A (dryL F n a b).length c ∧ Ow w2 w.heap.size w2.heap.size A (dryL F n a b).length 2 (ints (tabP (dryL F n a b))) := fun w2 v h => by rw [HD.out]; exact pairs_own h rfl
      generalize dryL F n a b = L at *
      generalize hm : L.length = m at *
      clear HD hm
      clear h1
      go_enter Try.func25, Try.ntmps25
      go_wp2_with (first | (go_at_call 53; refine (l9Good_any _ _ _ _ _ hn h).mono ?_; rintro _ w1 ⟨rfl, hb_w1⟩; have hc_w1 := bcell hb_w1) | (go_at_call 64; refine (l6Span_any _ _ _).mono ?_; rintro _ _ ⟨rfl, rfl⟩))
      go_wp2_with fail
      go_at_call 65
      refine (l9Spans_any _ _ _ _ _ _ _ hn (Rd.below h hb_w1) HV ha.1 ha.2).mono ?_
      rintro _ w2 ⟨v, rfl, hown, hb2⟩
      obtain ⟨A2, c2, rfl, hO⟩ := hln w2 v (own_mono hown hb_w1.size)
      have hbb : Below w.heap.size w w2 := gr hb_w1 hb2
      clear hln hown hc_w1 h
      have h := hO.sl.rd (Nat.le_refl _)
      clear hO
      by_cases h0 : m = 0
      · subst h0
        go_wp2
        obtain rfl : R = (0, 0, false) := by rw [HR.out]; rfl
        refine bodyPost_ret (v := .tuple #[.int .i64 0, .int .i64 0, .bool false]) (by simp only [results, Try.results25]; go_simp) rfl ⟨rfl, ?_⟩
        exact hbb
      · have hn0 : ((m : Int) == 0) = false := by simp; omega
        have hpos : 0 < m := by omega
        have HR := hide (show R = (tabP L (bestI G m) 0, tabP L (bestI G m) 1, true) by rw [HR.out, if_neg h0])
        clear h0
        go_wp2
        go_loopw [10, 11] (fun b i wr => ∃ k : Nat, 1 ≤ k ∧ k ≤ m ∧ i = .int .i64 k ∧ b = .int .i64 (bestI G k : Nat) ∧ Below w2.heap.size w2 wr) (fun _ i _ => m - (intOf i).toNat)
        case atStart => exact ⟨1, by omega, by omega, rfl, by simp [bestI], Below.refl _ _⟩
        case round =>
          obtain ⟨k, hk1, hk, rfl, rfl, hb⟩ := hrel
          have hpl := bestI_lt G k hk1
          have HS := hide (show bestI G (k + 1) = if G (bestI G k) < G k then k else bestI G k from rfl)
          rw [HG.out, HG.out] at HS
          generalize hp : bestI G k = p at hpl HS ⊢
          have HP := hide hp
          clear hp
          obtain ⟨q, off, rfl, -, hbw, hc⟩ := Rd.below h hb (by omega)
          by_cases hlt : k < m
          · have hc0 := fun x : After wr => x.cell (hc k 0 hlt (by omega)) hbw
            have hc1 := fun x : After wr => x.cell (hc k 1 hlt (by omega)) hbw
            have hc2 := fun x : After wr => x.cell (hc p 0 (by omega) (by omega)) hbw
            have hc3 := fun x : After wr => x.cell (hc p 1 (by omega) (by omega)) hbw
            simp only [Nat.add_zero] at hc0 hc2
            have hpn : p < m := by omega
            have hd1 := hbd k hlt
            have hd2 := hbd p hpn
            clear hc
            go_wp2
            refine region_after (by kernel_rfl) (by kernel_rfl) ?_
            repeat (go_big_quiet_step ((first | fail)))
            refine wpQuiet_nil ?_
            rintro _ ⟨x, rfl⟩
            by_cases hg : tabP L p 1 - tabP L p 0 < tabP L k 1 - tabP L k 0
            · go_wp2
              go_roundw
              case rel => exact ⟨k + 1, by omega, by omega, by go_num, by rw [HS.out, if_pos hg], hb.trans (x.h.mono hb.size)⟩
              case measure => simp [intOf]; omega
            · go_wp2
              go_roundw
              case rel => exact ⟨k + 1, by omega, by omega, by go_num, by rw [HS.out, if_neg hg], hb.trans (x.h.mono hb.size)⟩
              case measure => simp [intOf]; omega
          · have hpn : p < m := by omega
            have HE := hide (show k = m by omega)
            have hc0 := fun x : After wr => x.cell (hc p 0 hpn (by omega)) hbw
            have hc1 := fun x : After wr => x.cell (hc p 1 hpn (by omega)) hbw
            simp only [Nat.add_zero] at hc0
            clear hc
            go_wp2
            refine region_after (by kernel_rfl) (by kernel_rfl) ?_
            repeat (go_big_quiet_step ((first | fail)))
            refine wpQuiet_nil ?_
            rintro _ ⟨x, rfl⟩
            go_wp2
            obtain rfl : R = (tabP L p 0, tabP L p 1, true) := by rw [HR.out, ← HE.out, HP.out]
            refine bodyPost_ret (v := .tuple #[.int .i64 (tabP L p 0), .int .i64 (tabP L p 1), .bool true]) (by simp only [results, Try.results25]; go_simp) rfl ⟨rfl, ?_⟩
            exact (hbb.trans (hb.mono hbb.size)).trans (x.h.mono (by have := hbb.size; have := hb.size; omega))

set_option maxHeartbeats 2000000 in
theorem LongestDry_any (A : Option Addr) (n c : Nat) (F : Nat → Nat → Int) (a b : Int) (w : World) (hn : n ≤ 1048576) (h : Rd w A n 2 (ints F)) :
    Calls Try.prog 26 #[.slice A n c, .int .i64 a, .int .i64 b] w fun e w' => e = .returned (.tuple #[.int .i64 (longR F n a b).1, .int .i64 (longR F n a b).2.1, .bool (longR F n a b).2.2]) ∧ Below w.heap.size w w' := by
  cases h1 : (showsB F n && spanB a b)
  · have HR := hide (show longR F n a b = (0, 0, false) by simp [longR, dryL, h1])
    go_enter Try.func26, Try.ntmps26
    go_wp2_with fail
    go_at_call 34
    refine (DrySpans_any _ _ _ _ _ _ _ hn h).mono ?_
    rintro _ w1 ⟨v, rfl, hown, hb1⟩
    rw [h1]
    go_wp2
    rw [HR.out]
    refine bodyPost_ret (v := .tuple #[.int .i64 0, .int .i64 0, .bool false]) (by simp only [results, Try.results26]; go_simp) rfl ⟨rfl, ?_⟩
    exact hb1
  · obtain ⟨hl, hbd⟩ := dryL_bd F n a b
    have HR := hide (show longR F n a b = if (dryL F n a b).length = 0 then (0, 0, false) else (tabP (dryL F n a b) (bestI (dryG F n a b) (dryL F n a b).length) 0, tabP (dryL F n a b) (bestI (dryG F n a b) (dryL F n a b).length) 1, true) from rfl)
    have HG := hide (show ∀ i, dryG F n a b i = tabP (dryL F n a b) i 1 - tabP (dryL F n a b) i 0 from fun _ => rfl)
    generalize longR F n a b = R at HR ⊢
    generalize dryG F n a b = G at HR HG
    go_enter Try.func26, Try.ntmps26
    go_wp2_with fail
    go_at_call 34
    refine (DrySpans_any _ _ _ _ _ _ _ hn h).mono ?_
    rintro _ w2 ⟨v, rfl, hown, hbb⟩
    rw [h1]
    obtain ⟨A2, c2, rfl, hO⟩ := pairs_own hown rfl
    clear hown h1 h
    generalize dryL F n a b = L at *
    generalize L.length = m at *
    have h := hO.sl.rd (Nat.le_refl _)
    clear hO
    by_cases h0 : m = 0
    · subst h0
      go_wp2
      obtain rfl : R = (0, 0, false) := by rw [HR.out]; rfl
      refine bodyPost_ret (v := .tuple #[.int .i64 0, .int .i64 0, .bool false]) (by simp only [results, Try.results26]; go_simp) rfl ⟨rfl, ?_⟩
      exact hbb
    · have hn0 : ((m : Int) == 0) = false := by simp; omega
      have hpos : 0 < m := by omega
      have HR := hide (show R = (tabP L (bestI G m) 0, tabP L (bestI G m) 1, true) by rw [HR.out, if_neg h0])
      clear h0
      obtain ⟨q, off, rfl, -, hbw, hc⟩ := h hpos
      have hc0 := hc 0 0 hpos (by omega)
      have hc1 := hc 0 1 hpos (by omega)
      simp only [Nat.add_zero, Nat.zero_mul] at hc0 hc1
      go_wp2
      generalize hW : w2.alloc (.cells #[.int .i64 (tabP L 0 0), .int .i64 (tabP L 0 1)] 63) = W2
      have hb2 : Below w.heap.size w W2 := by rw [← hW]; exact hbb.alloc hbb.size _
      have hs2 : w2.heap.size < W2.heap.size := by rw [← hW]; simp
      have hO : Ow W2 w2.heap.size (w2.heap.size + 1) (some ⟨w2.heap.size, 0, none⟩) 1 2 (fun _ j => ints (tabP L) 0 j) := by
        rw [← hW]; exact (Ow.box w2 #[.int .i64 (tabP L 0 0), .int .i64 (tabP L 0 1)] _).congr fun i j _ hj => by match j, hj with | 0, _ => rfl | 1, _ => rfl
      have hb3 : Below w2.heap.size w2 W2 := by rw [← hW]; exact (Below.refl _ _).alloc (Nat.le_refl _) _
      have hw1 := hbb.size
      clear hW hc0 hc1 hc
      go_loopw [33] (fun i wr => ∃ k : Nat, k ≤ m ∧ i = .int .i64 k ∧ Ow wr w2.heap.size (w2.heap.size + 1) (some ⟨w2.heap.size, 0, none⟩) 1 2 (fun _ j => ints (tabP L) (bestI G k) j) ∧ w2.heap.size < wr.heap.size ∧ Below w.heap.size w wr ∧ Below w2.heap.size w2 wr) (fun i _ => m - (intOf i).toNat)
      case atStart => exact ⟨0, by omega, rfl, hO, hs2, hb2, hb3⟩
      case round =>
        obtain ⟨k, hk, rfl, hOr, hsr, hb, hbr⟩ := hrel
        have hpl : bestI G k < m := by
          by_cases hk0 : k = 0
          · subst hk0; exact hpos
          · have := bestI_lt G k (by omega); omega
        have HS := hide (show bestI G (k + 1) = if G (bestI G k) < G k then k else bestI G k from rfl)
        rw [HG.out, HG.out] at HS
        generalize hp : bestI G k = p at hOr HS hpl
        have HP := hide hp
        clear hp
        have hd2 := hbd p hpl
        obtain ⟨-, -, g, f⟩ := hOr.at_ (i := 0) (by omega)
        have g0 := g 0 (by omega)
        have g1 := g 1 (by omega)
        have f0 := f 0 (by omega)
        have f1 := f 1 (by omega)
        simp only [Nat.zero_mul, Nat.zero_add] at g0 g1 f0 f1
        clear g f
        by_cases hlt : k < m
        · have hd1 := hbd k hlt
          obtain ⟨q', off', ee, -, hbw, hc⟩ := Rd.below h hbr hpos
          obtain ⟨rfl, rfl⟩ : q = q' ∧ off = off' := by injection ee with ee; injection ee with h1 h2; exact ⟨h1, h2⟩
          have hc0 := hc k 0 hlt (by omega)
          have hc1 := hc k 1 hlt (by omega)
          simp only [Nat.add_zero] at hc0 hc1
          clear hc ee
          by_cases hg : tabP L p 1 - tabP L p 0 < tabP L k 1 - tabP L k 0
          · go_wp2
            go_roundw
            case rel =>
              refine ⟨k + 1, by omega, by go_num, ?_⟩
              rw [HS.out, if_pos hg]
              refine ⟨(((hOr.set (i0 := 0) (j0 := 0) (o := 0) (by omega) (by omega) rfl (.int .i64 (tabP L k 0))).set (i0 := 0) (j0 := 1) (o := 1) (by omega) (by omega) rfl (.int .i64 (tabP L k 1))).alloc (by simp; omega) _).congr fun i j _ hj => ?_, by simp; omega, ?_, ?_⟩
              · obtain rfl : i = 0 := by omega
                match j, hj with
                | 0, _ => simp [upd]
                | 1, _ => simp [upd]
              · exact (((hb.setCell (p := ⟨w2.heap.size, 0, none⟩) hw1 _).setCell (p := ⟨w2.heap.size, 1, none⟩) hw1 _).alloc (by simp; exact hb.size) _)
              · exact (((hbr.setCell (p := ⟨w2.heap.size, 0, none⟩) (Nat.le_refl _) _).setCell (p := ⟨w2.heap.size, 1, none⟩) (Nat.le_refl _) _).alloc (by simp; exact hbr.size) _)
            case measure => simp [intOf]; omega
          · go_wp2
            go_roundw
            case rel =>
              refine ⟨k + 1, by omega, by go_num, ?_⟩
              rw [HS.out, if_neg hg]
              exact ⟨hOr.alloc (by omega) _, by simp; omega, hb.alloc hb.size _, hbr.alloc hbr.size _⟩
            case measure => simp [intOf]; omega
        · have HE := hide (show k = m by omega)
          have f0 := fun x : After wr => x.cell g0 (by omega)
          have f1 := fun x : After wr => x.cell g1 (by omega)
          clear g0 g1
          go_wp2
          refine region_after (by kernel_rfl) (by kernel_rfl) ?_
          repeat (go_big_quiet_step ((first | fail)))
          refine wpQuiet_nil ?_
          rintro _ ⟨x, rfl⟩
          go_wp2
          obtain rfl : R = (tabP L p 0, tabP L p 1, true) := by rw [HR.out, ← HE.out, HP.out]
          refine bodyPost_ret (v := .tuple #[.int .i64 (tabP L p 0), .int .i64 (tabP L p 1), .bool true]) (by simp only [results, Try.results26]; go_simp) rfl ⟨rfl, ?_⟩
          exact hb.trans (x.h.mono hb.size)
end Go.Proofs.Ytcjjpkleipjibaa
