/-
  Contracts on workers: where a worker of a number stands, copies of all workers, of the program and of the reference. Conditions: lengths up to 2^20.
-/
import Derived.Test.YtmblkjnpibcmoaaWkE
import Derived.Test.YtmblkjnpibcmoaaApp
import Derived.Test.YtmblkjnpibcmoaaWkT
import Derived.Shelf.Abstract
import Derived.Lib.SliceRun
namespace Go.Proofs.Ytmblkjnpibcmoaa
open Go.RowKit

/-- An index, or -1. -/
def idxV : Option Nat → Int
  | some i => i
  | none => -1
def idW (F : Nat → Nat → Int) (id : Int) (i : Nat) : Bool := F i 0 == id
theorem workP_any (a g r f : Int) (c : Bool) (ib : Nat) (id : Int) (w : World) (hc : w.cell? ⟨ib, 0, none⟩ = some (.int .i64 id)) (hl : ib < w.heap.size) :
    Calls Try.prog 77 #[.agg #[.int .i64 a, .int .i64 g, .int .i64 r, .bool c, .int .i64 f], .pointer (some ⟨ib, 0, none⟩)] w fun e w' => e = .returned (.bool (a == id)) ∧ Below w.heap.size w w' := by
  go_enter Try.func77, Try.ntmps77
  go_wp2
  go_ret
  exact ⟨rfl, (Below.refl _ _).alloc (Nat.le_refl _) _⟩
set_option maxHeartbeats 1000000 in
theorem workIdx_any (A : Option Addr) (n c : Nat) (F : Nat → Nat → Int) (C : Nat → Bool) (ib : Nat) (id : Int) (w : World) (hn : n ≤ 1048576) (h : Rd w A n 5 (wkC F C)) (hc : w.cell? ⟨ib, 0, none⟩ = some (.int .i64 id)) (hl : ib < w.heap.size) :
    Calls Try.prog 76 #[.slice A n c, .func (.func 77) #[] #[.pointer (some ⟨ib, 0, none⟩)]] w fun e w' => e = .returned (.int .i64 (idxV (firstB (idW F id) n))) ∧ Below w.heap.size w w' := by
  have eg : ∀ args w, (callFunc 77 args).run Try.prog w = .ok (.enter 77 args) w := enters_of Try.func77 (by kernel_rfl) rfl
  go_enter Try.func76, Try.ntmps76
  go_wp2
  go_loopw [8] (fun i wr => ∃ k : Nat, k ≤ n ∧ i = .int .i64 k ∧ firstB (idW F id) k = none ∧ Below w.heap.size w wr) (fun i _ => n - (intOf i).toNat)
  case atStart => exact ⟨0, by omega, rfl, rfl, Below.refl _ _⟩
  case round =>
    obtain ⟨k, hk, rfl, hf, hb⟩ := hrel
    have HF := hide hf
    clear hf
    by_cases hlt : k < n
    · obtain ⟨b, off, rfl, hbw, hcc⟩ := wk_at h hb (by omega)
      obtain ⟨c0, c1, c2, c3, c4⟩ := hcc k hlt
      clear hcc
      have hc' := (hb.cell (p := ⟨ib, 0, none⟩) hl).trans hc
      have hl' : ib < wr.heap.size := Nat.lt_of_lt_of_le hl hb.size
      cases hd : (F k 0 == id)
      · go_wp2_with (go_at_fn 77; refine (workP_any _ _ _ _ _ ib id _ hc' hl').mono ?_; rintro _ w2 ⟨rfl, hb2⟩)
        go_roundw
        case rel => exact ⟨k + 1, by omega, by go_num, firstB_succ_none HF.out hd, gr hb hb2⟩
        case measure => simp [intOf]; omega
      · go_wp2_with (go_at_fn 77; refine (workP_any _ _ _ _ _ ib id _ hc' hl').mono ?_; rintro _ w2 ⟨rfl, hb2⟩)
        go_ret
        exact ⟨ret_int (by rw [firstB_at HF.out hd hlt]; rfl), gr hb hb2⟩
    · go_wp2
      go_ret
      obtain rfl : k = n := by omega
      exact ⟨ret_int (by rw [HF.out]; rfl), hb⟩
set_option maxHeartbeats 1000000 in
theorem workerAt_any (A : Option Addr) (n c : Nat) (F : Nat → Nat → Int) (C : Nat → Bool) (id : Int) (w : World) (hn : n ≤ 1048576) (h : Rd w A n 5 (wkC F C)) :
    Calls Try.prog 62 #[.slice A n c, .int .i64 id] w fun e w' => e = .returned (.int .i64 (idxV (firstB (idW F id) n))) ∧ Below w.heap.size w w' := by
  have hb0 : Below w.heap.size w (w.alloc (.cells #[.int .i64 id] 3)) := (Below.refl _ _).alloc (Nat.le_refl _) _
  have h' := Rd.below h hb0
  have hc : World.cell? (w.alloc (.cells #[.int .i64 id] 3)) ⟨w.heap.size, 0, none⟩ = some (.int .i64 id) := by rw [World.cell?_alloc_new]; rfl
  go_enter Try.func62, Try.ntmps62
  go_wp2_with fail
  go_at_call 76
  refine (workIdx_any _ _ _ _ _ w.heap.size id _ hn h' hc (by simp)).mono ?_
  rintro _ w2 ⟨rfl, hb2⟩
  go_wp2
  go_ret
  exact ⟨rfl, gr hb0 hb2⟩
def findW (F : Nat → Nat → Int) (n : Nat) (id : Int) : Int := if worksB F n then idxV (firstB (idW F id) n) else -1
set_option maxHeartbeats 1000000 in
theorem l5Find_any (A : Option Addr) (n c : Nat) (F : Nat → Nat → Int) (C : Nat → Bool) (id : Int) (w : World) (hn : n ≤ 1048576) (h : Rd w A n 5 (wkC F C)) :
    Calls Try.prog 64 #[.slice A n c, .int .i64 id] w fun e w' => e = .returned (.int .i64 (findW F n id)) ∧ Below w.heap.size w w' := by
  have HV := hide (show findW F n id = if worksB F n then idxV (firstB (idW F id) n) else -1 from rfl)
  go_enter Try.func64, Try.ntmps64
  go_wp2
  go_loopw [5] (fun i wr => ∃ k : Nat, k ≤ n ∧ i = .int .i64 k ∧ firstB (idW F id) k = none ∧ (0 < k → worksB F n = true) ∧ Below w.heap.size w wr) (fun i _ => n - (intOf i).toNat)
  case atStart => exact ⟨0, by omega, rfl, rfl, fun h => absurd h (by omega), Below.refl _ _⟩
  case round =>
    obtain ⟨k, hk, rfl, hf, hg, hb⟩ := hrel
    have HF := hide hf
    have HG := hide hg
    clear hf hg
    by_cases hlt : k < n
    · cases h1 : worksB F n
      · go_wp2_with fail
        go_at_call 56
        refine (l5Good_any _ _ _ _ _ _ hn (Rd.below h hb)).mono ?_
        rintro _ w2 ⟨rfl, hb2⟩
        rw [h1]
        go_wp2
        go_ret
        exact ⟨ret_int (by rw [HV.out, h1]; rfl), gr hb hb2⟩
      · go_wp2_with fail
        go_at_call 56
        refine (l5Good_any _ _ _ _ _ _ hn (Rd.below h hb)).mono ?_
        rintro _ w2 ⟨rfl, hb2⟩
        rw [h1]
        obtain ⟨b, off, rfl, hbw, hcc⟩ := wk_at h (gr hb hb2) (by omega)
        obtain ⟨c0, -, -, -, -⟩ := hcc k hlt
        clear hcc
        cases hd : (F k 0 == id)
        · go_wp2
          go_roundw
          case rel => exact ⟨k + 1, by omega, by go_num, firstB_succ_none HF.out hd, fun _ => (by first | exact h1 | trivial), gr hb hb2⟩
          case measure => simp [intOf]; omega
        · go_wp2
          go_ret
          exact ⟨ret_int (by rw [HV.out, h1, firstB_at HF.out hd hlt]; rfl), gr hb hb2⟩
    · go_wp2
      go_ret
      obtain rfl : k = n := by omega
      exact ⟨ret_int (by rw [HV.out, HF.out]; simp [idxV]), hb⟩
theorem info_wk : (Try.prog.info? 54).map (fun i => (i.zero, i.size, i.bytes)) = some (some (.agg #[.int .i64 0, .int .i64 0, .int .i64 0, .bool false, .int .i64 0]), 5, 40) := by kernel_rfl
theorem wkC_one (F : Nat → Nat → Int) (C : Nat → Bool) (i j : Nat) : (wkC F C i j).oneCell' = true := by
  unfold wkC
  split <;> rfl
set_option maxHeartbeats 1000000 in
theorem cloneW_any (A : Option Addr) (n c : Nat) (F : Nat → Nat → Int) (C : Nat → Bool) (w : World) (hn : n ≤ 1048576) (h : Rd w A n 5 (wkC F C)) :
    Calls Try.prog 63 #[.slice A n c] w (RowP w (fun A' c' => .slice A' n c') n 5 (wkC F C)) := by
  have q22 : ∀ (w : World) (a : Option Addr) (n c n' c' : Nat), (binOp .eql 26 (.slice a n c) (.slice none n' c')).run Try.prog w = .ok (.bool a.isNone) w := fun w a n c n' c' => Lib.run_eql_slice_nil w _ _ a n c n' c' Try.underlying26
  cases A with
  | none =>
    obtain rfl : n = 0 := by
      rcases Nat.eq_zero_or_pos n with h0 | h0
      · exact h0
      · obtain ⟨b, off, h, -⟩ := h h0
        cases h
    go_enter Try.func63, Try.ntmps63
    go_wp2
    go_ret
    exact ⟨none, 0, rfl, Ow.nil _ _ _ _ _ _, Below.refl _ _⟩
  | some ad =>
    obtain ⟨i0, hi0, hz0, hz1, hz2⟩ := info_parts info_wk
    have hown := World.ownsRow_lit (base := w.heap.size) (e := 54) (size := 5) w #[] 0 (Nat.le_refl _) (Nat.zero_le _) rfl
    have h' := Rd.alloc h (.cells #[] 54)
    have hb1 : Below w.heap.size w (w.alloc (.cells #[] 54)) := (Below.refl _ _).alloc (Nat.le_refl _) _
    go_enter Try.func63, Try.ntmps63
    go_wp2_with (at_builtin; refine wpList_append_rd _ rfl (.tmp 5) (.tmp 6) 26 rfl w.heap.size 54 i0 _ 5 40 Try.underlying26 hi0 hz0 hz1 hz2 rfl (by decide) _ _ _ rfl hown _ _ (some ad) n c (wkC F C) rfl h' (fun i j _ _ => wkC_one F C i j) (by simp only [maxLen]; omega) (by omega) (by simp) ?_; intro v2 w2 hown2 hg2 _; have hb2 := grown_below hown hg2 (by simp); clear hg2)
    simp only [Nat.zero_add, List.nil_append] at hown2
    obtain ⟨A', c', rfl, hO⟩ := own_tab hown2
    go_ret
    exact ⟨A', c', rfl, hO, hb1.trans hb2⟩
end Go.Proofs.Ytmblkjnpibcmoaa
