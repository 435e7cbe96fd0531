/-
  Contracts: brines, areas, spans and strengths that are drawn. Conditions: fewer than 2^40 draws.
-/
import Derived.Test.YtajmebclmippeaaCuB
namespace Go.Proofs.Ytajmebclmippeaa
open Go.RowKit

/-- What a draw of a brine leaves. -/
def DrawBr (w : World) (cu m : Nat) (e : Ending) (w' : World) : Prop :=
  ∃ x y : Int, e = .returned (.agg #[.int .i64 x, .int .i64 y]) ∧ -1 ≤ x ∧ x ≤ 1000001 ∧ -1 ≤ y ∧ y ≤ 1000001 ∧ DrS w w' cu m
set_option maxRecDepth 20000 in
set_option maxHeartbeats 2000000 in
theorem brine_any (cu m : Nat) (w : World) (hm : m ≤ 1099511600000) (h : Cur w cu m) :
    Calls Try.prog 58 #[.pointer (some ⟨cu, 0, none⟩)] w (DrawBr w cu (m + 4)) := by
  have hcu := h.lt
  have hD := DrS.start h
  go_enter Try.func58, Try.ntmps58
  go_upto_region 1 with fail
  have hX := Box2.new w 32 (.int .i64 0) (.int .i64 0)
  replace hD := hD.alloc (.cells #[.int .i64 0, .int .i64 0] 32)
  generalize w.alloc (.cells #[.int .i64 0, .int .i64 0] 32) = W1 at hX hD ⊢
  go_wp2_with fail
  go_at_call 55
  refine (among_any cu _ _ _ _ (0) (1000000) _ (by omega) (by decide) (by decide) (Nat.ne_of_gt hD.cur.lt) (Lits.new _ _ _ (by rfl) (by decide)) (hD.cur.alloc _)).mono ?_
  rintro _ w2 ⟨a, rfl, aa, ab, hc, ht⟩
  replace hD := (hD.alloc _).draw hc ht
  replace hX := (hX.alloc _).tch ht (Nat.ne_of_gt hcu)
  go_wp2_with fail
  go_at_call 55
  refine (among_any cu _ _ _ _ (0) (1000000) _ (by omega) (by decide) (by decide) (Nat.ne_of_gt hD.cur.lt) (Lits.new _ _ _ (by rfl) (by decide)) (hD.cur.alloc _)).mono ?_
  rintro _ w3 ⟨b, rfl, ba, bb, hc, ht⟩
  replace hD := (hD.alloc _).draw hc ht
  replace hX := (hX.alloc _).tch ht (Nat.ne_of_gt hcu)
  clear hc ht
  go_upto_region 2 with fail
  have hB := Box2.new w3 32 (.int .i64 a) (.int .i64 b)
  replace hD := hD.alloc (.cells #[.int .i64 a, .int .i64 b] 32)
  have hne : w3.heap.size ≠ w.heap.size := by have := hX.lt; omega
  have hcb : cu < w3.heap.size := by have := hX.lt; omega
  have hwb : w.heap.size ≤ w3.heap.size := by have := hX.lt; omega
  replace hX := hX.alloc (.cells #[.int .i64 a, .int .i64 b] 32)
  generalize w3.alloc (.cells #[.int .i64 a, .int .i64 b] 32) = W4 at hX hB hD ⊢
  generalize w3.heap.size = gB at hB hne hcb hwb ⊢
  go_wp2_with fail
  go_at_call 57
  refine (pick_any _ _ _ _ (by omega) (by decide) hD.cur).mono ?_
  rintro _ w5 ⟨r, rfl, ra, rb, hc, ht⟩
  replace hD := hD.draw hc ht
  replace hX := hX.tch ht (Nat.ne_of_gt hcu)
  replace hB := hB.tch ht (Nat.ne_of_gt hcb)
  clear hc ht rb
  by_cases hr0 : r = 0
  · subst hr0
    clear ra
    go_wp2_with fail
    go_at_call 55
    refine (among_any cu _ _ _ _ (-1) (1000001) _ (by omega) (by decide) (by decide) (Nat.ne_of_gt hD.cur.lt) (Lits.new _ _ _ (by rfl) (by decide)) (hD.cur.alloc _)).mono ?_
    rintro _ w6 ⟨p, rfl, pa, pb, hc, ht⟩
    replace hD := (hD.alloc _).draw hc ht
    obtain ⟨x0, x1, x2, x3, x4⟩ := (hX.alloc _).tch ht (Nat.ne_of_gt hcu)
    obtain ⟨y0, y1, y2, y3, y4⟩ := (hB.alloc _).tch ht (Nat.ne_of_gt hcb)
    clear hc ht hX hB
    have hsz := hD.size
    go_wp2
    refine bodyPost_ret (v := .agg #[.int .i64 p, .int .i64 b]) (by simp only [results, Try.results58]; go_simp) rfl ⟨p, b, rfl, by omega, by omega, by omega, by omega, ((((hD.set (p := ⟨gB, 0, none⟩) hwb _).set (p := ⟨w.heap.size, 0, none⟩) (Nat.le_refl _) _).set (p := ⟨w.heap.size, 1, none⟩) (Nat.le_refl _) _).more (by omega))⟩
  · have hr0' : (r == 0) = false := by simpa using hr0
    by_cases hr1 : r = 1
    · subst hr1
      clear ra hr0 hr0'
      go_wp2_with fail
      go_at_call 55
      refine (among_any cu _ _ _ _ (-1) (1000001) _ (by omega) (by decide) (by decide) (Nat.ne_of_gt hD.cur.lt) (Lits.new _ _ _ (by rfl) (by decide)) (hD.cur.alloc _)).mono ?_
      rintro _ w6 ⟨p, rfl, pa, pb, hc, ht⟩
      replace hD := (hD.alloc _).draw hc ht
      obtain ⟨x0, x1, x2, x3, x4⟩ := (hX.alloc _).tch ht (Nat.ne_of_gt hcu)
      obtain ⟨y0, y1, y2, y3, y4⟩ := (hB.alloc _).tch ht (Nat.ne_of_gt hcb)
      clear hc ht hX hB
      have hsz := hD.size
      go_wp2
      refine bodyPost_ret (v := .agg #[.int .i64 a, .int .i64 p]) (by simp only [results, Try.results58]; go_simp) rfl ⟨a, p, rfl, by omega, by omega, by omega, by omega, ((((hD.set (p := ⟨gB, 1, none⟩) hwb _).set (p := ⟨w.heap.size, 0, none⟩) (Nat.le_refl _) _).set (p := ⟨w.heap.size, 1, none⟩) (Nat.le_refl _) _).more (by omega))⟩
    · have hr1' : (r == 1) = false := by simpa using hr1
      obtain ⟨x0, x1, x2, x3, x4⟩ := hX
      obtain ⟨y0, y1, y2, y3, y4⟩ := hB
      clear hr0 hr1
      have hsz := hD.size
      go_wp2
      refine bodyPost_ret (v := .agg #[.int .i64 a, .int .i64 b]) (by simp only [results, Try.results58]; go_simp) rfl ⟨a, b, rfl, by omega, by omega, by omega, by omega, (((hD.set (p := ⟨w.heap.size, 0, none⟩) (Nat.le_refl _) _).set (p := ⟨w.heap.size, 1, none⟩) (Nat.le_refl _) _).more (by omega))⟩
theorem area_any (cu m : Nat) (w : World) (hm : m ≤ 1099511600000) (h : Cur w cu m) :
    Calls Try.prog 59 #[.pointer (some ⟨cu, 0, none⟩)] w (DrawP w cu (m + 1) 0 100001) := by
  have hD := DrS.start h
  go_enter Try.func59, Try.ntmps59
  go_wp2_with fail
  go_at_call 55
  refine (among_any cu _ _ _ _ (0) (100001) _ (by omega) (by decide) (by decide) (Nat.ne_of_gt hD.cur.lt) (Lits.new _ _ _ (by rfl) (by decide)) (hD.cur.alloc _)).mono ?_
  rintro _ w2 ⟨a, rfl, aa, ab, hc, ht⟩
  replace hD := (hD.alloc _).draw hc ht
  go_wp2
  go_ret
  exact ⟨a, rfl, aa, ab, hD.cur, hD.tch⟩
theorem span6_any (cu m : Nat) (w : World) (hm : m ≤ 1099511600000) (h : Cur w cu m) :
    Calls Try.prog 69 #[.pointer (some ⟨cu, 0, none⟩)] w (Draw2 w cu (m + 2) (-2) 7990 fun a b => .tuple #[.int .i64 a, .int .i64 b]) := by
  have hD := DrS.start h
  go_enter Try.func69, Try.ntmps69
  go_wp2_with fail
  go_at_call 55
  refine (among_any cu _ _ _ _ (-1) (3990) _ (by omega) (by decide) (by decide) (Nat.ne_of_gt hD.cur.lt) (Lits.new _ _ _ (by rfl) (by decide)) (hD.cur.alloc _)).mono ?_
  rintro _ w2 ⟨a, rfl, aa, ab, hc, ht⟩
  replace hD := (hD.alloc _).draw hc ht
  go_wp2_with fail
  go_at_call 55
  refine (among_any cu _ _ _ _ (-1) (4000) _ (by omega) (by decide) (by decide) (Nat.ne_of_gt hD.cur.lt) (Lits.new _ _ _ (by rfl) (by decide)) (hD.cur.alloc _)).mono ?_
  rintro _ w3 ⟨b, rfl, ba, bb, hc, ht⟩
  replace hD := (hD.alloc _).draw hc ht
  go_wp2
  go_ret2
  exact ⟨a, a + b, rfl, by omega, by omega, by omega, by omega, hD⟩
theorem rate2_any (cu m : Nat) (w : World) (hm : m ≤ 1099511600000) (h : Cur w cu m) :
    Calls Try.prog 73 #[.pointer (some ⟨cu, 0, none⟩)] w (Draw2 w cu (m + 2) 0 1002 fun a b => .tuple #[.int .i64 a, .int .i64 b]) := by
  have hD := DrS.start h
  go_enter Try.func73, Try.ntmps73
  go_wp2_with fail
  go_at_call 55
  refine (among_any cu _ _ _ _ (0) (1001) _ (by omega) (by decide) (by decide) (Nat.ne_of_gt hD.cur.lt) (Lits.new _ _ _ (by rfl) (by decide)) (hD.cur.alloc _)).mono ?_
  rintro _ w2 ⟨a, rfl, aa, ab, hc, ht⟩
  replace hD := (hD.alloc _).draw hc ht
  have hl : Lits (w2.alloc (.cells #[.int .i64 1, .int .i64 a, .int .i64 (a / 2), .int .i64 (a / 4), .int .i64 35, .int .i64 0, .int .i64 (a + 1)] 3)) w2.heap.size 7 0 1002 :=
    Lits.new _ _ _ rfl (by simp [litB]; omega)
  go_wp2_with fail
  go_at_call 55
  refine (among_any cu _ _ _ _ 0 1002 _ (by omega) (by decide) (by decide) (Nat.ne_of_gt hD.cur.lt) hl (hD.cur.alloc _)).mono ?_
  rintro _ w3 ⟨b, rfl, ba, bb, hc, ht⟩
  replace hD := (hD.alloc _).draw hc ht
  go_wp2
  go_ret2
  exact ⟨b, a, rfl, by omega, by omega, by omega, by omega, hD⟩
end Go.Proofs.Ytajmebclmippeaa
