/-
  What falls out of a liquor, of the reference: two rows of the call's own that grow side by side. Conditions: at most six kinds.
-/
import Derived.Test.YtnmpfojcmedpeaaDoorCrG
import Derived.Deep.RegionLaw
import Derived.IntWalk
import Derived.Deep.AppendLies
namespace Go.Proofs.YtnmpfojcmedpeaaDoor
open Go.RowKit

theorem rowL_succ (F : Nat → Nat → Int) (k : Nat) : rowL (ints F) (k + 1) 1 = rowL (ints F) k 1 ++ [.int .i64 (F k 0)] := by
  simp only [rowL, Nat.mul_one, Nat.div_one, Nat.mod_one, List.range_succ, List.map_append, List.map_cons, List.map_nil]
/-- Two rows of the call's own and a box that holds a number and the first of them. -/
structure TwoR (W w : World) (B e : Nat) (t : TypeId) (X : Value) (v1 v2 : Value) (k1 k2 : Nat) (xs1 xs2 : List Value) (q1 q2 : Nat) : Prop where
  hb : Below B W w
  hW : B ≤ W.heap.size
  c0 : w.cell? ⟨e, 0, none⟩ = some X
  c1 : w.cell? ⟨e, 1, none⟩ = some v1
  f0 : w.frozen? ⟨e, 0, none⟩ = false
  f1 : w.frozen? ⟨e, 1, none⟩ = false
  o1 : w.ownsRow B t 1 v1 k1 xs1
  o2 : w.ownsRow B t 1 v2 k2 xs2
  b1 : v1.ownBlock = some q1
  b2 : v2.ownBlock = some q2
  n12 : q1 ≠ q2
  n1 : q1 ≠ e
  n2 : q2 ≠ e
  he : e < w.heap.size
  hB : B ≤ e
section
variable {W w w' : World} {B e : Nat} {t : TypeId} {X v1 v2 : Value} {k1 k2 : Nat} {xs1 xs2 : List Value} {q1 q2 : Nat}
theorem TwoR.below (h : TwoR W w B e t X v1 v2 k1 k2 xs1 xs2 q1 q2) (y : Below w.heap.size w w') : TwoR W w' B e t X v1 v2 k1 k2 xs1 xs2 q1 q2 :=
  { h with hb := h.hb.trans (y.mono (Nat.le_trans h.hW h.hb.size)), c0 := (y.cell h.he).trans h.c0, c1 := (y.cell h.he).trans h.c1, f0 := (y.frozen h.he).trans h.f0, f1 := (y.frozen h.he).trans h.f1, o1 := own_below h.o1 y, o2 := own_below h.o2 y, he := Nat.lt_of_lt_of_le h.he y.size }
theorem TwoR.alloc (h : TwoR W w B e t X v1 v2 k1 k2 xs1 xs2 q1 q2) (o : Obj) : TwoR W (w.alloc o) B e t X v1 v2 k1 k2 xs1 xs2 q1 q2 := h.below ((Below.refl _ _).alloc (Nat.le_refl _) o)
theorem TwoR.app2 (h : TwoR W w B e t X v1 v2 k1 k2 xs1 xs2 q1 q2) {v : Value} {k : Nat} {xs : List Value} (ho : w'.ownsRow B t 1 v k xs) (hg : w.grownBy w' v2.ownBlock) (hv : v.ownBlock = v2.ownBlock ∨ v.ownBlock = some w.heap.size) :
    ∃ q, TwoR W w' B e t X v1 v k1 k xs1 xs q1 q := by
  have hq1 := (h.o1.lt q1 h.b1).2
  have hq2 := (h.o2.lt q2 h.b2)
  have e1 : (some e : Option Nat) ≠ v2.ownBlock := by rw [h.b2]; intro e; injection e with e; exact h.n2 e.symm
  have hbb : Below B w w' := (Below.refl B w).grown hg (by have := h.he; have := h.hB; omega) fun k hk => (h.o2.lt k hk).1
  refine ⟨(v.ownBlock).getD 0, ?_⟩
  have hne : v.ownBlock = some q2 ∨ v.ownBlock = some w.heap.size := by rw [← h.b2]; exact hv
  refine { h with hb := h.hb.trans hbb, c0 := (hg.cell_far _ h.he e1).trans h.c0, c1 := (hg.cell_far _ h.he e1).trans h.c1, f0 := (hg.frozen_far _ h.he e1).trans h.f0, f1 := (hg.frozen_far _ h.he e1).trans h.f1, o1 := h.o1.kept hg (.inr (by rw [h.b1, h.b2]; intro e; injection e with e; exact h.n12 e)), o2 := ho, b2 := ?_, n12 := ?_, n2 := ?_, he := Nat.lt_of_lt_of_le h.he hg.size }
  · rcases hne with e | e <;> rw [e] <;> rfl
  · rcases hne with e | e <;> rw [e]
    · exact h.n12
    · show q1 ≠ w.heap.size; omega
  · have := h.he
    rcases hne with e | e <;> rw [e]
    · exact h.n2
    · show w.heap.size ≠ _; omega
theorem TwoR.app1 (h : TwoR W w B e t X v1 v2 k1 k2 xs1 xs2 q1 q2) {v : Value} {k : Nat} {xs : List Value} (ho : w'.ownsRow B t 1 v k xs) (hg : w.grownBy w' v1.ownBlock) (hv : v.ownBlock = v1.ownBlock ∨ v.ownBlock = some w.heap.size) :
    ∃ q, TwoR W (w'.setCell ⟨e, 1, none⟩ v) B e t X v v2 k k2 xs xs2 q q2 := by
  have hq1 := (h.o1.lt q1 h.b1)
  have hq2 := (h.o2.lt q2 h.b2)
  have e1 : (some e : Option Nat) ≠ v1.ownBlock := by rw [h.b1]; intro e; injection e with e; exact h.n1 e.symm
  have hbb : Below B w w' := (Below.refl B w).grown hg (by have := h.he; have := h.hB; omega) fun k hk => (h.o1.lt k hk).1
  have hne : v.ownBlock = some q1 ∨ v.ownBlock = some w.heap.size := by rw [← h.b1]; exact hv
  have hle : e < w'.heap.size := Nat.lt_of_lt_of_le h.he hg.size
  have hx0 : w'.cell? ⟨e, 0, none⟩ = some X := (hg.cell_far _ h.he e1).trans h.c0
  have hx1 : w'.cell? ⟨e, 1, none⟩ = some v1 := (hg.cell_far _ h.he e1).trans h.c1
  have hy0 : w'.frozen? ⟨e, 0, none⟩ = false := (hg.frozen_far _ h.he e1).trans h.f0
  have hy1 : w'.frozen? ⟨e, 1, none⟩ = false := (hg.frozen_far _ h.he e1).trans h.f1
  have hoe : v.ownBlock = none ∨ v.ownBlock ≠ some e := .inr (by
    have := h.he
    rcases hne with e | e <;> rw [e] <;> intro e <;> injection e with e
    · exact h.n1 e
    · omega)
  have hset : w'.grownBy (w'.setCell ⟨e, 1, none⟩ v) (some e) := ⟨rfl, rfl, rfl, by simp, fun k hk hn => Below.heap_setCell _ _ _ _ (by intro h; exact hn (by rw [h]))⟩
  refine ⟨(v.ownBlock).getD 0, ?_⟩
  refine { h with hb := (h.hb.trans hbb).setCell h.hB _, c0 := ?_, c1 := ?_, f0 := ?_, f1 := ?_, o1 := ho.kept hset hoe, o2 := (h.o2.kept hg (.inr (by rw [h.b1, h.b2]; intro e; injection e with e; exact h.n12 e.symm))).kept hset (.inr (by rw [h.b2]; intro e; injection e with e; exact h.n2 e)), b1 := ?_, n12 := ?_, n1 := ?_, he := by simpa using hle }
  · go_simp
  · go_simp
  · go_simp
  · go_simp
  · rcases hne with e | e <;> rw [e] <;> rfl
  · rcases hne with e | e <;> rw [e]
    · exact h.n12
    · show w.heap.size ≠ _; omega
  · have := h.he
    rcases hne with e | e <;> rw [e]
    · exact h.n1
    · show w.heap.size ≠ _; omega
theorem TwoR.setX (h : TwoR W w B e t X v1 v2 k1 k2 xs1 xs2 q1 q2) (Y : Value) : TwoR W (w.setCell ⟨e, 0, none⟩ Y) B e t Y v1 v2 k1 k2 xs1 xs2 q1 q2 := by
  have hset : w.grownBy (w.setCell ⟨e, 0, none⟩ Y) (some e) := ⟨rfl, rfl, rfl, by simp, fun k hk hn => Below.heap_setCell _ _ _ _ (by intro h; exact hn (by rw [h]))⟩
  have hx0 := h.c0
  have hx1 := h.c1
  have hy0 := h.f0
  have hy1 := h.f1
  refine { h with hb := h.hb.setCell h.hB _, c0 := ?_, c1 := ?_, f0 := ?_, f1 := ?_, o1 := h.o1.kept hset (.inr (by rw [h.b1]; intro e; injection e with e; exact h.n1 e)), o2 := h.o2.kept hset (.inr (by rw [h.b2]; intro e; injection e with e; exact h.n2 e)), he := by simpa using h.he }
  all_goals go_simp
end
set_option maxRecDepth 20000 in
set_option maxHeartbeats 4000000 in
theorem l10Fall_any (A : Option Addr) (n c : Nat) (S : Nat → ByteArray) (F : Nat → Nat → Int) (x : Int) (B : Option Addr) (d : Nat) (L : Nat → Nat → Int) (w : World) (hn : n ≤ 6) (hx : 0 ≤ x) (hx2 : x ≤ 1000000)
    (HF : Hid (∀ k, k < n → (0 ≤ F k 1 ∧ F k 1 ≤ 9) ∧ 1 ≤ F k 2 ∧ F k 2 ≤ 1000)) (HL : Hid (∀ k, k < n → 0 ≤ L k 0 ∧ L k 0 ≤ 1000000)) (h : Rd w A n 3 (kdC S F)) (hL : Rd w B n 1 (ints L)) :
    Calls Tryd.prog 62 #[.slice A n c, .agg #[.int .i64 x, .slice B n d]] w (FallR w (fun A1 c1 A2 c2 => .tuple #[.agg #[.int .i64 (fallX F L x n), .slice A1 n c1], .slice A2 n c2]) n (ints (fallS F L x)) (ints (fallG F L x))) := by
  have HX := hide (fallX_bd hx hx2 HF.out HL.out)
  obtain ⟨i0, hi0, hz0, hz1, hz2⟩ := info_parts info_int
  go_enter Tryd.func62, Tryd.ntmps62
  go_wp2
  have hb_W : Below w.heap.size w ((w.alloc (.cells #[.int .i64 x, .slice B n d] 27)).alloc (.cells #[.int .i64 0, .slice none 0 0] 27)) := ((Below.refl _ _).alloc (Nat.le_refl _) _).alloc (by simp) _
  have hsW : ((w.alloc (.cells #[.int .i64 x, .slice B n d] 27)).alloc (.cells #[.int .i64 0, .slice none 0 0] 27)).heap.size = w.heap.size + 1 + 1 := by simp
  have l0 : World.cell? ((w.alloc (.cells #[.int .i64 x, .slice B n d] 27)).alloc (.cells #[.int .i64 0, .slice none 0 0] 27)) ⟨w.heap.size, 1, none⟩ = some (.slice B n d) := by go_simp
  have l1 : World.cell? ((w.alloc (.cells #[.int .i64 x, .slice B n d] 27)).alloc (.cells #[.int .i64 0, .slice none 0 0] 27)) ⟨w.heap.size + 1, 0, none⟩ = some (.int .i64 0) := by go_simp
  have l2 : World.cell? ((w.alloc (.cells #[.int .i64 x, .slice B n d] 27)).alloc (.cells #[.int .i64 0, .slice none 0 0] 27)) ⟨w.heap.size + 1, 1, none⟩ = some (.slice none 0 0) := by go_simp
  have l3 : World.frozen? ((w.alloc (.cells #[.int .i64 x, .slice B n d] 27)).alloc (.cells #[.int .i64 0, .slice none 0 0] 27)) ⟨w.heap.size + 1, 0, none⟩ = false := by go_simp
  have l4 : World.frozen? ((w.alloc (.cells #[.int .i64 x, .slice B n d] 27)).alloc (.cells #[.int .i64 0, .slice none 0 0] 27)) ⟨w.heap.size + 1, 1, none⟩ = false := by go_simp
  generalize (w.alloc (.cells #[.int .i64 x, .slice B n d] 27)).alloc (.cells #[.int .i64 0, .slice none 0 0] 27) = W at hb_W hsW l0 l1 l2 l3 l4 ⊢
  have hT : TwoR W (((W.alloc (.cells #[] 3)).alloc (.cells #[] 3)).alloc (.cells #[.int .i64 x, .slice (some ⟨w.heap.size + 1 + 1, 0, none⟩) 0 0] 27)) (w.heap.size + 1 + 1) (w.heap.size + 1 + 1 + 1 + 1) 3 (.int .i64 (fallX F L x 0)) (.slice (some ⟨w.heap.size + 1 + 1, 0, none⟩) 0 0) (.slice (some ⟨w.heap.size + 1 + 1 + 1, 0, none⟩) 0 0) 0 0 (rowL (ints (fallS F L x)) 0 1) (rowL (ints (fallG F L x)) 0 1) (w.heap.size + 1 + 1) (w.heap.size + 1 + 1 + 1) := by
    have e2 : ((W.alloc (.cells #[] 3)).alloc (.cells #[] 3)).heap.size = w.heap.size + 1 + 1 + 1 + 1 := by simp [hsW]
    have e1 : (W.alloc (.cells #[] 3)).heap.size = w.heap.size + 1 + 1 + 1 := by simp [hsW]
    have r1 := ((World.ownsRow_lit (base := w.heap.size + 1 + 1) (e := 3) (size := 1) W #[] 0 (by omega) (Nat.zero_le _) rfl).alloc (.cells #[] 3)).alloc (.cells #[.int .i64 x, .slice (some ⟨w.heap.size + 1 + 1, 0, none⟩) 0 0] 27)
    have r2 := (World.ownsRow_lit (base := w.heap.size + 1 + 1) (e := 3) (size := 1) (W.alloc (.cells #[] 3)) #[] 0 (by omega) (Nat.zero_le _) rfl).alloc (.cells #[.int .i64 x, .slice (some ⟨w.heap.size + 1 + 1, 0, none⟩) 0 0] 27)
    rw [hsW] at r1
    rw [e1] at r2
    exact { hb := (((Below.refl _ _).alloc (by omega) _).alloc (by omega) _).alloc (by omega) _, hW := by omega, c0 := by rw [← e2, World.cell?_alloc_new]; rfl, c1 := by rw [← e2, World.cell?_alloc_new]; rfl, f0 := by rw [← e2]; go_simp, f1 := by rw [← e2]; go_simp, o1 := r1, o2 := r2, b1 := rfl, b2 := rfl, n12 := by omega, n1 := by omega, n2 := by omega, he := by simp; omega, hB := by omega }
  generalize ((W.alloc (.cells #[] 3)).alloc (.cells #[] 3)).alloc (.cells #[.int .i64 x, .slice (some ⟨w.heap.size + 1 + 1, 0, none⟩) 0 0] 27) = w5 at hT ⊢
  generalize hE : w.heap.size + 1 + 1 + 1 + 1 = e at hT ⊢
  have hBe : w.heap.size + 1 + 1 ≤ e := by omega
  clear hE
  go_loopw [7, 8, 9] (fun g i _ wr => ∃ (k : Nat) (v1 : Value) (q1 q2 : Nat), k ≤ n ∧ i = .int .i64 k ∧ TwoR W wr (w.heap.size + 1 + 1) e 3 (.int .i64 (fallX F L x k)) v1 g k k (rowL (ints (fallS F L x)) k 1) (rowL (ints (fallG F L x)) k 1) q1 q2) (fun _ i _ _ => n - (intOf i).toNat)
  case atStart => exact ⟨0, _, _, _, by omega, rfl, hT⟩
  case round =>
    clear hT
    obtain ⟨k, v1, q1, q2, hk, rfl, hR⟩ := hrel
    have hbr : Below w.heap.size w wr := hb_W.trans (hR.hb.mono (by omega))
    by_cases hlk : k < n
    · obtain ⟨⟨t1, t2⟩, g1, g2⟩ := HF.out k hlk
      obtain ⟨s1, s2⟩ := HL.out k hlk
      obtain ⟨x1, x2⟩ := HX.out k hk
      obtain ⟨⟨u1, u2⟩, -, ⟨n1, n2⟩, ⟨m1, m2⟩, y1, y2⟩ := fallN_bd g1 g2 t1 t2 s1 s2 x1 x2
      have HX1 := hide (show fallX F L x (k + 1) = fallX F L x k - fallN (F k 2) (F k 1) (L k 0) (fallX F L x k) * F k 1 / 10 by rw [Int.mul_comm]; rfl)
      have HS1 := hide (show rowL (ints (fallS F L x)) (k + 1) 1 = rowL (ints (fallS F L x)) k 1 ++ [.int .i64 (L k 0 - fallN (F k 2) (F k 1) (L k 0) (fallX F L x k))] from rowL_succ _ _)
      have HG1 := hide (show rowL (ints (fallG F L x)) (k + 1) 1 = rowL (ints (fallG F L x)) k 1 ++ [.int .i64 (fallN (F k 2) (F k 1) (L k 0) (fallX F L x k))] from rowL_succ _ _)
      rw [Int.mul_comm] at m1 m2 y1 y2
      obtain ⟨b, off, rfl, -, hbw, hc⟩ := h (by omega)
      obtain ⟨b', off', rfl, -, hbw', hc'⟩ := hL (by omega)
      have K0 : ∀ w', Below w.heap.size w w' → w'.cell? ⟨b, off + k * 3, none⟩ = some (.string (S k)) := fun w' hb => (hb.cell (by exact hbw)).trans (by simpa [kdC] using hc k 0 hlk (by omega))
      have K1 : ∀ w', Below w.heap.size w w' → w'.cell? ⟨b, off + k * 3 + 1, none⟩ = some (.int .i64 (F k 1)) := fun w' hb => (hb.cell (by exact hbw)).trans (by simpa [kdC] using hc k 1 hlk (by omega))
      have K2 : ∀ w', Below w.heap.size w w' → w'.cell? ⟨b, off + k * 3 + 2, none⟩ = some (.int .i64 (F k 2)) := fun w' hb => (hb.cell (by exact hbw)).trans (by simpa [kdC] using hc k 2 hlk (by omega))
      have K3 : ∀ w', Below w.heap.size w w' → w'.cell? ⟨b', off' + k, none⟩ = some (.int .i64 (L k 0)) := fun w' hb => (hb.cell (by exact hbw')).trans (by simpa using hc' k 0 hlk (by omega))
      have K4 : ∀ w', Below (w.heap.size + 1 + 1) W w' → w'.cell? ⟨w.heap.size, 1, none⟩ = some (.slice (some ⟨b', off', none⟩) n d) := fun w' hb => (hb.cell (show w.heap.size < w.heap.size + 1 + 1 by omega)).trans l0
      clear hc hc'
      have d0 := fun y : After wr => y.cell hR.c0 hR.he
      have d1 := fun y : After wr => K0 _ (gr hbr y.h)
      have d2 := fun y : After wr => K1 _ (gr hbr y.h)
      have d3 := fun y : After wr => K2 _ (gr hbr y.h)
      have d4 := fun y : After wr => K3 _ (gr hbr y.h)
      have d5 := fun y : After wr => K4 _ (hR.below y.h).hb
      go_wp2
      refine region_after (by kernel_rfl) (by kernel_rfl) ?_
      repeat (go_big_quiet_step ((first | (go_at_call 84; exact Calls.after (l10Falls_any _ _ _ _ _ _ g1 g2 t1 t2 s1 s2 x1 x2)))))
      refine wpQuiet_nil ?_
      rintro _ ⟨y, rfl⟩
      replace hR := hR.below y.h
      replace hbr := gr hbr y.h
      clear d0 d1 d2 d3 d4 d5
      generalize y.w = Y at *
      clear y
      generalize fallX F L x k = X at *
      generalize fallN (F k 2) (F k 1) (L k 0) X = N at *
      have hsz : w.heap.size + 1 + 1 ≤ Y.heap.size := Nat.le_trans hR.hW hR.hb.size
      go_wp2_with (at_builtin; refine wpList_append_own_at _ rfl _ _ 25 rfl (w.heap.size + 1 + 1) 3 i0 (.int .i64 0) 1 8 Tryd.underlying25 hi0 hz0 hz1 hz2 rfl (by decide) u7 _ _ rfl (hR.o2.alloc _) ⟨Y.heap.size, 0, none⟩ 1 1 [.int .i64 N] rfl rfl (World.news_of_block (cs := #[.int .i64 N]) (t := 3) (fr := (0, 0)) (heap_alloc_new Y _)) (by simp [Value.oneCell']) (by simp only [maxLen]; omega) (by omega) (by simp; omega) ?_; intro v2' w3 hown2 hg2 _ hv2)
      rw [← HG1.out] at hown2
      obtain ⟨q2', hR3⟩ := (hR.alloc _).app2 hown2 hg2 hv2
      clear hR hg2 hv2 hown2
      have hbr3 : Below w.heap.size w w3 := hb_W.trans (hR3.hb.mono (by omega))
      have hsz3 : w.heap.size + 1 + 1 ≤ w3.heap.size := Nat.le_trans hR3.hW hR3.hb.size
      have r1 := hR3.c1
      have r2 := hR3.f1
      have r3 := hR3.he
      have r4 := K3 w3 hbr3
      have r5 := K4 w3 hR3.hb
      have r6 : w.heap.size < w3.heap.size := by omega
      have r7 : b' < w3.heap.size := by have := hbr3.size; omega
      have HW := hide (show IntKind.i64.wrap (L k 0 - N) = L k 0 - N from IntWalk.i64_in _ (by omega))
      clear HG1 hbr
      go_cut [9] (fun s wx => s = .int .i64 N ∧ ∃ v q, TwoR W wx (w.heap.size + 1 + 1) e 3 (.int .i64 X) v v2' (k + 1) (k + 1) (rowL (ints (fallS F L x)) (k + 1) 1) (rowL (ints (fallG F L x)) (k + 1) 1) q q2')
      case first =>
        go_region_law ((refine step_append_lies _ (by rfl) _ _ _ (by rfl) (w.heap.size + 1 + 1) 3 i0 _ 1 8 Tryd.underlying25 hi0 hz0 hz1 hz2 rfl (by omega) v1 k _ (by rfl) (hR3.below (by (repeat' (first | exact Below.refl _ _ | assumption | refine Below.drew ?_ | refine Below.alloc ?_ (by first | omega | exact Below.size (by assumption) | (simp; done) | (simp; omega)) _ | refine Below.setCell ?_ (by first | omega | exact Below.size (by assumption) | (simp; done) | (simp; omega)) _)))).o1 ⟨w3.heap.size, 0, none⟩ 1 1 [.int .i64 (IntKind.i64.wrap (L k 0 - N))] (by rfl) (by rfl) (World.news_of_block (cs := #[.int .i64 (IntKind.i64.wrap (L k 0 - N))]) (t := 3) (fr := (0, 0)) (heap_alloc_new w3 _)) (by simp [Value.oneCell']) (by omega) (by simp only [maxLen]; omega) (by omega) (by simp; omega) (w3.heap.size + 1) (by simp) ?_; intro gg cap w5 hown1 hgrow hat hlt5; have hRa := hR3.below (w' := (w3.alloc (.cells #[.int .i64 (IntKind.i64.wrap (L k 0 - N))] 3)).drew) (by (repeat' (first | exact Below.refl _ _ | assumption | refine Below.drew ?_ | refine Below.alloc ?_ (by first | omega | exact Below.size (by assumption) | (simp; done) | (simp; omega)) _ | refine Below.setCell ?_ (by first | omega | exact Below.size (by assumption) | (simp; done) | (simp; omega)) _))); have ex1 := (hgrow.cell_far ⟨e, 1, none⟩ hRa.he (by rw [hRa.b1]; intro e; injection e with e; exact hRa.n1 e.symm)).trans hRa.c1; have ef1 := (hgrow.frozen_far ⟨e, 1, none⟩ hRa.he (by rw [hRa.b1]; intro e; injection e with e; exact hRa.n1 e.symm)).trans hRa.f1; have ez1 : e < w5.heap.size := Nat.lt_of_lt_of_le hRa.he hgrow.size; have HAT := hide hat; clear hat; rw [HW.out, ← HS1.out] at hown1))
        all_goals
          go_wp2_with fail
          go_meet
          exact ⟨rfl, _, hRa.app1 hown1 hgrow (HAT.out.imp (fun h => h.symm) (fun h => by rw [h]; simp [Value.ownBlock]))⟩
      case rest =>
        obtain ⟨rfl, v1', q1', hR5⟩ := hcut
        clear hR3 r1 r2 r3 r4 r5 r6 r7 HW hsz3 hbr3
        have hbr6 : Below w.heap.size w wc := hb_W.trans (hR5.hb.mono (by omega))
        have d0 := fun y : After wc => y.cell hR5.c0 hR5.he
        have d2 := fun y : After wc => K1 _ (gr hbr6 y.h)
        go_wp2_with fail
        refine region_after_tail 12 (by kernel_rfl) (by kernel_rfl) ?_
        simp only [List.take_succ_cons, List.take_zero, List.drop_succ_cons, List.drop_zero]
        repeat (go_big_quiet_step ((first | fail)))
        refine wpQuiet_nil ?_
        rintro _ ⟨y, rfl⟩
        clear d0 d2 K0 K1 K2 K3 K4
        replace hR5 := hR5.below y.h
        generalize y.w = Z' at *
        clear y hbr6
        have x0 := hR5.c0
        have f0 := hR5.f0
        have hz' := hR5.he
        go_wp2
        go_roundw
        case rel => exact ⟨k + 1, v1', q1', q2', by omega, by go_num, by rw [HX1.out]; exact hR5.setX _⟩
        case measure => simp [intOf]; omega
    · obtain rfl : k = n := by omega
      have z0 := (hR.hb.cell (p := ⟨w.heap.size + 1, 0, none⟩) (Nat.lt_succ_self _)).trans l1
      have z1 := (hR.hb.cell (p := ⟨w.heap.size + 1, 1, none⟩) (Nat.lt_succ_self _)).trans l2
      have z2 := (hR.hb.frozen (p := ⟨w.heap.size + 1, 0, none⟩) (Nat.lt_succ_self _)).trans l3
      have z3 := (hR.hb.frozen (p := ⟨w.heap.size + 1, 1, none⟩) (Nat.lt_succ_self _)).trans l4
      have hzz : w.heap.size + 1 < wr.heap.size := by have := hR.he; omega
      obtain ⟨A1, c1, rfl, hO⟩ := own_tab hR.o1
      obtain ⟨A2, c2, rfl, hM⟩ := own_tab hR.o2
      have x0 := hR.c0
      have x1 := hR.c1
      replace hO := ((hO.cell_out (p := ⟨w.heap.size + 1, 0, none⟩) (.inl (Nat.lt_succ_self _)) (.int .i64 (fallX F L x k))).cell_out (p := ⟨w.heap.size + 1, 1, none⟩) (.inl (Nat.lt_succ_self _)) (.slice A1 k c1))
      replace hM := ((hM.cell_out (p := ⟨w.heap.size + 1, 0, none⟩) (.inl (Nat.lt_succ_self _)) (.int .i64 (fallX F L x k))).cell_out (p := ⟨w.heap.size + 1, 1, none⟩) (.inl (Nat.lt_succ_self _)) (.slice A1 k c1))
      replace hbr := (hbr.setCell (p := ⟨w.heap.size + 1, 0, none⟩) (Nat.le_succ _) (.int .i64 (fallX F L x k))).setCell (p := ⟨w.heap.size + 1, 1, none⟩) (Nat.le_succ _) (.slice A1 k c1)
      go_wp2
      refine bodyPost_ret (v := .tuple #[.agg #[.int .i64 (fallX F L x k), .slice A1 k c1], .slice A2 k c2]) (by simp only [results, Tryd.results62]; go_simp) rfl ⟨_, _, _, _, rfl, hO.mono (by omega) (by simp), hM.mono (by omega) (by simp), hbr⟩
end Go.Proofs.YtnmpfojcmedpeaaDoor
