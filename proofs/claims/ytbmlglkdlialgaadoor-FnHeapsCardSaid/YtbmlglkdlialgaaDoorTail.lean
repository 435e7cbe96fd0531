/-
  A region that draws its order: operations that only read and quiet calls, in a class of worlds, and behind them a tail that its edges force: one walk of the text's order serves every order. Conditions: the Bool that the kit's own 'still' form asks; no program is named here.
-/
import Derived.Test.YtbmlglkdlialgaaDoorBase
import Derived.StillTail
namespace Go.Proofs.YtbmlglkdlialgaaDoor
open Go.RowKit
section
variable {P : Program} {ops : Array Oper} {md : Region.Mode} {C : World → Prop}

/-- So many operations of the head come up, each quiet in the class; then T. -/
def headQ (P : Program) (md : Region.Mode) (ops : Array Oper) (C : World → Prop) (n : Nat) (T : Array Bool → Act → Prop) : Nat → Array Bool → Act → Prop
  | 0, ls, a => T ls a
  | m + 1, ls, a => Region.ready md ops ls ≠ [] ∧ ∀ i ∈ Region.ready md ops ls, i < n ∧ qOp P ops C i (headQ P md ops C n T m (ls.setIfInBounds i true)) a

theorem any_of_headQ {n g : Nat} {T : Array Bool → Act → Prop} {Q' : Exit → Act → World → Prop} (hT : ∀ ls a w, C w → T ls a → wpAny P md ops Q' g ls a w) :
    ∀ (m : Nat) (ls : Array Bool) (a : Act) (w : World), C w → headQ P md ops C n T m ls a → wpAny P md ops Q' (m + g) ls a w := by
  intro m
  induction m with
  | zero => intro ls a w hw h; rw [Nat.zero_add]; exact hT _ _ _ hw h
  | succ m ih =>
    intro ls a w hw h
    rw [Nat.succ_add]
    refine ⟨fun h0 => absurd h0 h.1, fun i hi => ?_⟩
    exact wpOp_of_qOp hw (fun a' w' hw' h' => ih _ _ _ hw' h') (h.2 i hi).2

theorem headQ_first {n i : Nat} {oi : Oper} {v : Value} {T : Array Bool → Act → Prop} (hi : ops[i]? = some oi) (hsel : ∀ (j : Nat) (o : Oper) cs b, ops[j]? = some o → o.op ≠ .select cs b)
    (hs : Region.sinkB md ops n = true) (hc : Region.chainB md ops n = true) (hn : n < ops.size) (hin : i < n) (hend : ∀ ls a, T ls a → ∀ j ∈ Region.ready md ops ls, n ≤ j) :
    ∀ (m : Nat) (ls : Array Bool) (a : Act), HeadInv md ops n ls →
      (∀ j oj, ops[j]? = some oj → j ≠ i → ls.getD j true = false → (∀ e ∈ oj.after, Region.binds md e = true → e.on ≠ i) → oi.apart ops oj = true) →
      i ∈ Region.ready md ops ls → YieldsIn P ops C oi v a →
      headQ P md ops C n T m (ls.setIfInBounds i true) (a.put oi.dst v) → headQ P md ops C n T (m + 1) ls a := by
  intro m
  induction m with
  | zero =>
    intro ls a inv _ hr hy H
    have un := (mem_ready.1 hr).1
    refine ⟨fun h => (by rw [h] at hr; cases hr), fun j hj => ?_⟩
    have hjn : j < n := Nat.lt_of_not_le fun h => absurd hj (tail_waits hs hc hn inv _ i rfl hin un j h)
    by_cases e : j = i
    · subst e; exact ⟨hjn, hy.qOp hi H⟩
    · have := hend _ _ H j (ready_mono hj e)
      omega
  | succ m ih =>
    intro ls a inv hap hr hy H
    have un := (mem_ready.1 hr).1
    refine ⟨fun h => (by rw [h] at hr; cases hr), fun j hj => ?_⟩
    have hjn : j < n := Nat.lt_of_not_le fun h => absurd hj (tail_waits hs hc hn inv _ i rfl hin un j h)
    refine ⟨hjn, ?_⟩
    by_cases e : j = i
    · subst e; exact hy.qOp hi H
    · obtain ⟨unj, oj, hoj, hall⟩ := mem_ready.1 hj
      have hno : ∀ x ∈ oj.after, Region.binds md x = true → x.on ≠ i := fun x hx hb he => by
        have h1 := hall x hx hb
        rw [he, getD_both un] at h1
        cases h1
      have h2 := qOp_put hoj (hap j oj hoj e unj hno) (fun cs b => hsel i oi cs b hi) (fun cs b => hsel j oj cs b hoj) hy (H.2 j (ready_mono hj e)).2
      refine qOp_mono (fun a' h3 => ih _ a' (inv.set hj hjn) (fun k ok hk hki hun hno' => hap k ok hk hki ?_ hno') (ready_mono hr (Ne.symm e)) h3.1 ?_) h2
      · by_cases hjk : j = k
        · subst hjk; exact unj
        · rwa [getD_set_ne true hjk] at hun
      · rw [Array.setIfInBounds_comm _ _ e]; exact h3.2

theorem headQ_lex {n g : Nat} {L : Act → Prop} (hsel : Region.noSelect ops = true) (hs : Region.sinkB md ops n = true) (hc : Region.chainB md ops n = true) (hn : n < ops.size) :
    ∀ (l : List Oper) (k : Nat) (ls : Array Bool) (a : Act), (∀ j, j < l.length → l[j]? = ops[k + j]?) → k + l.length = n → HeadInv md ops n ls →
    Region.lexHead md ops g l.length k ls = true → wpQuiet P ops C L l a → headQ P md ops C n (fun ls' a' => Region.seqB md ops g n ls' = true ∧ L a') l.length ls a := by
  intro l
  induction l with
  | nil =>
    intro k ls a _ hk _ hB h
    obtain rfl : k = n := by simpa using hk
    exact ⟨by simpa [Region.lexHead] using hB, h⟩
  | cons o l ih =>
    intro k ls a hl hk inv hB h
    have h0 : ops[k]? = some o := by simpa using (hl 0 (by simp)).symm
    simp only [List.length_cons, Region.lexHead, Bool.and_eq_true] at hB hk
    have hr : k ∈ Region.ready md ops ls := by simpa using hB.1.1
    have hq : qOp P ops C k (wpQuiet P ops C L l) a := by unfold qOp; simp only [h0]; exact h
    obtain ⟨v, hy, hK⟩ := yieldsIn_of_qOp h0 hq
    refine headQ_first h0 (Region.noSelect_spec hsel) hs hc hn (by omega) (fun ls' a' hL => seqB_ready hL.1) l.length ls a inv (Region.free_spec h0 hB.1.2) hr hy ?_
    exact ih (k + 1) _ _ (fun j hj => by have := hl (j + 1) (by simp; omega); simpa [Nat.add_assoc, Nat.add_comm 1 j] using this) (by omega) (inv.set hr (by omega)) hB.2 hK

/-- Such a region, its first n operations quiet in the worlds that grow from W. -/
theorem region_after_tail {id : Nat} {Q : Exit → Act → World → Prop} {a : Act} {W : World} {l : List Oper} (n : Nat) (hm : P.follows .mixedOrders = true) (hB : Region.lexTailB .any l.toArray n = true)
    (h : wpQuiet P l.toArray (fun w' => ∃ x : After W, w' = x.w) (fun a' => ∀ w', (∃ x : After W, w' = x.w) → wpList P l.toArray Q (l.drop n) a' w') (l.take n) a) : (Code.region id l.toArray true).wp P Q a W := by
  simp only [Region.lexTailB, Bool.and_eq_true, decide_eq_true_eq] at hB
  obtain ⟨⟨⟨⟨hsel, hn⟩, hs⟩, hc⟩, hlex⟩ := hB
  have hnl : n < l.length := by simpa using hn
  have ht : (l.take n).length = n := by simp; omega
  have hd : (l.drop n).length = l.toArray.size - n := by simp
  have inv : HeadInv .any l.toArray n (Array.replicate l.toArray.size false) :=
    ⟨by simp, fun j oj _ hl => (by rw [getD_replicate_false] at hl; cases hl), fun t _ ht => getD_in (by simpa using ht) (getD_replicate_false _ _)⟩
  have H := headQ_lex (md := .any) (g := l.toArray.size - n) hsel hs hc hn (l.take n) 0 _ a (fun j hj => by
    have hj' : j < n := by omega
    simp [hj']) (by omega) inv (by rw [ht]; exact hlex) h
  refine wp_region_any hm ?_
  have K := any_of_headQ (Q' := Q) (g := l.toArray.size - n) (fun ls a' w hw hT => by
    have := wpAny_of_seq (md := .any) (Q' := Q) (l.drop n) n ls a' w (fun j => by simp [List.getElem?_drop]) (by rw [hd]; exact hT.1) (hT.2 w hw)
    rwa [hd] at this) _ _ _ { W with drawn := W.drawn + 1 } ⟨⟨_, (Below.refl _ _).drew⟩, rfl⟩ H
  rw [ht, show n + (l.toArray.size - n) = l.toArray.size by omega] at K
  exact K
end

theorem box2 {w : World} {g : Nat} {p q : Value} (h : Ow w g (g + 1) (some ⟨g, 0, none⟩) 1 2 (fun _ j => #[p, q][j]!)) :
    w.cell? ⟨g, 0, none⟩ = some p ∧ w.cell? ⟨g, 1, none⟩ = some q ∧ w.frozen? ⟨g, 0, none⟩ = false ∧ w.frozen? ⟨g, 1, none⟩ = false := by
  obtain ⟨-, -, c, f⟩ := h.at_ (i := 0) (by omega)
  have c0 := c 0 (by omega)
  have c1 := c 1 (by omega)
  have f0 := f 0 (by omega)
  have f1 := f 1 (by omega)
  simp only [Nat.zero_mul, Nat.zero_add] at c0 c1 f0 f1
  exact ⟨c0, c1, f0, f1⟩
theorem box2_set {w : World} {g : Nat} {p q : Value} (h : Ow w g (g + 1) (some ⟨g, 0, none⟩) 1 2 (fun _ j => #[p, q][j]!)) (p' q' : Value) :
    Ow ((w.setCell ⟨g, 0, none⟩ p').setCell ⟨g, 1, none⟩ q') g (g + 1) (some ⟨g, 0, none⟩) 1 2 (fun _ j => #[p', q'][j]!) :=
  ((h.set (i0 := 0) (j0 := 0) (o := 0) (by omega) (by omega) rfl p').set (i0 := 0) (j0 := 1) (o := 1) (by omega) (by omega) rfl q').congr fun i j hi hj => by
    obtain rfl : i = 0 := by omega
    match j, hj with
    | 0, _ => simp [upd]
    | 1, _ => simp [upd]
theorem box2_set0 {w : World} {g : Nat} {p q : Value} (h : Ow w g (g + 1) (some ⟨g, 0, none⟩) 1 2 (fun _ j => #[p, q][j]!)) (p' : Value) :
    Ow (w.setCell ⟨g, 0, none⟩ p') g (g + 1) (some ⟨g, 0, none⟩) 1 2 (fun _ j => #[p', q][j]!) :=
  (h.set (i0 := 0) (j0 := 0) (o := 0) (by omega) (by omega) rfl p').congr fun i j hi hj => by
    obtain rfl : i = 0 := by omega
    match j, hj with
    | 0, _ => simp [upd]
    | 1, _ => simp [upd]
theorem box2_new (w : World) (t : TypeId) (p q : Value) : Ow (w.alloc (.cells #[p, q] t)) w.heap.size (w.heap.size + 1) (some ⟨w.heap.size, 0, none⟩) 1 2 (fun _ j => #[p, q][j]!) := Ow.box w #[p, q] t


/-- A slice that append has made is a slice; it reads as the list, and may be written. -/
theorem own_sl {w : World} {B : Nat} {e : TypeId} {sz n : Nat} {v : Value} {xs : List Value} (h : w.ownsRow B e sz v n xs) :
    ∃ A c, v = .slice A n c ∧ Ow w B w.heap.size A n sz (fun i j => xs.getD (i * sz + j) undef) := by
  rcases Nat.eq_zero_or_pos n with h0 | h0
  · subst h0
    rcases h.2 with ⟨e, -⟩ | ⟨g, cap, cur, e, -⟩
    · exact ⟨_, _, e, Ow.nil ..⟩
    · exact ⟨_, _, e, Ow.nil ..⟩
  · obtain ⟨g, cap, rfl, hb, hg⟩ := h.form h0
    refine ⟨_, _, rfl, ⟨fun _ => ⟨g, 0, rfl, hb, hg, fun i j hi hj => ?_⟩, fun b off e i j hi hj => ?_⟩⟩
    · have hlt : i * sz + j < n * sz := by have := Nat.mul_le_mul_right sz (show i + 1 ≤ n by omega); rw [Nat.add_mul] at this; omega
      rw [Nat.zero_add, h.cellAt _ hlt]
      have : i * sz + j < xs.length := by rw [h.1]; exact hlt
      simp [List.getD, List.getElem?_eq_getElem this]
    · injection e with e; injection e with e1 e2; subst e1; exact h.frozenAt _
theorem own_below {w w' : World} {B : Nat} {e : TypeId} {sz n : Nat} {v : Value} {xs : List Value} (h : w.ownsRow B e sz v n xs) (hb : Below w.heap.size w w') : w'.ownsRow B e sz v n xs :=
  h.kept (row := none) ⟨hb.os, hb.tape, hb.output, hb.size, fun k hk _ => hb.block k hk⟩ (by cases hv : v.ownBlock <;> simp)
/-- What append leaves: nothing below the row's base has turned. -/
theorem grown_below {w w' : World} {B : Nat} {e : TypeId} {sz n : Nat} {v : Value} {xs : List Value} (h : w.ownsRow B e sz v n xs) (hg : w.grownBy w' v.ownBlock) (hB : B ≤ w.heap.size) : Below B w w' :=
  (Below.refl B w).grown hg hB fun k hk => (h.lt k hk).1
end Go.Proofs.YtbmlglkdlialgaaDoor
