/-
  Contracts on workers: the best free day, of the program. Conditions: lengths up to 2^20.
-/
import Derived.Test.YtmblkjnpibcmoaaWkG
import Derived.Test.YtmblkjnpibcmoaaOwn
namespace Go.Proofs.Ytmblkjnpibcmoaa
open Go.RowKit

/-- Worker i has another free day. -/
def setFree (F : Nat → Nat → Int) (i : Nat) (x : Int) : Nat → Nat → Int := fun k j => if k = i ∧ j = 4 then x else F k j
theorem setFree_works {F : Nat → Nat → Int} {n i : Nat} {x : Int} (h : worksB F n = true) (h0 : 0 ≤ x) (h1 : x ≤ 6) : worksB (setFree F i x) n = true := by
  have h12 := (worksB_at h).1
  simp only [worksB, Bool.and_eq_true, decide_eq_true_eq]
  refine ⟨allB_of fun k hk => ?_, by omega⟩
  have hk2 := work_at h hk
  have hk3 := ((worksB_at h).2 k hk).2
  have e : ∀ a j, j ≠ 4 → setFree F i x a j = F a j := fun a j hj => by simp [setFree, hj]
  simp only [workAtB, Bool.and_eq_true, Bool.or_eq_true, decide_eq_true_eq, workerB]
  rw [e k 0 (by decide), e k 1 (by decide), e k 2 (by decide), e (k - 1) 0 (by decide)]
  refine ⟨⟨⟨⟨inB_of hk2.1.1 hk2.1.2, inB_of hk2.2.1.1 hk2.2.1.2⟩, inB_of hk2.2.2.1.1 hk2.2.2.1.2⟩, ?_⟩, ?_⟩
  · unfold setFree
    split
    · exact inB_of h0 h1
    · exact inB_of hk2.2.2.2.1 hk2.2.2.2.2
  · rcases Nat.eq_zero_or_pos k with h | h
    · exact .inl h
    · exact .inr (hk3 h)
/-- What all gangs rake in a week if worker i has the free day x; of the gangs 1 to q. -/
def freeS (F : Nat → Nat → Int) (C : Nat → Bool) (n i : Nat) (x : Nat) (q : Nat) : Int := sumI (fun j => weekV (setFree F i x) C n ((j + 1 : Nat) : Int)) q
def freeV (F : Nat → Nat → Int) (C : Nat → Bool) (n i : Nat) (x : Nat) : Int := freeS F C n i x 5
theorem freeS_bd {F : Nat → Nat → Int} {n : Nat} (C : Nat → Bool) (h : worksB F n = true) (i : Nat) {x : Nat} (hx : x < 7) : ∀ q, q ≤ 5 → 0 ≤ freeS F C n i x q ∧ freeS F C n i x q ≤ 21000 := fun q hq => by
  have hw : worksB (setFree F i x) n = true := setFree_works h (by omega) (by omega)
  have := sumI_bound (f := fun j => weekV (setFree F i x) C n ((j + 1 : Nat) : Int)) (b := 4200) (n := 5) (fun j _ => week_bd C hw _ 7 (Nat.le_refl _)) q hq
  unfold freeS
  omega
def mostV (f : Nat → Int) (k : Nat) : Int := if k = 0 then -1 else f (bestI f k)
theorem most_step {f : Nat → Int} (h0 : 0 ≤ f 0) (k : Nat) : (mostV f k < f k → bestI f (k + 1) = k ∧ mostV f (k + 1) = f k) ∧ (¬ mostV f k < f k → bestI f (k + 1) = bestI f k ∧ mostV f (k + 1) = mostV f k) := by
  have hE : bestI f (k + 1) = if f (bestI f k) < f k then k else bestI f k := rfl
  have hM : mostV f (k + 1) = f (bestI f (k + 1)) := by unfold mostV; rw [if_neg (by omega)]
  rw [hM, hE]
  unfold mostV
  by_cases hk : k = 0
  · subst hk
    simp [bestI]
    omega
  · rw [if_neg hk]
    constructor
    · intro h; rw [if_pos h]; exact ⟨rfl, rfl⟩
    · intro h; rw [if_neg h]; exact ⟨rfl, rfl⟩
theorem most_bd {f : Nat → Int} {n : Nat} {b : Int} (hb : 0 ≤ b) (h : ∀ i, i < n → 0 ≤ f i ∧ f i ≤ b) (k : Nat) (hk : k ≤ n) : -1 ≤ mostV f k ∧ mostV f k ≤ b ∧ bestI f k ≤ n := by
  unfold mostV
  by_cases h0 : k = 0
  · subst h0; simp [bestI]; omega
  · rw [if_neg h0]
    have hl := bestI_lt f k (by omega)
    have := h (bestI f k) (by omega)
    omega
def changeV (f : Nat → Nat → Int) : Option Nat → Int × Int × Bool
  | some i => ((bestI (f i) 7 : Nat), f i (bestI (f i) 7), true)
  | none => (0, 0, false)
def changeR (F : Nat → Nat → Int) (C : Nat → Bool) (n : Nat) (id : Int) : Int × Int × Bool := if worksB F n then changeV (freeV F C n) (firstB (idW F id) n) else (0, 0, false)
theorem wk_upd (F T : Nat → Nat → Int) (C : Nat → Bool) (i : Nat) (x : Int) (hT : ∀ a j, ¬(a = i ∧ j = 4) → T a j = F a j) {n : Nat} (a j : Nat) (_ha : a < n) (hj : j < 5) : upd (wkC T C) i 4 (.int .i64 x) a j = wkC (setFree F i x) C a j := by
  unfold upd
  by_cases h : a = i ∧ j = 4
  · rw [if_pos h]; obtain ⟨rfl, rfl⟩ := h; simp [wkC, setFree]
  · rw [if_neg h]
    match j, hj with
    | 0, _ => simp [wkC, setFree, hT a 0 (by simp)]
    | 1, _ => simp [wkC, setFree, hT a 1 (by simp)]
    | 2, _ => simp [wkC, setFree, hT a 2 (by simp)]
    | 3, _ => simp [wkC]
    | 4, _ =>
      have hai : a ≠ i := fun e => h ⟨e, rfl⟩
      simp [wkC, setFree, hai, hT a 4 (by simp [hai])]
set_option maxRecDepth 20000 in
set_option maxHeartbeats 4000000 in
theorem ChangeFree_any (A : Option Addr) (n c : Nat) (F : Nat → Nat → Int) (C : Nat → Bool) (id : Int) (w : World) (hn : n ≤ 1048576) (h : Rd w A n 5 (wkC F C)) :
    Calls Try.prog 21 #[.slice A n c, .int .i64 id] w fun e w' => e = .returned (.tuple #[.int .i64 (changeR F C n id).1, .int .i64 (changeR F C n id).2.1, .bool (changeR F C n id).2.2]) ∧ Below w.heap.size w w' := by
  cases h1 : worksB F n
  · have HR := hide (show changeR F C n id = (0, 0, false) by simp [changeR, h1])
    go_enter Try.func21, Try.ntmps21
    go_wp2_with fail
    go_at_call 62
    refine (workerAt_any _ _ _ _ _ id _ hn h).mono ?_
    rintro _ w1 ⟨rfl, hb1⟩
    generalize idxV (firstB (idW F id) n) = at0
    go_wp2_with fail
    go_at_call 42
    refine (AreWorkers_any _ _ _ _ _ _ hn (Rd.below h hb1)).mono ?_
    rintro _ w2 ⟨rfl, hb2⟩
    rw [h1]
    go_wp2
    refine bodyPost_ret (v := .tuple #[.int .i64 0, .int .i64 0, .bool false]) (by simp only [results, Try.results21]; go_simp) rfl ⟨by rw [HR.out], gr hb1 hb2⟩
  have HV := hide h1
  cases hf : firstB (idW F id) n with
  | none =>
    have HR := hide (show changeR F C n id = (0, 0, false) by simp [changeR, h1, hf, changeV])
    go_enter Try.func21, Try.ntmps21
    go_wp2_with fail
    go_at_call 62
    refine (workerAt_any _ _ _ _ _ id _ hn h).mono ?_
    rintro _ w1 ⟨rfl, hb1⟩
    rw [show idxV (firstB (idW F id) n) = -1 by rw [hf]; rfl]
    go_wp2_with fail
    go_at_call 42
    refine (AreWorkers_any _ _ _ _ _ _ hn (Rd.below h hb1)).mono ?_
    rintro _ w2 ⟨rfl, hb2⟩
    rw [h1]
    go_wp2
    refine bodyPost_ret (v := .tuple #[.int .i64 0, .int .i64 0, .bool false]) (by simp only [results, Try.results21]; go_simp) rfl ⟨by rw [HR.out], gr hb1 hb2⟩
  | some i =>
    have HR := hide (show changeR F C n id = (((bestI (freeV F C n i) 7 : Nat) : Int), freeV F C n i (bestI (freeV F C n i) 7), true) by simp [changeR, h1, hf, changeV])
    have hin : i < n := (firstB_some hf).1
    have HI := hide (show idxV (firstB (idW F id) n) = (i : Int) by rw [hf]; rfl)
    have HF0 := hide (show ∀ x, x < 7 → 0 ≤ freeV F C n i x ∧ freeV F C n i x ≤ 21000 from fun x hx => freeS_bd C h1 i hx 5 (Nat.le_refl _))
    clear hf
    go_enter Try.func21, Try.ntmps21
    go_wp2_with fail
    go_at_call 62
    refine (workerAt_any _ _ _ _ _ id _ hn h).mono ?_
    rintro _ w1 ⟨rfl, hb1⟩
    rw [HI.out]
    clear HI
    go_wp2_with fail
    go_at_call 42
    refine (AreWorkers_any _ _ _ _ _ _ hn (Rd.below h hb1)).mono ?_
    rintro _ w2 ⟨rfl, hb2⟩
    rw [h1]
    clear h1
    have hi0 : decide ((i : Int) < 0) = false := decide_eq_false (by omega)
    go_wp2_with fail
    go_at_call 63
    refine (cloneW_any _ _ _ _ _ _ hn (Rd.below h (gr hb1 hb2))).mono ?_
    rintro _ w3 ⟨A2, c2, rfl, hO, hb3⟩
    have hbA := gr hb1 (gr hb2 hb3)
    have hsz2 : w.heap.size ≤ w2.heap.size := Nat.le_trans hb1.size hb2.size
    obtain ⟨b, off, rfl, hlo, hhi, -⟩ := hO.sl (by omega)
    clear h hb1 hb2 hb3 hi0
    go_wp2
    go_loopw [8, 9, 26] (fun be mo cn wr => ∃ k : Nat, k ≤ 7 ∧ cn = .int .i64 k ∧ be = .int .i64 (bestI (freeV F C n i) k : Nat) ∧ mo = .int .i64 (mostV (freeV F C n i) k) ∧ (∃ T, (∀ a j, ¬(a = i ∧ j = 4) → T a j = F a j) ∧ Ow wr w2.heap.size w3.heap.size (some ⟨b, off, none⟩) n 5 (wkC T C)) ∧ w3.heap.size ≤ wr.heap.size ∧ Below w.heap.size w wr) (fun _ _ cn _ => 7 - (intOf cn).toNat)
    case atStart => exact ⟨0, by omega, rfl, rfl, rfl, ⟨F, fun _ _ _ => rfl, hO⟩, Nat.le_refl _, hbA⟩
    case round =>
      clear hO hbA
      obtain ⟨k, hk, rfl, rfl, rfl, ⟨T, hT, hO⟩, hs3, hb⟩ := hrel
      by_cases hlt : k < 7
      · have hlt' : decide ((k : Int) < 7) = true := decide_eq_true (by omega)
        have MS := hide (most_step (HF0.out 0 (by omega)).1 k)
        obtain ⟨mb1, mb2, mb3⟩ := most_bd (by omega) HF0.out k hk
        obtain ⟨-, -, ho1, ho2⟩ := hO.at_ hin
        have c4 := ho1 4 (by omega)
        have f4 := ho2 4 (by omega)
        simp only [wkC] at c4
        clear ho1 ho2
        have hbs : b < wr.heap.size := by omega
        have hin' : (i : Int) < (n : Int) := by omega
        have HT := hide hT
        clear hT
        have hO2 := (hO.set hin (j0 := 4) (o := off + i * 5 + 4) (by omega) (by omega) (.int .i64 (k : Int))).congr fun a j ha hj => wk_upd F T C i k HT.out (n := n) a j ha hj
        have hb2 := hb.setCell (p := ⟨b, off + i * 5 + 4, none⟩) (by show w.heap.size ≤ b; omega) (.int .i64 (k : Int))
        have hs4 : w3.heap.size ≤ (wr.setCell ⟨b, off + i * 5 + 4, none⟩ (.int .i64 (k : Int))).heap.size := by simpa using hs3
        go_wp2
        clear hO hb c4 f4 hs3 hbs HT
        generalize wr.setCell ⟨b, off + i * 5 + 4, none⟩ (.int .i64 (k : Int)) = W4 at hO2 hb2 hs4 ⊢
        have hR4 := hO2.sl.rd hs4
        have HVs := hide (setFree_works (i := i) (x := (k : Int)) HV.out (by omega) (by omega))
        have HFS := hide (freeS_bd C HV.out i hlt)
        go_loopw [12, 13] (fun s g w5 => ∃ q : Nat, q ≤ 5 ∧ g = .int .i64 ((q + 1 : Nat) : Int) ∧ s = .int .i64 (freeS F C n i k q) ∧ Below (World.heap W4).size W4 w5) (fun _ g _ => 6 - (intOf g).toNat)
        case atStart => exact ⟨0, by omega, rfl, rfl, Below.refl _ _⟩
        case round =>
          obtain ⟨q, hq, rfl, rfl, hb5⟩ := hrel
          by_cases hq5 : q < 5
          · have hq' : decide (((q + 1 : Nat) : Int) ≤ 5) = true := decide_eq_true (by omega)
            obtain ⟨z1, z2⟩ := HFS.out q hq
            obtain ⟨y1, y2⟩ := week_bd C HVs.out ((q + 1 : Nat) : Int) 7 (Nat.le_refl _)
            have HS := hide (show freeS F C n i k (q + 1) = freeS F C n i k q + weekV (setFree F i k) C n ((q + 1 : Nat) : Int) from rfl)
            have HW := hide (show ∀ r, r ≤ 7 → 0 ≤ sumI (fun j => weekT (setFree F i k) C n ((q + 1 : Nat) : Int) j 0) r ∧ sumI (fun j => weekT (setFree F i k) C n ((q + 1 : Nat) : Int) j 0) r ≤ 1000000000000 from fun r hr => by have := week_bd C HVs.out ((q + 1 : Nat) : Int) r hr; exact ⟨this.1, by have := this.2; show sumI (dayG (setFree F i k) C n ((q + 1 : Nat) : Int)) r ≤ _; omega⟩)
            have HX := hide (show sumI (fun j => weekT (setFree F i k) C n ((q + 1 : Nat) : Int) j 0) 7 = weekV (setFree F i k) C n ((q + 1 : Nat) : Int) from rfl)
            have y3 : weekV (setFree F i k) C n ((q + 1 : Nat) : Int) ≤ 4200 := y2
            have y4 : 0 ≤ weekV (setFree F i k) C n ((q + 1 : Nat) : Int) := y1
            clear y1 y2
            have hg5 : q + 1 ≤ 5 := by omega
            generalize q + 1 = gq at *
            go_wp2_with fail
            go_at_call 49
            refine (rakedWeek_any _ _ _ _ _ (gq : Int) _ HVs (Rd.below hR4 hb5)).mono ?_
            rintro _ w6 ⟨A6, c6, rfl, hO6, hb6⟩
            go_wp2_with fail
            go_at_call 48
            refine (sumOf_any _ _ _ _ _ (by omega) (hO6.sl.rd (Nat.le_refl _)) HW).mono ?_
            rintro _ _ ⟨rfl, rfl⟩
            rw [HX.out]
            clear hO6 HW HX
            generalize weekV (setFree F i k) C n (gq : Int) = x at *
            generalize freeS F C n i k q = S at *
            go_wp2
            go_roundw
            case rel => exact ⟨gq, hg5, by go_num, by rw [HS.out], gr hb5 hb6⟩
            case measure => simp [intOf]; omega
          · obtain rfl : q = 5 := by omega
            rw [show freeS F C n i k 5 = freeV F C n i k from rfl]
            have hs5 := hb5.size
            have hO5 := hO2.agr (Below.agr hb5 hs4)
            have hb7 := hb2.trans (hb5.mono (by have := hb2.size; omega))
            obtain ⟨v1, v2⟩ := HF0.out k hlt
            clear hO2 hR4 hb5 hb2 HFS HVs
            by_cases hm : mostV (freeV F C n i) k < freeV F C n i k
            · obtain ⟨m1, m2⟩ := MS.out.1 hm
              have M1 := hide m1
              have M2 := hide m2
              have t1 : decide (mostV (freeV F C n i) k < freeV F C n i k) = true := decide_eq_true hm
              clear m1 m2 hm
              generalize mostV (freeV F C n i) k = mv at *
              generalize freeV F C n i k = fv at *
              go_wp2
              go_roundw
              case rel => exact ⟨k + 1, by omega, by go_num, by rw [M1.out], by rw [M2.out], ⟨setFree F i k, fun a j hne => by simp [setFree, hne], hO5⟩, by omega, hb7⟩
              case measure => simp [intOf]; omega
            · obtain ⟨m1, m2⟩ := MS.out.2 (by first | exact hm | omega)
              have M1 := hide m1
              have M2 := hide m2
              have t1 : decide (mostV (freeV F C n i) k < freeV F C n i k) = false := decide_eq_false hm
              clear m1 m2 hm
              generalize mostV (freeV F C n i) k = mv at *
              generalize freeV F C n i k = fv at *
              go_wp2
              go_roundw
              case rel => exact ⟨k + 1, by omega, by go_num, by rw [M1.out], by rw [M2.out], ⟨setFree F i k, fun a j hne => by simp [setFree, hne], hO5⟩, by omega, hb7⟩
              case measure => simp [intOf]; omega
      · obtain rfl : k = 7 := by omega
        have HM := hide (show mostV (freeV F C n i) 7 = freeV F C n i (bestI (freeV F C n i) 7) from rfl)
        rw [HM.out]
        generalize bestI (freeV F C n i) 7 = bq at *
        generalize freeV F C n i bq = fq at *
        clear hO
        go_wp2
        refine bodyPost_ret (v := .tuple #[.int .i64 (bq : Int), .int .i64 fq, .bool true]) (by simp only [results, Try.results21]; go_simp) rfl ⟨by rw [HR.out], hb⟩
end Go.Proofs.Ytmblkjnpibcmoaa
