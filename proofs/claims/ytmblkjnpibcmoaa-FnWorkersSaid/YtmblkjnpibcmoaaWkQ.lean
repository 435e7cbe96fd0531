/-
  Contracts on workers: a worker put into a gang, of the program and of the reference. Conditions: lengths up to 2^20.
-/
import Derived.Test.YtmblkjnpibcmoaaWkG
namespace Go.Proofs.Ytmblkjnpibcmoaa
open Go.RowKit

/-- Worker i is in another gang. -/
def setGang (F : Nat → Nat → Int) (i : Nat) (x : Int) : Nat → Nat → Int := fun k j => if k = i ∧ j = 1 then x else F k j
def putO (F : Nat → Nat → Int) (n : Nat) (id : Int) : Option Nat := if worksB F n then firstB (idW F id) n else none
def putOk (F : Nat → Nat → Int) (n : Nat) (id g : Int) : Bool := match putO F n id with
  | some i => inB g 0 5 && !(F i 1 == g)
  | none => false
def putT (F : Nat → Nat → Int) (n : Nat) (id g : Int) : Nat → Nat → Int := match putO F n id with
  | some i => setGang F i g
  | none => F
def putN (F : Nat → Nat → Int) (n : Nat) (id g : Int) : Nat := if putOk F n id g then n else 0
theorem wk_updG (F : Nat → Nat → Int) (C : Nat → Bool) (i : Nat) (x : Int) {n : Nat} (a j : Nat) (_ha : a < n) (hj : j < 5) : upd (wkC F C) i 1 (.int .i64 x) a j = wkC (setGang F i x) C a j := by
  by_cases h : a = i
  · subst h
    match j, hj with
    | 0, _ => simp [upd, wkC, setGang]
    | 1, _ => simp [upd, wkC, setGang]
    | 2, _ => simp [upd, wkC, setGang]
    | 3, _ => simp [upd, wkC]
    | 4, _ => simp [upd, wkC, setGang]
  · match j, hj with
    | 0, _ => simp [upd, wkC, setGang, h]
    | 1, _ => simp [upd, wkC, setGang, h]
    | 2, _ => simp [upd, wkC, setGang, h]
    | 3, _ => simp [upd, wkC, h]
    | 4, _ => simp [upd, wkC, setGang, h]
theorem wk_upd5G (F : Nat → Nat → Int) (C : Nat → Bool) (i : Nat) (x : Int) {n : Nat} (a j : Nat) (_ha : a < n) (hj : j < 5) :
    upd (upd (upd (upd (upd (wkC F C) i 0 (.int .i64 (F i 0))) i 1 (.int .i64 x)) i 2 (.int .i64 (F i 2))) i 3 (.bool (C i))) i 4 (.int .i64 (F i 4)) a j = wkC (setGang F i x) C a j := by
  by_cases h : a = i
  · subst h
    match j, hj with
    | 0, _ => simp [upd, wkC, setGang]
    | 1, _ => simp [upd, wkC, setGang]
    | 2, _ => simp [upd, wkC, setGang]
    | 3, _ => simp [upd, wkC]
    | 4, _ => simp [upd, wkC, setGang]
  · match j, hj with
    | 0, _ => simp [upd, wkC, setGang, h]
    | 1, _ => simp [upd, wkC, setGang, h]
    | 2, _ => simp [upd, wkC, setGang, h]
    | 3, _ => simp [upd, wkC, h]
    | 4, _ => simp [upd, wkC, setGang, h]
theorem Ow.cell_outG {w : World} {lo hi : Nat} {A : Option Addr} {n sz : Nat} {F : Nat → Nat → Value} (h : Ow w lo hi A n sz F) {p : Addr} (hp : p.block < lo ∨ hi ≤ p.block) (u : Value) : Ow (w.setCell p u) lo hi A n sz F :=
  h.agr fun k h1 h2 => Below.heap_setCell _ _ _ _ (by omega)
set_option maxHeartbeats 2000000 in
theorem PutInGang_any (A : Option Addr) (n c : Nat) (F : Nat → Nat → Int) (C : Nat → Bool) (id g : Int) (w : World) (hn : n ≤ 1048576) (h : Rd w A n 5 (wkC F C)) :
    Calls Try.prog 32 #[.slice A n c, .int .i64 id, .int .i64 g] w (RowP w (fun A' c' => .tuple #[.slice A' (putN F n id g) c', .bool (putOk F n id g)]) (putN F n id g) 5 (wkC (putT F n id g) C)) := by
  cases h1 : worksB F n
  · have hno : putOk F n id g = false := by simp [putOk, putO, h1]
    rw [show putN F n id g = 0 by simp [putN, hno], show putOk F n id g = false from hno]
    clear hno
    go_enter Try.func32, Try.ntmps32
    go_wp2_with fail
    go_at_call 62
    refine (workerAt_any _ _ _ _ _ id _ hn h).mono ?_
    rintro _ w1 ⟨rfl, hb1⟩
    generalize idxV (firstB (idW F id) n) = at0
    go_wp2_with fail
    go_at_call 42
    refine (AreWorkers_any _ _ _ _ _ _ hn (Rd.below h hb1)).mono ?_
    rintro _ w2 ⟨rfl, hb2⟩
    rw [h1]
    go_wp2
    refine bodyPost_ret (v := .tuple #[.slice none 0 0, .bool false]) (by simp only [results, Try.results32]; go_simp) rfl ⟨_, _, rfl, Ow.nil _ _ _ _ _ _, gr hb1 hb2⟩
  cases hf : firstB (idW F id) n with
  | none =>
    have hno : putOk F n id g = false := by simp [putOk, putO, h1, hf]
    rw [show putN F n id g = 0 by simp [putN, hno], show putOk F n id g = false from hno]
    clear hno
    go_enter Try.func32, Try.ntmps32
    go_wp2_with fail
    go_at_call 62
    refine (workerAt_any _ _ _ _ _ id _ hn h).mono ?_
    rintro _ w1 ⟨rfl, hb1⟩
    rw [show idxV (firstB (idW F id) n) = -1 by rw [hf]; rfl]
    go_wp2_with fail
    go_at_call 42
    refine (AreWorkers_any _ _ _ _ _ _ hn (Rd.below h hb1)).mono ?_
    rintro _ w2 ⟨rfl, hb2⟩
    rw [h1]
    go_wp2
    refine bodyPost_ret (v := .tuple #[.slice none 0 0, .bool false]) (by simp only [results, Try.results32]; go_simp) rfl ⟨_, _, rfl, Ow.nil _ _ _ _ _ _, gr hb1 hb2⟩
  | some i =>
    have hin : i < n := (firstB_some hf).1
    have HI := hide (show idxV (firstB (idW F id) n) = (i : Int) by rw [hf]; rfl)
    have hi0 : decide ((i : Int) < 0) = false := decide_eq_false (by omega)
    have hin' : (i : Int) < (n : Int) := by omega
    cases h2 : inB g 0 5
    · have hno : putOk F n id g = false := by simp [putOk, putO, h1, hf, h2]
      rw [show putN F n id g = 0 by simp [putN, hno], show putOk F n id g = false from hno]
      clear hno hf
      go_enter Try.func32, Try.ntmps32
      go_wp2_with fail
      go_at_call 62
      refine (workerAt_any _ _ _ _ _ id _ hn h).mono ?_
      rintro _ w1 ⟨rfl, hb1⟩
      rw [HI.out]
      go_wp2_with fail
      go_at_call 42
      refine (AreWorkers_any _ _ _ _ _ _ hn (Rd.below h hb1)).mono ?_
      rintro _ w2 ⟨rfl, hb2⟩
      rw [h1]
      go_wp2_with fail
      go_at_call 68
      refine (within_any _ _ _ _).mono ?_
      rintro _ _ ⟨rfl, rfl⟩
      rw [h2]
      go_wp2
      refine bodyPost_ret (v := .tuple #[.slice none 0 0, .bool false]) (by simp only [results, Try.results32]; go_simp) rfl ⟨_, _, rfl, Ow.nil _ _ _ _ _ _, gr hb1 hb2⟩
    obtain ⟨b0, off0, rfl, hbw0, hcc0⟩ := wk_at h (Below.refl _ _) (by omega)
    have hcell := fun w' (hb : Below w.heap.size w w') => (hb.cell (p := ⟨b0, off0 + i * 5 + 1, none⟩) hbw0).trans (hcc0 i hin).2.1
    have hlt0 := fun w' (hb : Below w.heap.size w w') => Nat.lt_of_lt_of_le hbw0 hb.size
    clear hcc0
    cases h3 : (F i 1 == g)
    rotate_left
    · have hno : putOk F n id g = false := by simp [putOk, putO, h1, hf, h3]
      rw [show putN F n id g = 0 by simp [putN, hno], show putOk F n id g = false from hno]
      clear hno hf
      go_enter Try.func32, Try.ntmps32
      go_wp2_with fail
      go_at_call 62
      refine (workerAt_any _ _ _ _ _ id _ hn h).mono ?_
      rintro _ w1 ⟨rfl, hb1⟩
      rw [HI.out]
      go_wp2_with fail
      go_at_call 42
      refine (AreWorkers_any _ _ _ _ _ _ hn (Rd.below h hb1)).mono ?_
      rintro _ w2 ⟨rfl, hb2⟩
      rw [h1]
      go_wp2_with fail
      go_at_call 68
      refine (within_any _ _ _ _).mono ?_
      rintro _ _ ⟨rfl, rfl⟩
      rw [h2]
      have c1 := hcell _ (gr hb1 hb2)
      have l1 := hlt0 _ (gr hb1 hb2)
      clear hcell hlt0
      go_wp2
      refine bodyPost_ret (v := .tuple #[.slice none 0 0, .bool false]) (by simp only [results, Try.results32]; go_simp) rfl ⟨_, _, rfl, Ow.nil _ _ _ _ _ _, gr hb1 hb2⟩
    have hyes : putOk F n id g = true := by simp [putOk, putO, h1, hf, h2, h3]
    rw [show putN F n id g = n by simp [putN, hyes], hyes, show putT F n id g = setGang F i g by simp [putT, putO, h1, hf]]
    clear hyes hf
    go_enter Try.func32, Try.ntmps32
    go_wp2_with fail
    go_at_call 62
    refine (workerAt_any _ _ _ _ _ id _ hn h).mono ?_
    rintro _ w1 ⟨rfl, hb1⟩
    rw [HI.out]
    go_wp2_with fail
    go_at_call 42
    refine (AreWorkers_any _ _ _ _ _ _ hn (Rd.below h hb1)).mono ?_
    rintro _ w2 ⟨rfl, hb2⟩
    rw [h1]
    go_wp2_with fail
    go_at_call 68
    refine (within_any _ _ _ _).mono ?_
    rintro _ _ ⟨rfl, rfl⟩
    rw [h2]
    have c1 := hcell _ (gr hb1 hb2)
    have l1 := hlt0 _ (gr hb1 hb2)
    clear hcell hlt0
    go_wp2_with fail
    go_at_call 63
    refine (cloneW_any _ _ _ _ _ _ hn (Rd.below h (gr hb1 hb2))).mono ?_
    rintro _ w3 ⟨A2, c2, rfl, hO, hb3⟩
    have hbA := gr hb1 (gr hb2 hb3)
    have hsz2 : w.heap.size ≤ w2.heap.size := Nat.le_trans hb1.size hb2.size
    obtain ⟨b, off, rfl, hlo, hhi, -⟩ := hO.sl (by omega)
    obtain ⟨-, -, ho1, ho2⟩ := hO.at_ hin
    have x1 := ho1 1 (by omega)
    have y1 := ho2 1 (by omega)
    simp only [wkC] at x1
    clear ho1 ho2 c1 l1 h1 h2 h3 hb1 hb2 hb3 h hi0 HI
    have hO2 := (hO.set hin (j0 := 1) (o := off + i * 5 + 1) (by omega) (by omega) (.int .i64 g)).congr fun a j ha hj => wk_updG F C i g (n := n) a j ha hj
    have hbB := hbA.setCell (p := ⟨b, off + i * 5 + 1, none⟩) (by show w.heap.size ≤ b; omega) (.int .i64 g)
    clear hO hbA
    go_wp2
    refine bodyPost_ret (v := .tuple #[.slice (some ⟨b, off, none⟩) n c2, .bool true]) (by simp only [results, Try.results32]; go_simp) rfl ⟨_, _, rfl, hO2.mono hsz2 (by simp), hbB⟩
set_option maxRecDepth 20000 in
set_option maxHeartbeats 4000000 in
theorem spec_PutInGang_any (A : Option Addr) (n c : Nat) (F : Nat → Nat → Int) (C : Nat → Bool) (id g : Int) (w : World) (hn : n ≤ 1048576) (h : Rd w A n 5 (wkC F C)) :
    Calls Try.prog 37 #[.slice A n c, .int .i64 id, .int .i64 g] w (RowP w (fun A' c' => .tuple #[.slice A' (putN F n id g) c', .bool (putOk F n id g)]) (putN F n id g) 5 (wkC (putT F n id g) C)) := by
  cases hp : putO F n id with
  | none =>
    have hno : putOk F n id g = false := by simp [putOk, hp]
    have HI := hide (show findW F n id = -1 by unfold putO at hp; unfold findW; split at hp <;> simp_all [idxV])
    rw [show putN F n id g = 0 by simp [putN, hno], show putOk F n id g = false from hno]
    clear hno hp
    go_enter Try.func37, Try.ntmps37
    go_wp2_with fail
    go_at_call 64
    refine (l5Find_any _ _ _ _ _ id _ hn h).mono ?_
    rintro _ w1 ⟨rfl, hb1⟩
    rw [HI.out]
    go_wp2
    refine bodyPost_ret (v := .tuple #[.slice (some ⟨w1.heap.size, 0, none⟩) 0 0, .bool false]) (by simp only [results, Try.results37]; go_simp) rfl ⟨_, _, rfl, Ow.nil _ _ _ _ _ _, hb1.alloc hb1.size _⟩
  | some i =>
    obtain ⟨h1, hf⟩ : worksB F n = true ∧ firstB (idW F id) n = some i := by
      unfold putO at hp
      cases hw : worksB F n
      · rw [hw] at hp; cases hp
      · rw [hw] at hp; exact ⟨rfl, hp⟩
    have hin : i < n := (firstB_some hf).1
    have HI := hide (show findW F n id = (i : Int) by simp [findW, h1, hf, idxV])
    have hi0 : decide ((i : Int) < 0) = false := decide_eq_false (by omega)
    have hin' : (i : Int) < (n : Int) := by omega
    clear h1 hf
    cases h2 : inB g 0 5
    · have hno : putOk F n id g = false := by simp [putOk, hp, h2]
      rw [show putN F n id g = 0 by simp [putN, hno], show putOk F n id g = false from hno]
      clear hno hp
      go_enter Try.func37, Try.ntmps37
      go_wp2_with fail
      go_at_call 64
      refine (l5Find_any _ _ _ _ _ id _ hn h).mono ?_
      rintro _ w1 ⟨rfl, hb1⟩
      rw [HI.out]
      go_wp2_with fail
      go_at_call 70
      refine (l1In_any _ _ _ _).mono ?_
      rintro _ _ ⟨rfl, rfl⟩
      rw [h2]
      go_wp2
      refine bodyPost_ret (v := .tuple #[.slice (some ⟨w1.heap.size, 0, none⟩) 0 0, .bool false]) (by simp only [results, Try.results37]; go_simp) rfl ⟨_, _, rfl, Ow.nil _ _ _ _ _ _, hb1.alloc hb1.size _⟩
    obtain ⟨b0, off0, rfl, hbw0, hcc0⟩ := wk_at h (Below.refl _ _) (by omega)
    have hcell := fun w' (hb : Below w.heap.size w w') => (hb.cell (p := ⟨b0, off0 + i * 5 + 1, none⟩) hbw0).trans (hcc0 i hin).2.1
    have hlt0 := fun w' (hb : Below w.heap.size w w') => Nat.lt_of_lt_of_le hbw0 hb.size
    clear hcc0
    cases h3 : (F i 1 == g)
    rotate_left
    · have hno : putOk F n id g = false := by simp [putOk, hp, h3]
      rw [show putN F n id g = 0 by simp [putN, hno], show putOk F n id g = false from hno]
      clear hno hp
      go_enter Try.func37, Try.ntmps37
      go_wp2_with fail
      go_at_call 64
      refine (l5Find_any _ _ _ _ _ id _ hn h).mono ?_
      rintro _ w1 ⟨rfl, hb1⟩
      rw [HI.out]
      go_wp2_with fail
      go_at_call 70
      refine (l1In_any _ _ _ _).mono ?_
      rintro _ _ ⟨rfl, rfl⟩
      rw [h2]
      have c1 := hcell _ hb1
      have l1 := hlt0 _ hb1
      clear hcell hlt0
      go_wp2
      refine bodyPost_ret (v := .tuple #[.slice (some ⟨w1.heap.size, 0, none⟩) 0 0, .bool false]) (by simp only [results, Try.results37]; go_simp) rfl ⟨_, _, rfl, Ow.nil _ _ _ _ _ _, hb1.alloc hb1.size _⟩
    have hyes : putOk F n id g = true := by simp [putOk, hp, h2, h3]
    rw [show putN F n id g = n by simp [putN, hyes], hyes, show putT F n id g = setGang F i g by simp [putT, hp]]
    clear hyes hp
    obtain ⟨i0, hi0', hz0, hz1, hz2⟩ := info_parts info_wk
    go_enter Try.func37, Try.ntmps37
    go_wp2_with fail
    go_at_call 64
    refine (l5Find_any _ _ _ _ _ id _ hn h).mono ?_
    rintro _ w1 ⟨rfl, hb⟩
    rw [HI.out]
    go_wp2_with fail
    go_at_call 70
    refine (l1In_any _ _ _ _).mono ?_
    rintro _ _ ⟨rfl, rfl⟩
    rw [h2]
    have q1 := hcell _ hb
    have q2 := hlt0 _ hb
    clear hcell hlt0
    go_upto_region 4 with fail
    clear q1 q2 h2 h3 hi0 HI
    have hown := World.ownsRow_lit (base := w1.heap.size) (e := 54) (size := 5) w1 #[] 0 (Nat.le_refl _) (Nat.zero_le _) rfl
    have h' := Rd.alloc (Rd.below h hb) (.cells #[] 54)
    have hb1 : Below w1.heap.size w1 (w1.alloc (.cells #[] 54)) := (Below.refl _ _).alloc (Nat.le_refl _) _
    go_upto_region 5 with (at_builtin; refine wpList_append_rd _ rfl (.tmp 31) (.tmp 32) 26 rfl w1.heap.size 54 i0 _ 5 40 Try.underlying26 hi0' hz0 hz1 hz2 rfl (by decide) _ _ _ rfl hown _ _ (some ⟨b0, off0, none⟩) n c (wkC F C) rfl h' (fun i j _ _ => wkC_one F C i j) (by simp only [maxLen]; omega) (by omega) (by simp) ?_; intro v2 w2 hown2 hg2 _)
    have hb2 := hb1.trans (grown_below hown hg2 (by simp))
    simp only [Nat.zero_add, List.nil_append] at hown2
    obtain ⟨A2, c2, rfl, hO⟩ := own_tab hown2
    obtain ⟨b, off, rfl, hlo, hhi, -⟩ := hO.sl (by omega)
    clear hown hg2 hown2 h' hb1
    obtain ⟨-, -, ho1, ho2⟩ := hO.at_ hin
    have c0 := ho1 0 (by omega)
    have c1 := ho1 1 (by omega)
    have c2' := ho1 2 (by omega)
    have c3 := ho1 3 (by omega)
    have c4 := ho1 4 (by omega)
    simp only [wkC, Nat.add_zero] at c0 c1 c2' c3 c4
    clear ho1 ho2
    have hin' : (i : Int) < (n : Int) := by omega
    go_upto_region 6 with fail
    have hbB := (gr hb hb2).alloc (Nat.le_trans hb.size hb2.size) (.cells #[.int .i64 (F i 0), .int .i64 (F i 1), .int .i64 (F i 2), .bool (C i), .int .i64 (F i 4)] 54)
    have hOB := hO.alloc (Nat.le_refl _) (.cells #[.int .i64 (F i 0), .int .i64 (F i 1), .int .i64 (F i 2), .bool (C i), .int .i64 (F i 4)] 54)
    have e0 : World.cell? (w2.alloc (.cells #[.int .i64 (F i 0), .int .i64 (F i 1), .int .i64 (F i 2), .bool (C i), .int .i64 (F i 4)] 54)) ⟨w2.heap.size, 0, none⟩ = some (.int .i64 (F i 0)) := by rw [World.cell?_alloc_new]; rfl
    have e1 : World.cell? (w2.alloc (.cells #[.int .i64 (F i 0), .int .i64 (F i 1), .int .i64 (F i 2), .bool (C i), .int .i64 (F i 4)] 54)) ⟨w2.heap.size, 1, none⟩ = some (.int .i64 (F i 1)) := by rw [World.cell?_alloc_new]; rfl
    have e2 : World.cell? (w2.alloc (.cells #[.int .i64 (F i 0), .int .i64 (F i 1), .int .i64 (F i 2), .bool (C i), .int .i64 (F i 4)] 54)) ⟨w2.heap.size, 2, none⟩ = some (.int .i64 (F i 2)) := by rw [World.cell?_alloc_new]; rfl
    have e3 : World.cell? (w2.alloc (.cells #[.int .i64 (F i 0), .int .i64 (F i 1), .int .i64 (F i 2), .bool (C i), .int .i64 (F i 4)] 54)) ⟨w2.heap.size, 3, none⟩ = some (.bool (C i)) := by rw [World.cell?_alloc_new]; rfl
    have e4 : World.cell? (w2.alloc (.cells #[.int .i64 (F i 0), .int .i64 (F i 1), .int .i64 (F i 2), .bool (C i), .int .i64 (F i 4)] 54)) ⟨w2.heap.size, 4, none⟩ = some (.int .i64 (F i 4)) := by rw [World.cell?_alloc_new]; rfl
    have e5 : World.frozen? (w2.alloc (.cells #[.int .i64 (F i 0), .int .i64 (F i 1), .int .i64 (F i 2), .bool (C i), .int .i64 (F i 4)] 54)) ⟨w2.heap.size, 1, none⟩ = false := World.frozen?_alloc_new _ _ _ _
    have e6 : w2.heap.size < (w2.alloc (.cells #[.int .i64 (F i 0), .int .i64 (F i 1), .int .i64 (F i 2), .bool (C i), .int .i64 (F i 4)] 54)).heap.size := by simp
    clear c0 c1 c2' c3 c4 hO
    generalize w2.alloc (.cells #[.int .i64 (F i 0), .int .i64 (F i 1), .int .i64 (F i 2), .bool (C i), .int .i64 (F i 4)] 54) = W at hbB hOB e0 e1 e2 e3 e4 e5 e6 ⊢
    have hw2 : w.heap.size ≤ w2.heap.size := Nat.le_trans hb.size hb2.size
    have hwr : w.heap.size ≤ b := Nat.le_trans hb.size hlo
    have hwrs := hb.size
    clear hb hb2
    generalize w2.heap.size = gB at *
    obtain ⟨-, -, ho1, ho2⟩ := hOB.at_ hin
    have c0 := ho1 0 (by omega)
    have c1 := ho1 1 (by omega)
    have c2' := ho1 2 (by omega)
    have c3 := ho1 3 (by omega)
    have c4 := ho1 4 (by omega)
    have f0 := ho2 0 (by omega)
    have f1 := ho2 1 (by omega)
    have f2 := ho2 2 (by omega)
    have f3 := ho2 3 (by omega)
    have f4 := ho2 4 (by omega)
    simp only [wkC, Nat.add_zero] at c0 c1 c2' c3 c4 f0
    clear ho1 ho2
    have hbW : b < W.heap.size := by omega
    have hne : b ≠ gB := by omega
    have hbB2 := (((((hbB.setCell (p := ⟨gB, 1, none⟩) hw2 (.int .i64 g)).setCell (p := ⟨b, off + i * 5, none⟩) hwr (.int .i64 (F i 0))).setCell (p := ⟨b, off + i * 5 + 1, none⟩) hwr (.int .i64 g)).setCell (p := ⟨b, off + i * 5 + 2, none⟩) hwr (.int .i64 (F i 2))).setCell (p := ⟨b, off + i * 5 + 3, none⟩) hwr (.bool (C i))).setCell (p := ⟨b, off + i * 5 + 4, none⟩) hwr (.int .i64 (F i 4))
    have hO2 := ((((((hOB.cell_outG (p := ⟨gB, 1, none⟩) (.inr (Nat.le_refl _)) (.int .i64 g)).set hin (j0 := 0) (o := off + i * 5) (by omega) (by omega) (.int .i64 (F i 0))).set hin (j0 := 1) (o := off + i * 5 + 1) (by omega) (by omega) (.int .i64 g)).set hin (j0 := 2) (o := off + i * 5 + 2) (by omega) (by omega) (.int .i64 (F i 2))).set hin (j0 := 3) (o := off + i * 5 + 3) (by omega) (by omega) (.bool (C i))).set hin (j0 := 4) (o := off + i * 5 + 4) (by omega) (by omega) (.int .i64 (F i 4))).congr fun a j ha hj => wk_upd5G F C i g (n := n) a j ha hj
    have hs4 : gB ≤ ((((((W.setCell ⟨gB, 1, none⟩ (.int .i64 g)).setCell ⟨b, off + i * 5, none⟩ (.int .i64 (F i 0))).setCell ⟨b, off + i * 5 + 1, none⟩ (.int .i64 g)).setCell ⟨b, off + i * 5 + 2, none⟩ (.int .i64 (F i 2))).setCell ⟨b, off + i * 5 + 3, none⟩ (.bool (C i))).setCell ⟨b, off + i * 5 + 4, none⟩ (.int .i64 (F i 4))).heap.size := by simp; omega
    clear hOB hbB
    go_wp2
    refine bodyPost_ret (v := .tuple #[.slice (some ⟨b, off, none⟩) n c2, .bool true]) (by simp only [results, Try.results37]; go_simp) rfl ⟨_, _, rfl, hO2.mono hwrs (by simp; omega), hbB2⟩
end Go.Proofs.Ytmblkjnpibcmoaa
