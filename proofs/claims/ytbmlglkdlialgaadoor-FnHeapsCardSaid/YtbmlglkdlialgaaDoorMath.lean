/-
  Plain functions on numbers and tables that the contracts of this seat name. Conditions: none; no program is named here.
-/
import Derived.Test.YtbmlglkdlialgaaDoorBase
namespace Go.Proofs.YtbmlglkdlialgaaDoor
open Go.RowKit

/-- What is left of a size. -/
def szR (l : Int) (n : Nat) : Int := if l < n then -1 else l - n
def inB (n a b : Int) : Bool := decide (a ≤ n) && decide (n ≤ b)
theorem inB_true {n a b : Int} (h : inB n a b = true) : a ≤ n ∧ n ≤ b := by simpa [inB] using h
theorem inB_of {n a b : Int} (h1 : a ≤ n) (h2 : n ≤ b) : inB n a b = true := by simp [inB, h1, h2]

/-- p holds below k. -/
def allB (p : Nat → Bool) : Nat → Bool
  | 0 => true
  | k + 1 => allB p k && p k
theorem allB_false {p : Nat → Bool} {k n : Nat} (h : k < n) (he : p k = false) : allB p n = false := by
  induction n with
  | zero => omega
  | succ m ih =>
    simp only [allB]
    by_cases h' : k < m
    · rw [ih h']; rfl
    · obtain rfl : k = m := by omega
      rw [he]; simp
theorem allB_succ {p : Nat → Bool} {k : Nat} (h : allB p k = true) (he : p k = true) : allB p (k + 1) = true := by simp [allB, h, he]
theorem allB_at {p : Nat → Bool} {n : Nat} (h : allB p n = true) : ∀ k, k < n → p k = true := by
  intro k hk
  cases hp : p k with
  | true => rfl
  | false => rw [allB_false hk hp] at h; cases h
theorem allB_of {p : Nat → Bool} {n : Nat} (h : ∀ k, k < n → p k = true) : allB p n = true := by
  induction n with
  | zero => rfl
  | succ m ih => exact allB_succ (ih fun k hk => h k (by omega)) (h m (by omega))

def showB (F : Nat → Nat → Int) (k : Nat) : Bool := inB (F k 0) 0 4000 && inB (F k 1) 1 200000 && (decide (k = 0) || decide (F (k - 1) 0 < F k 0))
def showsB (F : Nat → Nat → Int) (n : Nat) : Bool := allB (showB F) n && decide ((n : Int) ≤ 20)
theorem showsB_false {F : Nat → Nat → Int} {k n : Nat} (h : k < n) (he : showB F k = false) : showsB F n = false := by simp [showsB, allB_false h he]

/-- The first index below n at which p holds. -/
def firstB (p : Nat → Bool) : Nat → Option Nat
  | 0 => none
  | k + 1 => match firstB p k with
    | some i => some i
    | none => if p k then some k else none
theorem firstB_succ_none {p : Nat → Bool} {k : Nat} (h : firstB p k = none) (hp : p k = false) : firstB p (k + 1) = none := by simp [firstB, h, hp]
theorem firstB_at {p : Nat → Bool} {k n : Nat} (h : firstB p k = none) (hp : p k = true) (hk : k < n) : firstB p n = some k := by
  induction n with
  | zero => omega
  | succ m ih =>
    by_cases h' : k < m
    · simp [firstB, ih h']
    · obtain rfl : k = m := by omega
      simp [firstB, h, hp]
theorem firstB_none {p : Nat → Bool} {n : Nat} (h : firstB p n = none) : ∀ j, j < n → p j = false := by
  induction n with
  | zero => intro j hj; omega
  | succ m ih =>
    simp only [firstB] at h
    split at h
    · cases h
    · rename_i hm
      intro j hj
      by_cases hjm : j < m
      · exact ih hm j hjm
      · obtain rfl : j = m := by omega
        cases hp : p j with
        | false => rfl
        | true => simp [hp] at h

theorem firstB_some {p : Nat → Bool} {n i : Nat} (h : firstB p n = some i) : i < n ∧ p i = true ∧ ∀ j, j < i → p j = false := by
  induction n with
  | zero => simp [firstB] at h
  | succ m ih =>
    simp only [firstB] at h
    split at h
    · rename_i j hj
      injection h with h; subst h
      have := ih hj
      exact ⟨by omega, this.2⟩
    · rename_i hj
      by_cases hp : p m = true
      · simp [hp] at h; subst h
        exact ⟨by omega, hp, firstB_none hj⟩
      · simp [hp] at h

theorem firstB_eq {p : Nat → Bool} {n i : Nat} (hi : i < n) (hp : p i = true) (hj : ∀ j, j < i → p j = false) : firstB p n = some i := by
  refine firstB_at ?_ hp hi
  clear hi hp
  induction i with
  | zero => rfl
  | succ m ih => exact firstB_succ_none (ih fun j h => hj j (by omega)) (hj m (by omega))
theorem firstB_eq_none {p : Nat → Bool} {n : Nat} (hj : ∀ j, j < n → p j = false) : firstB p n = none := by
  induction n with
  | zero => rfl
  | succ m ih => exact firstB_succ_none (ih fun j h => hj j (by omega)) (hj m (by omega))

/-- f 0 + .. + f (k - 1) -/
def sumI (f : Nat → Int) : Nat → Int
  | 0 => 0
  | k + 1 => sumI f k + f k
theorem sumI_bound {f : Nat → Int} {b : Int} {n : Nat} (h : ∀ i, i < n → 0 ≤ f i ∧ f i ≤ b) : ∀ k, k ≤ n → 0 ≤ sumI f k ∧ sumI f k ≤ k * b := by
  intro k
  induction k with
  | zero => intro _; simp [sumI]
  | succ m ih =>
    intro hk
    have h1 := ih (by omega)
    have h2 := h m (by omega)
    simp only [sumI]
    refine ⟨by omega, ?_⟩
    have e : ((m + 1 : Nat) : Int) * b = m * b + b := by rw [Int.natCast_add, Int.add_mul]; simp
    rw [e]; omega

/-- The second column where the first is 'day', from the first such row; else 0. -/
def onV (F : Nat → Nat → Int) (day : Int) (n : Nat) : Int := match firstB (fun i => F i 0 == day) n with
  | some i => F i 1
  | none => 0
theorem onV_of {F : Nat → Nat → Int} {day : Int} {k n : Nat} (h : firstB (fun i => F i 0 == day) k = none) (hp : F k 0 = day) (hk : k < n) : onV F day n = F k 1 := by
  unfold onV; rw [firstB_at h (by simp [hp]) hk]
theorem onV_none {F : Nat → Nat → Int} {day : Int} {n : Nat} (h : firstB (fun i => F i 0 == day) n = none) : onV F day n = 0 := by
  unfold onV; rw [h]
theorem onV_bound {F : Nat → Nat → Int} {day b : Int} {n : Nat} (hb : 0 ≤ b) (h : ∀ i, i < n → 0 ≤ F i 1 ∧ F i 1 ≤ b) : 0 ≤ onV F day n ∧ onV F day n ≤ b := by
  unfold onV
  split
  · rename_i i hi; exact h i (firstB_some hi).1
  · omega

theorem showsB_at {F : Nat → Nat → Int} {n : Nat} (h : showsB F n = true) : n ≤ 20 ∧ ∀ k, k < n → (0 ≤ F k 0 ∧ F k 0 ≤ 4000) ∧ (1 ≤ F k 1 ∧ F k 1 ≤ 200000) ∧ (0 < k → F (k - 1) 0 < F k 0) := by
  simp only [showsB, Bool.and_eq_true, decide_eq_true_eq] at h
  refine ⟨by omega, fun k hk => ?_⟩
  have h1 := allB_at h.1 k hk
  simp only [showB, inB, Bool.and_eq_true, Bool.or_eq_true, decide_eq_true_eq] at h1
  exact ⟨⟨by omega, by omega⟩, ⟨by omega, by omega⟩, fun hk0 => by omega⟩

/-- What RainOnArea returns. -/
def rainOnAreaR (F : Nat → Nat → Int) (n : Nat) (area day : Int) : Int × Bool :=
  if showsB F n && inB area 1 100000 && inB day 0 4000 then (onV F day n * area / 1000, true) else (0, false)
/-- What RainBetween returns. -/
def kilos (F : Nat → Nat → Int) (area a b : Int) (i : Nat) : Int := if inB (F i 0) a b then F i 1 * area / 1000 else 0
def rainBetweenR (F : Nat → Nat → Int) (n : Nat) (area a b : Int) : Int × Bool :=
  if showsB F n && inB area 1 100000 && inB a 0 4000 && inB b 0 4000 then (sumI (kilos F area a b) n, true) else (0, false)
/-- The first index below n with the greatest f. -/
def bestI (f : Nat → Int) : Nat → Nat
  | 0 => 0
  | k + 1 => if f (bestI f k) < f k then k else bestI f k
theorem bestI_lt (f : Nat → Int) (k : Nat) (h : 0 < k) : bestI f k < k := by
  induction k with
  | zero => omega
  | succ m ih =>
    simp only [bestI]
    split
    · omega
    · by_cases h0 : m = 0
      · subst h0; simp [bestI]
      · have := ih (by omega); omega
def wettestR (F : Nat → Nat → Int) (n : Nat) : Int × Bool :=
  if showsB F n && !(n == 0) then (F (bestI (fun i => F i 1) n) 0, true) else (0, false)

def sunB (F : Nat → Nat → Int) (k : Nat) : Bool := inB (F k 0) 0 4000 && inB (F k 1) 0 20000 && (decide (k = 0) || decide (F (k - 1) 0 < F k 0))
def sunsB (F : Nat → Nat → Int) (n : Nat) : Bool := allB (sunB F) n && decide ((n : Int) ≤ 20)
theorem sunsB_false {F : Nat → Nat → Int} {k n : Nat} (h : k < n) (he : sunB F k = false) : sunsB F n = false := by simp [sunsB, allB_false h he]
theorem sunsB_at {F : Nat → Nat → Int} {n : Nat} (h : sunsB F n = true) : n ≤ 20 ∧ ∀ k, k < n → (0 ≤ F k 0 ∧ F k 0 ≤ 4000) ∧ (0 ≤ F k 1 ∧ F k 1 ≤ 20000) ∧ (0 < k → F (k - 1) 0 < F k 0) := by
  simp only [sunsB, Bool.and_eq_true, decide_eq_true_eq] at h
  refine ⟨by omega, fun k hk => ?_⟩
  have h1 := allB_at h.1 k hk
  simp only [sunB, inB, Bool.and_eq_true, Bool.or_eq_true, decide_eq_true_eq] at h1
  exact ⟨⟨by omega, by omega⟩, ⟨by omega, by omega⟩, fun hk0 => by omega⟩

def brineB (x y : Int) : Bool := inB x 0 1000000 && inB y 0 1000000
theorem brineB_true {x y : Int} (h : brineB x y = true) : (0 ≤ x ∧ x ≤ 1000000) ∧ (0 ≤ y ∧ y ≤ 1000000) := by
  simp only [brineB, Bool.and_eq_true] at h
  exact ⟨inB_true h.1, inB_true h.2⟩

/-- What evaporates of a brine at a rate on an area. -/
def lossV (x y area rate : Int) : Int := if x + y = 0 then 0 else min (rate * area / 1000 * x / (x + y)) x
/-- Bounds by which nothing wraps on the way. -/
theorem loss_bd {x y area rate : Int} (hb : brineB x y = true) (ha : 1 ≤ area) (ha2 : area ≤ 100000) (hr : 0 ≤ rate) (hr2 : rate ≤ 20000) :
    (0 ≤ rate * area ∧ rate * area ≤ 2000000000) ∧ (0 ≤ rate * area / 1000 * x ∧ rate * area / 1000 * x ≤ 2000000000000) ∧ 0 ≤ rate * area / 1000 * x / (x + y) ∧ rate * area / 1000 * x / (x + y) ≤ 2000000000000 := by
  have b := brineB_true hb
  have h1 : 0 ≤ rate * area := Int.mul_nonneg hr (by omega)
  have h2 : rate * area ≤ 20000 * 100000 := Int.mul_le_mul hr2 ha2 (by omega) (by omega)
  have h3 : 0 ≤ rate * area / 1000 := by omega
  have h4 : rate * area / 1000 ≤ 2000000 := by omega
  have h5 : 0 ≤ rate * area / 1000 * x := Int.mul_nonneg h3 b.1.1
  have h6 : rate * area / 1000 * x ≤ 2000000 * 1000000 := Int.mul_le_mul h4 b.1.2 b.1.1 (by omega)
  have h7 : 0 ≤ rate * area / 1000 * x / (x + y) := Int.ediv_nonneg h5 (by omega)
  have h8 : rate * area / 1000 * x / (x + y) ≤ rate * area / 1000 * x := Int.ediv_le_self _ h5
  exact ⟨⟨h1, by omega⟩, ⟨h5, by omega⟩, h7, by omega⟩
theorem lossV_bd {x y area rate : Int} (hb : brineB x y = true) (ha : 1 ≤ area) (ha2 : area ≤ 100000) (hr : 0 ≤ rate) (hr2 : rate ≤ 20000) : 0 ≤ lossV x y area rate ∧ lossV x y area rate ≤ x := by
  have b := brineB_true hb
  have := (loss_bd hb ha ha2 hr hr2).2.2
  unfold lossV
  split <;> omega

/-- How much of k kilograms comes in with a cover. -/
def comes (k c : Int) : Int := k - (k * c + 99) / 100
theorem comes_bd {k c : Int} (hk : 0 ≤ k) (hk2 : k ≤ 20000000) (hc : 0 ≤ c) (hc2 : c ≤ 100) : (0 ≤ k * c ∧ k * c ≤ 2000000000) ∧ 0 ≤ comes k c ∧ comes k c ≤ k := by
  have h1 : 0 ≤ k * c := Int.mul_nonneg hk hc
  have h2 : k * c ≤ 20000000 * 100 := Int.mul_le_mul hk2 hc2 hc (by omega)
  have h3 : k * c ≤ k * 100 := Int.mul_le_mul_of_nonneg_left hc2 hk
  unfold comes
  omega
theorem comes_mono {k c d : Int} (hk : 0 ≤ k) (hcd : c ≤ d) : comes k d ≤ comes k c := by
  have : k * c ≤ k * d := Int.mul_le_mul_of_nonneg_left hcd hk
  unfold comes
  omega
theorem rainOnAreaR_bd (F : Nat → Nat → Int) (n : Nat) (area day : Int) : 0 ≤ (rainOnAreaR F n area day).1 ∧ (rainOnAreaR F n area day).1 ≤ 20000000 := by
  unfold rainOnAreaR
  split
  · rename_i h
    simp only [Bool.and_eq_true] at h
    have ho := onV_bound (F := F) (day := day) (n := n) (b := 200000) (by omega) (fun i hi => by have := ((showsB_at h.1.1).2 i hi).2.1; omega)
    have ha := inB_true h.1.2
    have h1 : 0 ≤ onV F day n * area := Int.mul_nonneg ho.1 (by omega)
    have h2 : onV F day n * area ≤ 200000 * 100000 := Int.mul_le_mul ho.2 ha.2 (by omega) (by omega)
    simp only
    omega
  · simp
/-- What AfterRain returns: water, salt, whether. -/
def afterRainR (F : Nat → Nat → Int) (n : Nat) (x y area cover day : Int) : Int × Int × Bool :=
  if (rainOnAreaR F n area day).2 && brineB x y && inB cover 0 100 && brineB (x + comes (rainOnAreaR F n area day).1 cover) y then (x + comes (rainOnAreaR F n area day).1 cover, y, true) else (0, 0, false)

theorem ret_ib {k : IntKind} {a b : Int} {x y : Bool} (h1 : a = b) (h2 : x = y) : Ending.returned (.tuple #[.int k a, .bool x]) = .returned (.tuple #[.int k b, .bool y]) := by rw [h1, h2]
theorem ret_p {k : IntKind} {a : Int} {x : Bool} {p : Int × Bool} (h : p = (a, x)) : Ending.returned (.tuple #[.int k a, .bool x]) = .returned (.tuple #[.int k p.1, .bool p.2]) := by rw [h]

def sunOnR (F : Nat → Nat → Int) (n : Nat) (day : Int) : Int × Bool := if sunsB F n && inB day 0 4000 then (onV F day n, true) else (0, false)
/-- The rates of a span. -/
def rates (F : Nat → Nat → Int) (a b : Int) (i : Nat) : Int := if inB (F i 0) a b then F i 1 else 0
theorem rates_bd {F : Nat → Nat → Int} {n : Nat} {a b : Int} (h : sunsB F n = true) : ∀ k, k ≤ n → 0 ≤ sumI (rates F a b) k ∧ sumI (rates F a b) k ≤ 400000 := fun k hk => by
  have hs := sunsB_at h
  have := sumI_bound (f := rates F a b) (b := 20000) (n := n) (fun i hi => by
    have := (hs.2 i hi).2.1
    unfold rates
    split <;> omega) k hk
  have := hs.1
  omega
def sunSumR (F : Nat → Nat → Int) (n : Nat) (a b : Int) : Int × Bool := if sunsB F n && inB a 0 4000 && inB b 0 4000 then (sumI (rates F a b) n, true) else (0, false)
/-- Suns, a brine with a mass, and an area. -/
def askedB (F : Nat → Nat → Int) (n : Nat) (x y area : Int) : Bool := sunsB F n && brineB x y && decide (0 < x + y) && inB area 1 100000
theorem askedB_true {F : Nat → Nat → Int} {n : Nat} {x y area : Int} (h : askedB F n x y area = true) : sunsB F n = true ∧ brineB x y = true ∧ 0 < x + y ∧ 1 ≤ area ∧ area ≤ 100000 := by
  simp only [askedB, Bool.and_eq_true, decide_eq_true_eq] at h
  exact ⟨h.1.1.1, h.1.1.2, h.1.2, inB_true h.2⟩
theorem onV_sun {F : Nat → Nat → Int} {n : Nat} {day : Int} (h : sunsB F n = true) : 0 ≤ onV F day n ∧ onV F day n ≤ 20000 :=
  onV_bound (by omega) (fun i hi => ((sunsB_at h).2 i hi).2.1)
def lossOnR (F : Nat → Nat → Int) (n : Nat) (x y area day : Int) : Int × Bool := if askedB F n x y area && inB day 0 4000 then (lossV x y area (onV F day n), true) else (0, false)
def spanB (a b : Int) : Bool := inB a 0 4000 && inB b 0 4000 && decide (a ≤ b)

/-- The water after the first k suns, of those with days in a span. -/
def afterW (F : Nat → Nat → Int) (area x y a b : Int) : Nat → Int
  | 0 => x
  | k + 1 => if inB (F k 0) a b then afterW F area x y a b k - lossV (afterW F area x y a b k) y area (F k 1) else afterW F area x y a b k
theorem afterW_brine {F : Nat → Nat → Int} {n : Nat} {area x y a b : Int} (hs : sunsB F n = true) (hb : brineB x y = true) (ha : 1 ≤ area) (ha2 : area ≤ 100000) :
    ∀ k, k ≤ n → brineB (afterW F area x y a b k) y = true := by
  intro k
  induction k with
  | zero => intro _; exact hb
  | succ m ih =>
    intro hk
    have h1 := ih (by omega)
    simp only [afterW]
    split
    · have hr := ((sunsB_at hs).2 m (by omega)).2.1
      have := lossV_bd h1 ha ha2 hr.1 hr.2
      have b1 := brineB_true h1
      unfold brineB
      rw [inB_of (by omega) (by omega), inB_of (by omega) (by omega)]; rfl
    · exact h1
def afterSunR (F : Nat → Nat → Int) (n : Nat) (x y area a b : Int) : Int × Int × Bool :=
  if askedB F n x y area && spanB a b then (afterW F area x y a b n, y, true) else (0, 0, false)

end Go.Proofs.YtbmlglkdlialgaaDoor
