/-
  Plain laws on rain: the cover that is needed, the brine after sun and rain of a day. Conditions: none; no program is named here.
-/
import Derived.Test.YtcjjpkleipjibaaMath
namespace Go.Proofs.Ytcjjpkleipjibaa

def maxCovers : Nat := 101
def coverV : Option Nat → Int × Bool
  | some c => ((c : Int), true)
  | none => (0, false)
/-- What CoverNeeded returns. -/
def coverR (F : Nat → Nat → Int) (n : Nat) (x y area day limit : Int) : Int × Bool :=
  if (rainOnAreaR F n area day).2 && brineB x y && decide (0 ≤ limit) then coverV (firstB (fun c => decide (x + comes (rainOnAreaR F n area day).1 c ≤ min limit 1000000)) maxCovers) else (0, false)
theorem cover_step {F : Nat → Nat → Int} {n : Nat} {x y area day limit : Int} {c : Nat} (hc : c ≤ 100) :
    ((afterRainR F n x y area c day).2.2 && decide ((afterRainR F n x y area c day).1 ≤ limit)) = ((rainOnAreaR F n area day).2 && brineB x y && decide (x + comes (rainOnAreaR F n area day).1 c ≤ min limit 1000000)) := by
  unfold afterRainR
  have hk := rainOnAreaR_bd F n area day
  generalize rainOnAreaR F n area day = R at *
  obtain ⟨kg, ok⟩ := R
  cases ok
  · simp
  · cases hb : brineB x y
    · simp
    · have b := brineB_true hb
      have h1 := comes_bd (k := kg) (c := c) hk.1 hk.2 (by omega) (by omega)
      rw [inB_of (by omega) (by omega)]
      simp only [Bool.true_and, Bool.and_true]
      by_cases h : x + comes kg c ≤ 1000000
      · have : brineB (x + comes kg c) y = true := by unfold brineB; rw [inB_of (by omega) h, inB_of b.2.1 b.2.2]; rfl
        rw [this, if_pos rfl]
        simp only [Bool.true_and]
        exact decide_eq_decide.2 (by omega)
      · have : brineB (x + comes kg c) y = false := by unfold brineB inB; simp; intro _ h2; omega
        rw [this]
        simp; omega

/-- What NetOn returns. -/
def netOnR (F : Nat → Nat → Int) (n : Nat) (G : Nat → Nat → Int) (m : Nat) (x y area day : Int) : Int × Int × Bool :=
  if showsB F n && inB area 1 100000 && sunsB G m && brineB x y && inB day 0 4000 && brineB (x - lossV x y area (onV G day m) + onV F day n * area / 1000) y
  then (x - lossV x y area (onV G day m) + onV F day n * area / 1000, y, true) else (0, 0, false)
theorem netOn_impl {F : Nat → Nat → Int} {n : Nat} {G : Nat → Nat → Int} {m : Nat} {x y area day : Int} (h1 : sunsB G m = true) (h2 : brineB x y = true) (h3 : inB area 1 100000 = true) (h4 : inB day 0 4000 = true)
    (hl : brineB (x - lossV x y area (onV G day m)) y = true) : afterRainR F n (x - lossV x y area (onV G day m)) y area 0 day = netOnR F n G m x y area day := by
  unfold afterRainR netOnR rainOnAreaR
  rw [h1, h2, h3, h4, hl]
  cases showsB F n
  · simp
  · simp only [Bool.true_and, Bool.and_true, if_true]
    have e : comes (onV F day n * area / 1000) 0 = onV F day n * area / 1000 := by unfold comes; simp
    rw [e]
    simp [inB]
end Go.Proofs.Ytcjjpkleipjibaa
