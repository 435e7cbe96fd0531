/-
  Plain laws on suns for the law FnSunSums. Conditions: none; no program is named here.
-/
import Derived.Test.YtajmebclmippeaaSunM2
import Derived.Test.YtajmebclmippeaaSunP
namespace Go.Proofs.Ytajmebclmippeaa

/-- No span of the same length has more sun than the best one. -/
theorem best_law (F : Nat → Nat → Int) (n : Nat) (days : Int) : ∃ (b : Int) (ok : Bool), bestStartR F n days = (b, ok) ∧
    (ok = true → (n ≤ 20 ∧ 1 ≤ days ∧ days ≤ 100 ∧ 0 ≤ b ∧ b ≤ 4000) ∧ ∃ most, sunSumR F n b (b + days - 1) = (most, true) ∧
      ∀ i, i < n → (0 ≤ F i 0 ∧ F i 0 ≤ 4000) ∧ (F i 0 + days - 1 ≤ 4000 → ∃ m, sunSumR F n (F i 0) (F i 0 + days - 1) = (m, true) ∧ m ≤ most)) := by
  unfold bestStartR
  cases h : (sunsB F n && inB days 1 100)
  · exact ⟨0, false, by simp, fun h => by cases h⟩
  · refine ⟨((bestI (sunFrom F n days) (startsN days) : Nat) : Int), true, by simp, fun _ => ?_⟩
    simp only [Bool.and_eq_true] at h
    obtain ⟨hs, hd⟩ := h
    have hd := inB_true hd
    have hlt : bestI (sunFrom F n days) (startsN days) < startsN days := bestI_lt _ _ (by unfold startsN; omega)
    have hmax := bestI_max (sunFrom F n days) (startsN days)
    have hst : ((startsN days : Nat) : Int) = 4002 - days := by unfold startsN; omega
    generalize bestI (sunFrom F n days) (startsN days) = b at hlt hmax
    refine ⟨⟨(sunsB_at hs).1, hd.1, hd.2, by omega, by omega⟩, sunFrom F n days b, ?_, fun i hi => ?_⟩
    · unfold sunSumR
      rw [hs, inB_of (by omega : (0 : Int) ≤ (b : Int)) (by omega), inB_of (by omega : (0 : Int) ≤ (b : Int) + days - 1) (by omega)]
      rfl
    · have hb := ((sunsB_at hs).2 i hi).1
      refine ⟨hb, fun hle => ?_⟩
      have hc : (((F i 0).toNat : Nat) : Int) = F i 0 := by omega
      refine ⟨sunFrom F n days (F i 0).toNat, ?_, hmax _ (by omega)⟩
      unfold sunSumR sunFrom
      rw [hs, hc, inB_of hb.1 hb.2, inB_of (by omega : (0 : Int) ≤ F i 0 + days - 1) hle]
      rfl
/-- A sun that is put is there. -/
theorem put_law (F : Nat → Nat → Int) (n : Nat) (t x : Int) : ∃ (N : Nat) (ok : Bool) (G : Nat → Nat → Int), putSunN F n t x = N ∧ putSunOk F n t x = ok ∧ putS F n t x = G ∧ N ≤ 20 ∧ (ok = true → sunOnR G N t = (x, true)) := by
  refine ⟨_, _, _, rfl, rfl, rfl, ?_, fun ok => ?_⟩
  · unfold putSunN
    cases h : putSunOk F n t x
    · simp
    · simp only [if_true]
      simp only [putSunOk, Bool.and_eq_true] at h
      exact (sunsB_at h.2).1
  · have hN : putSunN F n t x = putL F n t := by simp [putSunN, ok]
    rw [hN]
    simp only [putSunOk, Bool.and_eq_true] at ok
    obtain ⟨h1, h2⟩ := ok
    obtain ⟨r1, r2, r3⟩ := put_row F n t x
    generalize putS F n t x = G at *
    generalize putL F n t = N at *
    generalize putAt F n t = k at *
    have hk := ((sunsB_at h2).2 k r3).1
    have hf : firstB (fun i => G i 0 == t) k = none := firstB_eq_none fun j hj => by
      have := suns_lt h2 k j hj r3
      simp only [beq_eq_false_iff_ne, ne_eq]
      omega
    unfold sunOnR
    rw [h2, inB_of (by omega : (0 : Int) ≤ t) (by omega), onV_of hf r1 r3, r2]
    rfl
end Go.Proofs.Ytajmebclmippeaa
