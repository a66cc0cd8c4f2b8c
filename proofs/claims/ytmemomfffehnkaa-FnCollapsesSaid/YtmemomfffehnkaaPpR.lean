import Derived.Test.YtmemomfffehnkaaKU
import Derived.Test.YtmemomfffehnkaaKT
import Derived.Test.YtmemomfffehnkaaKG5
namespace Go.Proofs.Ytmemomfffehnkaa
open Go Go.RowKit
set_option maxRecDepth 1000000
set_option linter.unusedSimpArgs false
set_option linter.unusedVariables false
set_option maxHeartbeats 1000000
theorem sgnM_mod {p : Int} {R C : List Int} {i j : Nat} (hi : i < R.length) (hj : j < C.length) : at0 (atR (modM p (sgnM R C)) i) j = sgnZ (at0 R i) (at0 C j) % p := by
  have h1 : i < (sgnM R C).length := by rw [sgnM_len]; exact hi
  rw [modM_at h1, rowF_at (by rw [sgnM_at hi]; simpa using hj), sgnM_at hi]
  congr 1
  simp [at0, hj]
theorem okM_sgn {p : Int} (hp : fpP p) (R C : List Int) : okM p C.length (modM p (sgnM R C)) := okM_mod hp fun i hi => by
  rw [sgnM_len] at hi
  rw [sgnM_at hi]
  simp
theorem rkZ_W {p : Int} {q : Int → Prop} {k : Int} (h : 0 < (szS q (k - 1)).length) : rkZ p q k = (rkW p (szS q k).length (modM p (sgnM (szS q (k - 1)) (szS q k))) : Nat) := by
  unfold rkZ rnk rkW
  rw [sgnM_at h]
  simp
theorem unit_mod {p : Int} {a x : Int} (ha : a = 1 ∨ a = -1) (h : p ∣ a % p * x) : p ∣ x := by
  have h1 : p ∣ a % p * x - a * x := by
    rw [← Int.sub_mul]
    exact Int.dvd_mul_of_dvd_left (mod_sub a p)
  have h2 := (dvd_cong h1).1 h
  rcases ha with rfl | rfl
  · rwa [Int.one_mul] at h2
  · rw [Int.neg_one_mul] at h2
    exact Int.dvd_neg.1 h2
theorem sgnZ_unit {r s : Int} (h : subS r s) : sgnZ r s = 1 ∨ sgnZ r s = -1 := by
  rw [sgnZ_yes h]
  have := Int.emod_two_eq (sz (band s (bnot s r - 1)))
  omega
theorem rkZ_M {p : Int} {q : Int → Prop} (z : Int) : rkZ p q z = (rkM p (szS q z).length (sgnM (szS q (z - 1)) (szS q z)) : Nat) := by
  by_cases h : 0 < (szS q (z - 1)).length
  · rw [rkZ_W h]; rfl
  · have e : szS q (z - 1) = [] := List.length_eq_zero_iff.1 (by omega)
    have e2 : sgnM (szS q (z - 1)) (szS q z) = [] := by rw [e]; rfl
    unfold rkZ rkM rX
    rw [e2, rnk_nil]
    have e3 : modM p [] = [] := List.length_eq_zero_iff.1 (by simp)
    rw [e3, redS_nil]
    rfl
end Go.Proofs.Ytmemomfffehnkaa
