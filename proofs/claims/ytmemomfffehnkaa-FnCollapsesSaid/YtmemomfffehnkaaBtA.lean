import Derived.Test.YtmemomfffehnkaaKU
import Derived.Test.YtmemomfffehnkaaKJ
namespace Go.Proofs.Ytmemomfffehnkaa
open Go Go.RowKit
set_option maxRecDepth 1000000
set_option linter.unusedSimpArgs false
set_option linter.unusedVariables false
set_option maxHeartbeats 1000000
theorem band_tb {a : Int} (ha : isS a) {i : Nat} (hi : i < 6) : band a (2 ^ i) = 0 ↔ ¬ tb a i := by
  rw [band_none ha (isS_pow hi)]
  constructor
  · intro h ht
    exact h i hi ⟨ht, (tb_pow hi hi).2 rfl⟩
  · intro h j hj hh
    have := (tb_pow hi hj).1 hh.2
    subst this
    exact h hh.1
theorem bor_tb {a : Int} (ha : isS a) {i : Nat} (hi : i < 6) {j : Nat} (hj : j < 6) : tb (bor a (2 ^ i)) j ↔ tb a j ∨ j = i := by
  rw [tb_bor ha (isS_pow hi) hj, tb_pow hi hj]
  constructor
  · rintro (h | h)
    · exact .inl h
    · exact .inr h.symm
  · rintro (h | h)
    · exact .inl h
    · exact .inr h.symm
theorem addsz_key : ∀ x : Nat, x < 64 → ∀ i : Nat, i < 6 → (x.testBit i || pcF 6 (x ||| 2 ^ i) == pcF 6 x + 1) = true := by decide +kernel
theorem sz_addP {a : Int} (ha : isS a) {i : Nat} (hi : i < 6) (h : ¬ tb a i) : sz (bor a (2 ^ i)) = sz a + 1 := by
  obtain ⟨x, hx, rfl⟩ := isS_nat0 ha
  rw [tb_nat x i hx hi] at h
  have k := addsz_key x hx i hi
  have hp : 2 ^ i < 64 := by
    have : ∀ i : Nat, i < 6 → 2 ^ i < 64 := by decide
    exact this i hi
  have e : bor (x : Int) (2 ^ i) = ((x ||| 2 ^ i : Nat) : Int) := by
    show bitop .or .i64 (x : Int) (2 ^ i) = _
    rw [pow_nat i, bits_or x (2 ^ i) (by omega) (by omega)]
  have hlt : x ||| 2 ^ i < 64 := Nat.or_lt_two_pow (n := 6) (by omega) (by omega)
  rw [e, sz_nat hlt, sz_nat hx]
  simp [h] at k
  omega
end Go.Proofs.Ytmemomfffehnkaa
