import Derived.Test.YtncnohompmcddaaHbA
import Derived.Test.YtncnohompmcddaaGdT
namespace Go.Proofs.Ytncnohompmcddaa
open Go Go.RowKit
set_option maxRecDepth 1000000
set_option linter.unusedSimpArgs false
set_option linter.unusedVariables false
set_option maxHeartbeats 1000000
theorem redS_lt (p : Int) (M : List (List Int)) (j : Nat) : (∀ q, q < (redS p M j).2.length → 0 ≤ at0 (redS p M j).2 q ∧ at0 (redS p M j).2 q < j) ∧ ∀ a b, a < b → b < (redS p M j).2.length → at0 (redS p M j).2 a < at0 (redS p M j).2 b := by
  induction j with
  | zero => exact ⟨fun q hq => by simp [redS] at hq, fun a b _ hb => by simp [redS] at hb⟩
  | succ j ih =>
    rw [redS]
    generalize redS p M j = x at *
    obtain ⟨N, P⟩ := x
    obtain ⟨h1, h2⟩ := ih
    simp only at h1 h2
    by_cases hc : P.length < N.length ∧ fndZ N j (N.length - P.length) P.length < N.length
    · rw [redC_yes rfl hc.1 hc.2]
      simp only [List.length_append, List.length_singleton]
      have e : ∀ q, q < P.length + 1 → at0 (P ++ [(j : Int)]) q = if q < P.length then at0 P q else (j : Int) := fun q hq => by
        rw [at0_app]
        split
        · rfl
        · rw [show q - P.length = 0 by omega]; rfl
      constructor
      · intro q hq
        rw [e q hq]
        split
        · have := h1 q (by assumption)
          omega
        · omega
      · intro a b hab hb
        rw [e a (by omega), e b hb, if_pos (by omega)]
        split
        · exact h2 a b hab (by assumption)
        · exact (h1 a (by omega)).2
    · rw [redC_no hc]
      exact ⟨fun q hq => by have := h1 q hq; simp only at this ⊢; omega, h2⟩
/-- The first number below w with Q: its list, and true; else no list, and false. -/
def fsR (w : Nat) (Q : Nat → Prop) (X : Nat → List Int) (x : List Int × Bool) : Prop := (x = ([], false) ∧ ∀ i, i < w → ¬ Q i) ∨ ∃ i, i < w ∧ Q i ∧ x = (X i, true) ∧ ∀ j, j < i → ¬ Q j
theorem fs_ex (w : Nat) (Q : Nat → Prop) (X : Nat → List Int) : ∃ x, fsR w Q X x := by
  rcases least_nat Q w with h | ⟨i, a, b, c⟩
  · exact ⟨_, .inl ⟨rfl, h⟩⟩
  · exact ⟨_, .inr ⟨i, a, b, rfl, c⟩⟩
noncomputable def fsX (w : Nat) (Q : Nat → Prop) (X : Nat → List Int) : List Int × Bool := Classical.choose (fs_ex w Q X)
theorem fsX_none {w : Nat} {Q : Nat → Prop} {X : Nat → List Int} (h : ∀ i, i < w → ¬ Q i) : fsX w Q X = ([], false) := by
  rcases (Classical.choose_spec (fs_ex w Q X) : fsR w Q X (fsX w Q X)) with ⟨e, _⟩ | ⟨i, a, b, _⟩
  · exact e
  · exact absurd b (h i a)
theorem fsX_hit {w : Nat} {Q : Nat → Prop} {X : Nat → List Int} {i : Nat} (hi : i < w) (h : Q i) (hm : ∀ j, j < i → ¬ Q j) : fsX w Q X = (X i, true) := by
  rcases (Classical.choose_spec (fs_ex w Q X) : fsR w Q X (fsX w Q X)) with ⟨_, h2⟩ | ⟨k, a, b, e, c⟩
  · exact absurd h (h2 i hi)
  · have e2 : fsX w Q X = (X k, true) := e
    rw [e2]
    rcases Nat.lt_trichotomy i k with h1 | h1 | h1
    · exact absurd h (c i h1)
    · rw [h1]
    · exact absurd b (hm k h1)
/-- The chain of column c: 1 at c, and at the pivots' places what makes it a cycle. -/
noncomputable def hcK (p : Int) (R : List (List Int)) (P : List Int) (w c : Nat) : Nat → List Int
  | 0 => (List.replicate w 0).set c 1
  | i + 1 => (hcK p R P w c i).set (at0 P i).toNat (-(at0 (atR R i) c) % p)
@[simp] theorem hcK_len (p : Int) (R : List (List Int)) (P : List Int) (w c : Nat) : ∀ i, (hcK p R P w c i).length = w
  | 0 => by simp [hcK]
  | i + 1 => by simp [hcK, hcK_len p R P w c i]
noncomputable def hcZ (n : Int) (l : List Int) (k p : Int) : List (List Int) × List Int := redS p (modM p (borM n l k)) (fosL n l k).length
noncomputable def hcX (n : Int) (l : List Int) (k p : Int) (c : Nat) : List Int := hcK p (hcZ n l k p).1 (hcZ n l k p).2 (fosL n l k).length c (hcZ n l k p).2.length
def hcQ (n : Int) (l : List Int) (k p : Int) (c : Nat) : Prop := (c : Int) ∉ (hcZ n l k p).2 ∧ ¬ fchP n l k p (hcX n l k p c)
def hcP (n : Int) (l : List Int) (k p : Int) : Prop := cplx n l ∧ 1 ≤ k ∧ k ≤ 5 ∧ fpP p
noncomputable def hcF (n : Int) (l : List Int) (k p : Int) : List Int × Bool := @ite _ (hcP n l k p) (Classical.propDecidable _) (fsX (fosL n l k).length (hcQ n l k p) (hcX n l k p)) ([], false)
theorem bor_ok {n : Int} {l : List Int} {k : Int} : (borM n l k).length ≤ 64 ∧ (fosL n l k).length ≤ 64 ∧ ∀ i, i < (borM n l k).length → (atR (borM n l k) i).length = (fosL n l k).length := by
  obtain ⟨_, hRl, hCl⟩ := borM_ok (n := n) (l := l) (k := k)
  have hbl : (borM n l k).length = (fosL n l (k - 1)).length := by unfold borM; rw [sgnM_len]
  refine ⟨by omega, hCl, fun i hi => ?_⟩
  rw [hbl] at hi
  unfold borM
  rw [sgnM_at hi]
  simp
theorem hcF_no {n : Int} {l : List Int} {k p : Int} (h : ¬ hcP n l k p) : hcF n l k p = ([], false) := if_neg h
theorem hcF_yes {n : Int} {l : List Int} {k p : Int} (h : hcP n l k p) : hcF n l k p = fsX (fosL n l k).length (hcQ n l k p) (hcX n l k p) := if_pos h
theorem hcF_len (n : Int) (l : List Int) (k p : Int) : (hcF n l k p).1.length ≤ 64 := by
  by_cases h : hcP n l k p
  · rw [hcF_yes h]
    have hs : fsR _ _ _ (fsX (fosL n l k).length (hcQ n l k p) (hcX n l k p)) := Classical.choose_spec (fs_ex (fosL n l k).length (hcQ n l k p) (hcX n l k p))
    generalize fsX (fosL n l k).length (hcQ n l k p) (hcX n l k p) = y at *
    rcases hs with ⟨e, _⟩ | ⟨i, _, _, e, _⟩
    · rw [e]; exact Nat.zero_le _
    · rw [e]
      have := (bor_ok (n := n) (l := l) (k := k)).2.1
      simpa [hcX] using this
  · rw [hcF_no h]; exact Nat.zero_le _
noncomputable def F_s_HoleCycle : List V → Option V := F3 dC dI dI fun c k p => some (.tup [.own 1 (ints (hcF c.1 c.2 k p).1), .bool (hcF c.1 c.2 k p).2])
end Go.Proofs.Ytncnohompmcddaa
