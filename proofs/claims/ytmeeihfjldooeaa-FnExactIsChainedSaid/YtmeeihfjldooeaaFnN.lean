import Derived.Test.YtmeeihfjldooeaaFnM
namespace Go.Proofs.Ytmeeihfjldooeaa
open Go Go.RowKit
set_option maxRecDepth 1000000
set_option linter.unusedSimpArgs false
set_option linter.unusedVariables false
set_option maxHeartbeats 1000000
/-- One round of a search: the facets next to d are added. -/
def growI (l : List Int) (d : Int) (done : List Int) : List Int := l.foldl (fun dn f => if f ∉ dn ∧ sizeOf1 (bnot f d) = 1 then dn ++ [f] else dn) done
theorem growI_step {l : List Int} {k : Nat} (h : k < l.length) (d : Int) (done : List Int) :
    growI (l.take (k + 1)) d done = if at0 l k ∉ growI (l.take k) d done ∧ sizeOf1 (bnot (at0 l k) d) = 1 then growI (l.take k) d done ++ [at0 l k] else growI (l.take k) d done := by
  rw [take_at h, growI, List.foldl_append]
  rfl
/-- The search, by fuel. -/
def chainF (l : List Int) : Nat → Nat → List Int → List Int
  | 0, _, dn => dn
  | fuel + 1, k, dn => if k < dn.length then chainF l fuel (k + 1) (growI l (at0 dn k) dn) else dn
theorem growI_inv {l : List Int} (d : Int) {done : List Int} (h1 : done.Nodup) (h2 : ∀ x ∈ done, x ∈ l) : ∀ k, k ≤ l.length →
    (growI (l.take k) d done).Nodup ∧ (∀ x ∈ growI (l.take k) d done, x ∈ l) ∧ ∃ r, growI (l.take k) d done = done ++ r := by
  intro k
  induction k with
  | zero => intro _; exact ⟨by simpa [growI] using h1, by simpa [growI] using h2, [], by simp [growI]⟩
  | succ k ih =>
    intro hk
    obtain ⟨a, b, r, c⟩ := ih (by omega)
    rw [growI_step (by omega)]
    split
    · rename_i hc
      refine ⟨?_, ?_, r ++ [at0 l k], by rw [c]; simp⟩
      · rw [List.nodup_append]
        refine ⟨a, by simp, ?_⟩
        intro x hx y hy e
        simp only [List.mem_singleton] at hy
        subst hy
        exact hc.1 (e ▸ hx)
      · intro x hx
        rcases List.mem_append.1 hx with h | h
        · exact b x h
        · simp only [List.mem_singleton] at h
          exact h ▸ getD_mem' (by omega)
    · exact ⟨a, b, r, c⟩
theorem beside {f d : Int} (hf : isS f) (hd : isS d) (h : sz f = sz d) : sz (band d f) = sz d - 1 ↔ sizeOf1 (bnot f d) = 1 := by
  obtain ⟨x, hx, rfl⟩ := isS_nat0 hf
  obtain ⟨y, hy, rfl⟩ := isS_nat0 hd
  have key : ∀ x : Nat, x < 64 → ∀ y : Nat, y < 64 → (pcF 6 x != pcF 6 y || ((pcF 6 (y &&& x) + 1 == pcF 6 y) == (pcF 6 (x - (x &&& y)) == 1))) = true := by decide +kernel
  have k := key x hx y hy
  rw [bnot_nat0 x y hx hy, band_nat0 y x hy hx, sizeOf1_set (by omega) (by omega)]
  have h1 := and_lt64 (y := x) hy
  simp only [sz, Int.toNat_natCast, pc6 x hx, pc6 y hy, pc6 _ h1, pc6 (x - (x &&& y)) (by omega)] at h ⊢
  have h2 : (pcF 6 x != pcF 6 y) = false := by
    rw [bne_eq_false_iff_eq]
    omega
  rw [h2, Bool.false_or, beq_iff_eq, Bool.eq_iff_iff, beq_iff_eq, beq_iff_eq] at k
  omega
theorem nodup_len {l : List Int} (h : l.Nodup) (hS : allS l) : l.length ≤ 64 := by
  have := sub_len (m := (List.range 64).map fun (k : Nat) => (k : Int)) h fun x hx => by
    refine List.mem_map.2 ⟨x.toNat, ?_, ?_⟩
    · have := hS x hx; rw [List.mem_range]; unfold isS at this; omega
    · exact Int.toNat_of_nonneg (hS x hx).1
  simpa using this
end Go.Proofs.Ytmeeihfjldooeaa
