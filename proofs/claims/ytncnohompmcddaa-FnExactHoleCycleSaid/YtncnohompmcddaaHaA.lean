import Derived.Test.YtncnohompmcddaaGdR
import Derived.Test.YtncnohompmcddaaGcA
import Derived.Test.YtncnohompmcddaaGdC
import Derived.Test.YtncnohompmcddaaGdD
namespace Go.Proofs.Ytncnohompmcddaa
open Go Go.RowKit
set_option maxRecDepth 1000000
set_option linter.unusedSimpArgs false
set_option linter.unusedVariables false
set_option maxHeartbeats 1000000
/-- The sets of a family of one size. -/
noncomputable def szS (q : Int → Prop) (z : Int) : List Int := setsOf fun s => q s ∧ sz s = z
theorem szS_congr {p q : Int → Prop} (h : ∀ s, isS s → (p s ↔ q s)) (z : Int) : szS p z = szS q z := setsOf_congr fun s hs => by rw [h s hs]
theorem mem_szS {q : Int → Prop} {z s : Int} : s ∈ szS q z ↔ isS s ∧ q s ∧ sz s = z := mem_setsOf
theorem szS_len (q : Int → Prop) (z : Int) : (szS q z).length ≤ 64 := setsOf_len _
theorem szS_ok (q : Int → Prop) (z : Int) : ∀ r ∈ szS q (z - 1), ∀ s ∈ szS q z, isS r ∧ isS s ∧ sz s = sz r + 1 := fun r hr s hs => by
  obtain ⟨a, _, b⟩ := mem_szS.1 hr
  obtain ⟨c, _, d⟩ := mem_szS.1 hs
  exact ⟨a, c, by omega⟩
theorem szS_fos {n : Int} {l : List Int} (hc : cplx n l) (z : Int) : fosL n l z = szS (faceS l) z := fosL_of hc
theorem szS_by {q : Int → Prop} {m z : Nat} (h : z < m) : atR (bySz q m 64) z = szS q z := bySz_sets h
theorem szS_none {q : Int → Prop} {z : Int} (h : ¬ (0 ≤ z ∧ z ≤ topZ q)) : szS q z = [] := setsOf_nil.2 fun s hs hp => h (by
  have h1 := topZ_ge hs hp.1
  have h2 := sz_nn s
  have h3 := hp.2
  omega)
/-- The rank of a matrix modulo p. -/
noncomputable def rnk (p : Int) (M : List (List Int)) : Nat := (redS p (modM p M) (atR M 0).length).2.length
theorem rnk_nil (p : Int) : rnk p [] = 0 := by
  have e : modM p [] = [] := List.length_eq_zero_iff.1 (by simp)
  unfold rnk
  rw [e, redS_nil]
  rfl
theorem rnk_le {p : Int} {M : List (List Int)} (hp : fpP p) (h : ∀ i, i < M.length → (atR M i).length = (atR M 0).length) : rnk p M ≤ M.length := by
  have := (redI_all hp (okM_mod (p := p) hp h) (atR M 0).length)
  have h1 := this.hp
  have h2 := this.hl
  rw [modM_len] at h2
  unfold rnk
  omega
theorem rnk_wide {p : Int} {M : List (List Int)} (h : (atR M 0).length = 0) : rnk p M = 0 := by
  unfold rnk
  rw [h]
  rfl
noncomputable def F_i_rankOf : List V → Option V := F2 dLL dI fun M p => @ite _ (fpP p ∧ recM M) (Classical.propDecidable _) (some (.int .i64 (rnk p M : Nat))) none
/-- The rank of the border from size k to size k - 1. -/
noncomputable def rkZ (p : Int) (q : Int → Prop) (k : Int) : Int := (rnk p (sgnM (szS q (k - 1)) (szS q k)) : Nat)
theorem rec_sgn (R C : List Int) (hR : R.length ≤ 64) (hC : C.length ≤ 64) : recM (sgnM R C) := by
  have h : ∀ i, i < (sgnM R C).length → (atR (sgnM R C) i).length = C.length := fun i hi => by
    rw [sgnM_len] at hi
    rw [sgnM_at hi]
    simp
  refine ⟨⟨by rw [sgnM_len]; exact hR, fun i hi => by rw [h i hi]; omega⟩, fun i hi => ?_⟩
  rw [h i hi, h 0 (by omega)]
theorem rkZ_bnd {p : Int} (hp : fpP p) (q : Int → Prop) (k : Int) : 0 ≤ rkZ p q k ∧ rkZ p q k ≤ 64 := by
  have h := (rec_sgn (szS q (k - 1)) (szS q k) (szS_len _ _) (szS_len _ _)).2
  have h1 := rnk_le hp h
  rw [sgnM_len] at h1
  have h2 := szS_len q (k - 1)
  unfold rkZ
  omega
theorem rkZ_low (p : Int) (q : Int → Prop) : rkZ p q 0 = 0 := by
  have e : szS q (0 - 1) = [] := szS_none (by omega)
  unfold rkZ
  rw [e]
  show ((rnk p [] : Nat) : Int) = 0
  rw [rnk_nil]
  rfl
theorem rkZ_high (p : Int) (q : Int → Prop) {k : Int} (h : topZ q < k) : rkZ p q k = 0 := by
  have e : szS q k = [] := szS_none (by omega)
  unfold rkZ
  rw [e]
  rw [rnk_wide]
  · rfl
  · by_cases h0 : 0 < (szS q (k - 1)).length
    · rw [sgnM_at h0]; rfl
    · have : szS q (k - 1) = [] := List.length_eq_zero_iff.1 (by omega)
      rw [this]; rfl
theorem rkZ_congr {p : Int} {q q2 : Int → Prop} (h : ∀ s, isS s → (q s ↔ q2 s)) (k : Int) : rkZ p q k = rkZ p q2 k := by
  unfold rkZ
  rw [szS_congr h, szS_congr h]
noncomputable def holV (p : Int) (q : Int → Prop) (k : Nat) : Int := ((szS q k).length : Nat) - rkZ p q k - rkZ p q (k + 1)
/-- The holes of a family modulo p. -/
noncomputable def holL (p : Int) (q : Int → Prop) : List Int := rowF (topZ q + 1).toNat (holV p q)
theorem holL_congr {p : Int} {q q2 : Int → Prop} (h : ∀ s, isS s → (q s ↔ q2 s)) : holL p q = holL p q2 := by
  unfold holL
  rw [topZ_congr h]
  refine rowF_congr fun k _ => ?_
  unfold holV
  rw [szS_congr h, rkZ_congr h, rkZ_congr h]
theorem holL_len (p : Int) (q : Int → Prop) : (holL p q).length = (topZ q + 1).toNat ∧ (holL p q).length ≤ 7 := by
  have := topZ_bnd q
  unfold holL
  rw [rowF_len]
  omega
theorem holV_bnd {p : Int} (hp : fpP p) (q : Int → Prop) (k : Nat) : -128 ≤ holV p q k ∧ holV p q k ≤ 64 := by
  have h1 := rkZ_bnd hp q k
  have h2 := rkZ_bnd hp q (k + 1)
  have h3 := szS_len q k
  unfold holV
  omega
noncomputable def holG (f p : Int) : Option V := @ite _ (0 ≤ f ∧ f < 18446744073709551616 ∧ fpP p) (Classical.propDecidable _) (some (.own 1 (ints (holL p (bitP f))))) none
theorem holG_fam (q : Int → Prop) {p : Int} (hp : fpP p) : holG (fam q) p = some (.own 1 (ints (holL p q))) := by
  unfold holG
  rw [if_pos ⟨fam_nn q, fam_lt q, hp⟩, holL_congr fun s hs => bitP_fam hs]
noncomputable def F_i_holesIn : List V → Option V := F2 dU dI holG
open Classical in
noncomputable def hmL (n : Int) (l : List Int) (p : Int) : List Int := if cplx n l ∧ fpP p then holL p (faceS l) else []
noncomputable def F_s_HolesMod : List V → Option V := F2 dC dI fun c p => some (.own 1 (ints (hmL c.1 c.2 p)))
end Go.Proofs.Ytncnohompmcddaa
