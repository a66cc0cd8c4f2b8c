import Derived.Test.YtmemomfffehnkaaKG5
namespace Go.Proofs.Ytmemomfffehnkaa
open Go Go.RowKit
set_option maxRecDepth 1000000
set_option linter.unusedSimpArgs false
set_option linter.unusedVariables false
set_option maxHeartbeats 1000000
/-- A bound of ranks by images: what M's columns are, N leads to. -/
theorem im_le {p : Int} {f w v : Nat} {M N : List (List Int)} (hp : fpP p) (hM : ∀ i, i < M.length → (atR M i).length = w) (hN : ∀ i, i < N.length → (atR N i).length = v) (hf : M.length = f) (hg : N.length = f)
    (h : ∀ j, j < w → imP p v N fun i => at0 (atR M i) j) : rkM p w M ≤ rkM p v N := by
  refine Nat.le_of_not_lt fun hlt => ?_
  have hex : ∀ t, ∃ y : Nat → Int, t < rkM p w M → (∀ c, c < v → ¬ pvP p v N c → p ∣ y c) ∧ ∀ i, i < N.length → p ∣ rv v (atR N i) y - at0 (atR M i) (pvJ p w M t) := fun t => by
    by_cases ht : t < rkM p w M
    · obtain ⟨y, hy⟩ := im_piv hp hN (h _ (pvJ_lt ht))
      exact ⟨y, fun _ => hy⟩
    · exact ⟨fun _ => 0, fun hh => absurd hh ht⟩
  have hY := fun t => Classical.choose_spec (hex t)
  generalize hYd : (fun t => Classical.choose (hex t)) = Y
  have hY2 : ∀ t, t < rkM p w M → (∀ c, c < v → ¬ pvP p v N c → p ∣ Y t c) ∧ ∀ i, i < N.length → p ∣ rv v (atR N i) (Y t) - at0 (atR M i) (pvJ p w M t) := fun t ht => by
    rw [← hYd]
    exact hY t ht
  obtain ⟨x, ⟨j0, hj0, hx0⟩, hx⟩ := homog (field_fp hp) (rkM p v N) (rkM p w M) (fun i j => Y j (pvJ p v N i)) hlt
  have hv : ∀ k, k < v → p ∣ sumN (rkM p w M) fun t => x t * Y t k := fun k hk => by
    by_cases hpk : pvP p v N k
    · obtain ⟨q, hq, rfl⟩ := pvP_iff.1 hpk
      have := hx q hq
      rwa [sumN_congr fun t _ => Int.mul_comm (x t) (Y t (pvJ p v N q))]
    · exact sumN_dvd fun t ht => Int.dvd_mul_of_dvd_right ((hY2 t ht).1 k hk hpk)
  have hker : sol p w M fun k => sumN (rkM p w M) fun j => bI (pvJ p w M j = k) * x j := fun i hi => by
    rw [rv_pick _ (pvJ p w M) (fun j hj => pvJ_lt hj) x]
    have e1 : p ∣ rv v (atR N i) fun k => sumN (rkM p w M) fun t => x t * Y t k := by
      unfold rv
      exact sumN_dvd fun k hk => Int.dvd_mul_of_dvd_right (hv k hk)
    rw [rv_sum] at e1
    have e2 : p ∣ (sumN (rkM p w M) fun t => rv v (atR N i) fun k => x t * Y t k) - sumN (rkM p w M) fun t => at0 (atR M i) (pvJ p w M t) * x t := sumN_cong fun t ht => by
      rw [rv_smul, Int.mul_comm (at0 (atR M i) (pvJ p w M t)), ← Int.mul_sub]
      exact Int.dvd_mul_of_dvd_right ((hY2 t ht).2 i (by omega))
    exact (dvd_cong e2).1 e1
  have hz2 := sol_zero hp hM hker fun c _ hnp => by
    refine sumN_dvd fun j hj => ?_
    rw [bI_no fun e => hnp (pvP_iff.2 ⟨j, hj, e⟩), Int.zero_mul]
    exact Int.dvd_zero p
  have h3 := hz2 _ (pvJ_lt hj0)
  have e : (sumN (rkM p w M) fun j => bI (pvJ p w M j = pvJ p w M j0) * x j) = x j0 := by
    have : (sumN (rkM p w M) fun j => bI (pvJ p w M j = pvJ p w M j0) * x j) = sumN (rkM p w M) fun t => bI ((t : Int) = (j0 : Int)) * (fun u : Int => x u.toNat) (t : Int) := sumN_congr fun t ht => by
      simp only [Int.toNat_natCast]
      congr 1
      exact bI_congr ⟨fun e => by rw [pvJ_inj ht hj0 e], fun e => by rw [show t = j0 by omega]⟩
    rw [this, sumN_one (w := fun u : Int => x u.toNat) (a := j0), if_pos hj0]
    simp
  rw [e] at h3
  exact hx0 h3
/-- A bound of the room of solutions, by a map of solutions. -/
theorem ker_le {p : Int} {w v : Nat} {M N : List (List Int)} (hp : fpP p) (hM : ∀ i, i < M.length → (atR M i).length = w) (hN : ∀ i, i < N.length → (atR N i).length = v) (F : Nat → Nat → Int)
    (h1 : ∀ x, sol p w M x → sol p v N fun k => sumN w fun j => F k j * x j) (h2 : ∀ x, sol p w M x → (∀ k, k < v → p ∣ sumN w fun j => F k j * x j) → ∀ j, j < w → p ∣ x j) :
    (w : Int) - (rkM p w M : Nat) ≤ (v : Int) - (rkM p v N : Nat) := by
  have l1 := npL_len (p := p) (w := w) (M := M)
  have l2 := npL_len (p := p) (w := v) (M := N)
  rw [← l1, ← l2]
  refine Int.ofNat_le.2 (Nat.le_of_not_lt fun hlt => ?_)
  obtain ⟨x, ⟨j0, hj0, hx0⟩, hx⟩ := homog (field_fp hp) (npL p v N).length (npL p w M).length (fun i j => sumN w fun c => F ((npL p v N)[i]?.getD 0) c * xK p w M ((npL p w M)[j]?.getD 0) c) hlt
  have hsol : sol p w M fun k => sumN (npL p w M).length fun t => x t * xK p w M ((npL p w M)[t]?.getD 0) k := fun i hi => by
    rw [rv_sum]
    refine sumN_dvd fun t ht => ?_
    rw [rv_smul]
    obtain ⟨a, b⟩ := npL_at ht
    exact Int.dvd_mul_of_dvd_right (xK_sol hp hM a b i hi)
  have hF : ∀ k, (sumN w fun j => F k j * sumN (npL p w M).length fun t => x t * xK p w M ((npL p w M)[t]?.getD 0) j) = sumN (npL p w M).length fun t => (sumN w fun c => F k c * xK p w M ((npL p w M)[t]?.getD 0) c) * x t := fun k => by
    have e : (sumN w fun j => F k j * sumN (npL p w M).length fun t => x t * xK p w M ((npL p w M)[t]?.getD 0) j) = sumN w fun j => sumN (npL p w M).length fun t => (F k j * xK p w M ((npL p w M)[t]?.getD 0) j) * x t := sumN_congr fun j _ => by
      rw [← sumN_mul]
      refine sumN_congr fun t _ => ?_
      rw [Int.mul_assoc, Int.mul_comm (x t)]
    rw [e, sumN_swap]
    exact sumN_congr fun t _ => sumN_mulR _ _ _
  have hz := sol_zero hp hN (h1 _ hsol) fun c hc hnp => by
    have hm : c ∈ npL p v N := by
      unfold npL
      rw [List.mem_filter, List.mem_range, dec_iff]
      exact ⟨hc, hnp⟩
    obtain ⟨t, ht, e⟩ := List.getElem_of_mem hm
    have h3 := hx t ht
    rw [List.getElem?_eq_getElem ht, Option.getD_some, e] at h3
    rw [hF c]
    exact h3
  obtain ⟨c1, c2⟩ := npL_at hj0
  have h4 := h2 _ hsol hz _ c1
  have e4 : (sumN (npL p w M).length fun t => x t * xK p w M ((npL p w M)[t]?.getD 0) ((npL p w M)[j0]?.getD 0)) = x j0 := by
    have : (sumN (npL p w M).length fun t => x t * xK p w M ((npL p w M)[t]?.getD 0) ((npL p w M)[j0]?.getD 0)) = sumN (npL p w M).length fun t => bI ((t : Int) = (j0 : Int)) * (fun u : Int => x u.toNat) (t : Int) := sumN_congr fun t ht => by
      rw [xK_np c2, Int.mul_comm]
      simp only [Int.toNat_natCast]
      congr 1
      exact bI_congr ⟨fun e => by rw [npL_inj ht hj0 e], fun e => by rw [show t = j0 by omega]⟩
    rw [this, sumN_one (w := fun u : Int => x u.toNat) (a := j0), if_pos hj0]
    simp
  rw [e4] at h4
  exact hx0 h4
/-- Numbers on sets that the border of C in R takes to 0. -/
def solF (p : Int) (R C : List Int) (X : Int → Int) : Prop := ∀ r ∈ R, p ∣ sumL C fun u => sgnZ r u * X u
theorem rv_sgn {R C : List Int} {i : Nat} (hi : i < R.length) (X : Int → Int) (x : Nat → Int) (hx : ∀ j, j < C.length → x j = X (at0 C j)) : rv C.length (atR (sgnM R C) i) x = sumL C fun u => sgnZ (at0 R i) u * X u := by
  unfold rv sumL
  refine sumN_congr fun j hj => ?_
  rw [sgn_row hi hj, hx j hj]
/-- The numbers of a list's places, on sets. -/
noncomputable def onS (C : List Int) (x : Nat → Int) (u : Int) : Int := sumN C.length fun j => bI (at0 C j = u) * x j
theorem onS_at {C : List Int} (hC : C.Nodup) (x : Nat → Int) {j : Nat} (hj : j < C.length) : onS C x (at0 C j) = x j := by
  unfold onS
  have : (sumN C.length fun i => bI (at0 C i = at0 C j) * x i) = sumN C.length fun t => bI ((t : Int) = (j : Int)) * (fun u : Int => x u.toNat) (t : Int) := sumN_congr fun t ht => by
    simp only [Int.toNat_natCast]
    congr 1
    refine bI_congr ⟨fun e => ?_, fun e => by rw [show t = j by omega]⟩
    rw [at0_eq ht, at0_eq hj] at e
    have := (List.getElem_inj hC).1 e
    omega
  rw [this, sumN_one (w := fun u : Int => x u.toNat) (a := j), if_pos hj]
  simp
theorem onS_no {C : List Int} (x : Nat → Int) {u : Int} (h : u ∉ C) : onS C x u = 0 := sumN_zero fun j hj => by
  rw [bI_no fun e => h (by rw [← e]; exact getD_mem' hj), Int.zero_mul]
/-- The same for borders, by numbers on sets. -/
theorem ker_sets {p : Int} {R C R' C' : List Int} (hp : fpP p) (hC : C.Nodup) (hC' : C'.Nodup) (h1 : ∀ X, (∀ u, u ∉ C → X u = 0) → solF p R C X → solF p R' C' X)
    (h2 : ∀ X, (∀ u, u ∉ C → X u = 0) → solF p R C X → (∀ u ∈ C', p ∣ X u) → ∀ u ∈ C, p ∣ X u) : (C.length : Int) - (rkM p C.length (sgnM R C) : Nat) ≤ (C'.length : Int) - (rkM p C'.length (sgnM R' C') : Nat) := by
  have hl : ∀ {R C : List Int}, ∀ i, i < (sgnM R C).length → (atR (sgnM R C) i).length = C.length := fun {R C} i hi => by
    rw [sgnM_len] at hi
    rw [sgnM_at hi]
    simp
  have hs : ∀ x : Nat → Int, sol p C.length (sgnM R C) x → solF p R C (onS C x) := fun x hx r hr => by
    obtain ⟨i, hi, rfl⟩ := getD_mem_iff.1 hr
    have := hx i (by rw [sgnM_len]; exact hi)
    rwa [rv_sgn hi (onS C x) x fun j hj => (onS_at hC x hj).symm] at this
  refine ker_le hp hl hl (fun k j => bI (at0 C j = at0 C' k)) (fun x hx i hi => ?_) (fun x hx hz j hj => ?_)
  · rw [sgnM_len] at hi
    have := h1 (onS C x) (fun u hu => onS_no x hu) (hs x hx) (at0 R' i) (getD_mem' hi)
    rwa [← rv_sgn hi (onS C x) (fun k => sumN C.length fun j => bI (at0 C j = at0 C' k) * x j) fun _ _ => rfl] at this
  · have := h2 (onS C x) (fun u hu => onS_no x hu) (hs x hx) (fun u hu => by
      obtain ⟨k, hk, rfl⟩ := getD_mem_iff.1 hu
      exact hz k hk) (at0 C j) (getD_mem' hj)
    rwa [onS_at hC x hj] at this
/-- The same for borders, by images. -/
theorem im_sets {p : Int} {R C C' : List Int} (hp : fpP p) (hC' : C'.Nodup) (h : ∀ u ∈ C, ∃ X : Int → Int, ∀ r ∈ R, p ∣ (sumL C' fun v => sgnZ r v * X v) - sgnZ r u) : rkM p C.length (sgnM R C) ≤ rkM p C'.length (sgnM R C') := by
  have hl : ∀ {R C : List Int}, ∀ i, i < (sgnM R C).length → (atR (sgnM R C) i).length = C.length := fun {R C} i hi => by
    rw [sgnM_len] at hi
    rw [sgnM_at hi]
    simp
  refine im_le (f := R.length) hp hl hl (sgnM_len _ _) (sgnM_len _ _) fun j hj => ?_
  obtain ⟨X, hX⟩ := h (at0 C j) (getD_mem' hj)
  refine ⟨fun k => X (at0 C' k), fun i hi => ?_⟩
  rw [sgnM_len] at hi
  rw [rv_sgn hi X (fun k => X (at0 C' k)) fun _ _ => rfl]
  dsimp only
  rw [sgn_row hi hj]
  exact hX _ (getD_mem' hi)
end Go.Proofs.Ytmemomfffehnkaa
