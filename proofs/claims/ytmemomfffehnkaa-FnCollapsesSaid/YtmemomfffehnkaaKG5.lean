import Derived.Test.YtmemomfffehnkaaKS2
import Derived.Test.YtmemomfffehnkaaKU
namespace Go.Proofs.Ytmemomfffehnkaa
open Go Go.RowKit
set_option maxRecDepth 1000000
set_option linter.unusedSimpArgs false
set_option linter.unusedVariables false
set_option maxHeartbeats 1000000
theorem redS_lt (p : Int) (M : List (List Int)) (j : Nat) : (∀ q, q < (redS p M j).2.length → 0 ≤ at0 (redS p M j).2 q ∧ at0 (redS p M j).2 q < j) ∧ ∀ a b, a < b → b < (redS p M j).2.length → at0 (redS p M j).2 a < at0 (redS p M j).2 b := by
  induction j with
  | zero => exact ⟨fun q hq => by simp [redS] at hq, fun a b _ hb => by simp [redS] at hb⟩
  | succ j ih =>
    rw [redS]
    generalize redS p M j = x at *
    obtain ⟨N, P⟩ := x
    obtain ⟨h1, h2⟩ := ih
    simp only at h1 h2
    by_cases hc : P.length < N.length ∧ fndZ N j (N.length - P.length) P.length < N.length
    · rw [redC_yes rfl hc.1 hc.2]
      simp only [List.length_append, List.length_singleton]
      have e : ∀ q, q < P.length + 1 → at0 (P ++ [(j : Int)]) q = if q < P.length then at0 P q else (j : Int) := fun q hq => by
        rw [at0_app]
        split
        · rfl
        · rw [show q - P.length = 0 by omega]; rfl
      constructor
      · intro q hq
        rw [e q hq]
        split
        · have := h1 q (by assumption)
          omega
        · omega
      · intro a b hab hb
        rw [e a (by omega), e b hb, if_pos (by omega)]
        split
        · exact h2 a b hab (by assumption)
        · exact (h1 a (by omega)).2
    · rw [redC_no hc]
      exact ⟨fun q hq => by have := h1 q hq; simp only at this ⊢; omega, h2⟩
theorem rv_add (w : Nat) (r : List Int) (x y : Nat → Int) : rv w r (fun k => x k + y k) = rv w r x + rv w r y := by
  unfold rv
  rw [← sumN_add]
  exact sumN_congr fun k _ => Int.mul_add _ _ _
theorem rv_smul (w : Nat) (r : List Int) (a : Int) (x : Nat → Int) : rv w r (fun k => a * x k) = a * rv w r x := by
  unfold rv
  rw [← sumN_mul]
  exact sumN_congr fun k _ => Int.mul_left_comm _ _ _
theorem rv_sum (w m : Nat) (r : List Int) (x : Nat → Nat → Int) : rv w r (fun k => sumN m fun j => x j k) = sumN m fun j => rv w r (x j) := by
  unfold rv
  rw [sumN_swap]
  exact sumN_congr fun k _ => (sumN_mul _ _ _).symm
theorem rv_unit {w : Nat} (r : List Int) {c : Nat} (hc : c < w) : rv w r (fun k => bI (c = k)) = at0 r c := by
  have h := rv_pick (m := 1) (w := w) r (fun _ => c) (fun _ _ => hc) fun _ => 1
  simpa [sumN] using h
theorem rv_cong {p : Int} {w : Nat} (r : List Int) {x y : Nat → Int} (h : ∀ k, k < w → p ∣ x k - y k) : p ∣ rv w r x - rv w r y := by
  unfold rv
  refine sumN_cong fun k hk => ?_
  rw [← Int.mul_sub]
  exact Int.dvd_mul_of_dvd_right (h k hk)
theorem sol_mod {p : Int} {w : Nat} {M : List (List Int)} (hM : ∀ i, i < M.length → (atR M i).length = w) (y : Nat → Int) : sol p w (modM p M) y ↔ sol p w M y := by
  have key : ∀ i, i < M.length → p ∣ rv w (atR (modM p M) i) y - rv w (atR M i) y := fun i hi => by
    unfold rv
    refine sumN_cong fun k hk => ?_
    rw [modM_at hi, rowF_at (by rw [hM i hi]; exact hk), ← Int.sub_mul]
    exact Int.dvd_mul_of_dvd_left (mod_sub _ _)
  constructor
  · intro h i hi
    exact (dvd_cong (key i hi)).1 (h i (by rw [modM_len]; exact hi))
  · intro h i hi
    rw [modM_len] at hi
    exact (dvd_cong (key i hi)).2 (h i hi)
/-- All numbers of a list are counted among the numbers below n. -/
theorem cnt_mem {n : Nat} : ∀ {U : List Int}, U.Nodup → (∀ x ∈ U, 0 ≤ x ∧ x < (n : Int)) → (sumN n fun u => bI ((u : Int) ∈ U)) = U.length
  | [], _, _ => sumN_zero fun k _ => bI_no (by simp)
  | a :: U, hn, hS => by
    rw [List.nodup_cons] at hn
    have ih := cnt_mem hn.2 fun x hx => hS x (List.mem_cons_of_mem _ hx)
    have ha := hS a (List.mem_cons_self ..)
    obtain ⟨x, rfl⟩ := Int.eq_ofNat_of_zero_le ha.1
    have e : (sumN n fun u => bI ((u : Int) ∈ (x : Int) :: U)) = sumN n fun u => bI ((u : Int) = (x : Int)) * 1 + bI ((u : Int) ∈ U) := sumN_congr fun u hu => by
      by_cases h : (u : Int) = (x : Int)
      · rw [bI_yes h, bI_yes (by rw [h]; exact List.mem_cons_self ..), bI_no (by rw [h]; exact hn.1)]; omega
      · rw [bI_no h]
        by_cases h2 : (u : Int) ∈ U
        · rw [bI_yes h2, bI_yes (List.mem_cons_of_mem _ h2)]; omega
        · rw [bI_no h2, bI_no (fun hh => (List.mem_cons.1 hh).elim h h2)]; omega
    have h1 := sumN_one (w := fun _ => 1) (a := x) n
    rw [if_pos (by omega)] at h1
    rw [e, sumN_add, ih, h1, List.length_cons]
    omega
/-- The reduced form of a matrix and its pivots. -/
noncomputable def rX (p : Int) (w : Nat) (M : List (List Int)) : List (List Int) × List Int := redS p (modM p M) w
noncomputable def pvJ (p : Int) (w : Nat) (M : List (List Int)) (q : Nat) : Nat := (at0 (rX p w M).2 q).toNat
def pvP (p : Int) (w : Nat) (M : List (List Int)) (k : Nat) : Prop := (k : Int) ∈ (rX p w M).2
noncomputable def rkM (p : Int) (w : Nat) (M : List (List Int)) : Nat := (rX p w M).2.length
/-- The solution that belongs to a column without a pivot. -/
noncomputable def xK (p : Int) (w : Nat) (M : List (List Int)) (c k : Nat) : Int := bI (c = k) + sumN (rkM p w M) fun q => bI (pvJ p w M q = k) * -(at0 (atR (rX p w M).1 q) c)
/-- A list that a matrix leads to. -/
def imP (p : Int) (w : Nat) (M : List (List Int)) (z : Nat → Int) : Prop := ∃ y : Nat → Int, ∀ i, i < M.length → p ∣ rv w (atR M i) y - z i
section lin
variable {p : Int} {w : Nat} {M : List (List Int)} (hp : fpP p) (hM : ∀ i, i < M.length → (atR M i).length = w)
include hp hM
theorem rX_rr : rrI p w (modM p M) w (rX p w M) := rrI_all hp (okM_mod hp hM) w (Nat.le_refl _)
theorem rX_sol (y : Nat → Int) : sol p w (rX p w M).1 y ↔ sol p w M y := ((rX_rr hp hM).sl y).trans (sol_mod hM y)
omit hM hp in
theorem pvJ_eq {q : Nat} (hq : q < rkM p w M) : (pvJ p w M q : Int) = at0 (rX p w M).2 q := by
  have := (redS_lt p (modM p M) w).1 q hq
  unfold pvJ
  exact Int.toNat_of_nonneg this.1
omit hM hp in
theorem pvJ_lt {q : Nat} (hq : q < rkM p w M) : pvJ p w M q < w := by
  have := (redS_lt p (modM p M) w).1 q hq
  have h2 := pvJ_eq hq
  unfold rX at h2
  omega
omit hM hp in
theorem pvJ_inj {a b : Nat} (ha : a < rkM p w M) (hb : b < rkM p w M) (h : pvJ p w M a = pvJ p w M b) : a = b := by
  have h1 := pvJ_eq ha
  have h2 := pvJ_eq hb
  have h3 := (redS_lt p (modM p M) w).2
  rcases Nat.lt_trichotomy a b with hl | hl | hl
  · have := h3 a b hl hb
    unfold rX at h1 h2
    omega
  · exact hl
  · have := h3 b a hl ha
    unfold rX at h1 h2
    omega
omit hM hp in
theorem pvP_iff {k : Nat} : pvP p w M k ↔ ∃ q, q < rkM p w M ∧ pvJ p w M q = k := by
  unfold pvP
  rw [getD_mem_iff]
  constructor
  · rintro ⟨q, hq, e⟩
    exact ⟨q, hq, by have := pvJ_eq hq; omega⟩
  · rintro ⟨q, hq, e⟩
    exact ⟨q, hq, by have := pvJ_eq hq; omega⟩
omit hM hp in
theorem pv_nodup : (rX p w M).2.Nodup := by
  have h3 := (redS_lt p (modM p M) w).2
  refine List.Pairwise.imp (R := fun a b => a < b) (fun h => by omega) ?_
  rw [List.pairwise_iff_getElem]
  intro i j hi hj hij
  have := h3 i j hij hj
  rw [← at0_eq hi, ← at0_eq hj]
  exact this
/-- How many columns have no pivot. -/
noncomputable def npL (p : Int) (w : Nat) (M : List (List Int)) : List Nat := (List.range w).filter fun c => dec (¬ pvP p w M c)
omit hM hp in
theorem npL_len : ((npL p w M).length : Int) = (w : Int) - (rkM p w M : Nat) := by
  unfold npL
  rw [sumN_filter]
  have e : (sumN w fun u => bI (dec (¬ pvP p w M u) = true)) + (sumN w fun u => bI ((u : Int) ∈ (rX p w M).2)) = sumN w fun _ => 1 := by
    rw [← sumN_add]
    refine sumN_congr fun u _ => ?_
    by_cases h : pvP p w M u
    · rw [bI_no (by rw [dec_iff]; exact fun hh => hh h), bI_yes (show (u : Int) ∈ (rX p w M).2 from h)]; rfl
    · rw [bI_yes (by rw [dec_iff]; exact h), bI_no (show ¬ (u : Int) ∈ (rX p w M).2 from h)]; rfl
  have e1 : ∀ m : Nat, (sumN m fun _ => 1) = (m : Int) := fun m => by
    induction m with
    | zero => rfl
    | succ m ih => rw [sumN, ih]; omega
  rw [e1, cnt_mem pv_nodup fun x hx => by
    obtain ⟨q, hq, rfl⟩ := getD_mem_iff.1 hx
    have := (redS_lt p (modM p M) w).1 q hq
    exact ⟨this.1, this.2⟩] at e
  unfold rkM
  omega
omit hM hp in
theorem npL_at {t : Nat} (h : t < (npL p w M).length) : (npL p w M)[t]?.getD 0 < w ∧ ¬ pvP p w M ((npL p w M)[t]?.getD 0) := by
  rw [List.getElem?_eq_getElem h]
  have := List.getElem_mem h
  unfold npL at this
  rw [List.mem_filter, List.mem_range, dec_iff] at this
  exact this
omit hM hp in
theorem npL_inj {s t : Nat} (hs : s < (npL p w M).length) (ht : t < (npL p w M).length) (e : (npL p w M)[s]?.getD 0 = (npL p w M)[t]?.getD 0) : s = t := by
  rw [List.getElem?_eq_getElem hs, List.getElem?_eq_getElem ht] at e
  exact (List.getElem_inj (List.nodup_range.filter _)).1 e
/-- A solution is told by its numbers at the columns without pivots. -/
theorem sol_zero {v : Nat → Int} (hv : sol p w M v) (h : ∀ c, c < w → ¬ pvP p w M c → p ∣ v c) : ∀ k, k < w → p ∣ v k := by
  intro k hk
  have hr := rX_rr hp hM
  by_cases hpk : pvP p w M k
  · obtain ⟨q, hq, rfl⟩ := pvP_iff.1 hpk
    have hs := (rX_sol hp hM v).2 hv
    have hql : q < (rX p w M).1.length := Nat.lt_of_lt_of_le hq hr.base.hp
    have h1 := hs q hql
    unfold rv at h1
    obtain ⟨w', hw⟩ : ∃ w', w = w' + 1 := ⟨w - 1, by omega⟩
    have e : sumN w (fun j => at0 (atR (rX p w M).1 q) j * v j) = at0 (atR (rX p w M).1 q) (pvJ p w M q) * v (pvJ p w M q) + sumN w' fun j => at0 (atR (rX p w M).1 q) (skipN (pvJ p w M q) j) * v (skipN (pvJ p w M q) j) := by
      have := sumN_skip (fun j => at0 (atR (rX p w M).1 q) j * v j) w' (pvJ p w M q) (by omega)
      rw [← this, ← hw]
    rw [e] at h1
    have h2 : p ∣ sumN w' fun j => at0 (atR (rX p w M).1 q) (skipN (pvJ p w M q) j) * v (skipN (pvJ p w M q) j) := sumN_dvd fun j hj => by
      have hs2 : skipN (pvJ p w M q) j < w ∧ skipN (pvJ p w M q) j ≠ pvJ p w M q := by unfold skipN; split <;> omega
      by_cases hpj : pvP p w M (skipN (pvJ p w M q) j)
      · obtain ⟨q2, hq2, e2⟩ := pvP_iff.1 hpj
        have hz := hr.zer q2 hq2 q hql (fun e3 => hs2.2 (by rw [← e2, e3]))
        have e4 : (at0 (rX p w M).2 q2).toNat = pvJ p w M q2 := rfl
        rw [e4, e2] at hz
        rw [hz, Int.zero_mul]
        exact Int.dvd_zero p
      · exact Int.dvd_mul_of_dvd_right (h _ hs2.1 hpj)
    have h3 := (Int.dvd_add_left h2).1 h1
    have h4 := hr.one q hq
    have e4 : (at0 (rX p w M).2 q).toNat = pvJ p w M q := rfl
    rw [e4] at h4
    rwa [h4, Int.one_mul] at h3
  · exact h k hk hpk
omit hM hp in
theorem xK_np {c k : Nat} (h : ¬ pvP p w M k) : xK p w M c k = bI (c = k) := by
  unfold xK
  rw [sumN_zero fun q hq => by rw [bI_no fun e => h (pvP_iff.2 ⟨q, hq, e⟩), Int.zero_mul], Int.add_zero]
theorem xK_sol {c : Nat} (hc : c < w) (hnp : ¬ pvP p w M c) : sol p w M (xK p w M c) := by
  have hr := rX_rr hp hM
  refine (rX_sol hp hM _).1 fun i hi => ?_
  have e : rv w (atR (rX p w M).1 i) (xK p w M c) = at0 (atR (rX p w M).1 i) c + sumN (rkM p w M) fun q => at0 (atR (rX p w M).1 i) (pvJ p w M q) * -(at0 (atR (rX p w M).1 q) c) := by
    have h1 := rv_add w (atR (rX p w M).1 i) (fun k => bI (c = k)) fun k => sumN (rkM p w M) fun q => bI (pvJ p w M q = k) * -(at0 (atR (rX p w M).1 q) c)
    have h2 : xK p w M c = fun k => bI (c = k) + sumN (rkM p w M) fun q => bI (pvJ p w M q = k) * -(at0 (atR (rX p w M).1 q) c) := rfl
    rw [h2, h1, rv_unit _ hc, rv_pick _ (pvJ p w M) (fun j hj => pvJ_lt hj)]
  rw [e]
  have e5 : (sumN (rkM p w M) fun q => at0 (atR (rX p w M).1 i) (pvJ p w M q) * -(at0 (atR (rX p w M).1 q) c)) = -(at0 (atR (rX p w M).1 i) c) := by
    by_cases hir : i < rkM p w M
    · obtain ⟨m', hm⟩ : ∃ m', rkM p w M = m' + 1 := ⟨rkM p w M - 1, by omega⟩
      have hsk := sumN_skip (fun q => at0 (atR (rX p w M).1 i) (pvJ p w M q) * -(at0 (atR (rX p w M).1 q) c)) m' i (by omega)
      rw [hm, hsk, sumN_zero]
      · have h4 := hr.one i hir
        have e4 : (at0 (rX p w M).2 i).toNat = pvJ p w M i := rfl
        rw [e4] at h4
        try simp only
        rw [h4, Int.one_mul, Int.add_zero]
      · intro q hq
        have hs2 : skipN i q < rkM p w M ∧ skipN i q ≠ i := by unfold skipN; split <;> omega
        have hz := hr.zer _ hs2.1 i hi (fun e3 => hs2.2 e3.symm)
        have e4 : (at0 (rX p w M).2 (skipN i q)).toNat = pvJ p w M (skipN i q) := rfl
        rw [e4] at hz
        rw [hz, Int.zero_mul]
    · have hl := fun k hk => hr.low i (Nat.le_of_not_lt hir) hi k hk
      rw [hl c hc, sumN_zero]
      · rfl
      · intro q hq
        rw [hl _ (pvJ_lt hq), Int.zero_mul]
  rw [e5, Int.add_right_neg]
  exact Int.dvd_zero p
/-- What a matrix leads to, it leads to from numbers at the pivots. -/
theorem im_piv {z : Nat → Int} (h : imP p w M z) : ∃ y : Nat → Int, (∀ c, c < w → ¬ pvP p w M c → p ∣ y c) ∧ ∀ i, i < M.length → p ∣ rv w (atR M i) y - z i := by
  obtain ⟨y, hy⟩ := h
  refine ⟨fun k => y k + sumN w fun c => (-(bI (¬ pvP p w M c) * y c)) * xK p w M c k, fun c hc hnp => ?_, fun i hi => ?_⟩
  · have e : (sumN w fun j => (-(bI (¬ pvP p w M j) * y j)) * xK p w M j c) = -(y c) := by
      have e1 : (sumN w fun j => (-(bI (¬ pvP p w M j) * y j)) * xK p w M j c) = sumN w fun j => bI ((j : Int) = (c : Int)) * (fun u : Int => -(bI (¬ pvP p w M u.toNat) * y u.toNat)) (j : Int) := sumN_congr fun j _ => by
        rw [xK_np hnp, Int.mul_comm]
        simp only [Int.toNat_natCast]
        congr 1
        exact bI_congr (by omega)
      rw [e1, sumN_one (w := fun u : Int => -(bI (¬ pvP p w M u.toNat) * y u.toNat)) (a := c) w, if_pos hc]
      simp only [Int.toNat_natCast]
      rw [bI_yes hnp, Int.one_mul]
    try simp only
    rw [e, Int.add_right_neg]
    exact Int.dvd_zero p
  · rw [rv_add, rv_sum]
    have h2 : p ∣ sumN w fun c => rv w (atR M i) fun k => (-(bI (¬ pvP p w M c) * y c)) * xK p w M c k := sumN_dvd fun c hc => by
      rw [rv_smul]
      by_cases hnp : pvP p w M c
      · rw [bI_no fun hh => hh hnp, Int.zero_mul, Int.neg_zero, Int.zero_mul]
        exact Int.dvd_zero p
      · exact Int.dvd_mul_of_dvd_right (xK_sol hp hM hc hnp i hi)
    have := Int.dvd_add (hy i hi) h2
    rwa [show rv w (atR M i) y - z i + (sumN w fun c => rv w (atR M i) fun k => (-(bI (¬ pvP p w M c) * y c)) * xK p w M c k) = rv w (atR M i) y + (sumN w fun c => rv w (atR M i) fun k => (-(bI (¬ pvP p w M c) * y c)) * xK p w M c k) - z i by omega] at this
end lin
end Go.Proofs.Ytmemomfffehnkaa
namespace Go.Proofs.Ytmemomfffehnkaa
open Go Go.RowKit
set_option maxRecDepth 1000000
set_option linter.unusedSimpArgs false
set_option linter.unusedVariables false
set_option maxHeartbeats 1000000
section lin2
variable {p : Int} {f w : Nat} {M N : List (List Int)} (hp : fpP p) (hM : ∀ i, i < M.length → (atR M i).length = f) (hN : ∀ i, i < N.length → (atR N i).length = w) (hf : N.length = f)
include hp hM hN hf
omit hM in
/-- If the ranks leave something over, there is a solution of M that N does not lead to. -/
theorem ex_hole (h : rkM p f M + rkM p w N < f) : ∃ c, c < f ∧ ¬ pvP p f M c ∧ ¬ imP p w N (xK p f M c) := by
  refine Classical.byContradiction fun hno => ?_
  have hall : ∀ c, c < f → ¬ pvP p f M c → imP p w N (xK p f M c) := fun c hc hn => Classical.byContradiction fun hi => hno ⟨c, hc, hn, hi⟩
  have hlen := npL_len (p := p) (w := f) (M := M)
  have hex : ∀ t, ∃ y : Nat → Int, t < (npL p f M).length → (∀ c, c < w → ¬ pvP p w N c → p ∣ y c) ∧ ∀ i, i < N.length → p ∣ rv w (atR N i) y - xK p f M ((npL p f M)[t]?.getD 0) i := fun t => by
    by_cases ht : t < (npL p f M).length
    · obtain ⟨h1, h2⟩ := npL_at ht
      obtain ⟨y, hy⟩ := im_piv hp hN (hall _ h1 h2)
      exact ⟨y, fun _ => hy⟩
    · exact ⟨fun _ => 0, fun hh => absurd hh ht⟩
  have hY := fun t => Classical.choose_spec (hex t)
  generalize hYd : (fun t => Classical.choose (hex t)) = Y
  have hY2 : ∀ t, t < (npL p f M).length → (∀ c, c < w → ¬ pvP p w N c → p ∣ Y t c) ∧ ∀ i, i < N.length → p ∣ rv w (atR N i) (Y t) - xK p f M ((npL p f M)[t]?.getD 0) i := fun t ht => by
    rw [← hYd]
    exact hY t ht
  obtain ⟨x, ⟨j0, hj0, hx0⟩, hx⟩ := homog (field_fp hp) (rkM p w N) (npL p f M).length (fun i j => Y j (pvJ p w N i)) (by omega)
  -- the sum of the Y's is 0
  have hv : ∀ k, k < w → p ∣ sumN (npL p f M).length fun t => x t * Y t k := fun k hk => by
    by_cases hpk : pvP p w N k
    · obtain ⟨q, hq, rfl⟩ := pvP_iff.1 hpk
      have := hx q hq
      rwa [sumN_congr fun t _ => Int.mul_comm (x t) (Y t (pvJ p w N q))]
    · exact sumN_dvd fun t ht => Int.dvd_mul_of_dvd_right ((hY2 t ht).1 k hk hpk)
  obtain ⟨c1, c2⟩ := npL_at hj0
  have hi0 : (npL p f M)[j0]?.getD 0 < N.length := by omega
  have e1 : p ∣ rv w (atR N ((npL p f M)[j0]?.getD 0)) fun k => sumN (npL p f M).length fun t => x t * Y t k := by
    unfold rv
    exact sumN_dvd fun k hk => Int.dvd_mul_of_dvd_right (hv k hk)
  rw [rv_sum] at e1
  have e2 : p ∣ (sumN (npL p f M).length fun t => rv w (atR N ((npL p f M)[j0]?.getD 0)) fun k => x t * Y t k) - sumN (npL p f M).length fun t => x t * xK p f M ((npL p f M)[t]?.getD 0) ((npL p f M)[j0]?.getD 0) := sumN_cong fun t ht => by
    rw [rv_smul, ← Int.mul_sub]
    exact Int.dvd_mul_of_dvd_right ((hY2 t ht).2 _ hi0)
  have e3 := (dvd_cong e2).1 e1
  have e4 : (sumN (npL p f M).length fun t => x t * xK p f M ((npL p f M)[t]?.getD 0) ((npL p f M)[j0]?.getD 0)) = x j0 := by
    have : (sumN (npL p f M).length fun t => x t * xK p f M ((npL p f M)[t]?.getD 0) ((npL p f M)[j0]?.getD 0)) = sumN (npL p f M).length fun t => bI ((t : Int) = (j0 : Int)) * (fun u : Int => x u.toNat) (t : Int) := sumN_congr fun t ht => by
      rw [xK_np c2, Int.mul_comm]
      simp only [Int.toNat_natCast]
      congr 1
      exact bI_congr ⟨fun e => by rw [npL_inj ht hj0 e], fun e => by rw [show t = j0 by omega]⟩
    rw [this, sumN_one (w := fun u : Int => x u.toNat) (a := j0), if_pos hj0]
    simp
  rw [e4] at e3
  exact hx0 e3
/-- If there is a solution of M that N does not lead to, the ranks leave something over. -/
theorem no_hole (hc : ∀ j, j < w → sol p f M fun i => at0 (atR N i) j) {z : Nat → Int} (hz : sol p f M z) (hn : ¬ imP p w N z) : rkM p f M + rkM p w N < f := by
  refine Nat.lt_of_not_le fun hle => ?_
  have hlen := npL_len (p := p) (w := f) (M := M)
  obtain ⟨x, ⟨j0, hj0, hx0⟩, hx⟩ := homog (field_fp hp) (npL p f M).length (rkM p w N + 1) (fun i j => if j < rkM p w N then at0 (atR N ((npL p f M)[i]?.getD 0)) (pvJ p w N j) else z ((npL p f M)[i]?.getD 0)) (by omega)
  have hev : ∀ i : Nat, (sumN (rkM p w N + 1) fun j => (if j < rkM p w N then at0 (atR N i) (pvJ p w N j) else z i) * x j) = (sumN (rkM p w N) fun j => at0 (atR N i) (pvJ p w N j) * x j) + z i * x (rkM p w N) := fun i => by
    rw [sumN, if_neg (Nat.lt_irrefl _)]
    congr 1
    exact sumN_congr fun j hj => by rw [if_pos hj]
  -- the combination is a solution
  have hsol : sol p f M fun i => (sumN (rkM p w N) fun j => x j * at0 (atR N i) (pvJ p w N j)) + x (rkM p w N) * z i := fun i hi => by
    rw [rv_add, rv_smul, rv_sum]
    refine Int.dvd_add (sumN_dvd fun j hj => ?_) (Int.dvd_mul_of_dvd_right (hz i hi))
    rw [rv_smul]
    exact Int.dvd_mul_of_dvd_right (hc _ (pvJ_lt hj) i hi)
  have heq : ∀ i : Nat, (sumN (rkM p w N) fun j => x j * at0 (atR N i) (pvJ p w N j)) + x (rkM p w N) * z i = (sumN (rkM p w N) fun j => at0 (atR N i) (pvJ p w N j) * x j) + z i * x (rkM p w N) := fun i => by
    rw [sumN_congr fun j _ => Int.mul_comm (x j) (at0 (atR N i) (pvJ p w N j)), Int.mul_comm (x (rkM p w N))]
  have hall := sol_zero hp hM hsol fun c hcf hnp => by
    have hm : c ∈ npL p f M := by
      unfold npL
      rw [List.mem_filter, List.mem_range, dec_iff]
      exact ⟨hcf, hnp⟩
    obtain ⟨t, ht, e⟩ := List.getElem_of_mem hm
    have h1 := hx t ht
    rw [List.getElem?_eq_getElem ht, Option.getD_some, e, hev c] at h1
    try simp only
    rw [heq c]
    exact h1
  have hcomb : ∀ i : Nat, rv w (atR N i) (fun k => sumN (rkM p w N) fun j => bI (pvJ p w N j = k) * x j) = sumN (rkM p w N) fun j => at0 (atR N i) (pvJ p w N j) * x j := fun i => rv_pick _ (pvJ p w N) (fun j hj => pvJ_lt hj) x
  by_cases hmu : p ∣ x (rkM p w N)
  · -- the numbers at the pivots alone give 0
    have hker : sol p w N fun k => sumN (rkM p w N) fun j => bI (pvJ p w N j = k) * x j := fun i hi => by
      rw [hcomb i]
      have h1 := hall i (by omega)
      rw [heq i] at h1
      exact (Int.dvd_add_left (Int.dvd_mul_of_dvd_right hmu)).1 h1
    have hz2 := sol_zero hp hN hker fun c _ hnp => by
      refine sumN_dvd fun j hj => ?_
      rw [bI_no fun e => hnp (pvP_iff.2 ⟨j, hj, e⟩), Int.zero_mul]
      exact Int.dvd_zero p
    have hjr : j0 < rkM p w N := by
      rcases Nat.lt_succ_iff_lt_or_eq.1 hj0 with h1 | h1
      · exact h1
      · exact absurd (h1 ▸ hmu) hx0
    have h3 := hz2 _ (pvJ_lt hjr)
    have e : (sumN (rkM p w N) fun j => bI (pvJ p w N j = pvJ p w N j0) * x j) = x j0 := by
      have : (sumN (rkM p w N) fun j => bI (pvJ p w N j = pvJ p w N j0) * x j) = sumN (rkM p w N) fun t => bI ((t : Int) = (j0 : Int)) * (fun u : Int => x u.toNat) (t : Int) := sumN_congr fun t ht => by
        simp only [Int.toNat_natCast]
        congr 1
        exact bI_congr ⟨fun e => by rw [pvJ_inj ht hjr e], fun e => by rw [show t = j0 by omega]⟩
      rw [this, sumN_one (w := fun u : Int => x u.toNat) (a := j0), if_pos hjr]
      simp
    rw [e] at h3
    exact hx0 h3
  · obtain ⟨b, hb⟩ := (field_fp hp).2 _ hmu
    refine hn ⟨fun k => (-b) * sumN (rkM p w N) fun j => bI (pvJ p w N j = k) * x j, fun i hi => ?_⟩
    rw [rv_smul, hcomb i]
    have h1 := hall i (by omega)
    rw [heq i] at h1
    generalize (sumN (rkM p w N) fun j => at0 (atR N i) (pvJ p w N j) * x j) = S at *
    -- b times (S + z x) is divisible, and b x - 1 is
    have h2 : p ∣ (-b) * (S + z i * x (rkM p w N)) := Int.dvd_mul_of_dvd_right h1
    have h3 : p ∣ (x (rkM p w N) * b - 1) * z i := Int.dvd_mul_of_dvd_left hb
    have h4 := Int.dvd_add h2 h3
    have e : (-b) * (S + z i * x (rkM p w N)) + (x (rkM p w N) * b - 1) * z i = (-b) * S - z i := by
      rw [Int.mul_add, Int.sub_mul, Int.one_mul, Int.neg_mul b (z i * x (rkM p w N)), show x (rkM p w N) * b * z i = b * (z i * x (rkM p w N)) by rw [Int.mul_comm (x (rkM p w N)) b, Int.mul_assoc, Int.mul_comm (x (rkM p w N)) (z i)]]
      omega
    rwa [e] at h4
end lin2
end Go.Proofs.Ytmemomfffehnkaa
namespace Go.Proofs.Ytmemomfffehnkaa
open Go Go.RowKit
set_option maxRecDepth 1000000
set_option linter.unusedSimpArgs false
set_option linter.unusedVariables false
set_option maxHeartbeats 1000000
/-- The sign in the border, on numbers. -/
def sgF (x y : Nat) : Int := if x &&& y == x then 1 - 2 * ((pcF 6 (y &&& (y - x - 1)) % 2 : Nat) : Int) else 0
def ddK (x y : Nat) : Nat → Int
  | 0 => 0
  | u + 1 => ddK x y u + (if pcF 6 u == pcF 6 x + 1 then sgF x u * sgF u y else 0)
theorem dd_key : ∀ x : Nat, x < 64 → ∀ y : Nat, y < 64 → (pcF 6 y != pcF 6 x + 2 || ddK x y 64 == 0) = true := by decide +kernel
theorem ddK_sum (x y : Nat) : ∀ m, ddK x y m = sumN m fun u => if pcF 6 u == pcF 6 x + 1 then sgF x u * sgF u y else 0
  | 0 => rfl
  | m + 1 => by rw [ddK, ddK_sum x y m, sumN]
theorem sub_lt_key : ∀ x : Nat, x < 64 → ∀ y : Nat, y < 64 → (x &&& y != x || decide (x ≤ y)) = true := by decide +kernel
theorem sgnZ_nat {x y : Nat} (hx : x < 64) (hy : y < 64) (hz : pcF 6 y = pcF 6 x + 1) : sgnZ (x : Int) (y : Int) = sgF x y := by
  by_cases h : x &&& y = x
  · have hs : subS (x : Int) (y : Int) := (subS_natI hx hy).2 h
    have hle : x ≤ y := by
      have := sub_lt_key x hx y hy
      simp [h] at this
      exact this
    have hne : x ≠ y := fun e => by rw [e] at hz; omega
    have e1 : bnot (y : Int) (x : Int) = ((y - x : Nat) : Int) := by
      rw [bnot_nat y x hy hx, Nat.and_comm, h]
    have e2 : ((y - x : Nat) : Int) - 1 = ((y - x - 1 : Nat) : Int) := by omega
    have hb : y &&& (y - x - 1) < 64 := Nat.lt_of_le_of_lt Nat.and_le_left hy
    rw [sgnZ_yes hs, e1, e2, band_nat y (y - x - 1) hy (by omega), sz_nat hb]
    unfold sgF
    rw [if_pos (by simp [h])]
    omega
  · have hs : ¬ subS (x : Int) (y : Int) := fun hh => h ((subS_natI hx hy).1 hh)
    rw [sgnZ_no hs]
    unfold sgF
    rw [if_neg (by simpa using h)]
/-- The border of a border is 0. -/
theorem dd_zero {q : Int → Prop} (hq : ∀ s t, isS s → isS t → subS s t → q t → q s) {r s : Int} (hr : isS r) (hs : isS s) (hqs : q s) (hz : sz s = sz r + 2) : sumL (szS q (sz r + 1)) (fun u => sgnZ r u * sgnZ u s) = 0 := by
  obtain ⟨x, hx, rfl⟩ := isS_nat0 hr
  obtain ⟨y, hy, rfl⟩ := isS_nat0 hs
  rw [sz_nat hx, sz_nat hy] at hz
  have hz2 : pcF 6 y = pcF 6 x + 2 := by omega
  have hU := sumL_mem (fun u => sgnZ (x : Int) u * sgnZ u (y : Int)) (U := szS q (sz (x : Int) + 1)) (setsOf_nodup _) (allS_setsOf _)
  rw [← hU]
  have hk := dd_key x hx y hy
  simp only [hz2, bne_self_eq_false, Bool.false_or, beq_iff_eq] at hk
  rw [ddK_sum] at hk
  rw [← hk]
  refine sumN_congr fun u hu => ?_
  have hus : isS (u : Int) := ⟨by omega, by omega⟩
  by_cases hsz : pcF 6 u = pcF 6 x + 1
  · have h1 : sgnZ (x : Int) (u : Int) = sgF x u := sgnZ_nat hx hu hsz
    have h2 : sgnZ (u : Int) (y : Int) = sgF u y := sgnZ_nat hu hy (by omega)
    rw [if_pos (by simp [hsz]), h1, h2]
    by_cases hqu : q (u : Int)
    · rw [bI_yes (mem_szS.2 ⟨hus, hqu, by rw [sz_nat hu, sz_nat hx]; omega⟩), Int.one_mul]
    · have h3 : sgF u y = 0 := by
        rw [← h2]
        exact sgnZ_no fun hh => hqu (hq _ _ hus hs hh hqs)
      rw [h3]
      simp
  · rw [if_neg (by simpa using hsz), bI_no fun hh => hsz (by
      have := (mem_szS.1 hh).2.2
      rw [sz_nat hu, sz_nat hx] at this
      omega), Int.zero_mul]
theorem sgn_row {R C : List Int} {i j : Nat} (hi : i < R.length) (hj : j < C.length) : at0 (atR (sgnM R C) i) j = sgnZ (at0 R i) (at0 C j) := by
  rw [sgnM_at hi]
  simp [at0, hj]
end Go.Proofs.Ytmemomfffehnkaa
