import Derived.Test.YtmemomfffehnkaaKG5
import Derived.Test.YtmemomfffehnkaaKG2
import Derived.Test.YtmemomfffehnkaaKG4
import Derived.Test.YtmemomfffehnkaaAtA
import Derived.Test.YtmemomfffehnkaaKT
import Derived.Test.YtmemomfffehnkaaPpR
namespace Go.Proofs.Ytmemomfffehnkaa
open Go Go.RowKit
set_option maxRecDepth 1000000
set_option linter.unusedSimpArgs false
set_option linter.unusedVariables false
set_option maxHeartbeats 1000000
theorem dotK_sum (r x : List Int) : ∀ j, dotK r x j = sumN j fun k => at0 r k * at0 x k
  | 0 => rfl
  | j + 1 => by rw [dotK, sumN, dotK_sum r x j]
theorem emod_zero {a p : Int} : a % p = 0 ↔ p ∣ a := ⟨Int.dvd_of_emod_eq_zero, Int.emod_eq_zero_of_dvd⟩
theorem sgn_row {R C : List Int} {i j : Nat} (hi : i < R.length) (hj : j < C.length) : at0 (atR (sgnM R C) i) j = sgnZ (at0 R i) (at0 C j) := by
  rw [sgnM_at hi]
  simp [at0, hj]
theorem bor_rows {n : Int} {l : List Int} {k : Int} : (borM n l k).length = (fosL n l (k - 1)).length ∧ ∀ i, i < (borM n l k).length → (atR (borM n l k) i).length = (fosL n l k).length := ⟨by unfold borM; rw [sgnM_len], bor_ok.2.2⟩
/-- A cycle is a solution. -/
theorem cyc_sol {n : Int} {l : List Int} {k p : Int} {x : List Int} (h : chnP n l k p x) : cycP n l k p x ↔ sol p (fosL n l k).length (borM n l k) (at0 x) := by
  have e : bochL n l k p x = bocL (borM n l k) x p := if_pos h
  have hl := h.2.2.2.2.1
  have hrow : ∀ i, i < (borM n l k).length → (at0 (bocL (borM n l k) x p) i = 0 ↔ p ∣ rv (fosL n l k).length (atR (borM n l k) i) (at0 x)) := fun i hi => by
    rw [bocL_at hi, dotK_sum, emod_zero, hl]
    rfl
  unfold cycP
  rw [e]
  constructor
  · rintro ⟨_, hz⟩ i hi
    exact (hrow i hi).1 (hz i (by rw [bocL_len]; exact hi))
  · intro hs
    refine ⟨h, fun i hi => ?_⟩
    rw [bocL_len] at hi
    exact (hrow i hi).2 (hs i hi)
/-- The columns of a border are cycles. -/
theorem bor_cyc {n : Int} {l : List Int} (hc : cplx n l) (k p : Int) : ∀ j, j < (fosL n l (k + 1)).length → sol p (fosL n l k).length (borM n l k) fun i => at0 (atR (borM n l (k + 1)) i) j := fun j hj i hi => by
  have hS := cplx_isS hc
  rw [(bor_rows (n := n) (l := l) (k := k)).1] at hi
  have e : rv (fosL n l k).length (atR (borM n l k) i) (fun i => at0 (atR (borM n l (k + 1)) i) j) = 0 := by
    have hr := mem_fosL (getD_mem' hi)
    have hs := mem_fosL (getD_mem' hj)
    have := dd_zero (q := faceS l) (fun s t hs ht h hf => faceS_sub hS hs ht h hf) hr.1 hs.1 hs.2.2.1 (by omega)
    rw [← this]
    have e2 : sz (at0 (fosL n l (k - 1)) i) + 1 = k := by omega
    rw [e2, ← szS_fos hc]
    unfold rv sumL
    refine sumN_congr fun t ht => ?_
    unfold borM
    have e3 : fosL n l (k + 1 - 1) = fosL n l k := by rw [Int.add_sub_cancel]
    rw [e3, sgn_row hi ht]
    dsimp only
    rw [sgn_row ht hj]
  rw [e]
  exact Int.dvd_zero p
/-- What a border leads to is a cycle. -/
theorem im_cyc {n : Int} {l : List Int} (hc : cplx n l) {k p : Int} {z : Nat → Int} (h : imP p (fosL n l (k + 1)).length (borM n l (k + 1)) z) : sol p (fosL n l k).length (borM n l k) z := fun i hi => by
  obtain ⟨y, hy⟩ := h
  have e1 : (borM n l (k + 1)).length = (fosL n l k).length := by rw [(bor_rows (n := n) (l := l) (k := k + 1)).1, Int.add_sub_cancel]
  have h1 : p ∣ rv (fosL n l k).length (atR (borM n l k) i) (fun t => rv (fosL n l (k + 1)).length (atR (borM n l (k + 1)) t) y) := by
    have e : rv (fosL n l k).length (atR (borM n l k) i) (fun t => rv (fosL n l (k + 1)).length (atR (borM n l (k + 1)) t) y) = sumN (fosL n l (k + 1)).length fun j => y j * rv (fosL n l k).length (atR (borM n l k) i) fun t => at0 (atR (borM n l (k + 1)) t) j := by
      rw [← sumN_congr fun j _ => rv_smul (fosL n l k).length (atR (borM n l k) i) (y j) fun t => at0 (atR (borM n l (k + 1)) t) j, ← rv_sum]
      unfold rv
      refine sumN_congr fun t _ => ?_
      congr 1
      exact sumN_congr fun j _ => Int.mul_comm _ _
    rw [e]
    exact sumN_dvd fun j hj => Int.dvd_mul_of_dvd_right (bor_cyc hc k p j hj i hi)
  exact (dvd_cong (rv_cong (atR (borM n l k) i) fun t ht => hy t (by omega))).1 h1
/-- The numbers below w, and -1 behind them. -/
def extN (w : Nat) (y : Nat → Int) (k : Nat) : Int := if k < w then y k else -1
theorem rv_ext (w : Nat) (r : List Int) (y : Nat → Int) : rv (w + 1) r (extN w y) = rv w r y - at0 r w := by
  unfold rv
  rw [sumN]
  have : (sumN w fun j => at0 r j * extN w y j) = sumN w fun j => at0 r j * y j := sumN_congr fun j hj => by
    unfold extN
    rw [if_pos hj]
  rw [this]
  unfold extN
  rw [if_neg (Nat.lt_irrefl _)]
  omega
theorem wide_sol {p : Int} {w : Nat} {M : List (List Int)} (hM : ∀ i, i < M.length → (atR M i).length = w) (x : List Int) (y : Nat → Int) : sol p (w + 1) (modM p (wideM M x)) (extN w y) ↔ ∀ i, i < M.length → p ∣ rv w (atR M i) y - at0 x i := by
  have hW : ∀ i, i < (wideM M x).length → (atR (wideM M x) i).length = w + 1 := fun i hi => by
    rw [wideM_len] at hi
    rw [wideM_at x hi]
    simp [hM i hi]
  rw [sol_mod hW]
  have key : ∀ i, i < M.length → rv (w + 1) (atR (wideM M x) i) (extN w y) = rv w (atR M i) y - at0 x i := fun i hi => by
    rw [rv_ext, at0_wide hi (hM i hi), if_neg (Nat.lt_irrefl _), if_pos rfl]
    congr 1
    unfold rv
    refine sumN_congr fun j hj => ?_
    rw [at0_wide hi (hM i hi), if_pos hj]
  unfold sol
  rw [wideM_len]
  exact ⟨fun h i hi => by rw [← key i hi]; exact h i hi, fun h i hi => by rw [key i hi]; exact h i hi⟩
section fillc
variable {p : Int} {w : Nat} {M : List (List Int)} {x : List Int} (hp : fpP p) (hM : ∀ i, i < M.length → (atR M i).length = w)
include hp hM
theorem fl_rr : rrI p (w + 1) (modM p (wideM M x)) w (flR p M x w) := by
  have hW : ∀ i, i < (wideM M x).length → (atR (wideM M x) i).length = w + 1 := fun i hi => by
    rw [wideM_len] at hi
    rw [wideM_at x hi]
    simp [hM i hi]
  exact rrI_all hp (okM_mod hp hW) w (by omega)
omit hp hM in
theorem filK_at {R : List (List Int)} {P : List Int} (hJ : ∀ q, q < P.length → 0 ≤ at0 P q ∧ at0 P q < (w : Int)) (hi : ∀ a b, a < b → b < P.length → at0 P a < at0 P b) (k : Nat) : ∀ i, i ≤ P.length → at0 (filK R P w i) k = sumN i fun q => bI ((at0 P q).toNat = k) * at0 (atR R q) w
  | 0, _ => by
    show at0 (List.replicate w 0) k = 0
    by_cases h : k < w
    · simp [at0, h]
    · simp [at0, h]
  | i + 1, h => by
    have ih := filK_at (R := R) hJ hi k i (by omega)
    have hj := hJ i (by omega)
    show at0 ((filK R P w i).set (at0 P i).toNat (at0 (atR R i) w)) k = _
    rw [at0_set, sumN, filK_len]
    by_cases e : (at0 P i).toNat = k
    · rw [if_pos ⟨e, by omega⟩, bI_yes e, sumN_zero]
      · omega
      · intro q hq
        have := hi q i hq (by omega)
        have := hJ q (by omega)
        rw [bI_no (by omega)]
        omega
    · rw [if_neg fun hh => e hh.1, bI_no e, ih]
      omega
theorem fill_fwd (ho : filO (flR p M x w).1 (flR p M x w).2 w) : ∀ i, i < M.length → p ∣ rv w (atR M i) (at0 (filK (flR p M x w).1 (flR p M x w).2 w (flR p M x w).2.length)) - at0 x i := by
  have hr := fl_rr (x := x) hp hM
  have hlt : (∀ q, q < (flR p M x w).2.length → 0 ≤ at0 (flR p M x w).2 q ∧ at0 (flR p M x w).2 q < w) ∧ ∀ a b, a < b → b < (flR p M x w).2.length → at0 (flR p M x w).2 a < at0 (flR p M x w).2 b := redS_lt p (modM p (wideM M x)) w
  refine (wide_sol hM x _).1 ((hr.sl _).1 fun i hi => ?_)
  rw [rv_ext]
  have e : rv w (atR (flR p M x w).1 i) (at0 (filK (flR p M x w).1 (flR p M x w).2 w (flR p M x w).2.length)) = sumN (flR p M x w).2.length fun q => at0 (atR (flR p M x w).1 i) (at0 (flR p M x w).2 q).toNat * at0 (atR (flR p M x w).1 q) w := by
    have h1 := rv_pick (w := w) (m := (flR p M x w).2.length) (atR (flR p M x w).1 i) (fun q => (at0 (flR p M x w).2 q).toNat) (fun q hq => by have := hlt.1 q hq; omega) fun q => at0 (atR (flR p M x w).1 q) w
    rw [← h1]
    unfold rv
    exact sumN_congr fun k _ => by rw [filK_at (fun q hq => hlt.1 q hq) hlt.2 k _ (Nat.le_refl _)]
  rw [e]
  by_cases hir : i < (flR p M x w).2.length
  · obtain ⟨m', hm⟩ : ∃ m', (flR p M x w).2.length = m' + 1 := ⟨(flR p M x w).2.length - 1, by omega⟩
    have hsk := sumN_skip (fun q => at0 (atR (flR p M x w).1 i) (at0 (flR p M x w).2 q).toNat * at0 (atR (flR p M x w).1 q) w) m' i (by omega)
    rw [hm, hsk, sumN_zero]
    · have h4 := hr.one i hir
      try simp only
      rw [h4, Int.one_mul, Int.add_zero, Int.sub_self]
      exact Int.dvd_zero p
    · intro q hq
      have hs2 : skipN i q < (flR p M x w).2.length ∧ skipN i q ≠ i := by unfold skipN; split <;> omega
      have hz := hr.zer _ hs2.1 i hi (fun e3 => hs2.2 e3.symm)
      try simp only
      rw [hz, Int.zero_mul]
  · rw [ho i (Nat.le_of_not_lt hir) hi, sumN_zero]
    · exact Int.dvd_zero p
    · intro q hq
      have := hlt.1 q hq
      rw [hr.low i (Nat.le_of_not_lt hir) hi _ (by omega), Int.zero_mul]
/-- A list is filled if there is what leads to it. -/
theorem fill_iff : filO (flR p M x w).1 (flR p M x w).2 w ↔ ∃ y : Nat → Int, ∀ i, i < M.length → p ∣ rv w (atR M i) y - at0 x i := by
  have hr := fl_rr (x := x) hp hM
  constructor
  · intro ho
    exact ⟨_, fill_fwd hp hM ho⟩
  · rintro ⟨y, hy⟩ i hi1 hi2
    have hs := (hr.sl _).2 ((wide_sol hM x y).2 hy) i hi2
    rw [rv_ext] at hs
    have e : rv w (atR (flR p M x w).1 i) y = 0 := sumN_zero fun k hk => by rw [hr.low i hi1 hi2 k hk, Int.zero_mul]
    rw [e] at hs
    obtain ⟨_, hb⟩ := hr.base.ok i hi2
    obtain ⟨b1, b2⟩ := hb w (by omega)
    refine small_dvd b1 b2 ?_
    have := Int.dvd_neg.2 hs
    rwa [show -(0 - at0 (atR (flR p M x w).1 i) w) = at0 (atR (flR p M x w).1 i) w by omega] at this
omit hp hM in
theorem filK_some {R : List (List Int)} {P : List Int} (k : Nat) : ∀ i, i ≤ P.length → at0 (filK R P w i) k = 0 ∨ ∃ q, q < i ∧ at0 (filK R P w i) k = at0 (atR R q) w
  | 0, _ => by
    left
    show at0 (List.replicate w 0) k = 0
    by_cases h : k < w
    · simp [at0, h]
    · simp [at0, h]
  | i + 1, h => by
    show at0 ((filK R P w i).set (at0 P i).toNat (at0 (atR R i) w)) k = 0 ∨ ∃ q, q < i + 1 ∧ at0 ((filK R P w i).set (at0 P i).toNat (at0 (atR R i) w)) k = at0 (atR R q) w
    rw [at0_set]
    split
    · exact .inr ⟨i, by omega, rfl⟩
    · rcases filK_some (R := R) (P := P) k i (by omega) with h1 | ⟨q, h1, h2⟩
      · exact .inl h1
      · exact .inr ⟨q, by omega, h2⟩
/-- The list that fills. -/
theorem fill_got (ho : filO (flR p M x w).1 (flR p M x w).2 w) : (filL (flR p M x w).1 (flR p M x w).2 w).length = w ∧ inP p (filL (flR p M x w).1 (flR p M x w).2 w) ∧ ∀ i, i < M.length → p ∣ rv w (atR M i) (at0 (filL (flR p M x w).1 (flR p M x w).2 w)) - at0 x i := by
  have hr := fl_rr (x := x) hp hM
  have hpp := fpP_bnd hp
  rw [filL_yes ho]
  refine ⟨filK_len _ _ _ _, fun k hk => ?_, fill_fwd hp hM ho⟩
  rcases filK_some (w := w) (R := (flR p M x w).1) (P := (flR p M x w).2) k _ (Nat.le_refl _) with h1 | ⟨q, h1, h2⟩
  · rw [h1]; omega
  · rw [h2]
    have hq : q < (flR p M x w).1.length := Nat.lt_of_lt_of_le h1 hr.base.hp
    exact (hr.base.ok q hq).2 w (by omega)
end fillc
end Go.Proofs.Ytmemomfffehnkaa
namespace Go.Proofs.Ytmemomfffehnkaa
open Go Go.RowKit
set_option maxRecDepth 1000000
set_option linter.unusedSimpArgs false
set_option linter.unusedVariables false
set_option maxHeartbeats 1000000
section chl
variable {n : Int} {l : List Int} {k p : Int}
theorem imP_fos {x : Nat → Int} : imP p (fosL n l (k + 1)).length (borM n l (k + 1)) x ↔ ∃ y : Nat → Int, ∀ i, i < (borM n l (k + 1)).length → p ∣ rv (fosL n l (k + 1)).length (atR (borM n l (k + 1)) i) y - x i := Iff.rfl
theorem fch_iff {x : List Int} (h : fcP n l k p x) : fchP n l k p x ↔ imP p (fosL n l (k + 1)).length (borM n l (k + 1)) (at0 x) := by
  have h1 := fill_iff (w := fcW n l k) (M := borM n l (k + 1)) (x := x) h.1.2.2.2.1 (bor_rows (n := n) (l := l) (k := k + 1)).2
  unfold fchP
  exact ⟨fun hh => h1.1 hh.2, fun hh => ⟨h, h1.2 hh⟩⟩
/-- What fills a chain has it as its border. -/
theorem fch_back {x : List Int} (h : fchP n l k p x) : chnP n l (k + 1) p (fchL n l k p x) ∧ bochL n l (k + 1) p (fchL n l k p x) = x := by
  obtain ⟨h0, ho⟩ := h
  obtain ⟨⟨hc, hk1, hk6, hp, hl, hx⟩, hk⟩ := id h0
  have e : fchL n l k p x = filL (fcR n l k p x).1 (fcR n l k p x).2 (fcW n l k) := if_pos h0
  obtain ⟨a, b, c⟩ := fill_got (w := fcW n l k) (M := borM n l (k + 1)) (x := x) hp (bor_rows (n := n) (l := l) (k := k + 1)).2 ho
  have hch : chnP n l (k + 1) p (fchL n l k p x) := ⟨hc, by omega, by omega, hp, by rw [e]; exact a, by rw [e]; exact b⟩
  refine ⟨hch, ?_⟩
  have eb : bochL n l (k + 1) p (fchL n l k p x) = bocL (borM n l (k + 1)) (fchL n l k p x) p := if_pos hch
  have hbl : (borM n l (k + 1)).length = (fosL n l k).length := by rw [(bor_rows (n := n) (l := l) (k := k + 1)).1, Int.add_sub_cancel]
  rw [eb]
  refine at0_ext (by rw [bocL_len]; omega) fun i hi => ?_
  rw [bocL_len] at hi
  rw [bocL_at hi, dotK_sum]
  have h1 := c i hi
  have hxi := hx i (by omega)
  have e2 : (sumN (fchL n l k p x).length fun j => at0 (atR (borM n l (k + 1)) i) j * at0 (fchL n l k p x) j) = rv (fcW n l k) (atR (borM n l (k + 1)) i) (at0 (filL (fcR n l k p x).1 (fcR n l k p x).2 (fcW n l k))) := by
    have : (fchL n l k p x).length = fcW n l k := by rw [e]; exact a
    rw [this, e]
    rfl
  rw [e2]
  have h2 := Int.emod_emod_of_dvd (rv (fcW n l k) (atR (borM n l (k + 1)) i) (at0 (filL (fcR n l k p x).1 (fcR n l k p x).2 (fcW n l k)))) (Int.dvd_refl p)
  have h3 := (Int.emod_emod_of_dvd (at0 x i) (Int.dvd_refl p))
  have h4 : rv (fcW n l k) (atR (borM n l (k + 1)) i) (at0 (filL (fcR n l k p x).1 (fcR n l k p x).2 (fcW n l k))) % p = at0 x i % p := Int.emod_eq_emod_iff_emod_sub_eq_zero.2 (Int.emod_eq_zero_of_dvd h1)
  rw [h4, Int.emod_eq_of_lt hxi.1 hxi.2]
/-- A chain that is filled is a cycle. -/
theorem fch_cyc {x : List Int} (h : fchP n l k p x) : cycP n l k p x :=
  (cyc_sol h.1.1).2 (im_cyc h.1.1.1 ((fch_iff h.1).1 h))
/-- The border of a chain is a cycle. -/
theorem boch_cyc {x : List Int} (h : chnP n l k p x) (hk : 1 < k) : cycP n l (k - 1) p (bochL n l k p x) := by
  obtain ⟨hc, hk1, hk6, hp, hl, hx⟩ := id h
  have eb : bochL n l k p x = bocL (borM n l k) x p := if_pos h
  have hpp := fpP_bnd hp
  have hbl := (bor_rows (n := n) (l := l) (k := k)).1
  have hch : chnP n l (k - 1) p (bochL n l k p x) := by
    rw [eb]
    refine ⟨hc, by omega, by omega, hp, by rw [bocL_len]; exact hbl, fun i hi => ?_⟩
    rw [bocL_len] at hi
    rw [bocL_at hi]
    exact ⟨Int.emod_nonneg _ (by omega), Int.emod_lt_of_pos _ (by omega)⟩
  refine (cyc_sol hch).2 ?_
  have e1 : k - 1 + 1 = k := by omega
  have := im_cyc (k := k - 1) (p := p) (z := at0 (bochL n l k p x)) hc (by
    rw [e1]
    refine ⟨at0 x, fun i hi => ?_⟩
    rw [eb, bocL_at hi, dotK_sum, hl]
    have := mod_sub (rv (fosL n l k).length (atR (borM n l k) i) (at0 x)) p
    have h2 := Int.dvd_neg.2 this
    rwa [show -(rv (fosL n l k).length (atR (borM n l k) i) (at0 x) % p - rv (fosL n l k).length (atR (borM n l k) i) (at0 x)) = rv (fosL n l k).length (atR (borM n l k) i) (at0 x) - rv (fosL n l k).length (atR (borM n l k) i) (at0 x) % p by omega] at h2)
  exact this
theorem hcZ_rX : hcZ n l k p = rX p (fosL n l k).length (borM n l k) := rfl
/-- The chain of a column, as a solution. -/
theorem hcX_at (hp : fpP p) {c : Nat} (hc : c < (fosL n l k).length) (hnp : ¬ pvP p (fosL n l k).length (borM n l k) c) : ∀ i, i ≤ (hcZ n l k p).2.length → ∀ t, t < (fosL n l k).length →
    (0 ≤ at0 (hcK p (hcZ n l k p).1 (hcZ n l k p).2 (fosL n l k).length c i) t ∧ at0 (hcK p (hcZ n l k p).1 (hcZ n l k p).2 (fosL n l k).length c i) t < p) ∧
    p ∣ at0 (hcK p (hcZ n l k p).1 (hcZ n l k p).2 (fosL n l k).length c i) t - (bI (c = t) + sumN i fun q => bI (pvJ p (fosL n l k).length (borM n l k) q = t) * -(at0 (atR (hcZ n l k p).1 q) c))
  | 0, _, t, ht => by
    have hpp := fpP_bnd hp
    have e : at0 (hcK p (hcZ n l k p).1 (hcZ n l k p).2 (fosL n l k).length c 0) t = bI (c = t) := by
      show at0 ((List.replicate _ 0).set c 1) t = _
      rw [at0_set, List.length_replicate]
      by_cases e : c = t
      · rw [if_pos ⟨e, ht⟩, bI_yes e]
      · rw [if_neg fun h => e h.1, bI_no e]
        simp [at0, ht]
    rw [e, sumN]
    have := bI_nn (c = t)
    exact ⟨by omega, by rw [Int.add_zero, Int.sub_self]; exact Int.dvd_zero p⟩
  | i + 1, hi, t, ht => by
    have hpp := fpP_bnd hp
    obtain ⟨ih1, ih2⟩ := hcX_at hp hc hnp i (by omega) t ht
    have hir : i < rkM p (fosL n l k).length (borM n l k) := by unfold rkM; rw [← hcZ_rX]; omega
    have hJ := pvJ_lt hir
    show (0 ≤ at0 ((hcK p (hcZ n l k p).1 (hcZ n l k p).2 (fosL n l k).length c i).set (at0 (hcZ n l k p).2 i).toNat _) t ∧ at0 ((hcK p (hcZ n l k p).1 (hcZ n l k p).2 (fosL n l k).length c i).set (at0 (hcZ n l k p).2 i).toNat _) t < p) ∧ p ∣ at0 ((hcK p (hcZ n l k p).1 (hcZ n l k p).2 (fosL n l k).length c i).set (at0 (hcZ n l k p).2 i).toNat _) t - _
    have eJ : (at0 (hcZ n l k p).2 i).toNat = pvJ p (fosL n l k).length (borM n l k) i := rfl
    rw [at0_set, hcK_len, eJ, sumN]
    by_cases e : pvJ p (fosL n l k).length (borM n l k) i = t
    · rw [if_pos ⟨e, ht⟩, bI_yes e]
      have hct : c ≠ t := fun h => hnp (pvP_iff.2 ⟨i, hir, by rw [e, h]⟩)
      rw [bI_no hct, sumN_zero fun q hq => by rw [bI_no fun h => by have := pvJ_inj (by omega) hir (h.trans e.symm); omega, Int.zero_mul], Int.one_mul]
      refine ⟨⟨Int.emod_nonneg _ (by omega), Int.emod_lt_of_pos _ (by omega)⟩, ?_⟩
      have := mod_sub (-(at0 (atR (hcZ n l k p).1 i) c)) p
      rwa [show (0 : Int) + (0 + -(at0 (atR (hcZ n l k p).1 i) c)) = -(at0 (atR (hcZ n l k p).1 i) c) by omega]
    · rw [if_neg fun h => e h.1, bI_no e, Int.zero_mul, Int.add_zero]
      exact ⟨ih1, ih2⟩
theorem hcX_xK (hp : fpP p) {c : Nat} (hc : c < (fosL n l k).length) (hnp : ¬ pvP p (fosL n l k).length (borM n l k) c) : inP p (hcX n l k p c) ∧ ∀ t, t < (fosL n l k).length → p ∣ at0 (hcX n l k p c) t - xK p (fosL n l k).length (borM n l k) c t := by
  have h := fun t ht => hcX_at (n := n) (l := l) (k := k) hp hc hnp _ (Nat.le_refl _) t ht
  refine ⟨fun t ht => ?_, fun t ht => (h t ht).2⟩
  have hl : (hcX n l k p c).length = (fosL n l k).length := hcK_len _ _ _ _ _ _
  exact (h t (by omega)).1
theorem imP_cong {w : Nat} {M : List (List Int)} {x y : Nat → Int} (h : ∀ i, i < M.length → p ∣ x i - y i) : imP p w M x ↔ imP p w M y := by
  constructor
  · rintro ⟨v, hv⟩
    exact ⟨v, fun i hi => by have := Int.dvd_add (hv i hi) (h i hi); rwa [show rv w (atR M i) v - x i + (x i - y i) = rv w (atR M i) v - y i by omega] at this⟩
  · rintro ⟨v, hv⟩
    exact ⟨v, fun i hi => by have := Int.dvd_sub (hv i hi) (h i hi); rwa [show rv w (atR M i) v - y i - (x i - y i) = rv w (atR M i) v - x i by omega] at this⟩
/-- A column's chain is a hole if the border above does not lead to it. -/
theorem hcQ_iff (hcp : hcP n l k p) {c : Nat} (hc : c < (fosL n l k).length) : hcQ n l k p c ↔ ¬ pvP p (fosL n l k).length (borM n l k) c ∧ ¬ imP p (fosL n l (k + 1)).length (borM n l (k + 1)) (xK p (fosL n l k).length (borM n l k) c) := by
  obtain ⟨hx, hk1, hk5, hp⟩ := id hcp
  have hbl : (borM n l (k + 1)).length = (fosL n l k).length := by rw [(bor_rows (n := n) (l := l) (k := k + 1)).1, Int.add_sub_cancel]
  unfold hcQ
  have e : (c : Int) ∉ (hcZ n l k p).2 ↔ ¬ pvP p (fosL n l k).length (borM n l k) c := Iff.rfl
  rw [e]
  refine and_congr_right fun hnp => not_congr ?_
  obtain ⟨h1, h2⟩ := hcX_xK hp hc hnp
  have hfc : fcP n l k p (hcX n l k p c) := ⟨⟨hx, hk1, by omega, hp, hcK_len _ _ _ _ _ _, h1⟩, by omega⟩
  rw [fch_iff hfc]
  exact imP_cong fun i hi => h2 i (by omega)
theorem hc_cyc (hcp : hcP n l k p) {c : Nat} (hc : c < (fosL n l k).length) (hnp : ¬ pvP p (fosL n l k).length (borM n l k) c) : cycP n l k p (hcX n l k p c) := by
  obtain ⟨hx, hk1, hk5, hp⟩ := id hcp
  obtain ⟨h1, h2⟩ := hcX_xK hp hc hnp
  have hch : chnP n l k p (hcX n l k p c) := ⟨hx, hk1, by omega, hp, hcK_len _ _ _ _ _ _, h1⟩
  refine (cyc_sol hch).2 fun i hi => ?_
  exact (dvd_cong (rv_cong (atR (borM n l k) i) h2)).2 (xK_sol hp (bor_rows (n := n) (l := l) (k := k)).2 hc hnp i hi)
/-- A hole's cycle is a cycle that is not filled. -/
theorem hcF_ok (h : (hcF n l k p).2 = true) : cycP n l k p (hcF n l k p).1 ∧ ¬ fchP n l k p (hcF n l k p).1 := by
  by_cases hcp : hcP n l k p
  · rw [hcF_yes hcp] at h ⊢
    have hs : fsR _ _ _ (fsX (fosL n l k).length (hcQ n l k p) (hcX n l k p)) := Classical.choose_spec (fs_ex (fosL n l k).length (hcQ n l k p) (hcX n l k p))
    generalize fsX (fosL n l k).length (hcQ n l k p) (hcX n l k p) = y at *
    rcases hs with ⟨e, _⟩ | ⟨i, hi, hq, e, _⟩
    · rw [e] at h; simp at h
    · rw [e]
      exact ⟨hc_cyc hcp hi hq.1, hq.2⟩
  · rw [hcF_no hcp] at h; simp at h
theorem rkZ_M {q : Int → Prop} (z : Int) : rkZ p q z = (rkM p (szS q z).length (sgnM (szS q (z - 1)) (szS q z)) : Nat) := by
  by_cases h : 0 < (szS q (z - 1)).length
  · rw [rkZ_W h]; rfl
  · have e : szS q (z - 1) = [] := List.length_eq_zero_iff.1 (by omega)
    have e2 : sgnM (szS q (z - 1)) (szS q z) = [] := by rw [e]; rfl
    unfold rkZ rkM rX
    rw [e2, rnk_nil]
    have e3 : modM p [] = [] := List.length_eq_zero_iff.1 (by simp)
    rw [e3, redS_nil]
    rfl
/-- There is a hole's cycle if there are holes. -/
theorem hcF_iff (hcp : hcP n l k p) : (hcF n l k p).2 = true ↔ 0 < atZ (hmL n l p) k := by
  obtain ⟨hx, hk1, hk5, hp⟩ := id hcp
  obtain ⟨m, rfl⟩ := Int.eq_ofNat_of_zero_le (show 0 ≤ k by omega)
  have hrM := (bor_rows (n := n) (l := l) (k := (m : Int))).2
  have hrN := (bor_rows (n := n) (l := l) (k := (m : Int) + 1)).2
  have hbl : (borM n l ((m : Int) + 1)).length = (fosL n l (m : Int)).length := by rw [(bor_rows (n := n) (l := l) (k := (m : Int) + 1)).1, Int.add_sub_cancel]
  have hL : hmL n l p = holL p (faceS l) := by
    unfold hmL
    rw [if_pos ⟨hx, hp⟩]
  have hval : 0 < atZ (hmL n l p) (m : Int) ↔ rkM p (fosL n l (m : Int)).length (borM n l (m : Int)) + rkM p (fosL n l ((m : Int) + 1)).length (borM n l ((m : Int) + 1)) < (fosL n l (m : Int)).length := by
    rw [atZ_nat, hL]
    have hv : holV p (faceS l) m = ((fosL n l (m : Int)).length : Int) - (rkM p (fosL n l (m : Int)).length (borM n l (m : Int)) : Nat) - (rkM p (fosL n l ((m : Int) + 1)).length (borM n l ((m : Int) + 1)) : Nat) := by
      unfold holV borM
      rw [rkZ_M, rkZ_M, szS_fos hx, szS_fos hx, szS_fos hx, szS_fos hx]
    by_cases hm : m < (topZ (faceS l) + 1).toNat
    · unfold holL
      rw [rowF_at hm, hv]
      omega
    · rw [at0_none (by have := (holL_len p (faceS l)).1; omega)]
      have : (fosL n l (m : Int)) = [] := by
        rw [szS_fos hx]
        exact szS_none (by omega)
      rw [this]
      simp
  rw [hval, hcF_yes hcp]
  have hs : fsR _ _ _ (fsX (fosL n l (m : Int)).length (hcQ n l (m : Int) p) (hcX n l (m : Int) p)) := Classical.choose_spec (fs_ex (fosL n l (m : Int)).length (hcQ n l (m : Int) p) (hcX n l (m : Int) p))
  generalize fsX (fosL n l (m : Int)).length (hcQ n l (m : Int) p) (hcX n l (m : Int) p) = y at *
  rcases hs with ⟨e, hno⟩ | ⟨i, hi, hq, e, _⟩
  · rw [e]
    constructor
    · intro h; simp at h
    · intro h
      obtain ⟨c, hc, h1, h2⟩ := ex_hole hp hrN hbl h
      exact absurd ((hcQ_iff hcp hc).2 ⟨h1, h2⟩) (hno c hc)
  · rw [e]
    refine ⟨fun _ => ?_, fun _ => rfl⟩
    obtain ⟨h1, h2⟩ := (hcQ_iff hcp hi).1 hq
    exact no_hole hp hrM hrN hbl (fun j hj => bor_cyc hx (m : Int) p j hj) (xK_sol hp hrM hi h1) h2
end chl
end Go.Proofs.Ytmemomfffehnkaa
