import Derived.Test.YtkoljbncokmeaaaDoorPDK
import Derived.Test.YtkoljbncokmeaaaDoorPDN
import Derived.Test.YtkoljbncokmeaaaDoorPDG
import Derived.Test.YtkoljbncokmeaaaDoorPDD
import Derived.Test.YtkoljbncokmeaaaDoorPDF
namespace Go.Proofs.YtkoljbncokmeaaaDoor
open Go Go.RowKit
set_option maxRecDepth 1000000
set_option linter.unusedSimpArgs false
set_option linter.unusedVariables false
set_option maxHeartbeats 1000000
theorem smS_cong {p : Int} {f g : Nat → Int} : ∀ n, (∀ i, i < n → p ∣ f i - g i) → p ∣ smS f n - smS g n
  | 0, _ => ⟨0, by simp [smS]⟩
  | n + 1, h => by
    have h1 := smS_cong n fun i hi => h i (by omega)
    have h2 := h n (by omega)
    show p ∣ (smS f n + f n) - (smS g n + g n)
    have e : (smS f n + f n) - (smS g n + g n) = (smS f n - smS g n) + (f n - g n) := by omega
    rw [e]
    exact Int.dvd_add h1 h2
theorem mul_cong {p a b c d : Int} (h1 : p ∣ a - b) (h2 : p ∣ c - d) : p ∣ a * c - b * d := by
  have e : a * c - b * d = (a - b) * c + b * (c - d) := by rw [Int.sub_mul, Int.mul_sub]; omega
  rw [e]
  exact Int.dvd_add (Int.dvd_mul_of_dvd_left h1) (Int.dvd_mul_of_dvd_right h2)
theorem dtM_cong {p : Int} : ∀ (n : Nat) {M N : Nat → Nat → Int}, (∀ a b, a < n → b < n → p ∣ M a b - N a b) → p ∣ dtM n M - dtM n N
  | 0, M, N, _ => by
    rw [show dtM 0 M = dtM 0 N from rfl, Int.sub_self]
    exact Int.dvd_zero p
  | n + 1, M, N, h => by
    rw [dtM_succ, dtM_succ]
    refine smS_cong _ fun i hi => ?_
    rw [← Int.mul_sub]
    refine Int.dvd_mul_of_dvd_right ?_
    exact mul_cong (h i 0 hi (by omega)) (dtM_cong n fun a b ha hb => h _ _ (skI_bnd ha) (by omega))
/-- Minors modulo p hang on the entries modulo p only. -/
theorem mD_cong {p : Int} {n w K : Nat} {f g : Nat → Nat → Int} (h : ∀ a b, a < n → b < w → p ∣ f a b - g a b) (hf : mD p n w K f) : mD p n w K g := fun R C hR hC hr hc => by
  have h1 := hf R C hR hC hr hc
  have h2 : p ∣ dtL f R C - dtL g R C := by
    unfold dtL
    exact dtM_cong _ fun a b ha hb => h _ _ (hr _ (gD_mem ha)) (hc _ (gD_mem (by omega)))
  exact (dvd_cong h2).1 h1
theorem cong_symm {p a b : Int} (h : p ∣ a - b) : p ∣ b - a := by
  have e : b - a = -(a - b) := by omega
  rw [e]
  exact Int.dvd_neg.2 h
theorem dv_self {p : Int} {n w K : Nat} {f : Nat → Nat → Int} : dv p n w K p f ↔ mD p n w K f :=
  ⟨dv_mD, fun h Z => mD_cong (fun a b _ _ => by
    have e : f a b - (f a b + p * Z a b) = p * (- Z a b) := by rw [Int.mul_neg]; omega
    rw [e]
    exact Int.dvd_mul_right p _) h⟩
theorem mD_swr {t : Int} {n w K d a : Nat} {f : Nat → Nat → Int} (hd : d < n) (ha : a < n) (h : mD t n w K f) : mD t n w K fun i b => f (if i = d then a else if i = a then d else i) b := fun R C hR hC hr hc => by
  rw [dtL_map (f := f) (fun i => if i = d then a else if i = a then d else i) (fun b => b) (by omega)]
  refine h _ _ (by rw [List.length_map]; exact hR) (by rw [List.length_map]; exact hC) (fun r hm => ?_) fun c hm => ?_
  · obtain ⟨x, hx, rfl⟩ := List.mem_map.1 hm
    have := hr x hx
    by_cases e1 : x = d
    · rw [if_pos e1]; exact ha
    · rw [if_neg e1]
      by_cases e2 : x = a
      · rw [if_pos e2]; exact hd
      · rw [if_neg e2]; exact this
  · obtain ⟨x, hx, rfl⟩ := List.mem_map.1 hm
    exact hc x hx
section
variable {p : Int} {w d a j : Nat} {M : List (List Int)}
theorem mD_piv (hp : fpP p) (hM : okM p w M) (hd : d < M.length) (ha : a < M.length) (hj : j < w) (hn : at0 (atR M a) j ≠ 0) {K : Nat} : mD p M.length w K (ent M) ↔ mD p M.length w K (ent (pivM p M d a j)) := by
  obtain ⟨l1, l2⟩ := hM a ha
  have hna : ¬ p ∣ at0 (atR M a) j := fun h => hn (small_dvd (l2 j hj).1 (l2 j hj).2 h)
  have hu := inv_unit hp hna
  obtain ⟨v, hv⟩ : ∃ v, at0 (atR M a) j = v := ⟨_, rfl⟩
  obtain ⟨u, hui⟩ : ∃ u, invZ v p = u := ⟨_, rfl⟩
  rw [hv, hui] at hu
  -- the swapped matrix
  obtain ⟨g, hg⟩ : ∃ g : Nat → Nat → Int, (fun i b => ent M (if i = d then a else if i = a then d else i) b) = g := ⟨_, rfl⟩
  have hgd : ∀ b, g d b = ent M a b := fun b => by rw [← hg]; show ent M (if d = d then a else _) b = _; rw [if_pos rfl]
  have hgi : ∀ i b, i ≠ d → g i b = at0 (if i = a then atR M d else atR M i) b := fun i b hi => by
    rw [← hg]
    show ent M (if i = d then a else if i = a then d else i) b = _
    rw [if_neg hi]
    by_cases e : i = a
    · rw [if_pos e, if_pos e]; rfl
    · rw [if_neg e, if_neg e]; rfl
  have hback : (fun i b => g (if i = d then a else if i = a then d else i) b) = ent M := by
    funext i b
    rw [← hg]
    show ent M _ b = ent M i b
    congr 1
    by_cases e1 : i = d
    · rw [if_pos e1]
      by_cases e2 : a = d
      · rw [if_pos e2, e1, e2]
      · rw [if_neg e2, if_pos rfl, e1]
    · rw [if_neg e1]
      by_cases e2 : i = a
      · rw [if_pos e2, if_pos rfl, e2]
      · rw [if_neg e2, if_neg e1, if_neg e2]
  have hsw : mD p M.length w K (ent M) ↔ mD p M.length w K g := ⟨fun h => by rw [← hg]; exact mD_swr hd ha h, fun h => by rw [← hback]; exact mD_swr hd ha h⟩
  rw [hsw]
  -- the entries of the new matrix
  have ed : ∀ b, b < w → p ∣ ent (pivM p M d a j) d b - u * g d b := fun b hb => by
    show p ∣ at0 (atR (pivM p M d a j) d) b - _
    rw [piv_d hp hM hd ha, scl_at (by rw [l1]; exact hb), hv, hui, hgd, Int.mul_comm u]
    exact mod_sub _ _
  have ei : ∀ i b, i < M.length → b < w → i ≠ d → p ∣ ent (pivM p M d a j) i b - (g i b - g i j * ent (pivM p M d a j) d b) := fun i b hi hb hid => by
    show p ∣ at0 (atR (pivM p M d a j) i) b - (g i b - g i j * at0 (atR (pivM p M d a j) d) b)
    have hl : b < (if i = a then atR M d else atR M i).length := by
      split
      · rw [(hM d hd).1]; exact hb
      · rw [(hM i hi).1]; exact hb
    rw [piv_i hp hM hd ha hi hid, elim_at hl, piv_d hp hM hd ha, ← hgi i b hid, ← hgi i j hid]
    exact mod_sub _ _
  constructor
  · intro h
    have h1 := mD_row (fun i => if i = d then u else 1) (fun i => if i = d then 0 else -(g i j) * u) hd h
    refine mD_cong (fun i b hi hb => ?_) h1
    by_cases e : i = d
    · subst e
      simp only [if_true]
      rw [Int.zero_mul, Int.add_zero]
      exact cong_symm (ed b hb)
    · simp only [if_neg e]
      rw [Int.one_mul]
      refine cong_symm ?_
      have h2 := ei i b hi hb e
      have h3 : p ∣ g i j * (ent (pivM p M d a j) d b - u * g d b) := Int.dvd_mul_of_dvd_right (ed b hb)
      have e4 : ent (pivM p M d a j) i b - (g i b + -(g i j) * u * g d b) = (ent (pivM p M d a j) i b - (g i b - g i j * ent (pivM p M d a j) d b)) - g i j * (ent (pivM p M d a j) d b - u * g d b) := by
        rw [Int.mul_sub, Int.neg_mul, Int.neg_mul, Int.mul_assoc]; omega
      rw [e4]
      exact Int.dvd_sub h2 h3
  · intro h
    have h1 := mD_row (fun i => if i = d then v else 1) (fun i => if i = d then 0 else g i j) hd h
    refine mD_cong (fun i b hi hb => ?_) h1
    by_cases e : i = d
    · subst e
      simp only [if_true]
      rw [Int.zero_mul, Int.add_zero]
      have h2 : p ∣ v * (ent (pivM p M i a j) i b - u * g i b) := Int.dvd_mul_of_dvd_right (ed b hb)
      have h3 : p ∣ (v * u - 1) * g i b := Int.dvd_mul_of_dvd_left hu
      have e4 : v * ent (pivM p M i a j) i b - g i b = v * (ent (pivM p M i a j) i b - u * g i b) + (v * u - 1) * g i b := by
        rw [Int.mul_sub, Int.sub_mul, Int.mul_assoc]; omega
      rw [e4]
      exact Int.dvd_add h2 h3
    · simp only [if_neg e]
      rw [Int.one_mul]
      have h2 := ei i b hi hb e
      have e4 : ent (pivM p M d a j) i b + g i j * ent (pivM p M d a j) d b - g i b = ent (pivM p M d a j) i b - (g i b - g i j * ent (pivM p M d a j) d b) := by omega
      rw [e4]
      exact h2
end
theorem mD_redC {p : Int} {w : Nat} {M0 : List (List Int)} {j : Nat} {x : List (List Int) × List Int} (hp : fpP p) (hj : j < w) (h : rrI p w M0 j x) {K : Nat} : mD p x.1.length w K (ent x.1) ↔ mD p x.1.length w K (ent (redC p j x).1) := by
  obtain ⟨M, P⟩ := x
  obtain ⟨f1, f2⟩ := fndZ_hit2 (M := M) (j := j) (M.length - P.length) P.length
  by_cases hc : P.length < M.length ∧ fndZ M j (M.length - P.length) P.length < M.length
  · rw [redC_yes (p := p) (M := M) (P := P) rfl hc.1 hc.2]
    exact mD_piv hp h.base.ok hc.1 hc.2 hj (f2 (by omega))
  · rw [redC_no hc]
theorem mD_redS {p : Int} {w : Nat} {M : List (List Int)} (hp : fpP p) (hM : okM p w M) {K : Nat} : ∀ j, j ≤ w → (mD p M.length w K (ent M) ↔ mD p M.length w K (ent (redS p M j).1))
  | 0, _ => Iff.rfl
  | j + 1, hj => by
    have h := rrI_all hp hM j (by omega)
    have hl : (redS p M j).1.length = M.length := h.base.hl
    have := mD_redC hp (show j < w by omega) h (K := K)
    rw [hl] at this
    exact (mD_redS hp hM j (by omega)).trans this
theorem prL_mem {p : Int} {e : Nat → Int} {m : Nat} : ∀ {l : List Nat}, m ∈ l → p ∣ e m → p ∣ prL e l
  | [], h, _ => by cases h
  | a :: l, h, hm => by
    show p ∣ e a * prL e l
    rcases List.mem_cons.1 h with rfl | h
    · exact Int.dvd_mul_of_dvd_left hm
    · exact Int.dvd_mul_of_dvd_right (prL_mem h hm)
/-- Rows that are 0 modulo p behind the row K. -/
theorem mD_high {p : Int} {n w u K : Nat} {f : Nat → Nat → Int} (hK : u < K) (h : ∀ a b, u ≤ a → a < n → b < w → p ∣ f a b) : mD p n w K f := fun R C hR hC hr hc => by
  by_cases hn : R.Nodup
  · obtain ⟨m, hm, hum⟩ := nodup_big hn (show u < R.length by omega)
    refine Int.dvd_trans (prL_mem (e := fun a => if u ≤ a then p else 1) hm ?_) (dtL_rowdvd (by omega) fun a ha b hb => ?_)
    · show p ∣ if u ≤ m then p else 1
      rw [if_pos hum]
      exact Int.dvd_refl p
    · show (if u ≤ a then p else 1) ∣ f a b
      by_cases e : u ≤ a
      · rw [if_pos e]; exact h a b e (hr a ha) (hc b hb)
      · rw [if_neg e]; exact Int.one_dvd _
  · rw [dtL_dup hn]
    exact Int.dvd_zero p
/-- A diagonal of units as a minor. -/
theorem mD_low {p : Int} {n w u K : Nat} {f : Nat → Nat → Int} (hp : fpP p) (hK : K ≤ u) (hu : u ≤ n) (J : Nat → Nat) (hJ : ∀ b, b < u → J b < w) (hd : ∀ a, a < u → ¬ p ∣ f a (J a)) (hz : ∀ a b, a < u → b < u → a ≠ b → f a (J b) = 0) : ¬ mD p n w K f := fun h => by
  have h1 := h (List.range K) ((List.range K).map J) (by simp) (by simp) (fun r hr => by have := List.mem_range.1 hr; omega) fun c hc => by
    obtain ⟨x, hx, rfl⟩ := List.mem_map.1 hc
    exact hJ x (by have := List.mem_range.1 hx; omega)
  have e : dtL f (List.range K) ((List.range K).map J) = prS (fun a => f a (J a)) K := by
    rw [← dt_diag]
    unfold dtL
    rw [List.length_range]
    refine dtM_congr _ fun a b ha hb => ?_
    rw [gD_map (by simpa using hb)]
    have g : ∀ x, x < K → (List.range K).getD x 0 = x := fun x hx => by simp [List.getD_eq_getElem?_getD, hx]
    rw [g a ha, g b hb]
    by_cases e : a = b
    · rw [if_pos e, e]
    · rw [if_neg e]; exact hz a b (by omega) (by omega) e
  rw [e] at h1
  have key : ∀ m, m ≤ K → ¬ p ∣ prS (fun a => f a (J a)) m := by
    intro m
    induction m with
    | zero => intro _ hh; exact (field_fp hp).1 hh
    | succ m ih =>
      intro hm hh
      refine ih (by omega) ?_
      have h2 : p ∣ f m (J m) * prS (fun a => f a (J a)) m := by
        have e3 : prS (fun a => f a (J a)) (m + 1) = prS (fun a => f a (J a)) m * f m (J m) ∨ prS (fun a => f a (J a)) (m + 1) = f m (J m) * prS (fun a => f a (J a)) m := by
          first
            | exact .inl rfl
            | exact .inr rfl
        rcases e3 with e3 | e3
        · rw [e3, Int.mul_comm] at hh; exact hh
        · rw [e3] at hh; exact hh
      exact unit_dvd ((field_fp hp).2 _ (hd m (by omega))) h2
  exact key K (Nat.le_refl K) h1
/-- Minors of K rows are 0 modulo p where K is beyond the rank. -/
theorem mD_rank {p : Int} {w : Nat} {M : List (List Int)} (hp : fpP p) (hM : ∀ i, i < M.length → (atR M i).length = w) (K : Nat) : mD p M.length w K (ent M) ↔ (redS p (modM p M) w).2.length < K := by
  have hok := okM_mod (p := p) hp hM
  have h1 : mD p M.length w K (ent M) ↔ mD p M.length w K (ent (modM p M)) := by
    have hc : ∀ a b, a < M.length → b < w → p ∣ ent (modM p M) a b - ent M a b := fun a b ha hb => by
      unfold ent
      rw [modM_at ha, rowF_at (by rw [hM a ha]; exact hb)]
      exact mod_sub _ _
    exact ⟨mD_cong fun a b ha hb => cong_symm (hc a b ha hb), mD_cong hc⟩
  have h2 := mD_redS hp hok (K := K) w (Nat.le_refl w)
  rw [modM_len] at h2
  rw [h1, h2]
  have hr := rrI_all hp hok w (Nat.le_refl w)
  have hl : (redS p (modM p M) w).1.length = M.length := by rw [hr.base.hl, modM_len]
  constructor
  · intro h
    refine Nat.lt_of_not_le fun hK => ?_
    refine mD_low hp hK (by rw [← hl]; exact hr.base.hp) (fun q => (at0 (redS p (modM p M) w).2 q).toNat) (fun b hb => ?_) (fun a ha => ?_) (fun a b ha hb hne => ?_) h
    · have := hr.base.hj b hb
      show (at0 (redS p (modM p M) w).2 b).toNat < w
      omega
    · show ¬ p ∣ at0 (atR (redS p (modM p M) w).1 a) (at0 (redS p (modM p M) w).2 a).toNat
      rw [hr.one a ha]
      exact (field_fp hp).1
    · show at0 (atR (redS p (modM p M) w).1 a) (at0 (redS p (modM p M) w).2 b).toNat = 0
      have := hr.base.hp
      exact hr.zer b hb a (by omega) hne
  · intro hK
    refine mD_high hK fun a b ha han hb => ?_
    show p ∣ at0 (atR (redS p (modM p M) w).1 a) b
    rw [hr.low a ha (by omega) b hb]
    exact Int.dvd_zero p
/-- The divisors that p does not divide. -/
def cntU (p : Int) (R : List Int) : Nat := (R.filter fun d => decide (¬ p ∣ d)).length
theorem cntU_chain {p : Int} : ∀ (R : List Int), (∀ i j, i < j → j < R.length → p ∣ at0 R i → p ∣ at0 R j) → ∀ i, i < R.length → (p ∣ at0 R i ↔ cntU p R ≤ i)
  | [], _, i, hi => by simp at hi
  | a :: R, h, i, hi => by
    have hs : ∀ k, at0 (a :: R) (k + 1) = at0 R k := fun k => by simp [at0]
    have h0 : at0 (a :: R) 0 = a := by simp [at0]
    have ih := cntU_chain R fun i j hij hj hd => by
      have := h (i + 1) (j + 1) (by omega) (by simp; omega)
      rw [hs, hs] at this
      exact this hd
    by_cases ha : p ∣ a
    · have hall : ∀ k, k < R.length → p ∣ at0 R k := fun k hk => by
        have := h 0 (k + 1) (by omega) (by simp; omega)
        rw [h0, hs] at this
        exact this ha
      have hz : cntU p (a :: R) = 0 := by
        unfold cntU
        rw [List.length_eq_zero_iff, List.filter_eq_nil_iff]
        intro x hx
        obtain ⟨k, hk, rfl⟩ := List.getElem_of_mem hx
        have : p ∣ (a :: R)[k] := by
          cases k with
          | zero => exact ha
          | succ k =>
            have h2 := hall k (by simp at hk; omega)
            rw [at0_eq (by simp at hk; omega)] at h2
            exact h2
        simp [this]
      rw [hz]
      refine ⟨fun _ => Nat.zero_le _, fun _ => ?_⟩
      cases i with
      | zero => rw [h0]; exact ha
      | succ i => rw [hs]; exact hall i (by simp at hi; omega)
    · have hz : cntU p (a :: R) = cntU p R + 1 := by
        unfold cntU
        rw [List.filter_cons, if_pos (by simpa using ha)]
        rfl
      rw [hz]
      cases i with
      | zero => rw [h0]; exact ⟨fun h => absurd h ha, fun h => by omega⟩
      | succ i =>
        rw [hs, ih i (by simp at hi; omega)]
        omega
theorem cntU_le (p : Int) (R : List Int) : cntU p R ≤ R.length := List.length_filter_le _ _
/-- Of a diagonal with a chain of divisors. -/
theorem mD_diag {p : Int} {n w : Nat} {F : Nat → Nat → Int} {R : List Int} (hp : fpP p) (h : smF n w F R) (K : Nat) : mD p n w K F ↔ cntU p R < K := by
  have hdv : ∀ i, i < R.length → (p ∣ at0 R i ↔ p ∣ F i i) := fun i hi => by
    rw [(h.v i hi).1]
    exact Int.dvd_natAbs
  have hch := cntU_chain (p := p) R fun i j hij hj hd => by
    rw [hdv j hj]
    exact Int.dvd_trans ((hdv i (by omega)).1 hd) (h.c i j hij hj)
  have hle := cntU_le p R
  have l1 := h.l1
  have l2 := h.l2
  constructor
  · intro hm
    refine Nat.lt_of_not_le fun hK => ?_
    refine mD_low hp hK (by omega) (fun b => b) (fun b hb => by omega) (fun a ha => ?_) (fun a b ha hb hne => ?_) hm
    · rw [← hdv a (by omega), hch a (by omega)]
      omega
    · rw [h.d a b (by omega) (by omega), if_neg fun e => hne e.1]
  · intro hK
    refine mD_high hK fun a b ha han hb => ?_
    rw [h.d a b han hb]
    by_cases e : a = b ∧ a < R.length
    · rw [if_pos e, ← hdv a e.2, hch a e.2]
      exact ha
    · rw [if_neg e]
      exact Int.dvd_zero p
/-- The rank modulo p is the number of divisors that p does not divide. -/
theorem rnk_smith {p : Int} {M : List (List Int)} {R : List Int} (hp : fpP p) (hM : ∀ i, i < M.length → (atR M i).length = (atR M 0).length) (h : smV M.length (wdM M) (ent M) = some R) : rnk p M = cntU p R := by
  obtain ⟨q, hq⟩ := smV_iff.1 h
  obtain ⟨F, hF, he⟩ := smR_spec q (ent M) 0 [] R (Nat.zero_le _) (Nat.zero_le _) ⟨fun a b _ _ h => by omega, rfl, fun i hi => by omega, fun i j _ hj => by omega, fun i hi => by omega⟩ hq
  have key : ∀ K, (rnk p M < K ↔ cntU p R < K) := fun K => by
    have h1 := he p K p
    rw [dv_self, dv_self] at h1
    have h2 := mD_rank hp hM K
    exact (h2.symm.trans h1).trans (mD_diag hp hF K)
  have k1 := key (cntU p R + 1)
  have k2 := key (rnk p M + 1)
  omega
end Go.Proofs.YtkoljbncokmeaaaDoor
namespace Go.Proofs.YtkoljbncokmeaaaDoor
open Go Go.RowKit
set_option maxRecDepth 1000000
set_option linter.unusedSimpArgs false
set_option linter.unusedVariables false
set_option maxHeartbeats 1000000
theorem dup_front : ∀ {l : List Nat}, ¬ l.Nodup → ∃ c l', l.Perm (c :: c :: l')
  | [], h => absurd List.nodup_nil h
  | a :: l, h => by
    by_cases ha : a ∈ l
    · exact ⟨a, l.erase a, (List.perm_cons_erase ha).cons a⟩
    · have hl : ¬ l.Nodup := fun hl => h (List.nodup_cons.2 ⟨ha, hl⟩)
      obtain ⟨c, l', hp⟩ := dup_front hl
      refine ⟨c, a :: l', (hp.cons a).trans ?_⟩
      exact (List.Perm.swap c a (c :: l')).trans ((List.Perm.swap c a l').cons c)
theorem dtL_cdup {f : Nat → Nat → Int} {R C : List Nat} (hl : R.length = C.length) (h : ¬ C.Nodup) : dtL f R C = 0 := by
  obtain ⟨c, l', hp⟩ := dup_front h
  have h1 := dtL_cperm (M := f) (R := R) hp [] (by simpa using hl.symm)
  simp only [List.nil_append] at h1
  have hlen : R.length = l'.length + 2 := by rw [hl, hp.length_eq]; rfl
  have h2 : dtL f R (c :: c :: l') = 0 := by
    have hs := dt_cswap R.length (fun a b => f (R.getD a 0) ((c :: c :: l').getD b 0)) 0 (by omega)
    have e : (fun a b => (fun a b => f (R.getD a 0) ((c :: c :: l').getD b 0)) a (swN 0 b)) = fun a b => f (R.getD a 0) ((c :: c :: l').getD b 0) := by
      funext a b
      show f (R.getD a 0) ((c :: c :: l').getD (swN 0 b) 0) = _
      rcases b with _ | _ | b
      · rfl
      · rfl
      · rw [swN_ne (by omega) (by omega)]
    have hs2 : dtM R.length (fun a b => f (R.getD a 0) ((c :: c :: l').getD b 0)) = - dtM R.length (fun a b => f (R.getD a 0) ((c :: c :: l').getD b 0)) := Eq.trans (congrArg (dtM R.length) e.symm) hs
    unfold dtL
    omega
  rw [h2] at h1
  omega
/-- Divisors are at most as great as the minors. -/
theorem smith_le {n w T : Nat} {f F : Nat → Nat → Int} {R : List Int} (hB : mB T n w f) (hF : smF n w F R) (he : ∀ (top : Int) (K : Nat) (t : Int), dv top n w K t f ↔ dv top n w K t F) {i : Nat} (hi : i < R.length) : (at0 R i).natAbs ≤ T := by
  refine Nat.le_of_not_lt fun hlt => ?_
  have l1 := hF.l1
  have l2 := hF.l2
  have h0 : ∀ (t : Int) (K : Nat) (g : Nat → Nat → Int), dv 0 n w K t g ↔ mD t n w K g := fun t K g => ⟨dv_mD, fun h Z => mD_congr (fun a b _ _ => by simp) h⟩
  -- the divisor divides all minors of i + 1 rows, so they are 0
  have h1 : mD (F i i) n w (i + 1) F := by
    intro A C hA hC hr hc
    by_cases hn : A.Nodup
    · obtain ⟨m, hm, him⟩ := nodup_big hn (show i < A.length by omega)
      refine Int.dvd_trans (prL_mem (e := fun a => if i ≤ a then F i i else 1) hm ?_) (dtL_rowdvd (by omega) fun a ha b hb => ?_)
      · show F i i ∣ if i ≤ m then F i i else 1
        rw [if_pos him]
        exact Int.dvd_refl _
      · show (if i ≤ a then F i i else 1) ∣ F a b
        by_cases e : i ≤ a
        · rw [if_pos e, hF.d a b (hr a ha) (hc b hb)]
          by_cases e2 : a = b ∧ a < R.length
          · rw [if_pos e2]
            by_cases e3 : i = a
            · rw [e3]; exact Int.dvd_refl _
            · exact hF.c i a (by omega) e2.2
          · rw [if_neg e2]; exact Int.dvd_zero _
        · rw [if_neg e]; exact Int.one_dvd _
    · rw [dtL_dup hn]
      exact Int.dvd_zero _
  have h2 := (h0 _ _ _).1 ((he 0 (i + 1) (F i i)).2 ((h0 _ _ _).2 h1))
  have h3 : mD 0 n w (i + 1) f := fun A C hA hC hr hc => by
    have hz : dtL f A C = 0 := by
      by_cases hn : A.Nodup
      · by_cases hn2 : C.Nodup
        · have hb := hB A C (by omega) hn hn2 hr hc
          obtain ⟨q, hq⟩ := h2 A C hA hC hr hc
          have hv := (hF.v i hi).1
          rw [hv, Int.natAbs_natCast] at hlt
          by_cases hq0 : q = 0
          · rw [hq, hq0, Int.mul_zero]
          · exfalso
            rw [hq, Int.natAbs_mul] at hb
            have : 1 ≤ q.natAbs := by omega
            have := Nat.le_mul_of_pos_right (F i i).natAbs this
            omega
        · exact dtL_cdup (by omega) hn2
      · exact dtL_dup hn
    rw [hz]
    exact Int.dvd_zero 0
  have h4 := (h0 _ _ _).1 ((he 0 (i + 1) 0).1 ((h0 _ _ _).2 h3)) (List.range (i + 1)) (List.range (i + 1)) (by simp) (by simp) (fun r hr => by have := List.mem_range.1 hr; omega) fun c hc => by have := List.mem_range.1 hc; omega
  have e : dtL F (List.range (i + 1)) (List.range (i + 1)) = prS (fun a => F a a) (i + 1) := by
    rw [dtL_diag (d := fun a => F a a) List.nodup_range fun a ha b hb => ?_]
    · exact prL_range _ _
    · have := List.mem_range.1 ha
      have := List.mem_range.1 hb
      rw [hF.d a b (by omega) (by omega)]
      by_cases e : a = b
      · rw [if_pos ⟨e, by omega⟩, if_pos e]
      · rw [if_neg fun h => e h.1, if_neg e]
  rw [e, Int.zero_dvd] at h4
  have key : ∀ m, m ≤ i + 1 → prS (fun a => F a a) m ≠ 0 := by
    intro m
    induction m with
    | zero => intro _ hh; exact absurd hh (by simp [prS])
    | succ m ih =>
      intro hm hh
      have h5 := ih (by omega)
      have h6 := (hF.v m (by omega)).2
      simp only [prS] at hh
      rcases Int.mul_eq_zero.1 hh with h7 | h7
      · first
          | exact h5 h7
          | exact h6 h7
      · first
          | exact h6 h7
          | exact h5 h7
  exact key _ (Nat.le_refl _) h4
/-- The divisors of a border, and its ranks. -/
theorem bsm_spec {q : Int → Prop} {k : Nat} (hk : 1 ≤ k ∧ k ≤ 6) : (∀ d ∈ bsm (szS q ((k : Int) - 1)) (szS q k), d = 1 ∨ d = 2) ∧ ∀ p, fpP p → rkZ p q k = cntU p (bsm (szS q ((k : Int) - 1)) (szS q k)) := by
  have hs := (bsm_sz (q := q) hk).1
  by_cases h0 : szS q ((k : Int) - 1) = []
  · rw [h0, bsm_nil]
    refine ⟨by simp, fun p hp => ?_⟩
    unfold rkZ
    rw [h0]
    show ((rnk p [] : Nat) : Int) = _
    rw [rnk_nil]
    rfl
  have hpos := List.length_pos_iff.2 h0
  obtain ⟨M, hM⟩ : ∃ M, sgnM (szS q ((k : Int) - 1)) (szS q k) = M := ⟨_, rfl⟩
  obtain ⟨R, hR⟩ : ∃ R, bsm (szS q ((k : Int) - 1)) (szS q k) = R := ⟨_, rfl⟩
  have hrow : ∀ i, i < M.length → (atR M i).length = (atR M 0).length := fun i hi => by
    rw [← hM] at hi ⊢
    rw [sgnM_rows i hi, sgnM_rows 0 (by omega)]
  have hmB : mB 2 M.length (wdM M) (ent M) := by
    have h1 := bor_mB (k := k) hk (R := szS q ((k : Int) - 1)) (C := szS q k) (setsOf_nodup _) (setsOf_nodup _) (fun r hr => by obtain ⟨a, _, b⟩ := mem_szS.1 hr; exact ⟨a, b⟩) (fun r hr => by obtain ⟨a, _, b⟩ := mem_szS.1 hr; exact ⟨a, b⟩)
    have e1 : M.length = (szS q ((k : Int) - 1)).length := by rw [← hM, sgnM_len]
    have e2 : wdM M = (szS q k).length := by
      unfold wdM
      rw [← hM, sgnM_at hpos]
      simp
    rw [e1, e2, ← hM]
    exact h1
  rw [hM, hR] at hs
  have hcase : R = [] ∨ smV M.length (wdM M) (ent M) = some R := by
    unfold smsV at hs
    by_cases hc : M ≠ [] ∧ smiM M
    · rw [if_pos hc] at hs; exact .inr hs
    · rw [if_neg hc] at hs
      exact .inl (Option.some.inj hs).symm
  obtain ⟨S, hS, hSi⟩ := smith2 hmB
  have hnn : M ≠ [] := fun e => by
    have : M.length = 0 := by rw [e]; rfl
    rw [← hM, sgnM_len] at this
    omega
  have hsm : smV M.length (wdM M) (ent M) = some R := by
    unfold smsV at hs
    by_cases hc : M ≠ [] ∧ smiM M
    · rw [if_pos hc] at hs; exact hs
    · refine absurd ⟨hnn, ?_⟩ hc
      rw [← hM]
      exact bor_smi hk (setsOf_nodup _) (setsOf_nodup _) (fun r hr => by obtain ⟨a, _, b⟩ := mem_szS.1 hr; exact ⟨a, b⟩) (fun r hr => by obtain ⟨a, _, b⟩ := mem_szS.1 hr; exact ⟨a, b⟩) hpos
  rw [hR]
  obtain ⟨qq, hq⟩ := smV_iff.1 hsm
  obtain ⟨F, hF, he⟩ := smR_spec qq (ent M) 0 [] R (Nat.zero_le _) (Nat.zero_le _) ⟨fun a b _ _ h => by omega, rfl, fun i hi => by omega, fun i j _ hj => by omega, fun i hi => by omega⟩ hq
  refine ⟨fun d hd => ?_, fun p hp => ?_⟩
  · obtain ⟨i, hi, e⟩ := List.getElem_of_mem hd
    have h1 := smith_le hmB hF he hi
    have h2 := hF.v i hi
    rw [at0_eq hi, e] at h1 h2
    omega
  · unfold rkZ
    rw [hM, rnk_smith hp hrow hsm]
theorem cntU_all {R : List Int} (h : ∀ d ∈ R, d = 1 ∨ d = 2) : cntU 3 R = R.length := by
  unfold cntU
  rw [List.filter_eq_self.2 fun d hd => by
    rcases h d hd with rfl | rfl
    · decide
    · decide]
theorem rkS_three (q : Int → Prop) {k : Nat} (hk : k ≤ 7) : rkS q k = rkZ 3 q k := by
  by_cases h0 : k = 0
  · subst h0
    exact (rkS_low q).trans (rkZ_low 3 q).symm
  · by_cases h7 : k = 7
    · subst h7
      have := (topZ_bnd q).2
      rw [rkS_high q (by omega), rkZ_high 3 q (by omega)]
    · obtain ⟨h1, h2⟩ := bsm_spec (q := q) (k := k) ⟨by omega, by omega⟩
      unfold rkS
      rw [h2 3 (by right; left; rfl), cntU_all h1]
/-- Free parts are not negative. -/
theorem frV_nn {q : Int → Prop} (hq : ∀ s t, isS s → isS t → subS s t → q t → q s) {k : Nat} (hk : k ≤ 6) : 0 ≤ frV q k ∧ frV q k ≤ 20 := by
  have h1 : frV q k = holV 3 q k := by
    unfold frV holV
    rw [rkS_three q (show k ≤ 7 by omega)]
    have := rkS_three q (show k + 1 ≤ 7 by omega)
    rw [show ((k + 1 : Nat) : Int) = (k : Int) + 1 by omega] at this
    rw [this]
  have h2 := hol_nn (p := 3) (q := q) (by right; left; rfl) hq k
  have h3 := szl_len (k := k) hk (R := szS q k) (setsOf_nodup _) fun r hr => by obtain ⟨a, _, b⟩ := mem_szS.1 hr; exact ⟨a, b⟩
  have h4 := (rkS_bnd q k).1
  have h5 := (rkS_bnd q (k + 1)).1
  refine ⟨by omega, ?_⟩
  unfold frV
  omega
end Go.Proofs.YtkoljbncokmeaaaDoor
namespace Go.Proofs.YtkoljbncokmeaaaDoor
open Go Go.RowKit
set_option maxRecDepth 1000000
set_option linter.unusedSimpArgs false
set_option linter.unusedVariables false
set_option maxHeartbeats 1000000
def sc_s_FreeHoles_L0 : SC := (.seq (.seq (.reg [⟨(some 11), none, (.mov (.t 6))⟩, ⟨(some 12), none, (.mov (.t 4))⟩, ⟨(some 13), none, (.len (.t 12))⟩, ⟨(some 14), none, (.bin false .lss (.t 11) (.t 13))⟩]) (.cond (.t 14) .skip (.exit 0))) (.seq (.block 1 (.seq (.reg [⟨(some 7), none, (.mov (.c (.int .i64 0)))⟩]) (.seq (.seq (.reg [⟨(some 17), none, (.mov (.t 6))⟩, ⟨(some 18), none, (.bin false .add (.t 17) (.c (.int .i64 1)))⟩, ⟨(some 19), none, (.mov (.t 4))⟩, ⟨(some 20), none, (.len (.t 19))⟩, ⟨(some 21), none, (.bin false .lss (.t 18) (.t 20))⟩]) (.cond (.t 21) (.reg [⟨(some 22), none, (.ld (some 2) .undef (.t 1))⟩, ⟨(some 23), none, (.mov (.t 6))⟩, ⟨(some 24), none, (.bin false .add (.t 23) (.c (.int .i64 1)))⟩, ⟨(some 25), none, (.call 27 [(.t 22), (.t 24)])⟩, ⟨(some 26), none, (.call 26 [(.t 25)])⟩, ⟨(some 27), none, (.len (.t 26))⟩, ⟨(some 7), none, (.mov (.t 27))⟩]) .skip)) (.seq (.reg [⟨(some 28), none, (.mov (.t 3))⟩, ⟨(some 29), none, (.mov (.t 4))⟩, ⟨(some 30), none, (.mov (.t 6))⟩, ⟨(some 31), none, (.idx 1 (.t 29) (.t 30))⟩, ⟨(some 32), none, (.ld none (.int .i64 0) (.t 31))⟩, ⟨(some 33), none, (.mov (.t 5))⟩, ⟨(some 34), none, (.bin false .sub (.t 32) (.t 33))⟩, ⟨(some 35), none, (.mov (.t 7))⟩, ⟨(some 36), none, (.bin false .sub (.t 34) (.t 35))⟩, ⟨(some 37), none, (.mks 1 1 [(.int .i64 0)] [(0, (1, (.t 36)))])⟩, ⟨(some 38), none, (.app 1 8 (.t 28) (.t 37))⟩, ⟨(some 3), none, (.mov (.t 38))⟩]) (.reg [⟨(some 39), none, (.mov (.t 7))⟩, ⟨(some 5), none, (.mov (.t 39))⟩]))))) (.reg [⟨(some 15), none, (.mov (.t 6))⟩, ⟨(some 16), none, (.bin false .add (.t 15) (.c (.int .i64 1)))⟩, ⟨(some 6), none, (.mov (.t 16))⟩])))
def sc_s_FreeHoles : SC := (.seq (.reg [⟨(some 1), none, (.box (.t 0))⟩, ⟨(some 2), none, (.mov (.c .nil))⟩]) (.seq (.reg [⟨(some 8), none, (.mks 0 1 [] [])⟩, ⟨(some 3), none, (.mov (.t 8))⟩]) (.seq (.reg [⟨(some 9), none, (.ld (some 2) .undef (.t 1))⟩, ⟨(some 10), none, (.call 25 [(.t 9)])⟩, ⟨(some 4), none, (.mov (.t 10))⟩]) (.seq (.reg [⟨(some 5), none, (.mov (.c (.int .i64 0)))⟩]) (.seq (.seq (.reg [⟨(some 6), none, (.mov (.c (.int .i64 0)))⟩]) (.block 0 (.loop sc_s_FreeHoles_L0))) (.seq (.reg [⟨(some 40), none, (.mov (.t 3))⟩, ⟨(some 2), none, (.mov (.t 40))⟩]) .ret))))))
theorem code_s_FreeHoles : fnCode Tryd.prog [] 11 = some (41, sc_s_FreeHoles, [(2, none)]) := by kernel_rfl
theorem fn_s_FreeHoles : FnOk Tryd.prog 11 F_s_FreeHoles := by
  have env := (((envNil_ok (P := Tryd.prog)).add fn_s_FaceCounts).add fn_s_l13Border).add fn_s_SmithOf
  refine fn_ok code_s_FreeHoles mixed env ?_
  intro args r h hb
  obtain ⟨_, ⟨n, l⟩, rfl, h1, h4⟩ := F1_inv h
  cases dC_inv h1
  cases h4
  clear h
  refine ⟨by simp, fun w0 U0 L0 N0 => ?_⟩
  clear hb
  simp only
  have hFF : F_s_FaceCounts [.agg [.int .i64 n, .list 1 (ints l)]] = some (.own 1 (ints (fctL n l))) := by simp [F_s_FaceCounts]
  have hdef : ∃ m : Nat, m ≤ 7 ∧ (fctL n l).length = m ∧ (frL n l).length = m ∧ ∀ k, k < m → cplx n l ∧ topZ (faceS l) + 1 = m ∧ at0 (fctL n l) k = ((szS (faceS l) k).length : Nat) ∧ at0 (frL n l) k = frV (faceS l) k := by
    by_cases hc : cplx n l
    · have htb := topZ_bnd (faceS l)
      have e1 : fctL n l = rowF (topZ (faceS l) + 1).toNat (fun z => ((szS (faceS l) z).length : Nat)) := if_pos hc
      have e2 : frL n l = frZ (faceS l) := if_pos hc
      refine ⟨(topZ (faceS l) + 1).toNat, by omega, by rw [e1, rowF_len], by rw [e2]; unfold frZ; rw [rowF_len], fun k hk => ⟨hc, by omega, by rw [e1, rowF_at hk], ?_⟩⟩
      rw [e2]
      exact rowF_at hk
    · have e1 : fctL n l = [] := if_neg hc
      have e2 : frL n l = [] := if_neg hc
      exact ⟨0, by omega, by rw [e1]; rfl, by rw [e2]; rfl, fun k hk => by omega⟩
  obtain ⟨m, hm7, hFl, hOl, hk⟩ := hdef
  generalize fctL n l = F at *
  generalize frL n l = O at *
  simp -implicitDefEqProofs [sc_s_FreeHoles, hFF]
  refine loopI env mixed (fun k : Nat => [(1, .pt 0 0), (3, .sl 1 1 0 k), (4, .sl 2 1 0 F.length), (5, .int .i64 (rkS (faceS l) k)), (6, .int .i64 (k : Int))]) (fun k => ([(2, ints F), (1, ints (O.take k)), (0, [.int .i64 n, .list 1 (ints l)])], 3)) (fun k => k ≤ m) (fun k => m - k) 0 (by simp) (SubI.slots (by simp) (by simp [rkS_low])) ?_
  intro k hkm
  by_cases hlt : k < m
  · obtain ⟨hc, ht, hf, ho⟩ := hk k hlt
    have hltF : k < F.length := by omega
    have b1 := rkS_bnd (faceS l) k
    have b2 := rkS_bnd (faceS l) ((k : Int) + 1)
    have b3 := szS_len (faceS l) k
    have hv : frV (faceS l) k = ((szS (faceS l) k).length : Nat) - rkS (faceS l) k - rkS (faceS l) (k + 1) := rfl
    have hw1 : IntKind.i64.wrap ((k : Int) + 1) = (k : Int) + 1 := wrapI _ (by omega) (by omega)
    have e : O.take (k + 1) = O.take k ++ [((szS (faceS l) k).length : Nat) - rkS (faceS l) k - rkS (faceS l) (k + 1)] := by rw [take_at (by omega), ho, hv]
    have gl : (O.take k).length = k := by simp; omega
    by_cases hnx : k + 1 < m
    · have hF1 : F_i_BorderMatrix [.agg [.int .i64 n, .list 1 (ints l)], .int .i64 ((k : Int) + 1)] = some (.own 1 (rowsV (borM n l ((k : Int) + 1)))) := by
        simp only [F_i_BorderMatrix, F2_mk, dC_agg, dI_int, Option.bind_some]
        rw [if_pos ⟨hc, by omega, by omega⟩]
      have hbm : borM n l ((k : Int) + 1) = sgnM (szS (faceS l) ((k : Int) + 1 - 1)) (szS (faceS l) ((k : Int) + 1)) := by
        unfold borM
        rw [szS_fos hc, szS_fos hc]
      have hF2 : F_s_SmithOf [.list 1 (rowsL (borM n l ((k : Int) + 1)))] = some (.own 1 (ints (bsm (szS (faceS l) ((k : Int) + 1 - 1)) (szS (faceS l) ((k : Int) + 1))))) := by
        have h1 := (bsm_sz (q := faceS l) (k := k + 1) ⟨by omega, by omega⟩).1
        rw [show ((k + 1 : Nat) : Int) = (k : Int) + 1 by omega] at h1
        rw [hbm]
        simp only [F_s_SmithOf, F1_mk, dLL_list, Option.bind_some]
        rw [h1]
        rfl
      have hnI : (k : Int) + 1 < (F.length : Int) := by omega
      have hrr : rkS (faceS l) ((k : Int) + 1) = ((bsm (szS (faceS l) ((k : Int) + 1 - 1)) (szS (faceS l) ((k : Int) + 1))).length : Nat) := rfl
      generalize borM n l ((k : Int) + 1) = B at *
      generalize bsm (szS (faceS l) ((k : Int) + 1 - 1)) (szS (faceS l) ((k : Int) + 1)) = S at *
      generalize szS (faceS l) k = s0 at *
      generalize hr2 : rkS (faceS l) ((k : Int) + 1) = r2 at *
      generalize hr1 : rkS (faceS l) k = r1 at *
      subst hrr
      generalize O.take k = g at *
      have hw2 : IntKind.i64.wrap ((s0.length : Int) - r1) = s0.length - r1 := wrapI _ (by omega) (by omega)
      have hw3 : IntKind.i64.wrap ((s0.length : Int) - r1 - S.length) = s0.length - r1 - S.length := wrapI _ (by omega) (by omega)
      simp -implicitDefEqProofs [sc_s_FreeHoles_L0, hltF, hw1, hnI, hF1, hF2, hf, hw2, hw3, gl]
      refine ⟨by omega, ?_⟩
      refine Again.of (k + 1) (by omega) (by omega) (SubI.ren (fun m => if m = 0 then some 0 else if m = 1 then some 6 else if m = 2 then some 2 else none) ?_ ?_ ?_ (by simp) (by simp))
      · simp [subT, renV, ren1, hr2]
      · have htk : g.take k = g := List.take_of_length_le (by omega)
        simp [subH, e, renL, ren1, htk]
        rw [← ints_app]
        rfl
      · intro m hm
        simp only at hm
        rw [if_neg (by omega), if_neg (by omega), if_neg (by omega)]
    · have hr0 : rkS (faceS l) ((k : Int) + 1) = 0 := rkS_high _ (by omega)
      have hnI : ¬ ((k : Int) + 1 < (F.length : Int)) := by omega
      rw [hr0, Int.sub_zero] at e
      generalize szS (faceS l) k = s0 at *
      generalize hr1 : rkS (faceS l) k = r1 at *
      generalize O.take k = g at *
      have hw2 : IntKind.i64.wrap ((s0.length : Int) - r1) = s0.length - r1 := wrapI _ (by omega) (by omega)
      simp -implicitDefEqProofs [sc_s_FreeHoles_L0, hltF, hw1, hnI, hf, hw2, gl]
      refine ⟨by omega, ?_⟩
      refine Again.of (k + 1) (by omega) (by omega) (SubI.ren (fun m => if m = 0 then some 0 else if m = 1 then some 4 else if m = 2 then some 2 else none) ?_ ?_ ?_ (by simp) (by simp))
      · simp [subT, renV, ren1, hr0]
      · have htk : g.take k = g := List.take_of_length_le (by omega)
        simp [subH, e, renL, ren1, htk]
        rw [← ints_app]
        rfl
      · intro m hm
        simp only at hm
        rw [if_neg (by omega), if_neg (by omega), if_neg (by omega)]
  · have : k = m := by omega
    subst this
    have htk : O.take k = O := List.take_of_length_le (by omega)
    have hltF : ¬ k < F.length := by omega
    simp -implicitDefEqProofs [sc_s_FreeHoles_L0, hltF, hFl, htk]
    try omega
end Go.Proofs.YtkoljbncokmeaaaDoor
namespace Go.Proofs.YtkoljbncokmeaaaDoor
open Go Go.RowKit
set_option maxRecDepth 1000000
set_option linter.unusedSimpArgs false
set_option linter.unusedVariables false
set_option maxHeartbeats 1000000
def sc_s_TwistsOf_L0 : SC := (.seq (.seq (.reg [⟨(some 23), none, (.mov (.t 7))⟩, ⟨(some 24), none, (.mov (.t 6))⟩, ⟨(some 25), none, (.len (.t 24))⟩, ⟨(some 26), none, (.bin false .lss (.t 23) (.t 25))⟩]) (.cond (.t 26) .skip (.exit 0))) (.seq (.block 1 (.seq (.reg [⟨(some 29), none, (.mov (.t 6))⟩, ⟨(some 30), none, (.mov (.t 7))⟩, ⟨(some 31), none, (.idx 1 (.t 29) (.t 30))⟩, ⟨(some 32), none, (.ld none (.int .i64 0) (.t 31))⟩, ⟨(some 33), none, (.bin false .gtr (.t 32) (.c (.int .i64 1)))⟩]) (.cond (.t 33) (.reg [⟨(some 34), none, (.mov (.t 5))⟩, ⟨(some 35), none, (.mov (.t 6))⟩, ⟨(some 36), none, (.mov (.t 7))⟩, ⟨(some 37), none, (.idx 1 (.t 35) (.t 36))⟩, ⟨(some 38), none, (.ld none (.int .i64 0) (.t 37))⟩, ⟨(some 39), none, (.mks 1 1 [(.int .i64 0)] [(0, (1, (.t 38)))])⟩, ⟨(some 40), none, (.app 1 8 (.t 34) (.t 39))⟩, ⟨(some 5), none, (.mov (.t 40))⟩]) .skip))) (.reg [⟨(some 27), none, (.mov (.t 7))⟩, ⟨(some 28), none, (.bin false .add (.t 27) (.c (.int .i64 1)))⟩, ⟨(some 7), none, (.mov (.t 28))⟩])))
def sc_s_TwistsOf : SC := (.seq (.reg [⟨(some 2), none, (.box (.t 0))⟩, ⟨(some 4), none, (.mov (.c .nil))⟩]) (.seq (.reg [⟨(some 8), none, (.mks 0 1 [] [])⟩, ⟨(some 5), none, (.mov (.t 8))⟩]) (.seq (.seq (.reg [⟨(some 9), none, (.ld (some 2) .undef (.t 2))⟩, ⟨(some 10), none, (.call 10 [(.t 9)])⟩, ⟨(some 11), none, (.un .not (.t 10))⟩, ⟨(some 12), none, (.mov (.t 11))⟩, ⟨(some 13), (some (12, false)), (.mov (.t 1))⟩, ⟨(some 14), (some (12, false)), (.call 24 [(.t 13), (.c (.int .i64 0)), (.c (.int .i64 5))])⟩, ⟨(some 15), (some (12, false)), (.un .not (.t 14))⟩, ⟨(some 16), none, (.pick (.t 12) (.c (.bool true)) (.t 15))⟩]) (.cond (.t 16) (.seq (.reg [⟨(some 17), none, (.mov (.t 5))⟩, ⟨(some 4), none, (.mov (.t 17))⟩]) .ret) .skip)) (.seq (.reg [⟨(some 18), none, (.ld (some 2) .undef (.t 2))⟩, ⟨(some 19), none, (.mov (.t 1))⟩, ⟨(some 20), none, (.bin false .add (.t 19) (.c (.int .i64 1)))⟩, ⟨(some 21), none, (.call 27 [(.t 18), (.t 20)])⟩, ⟨(some 22), none, (.call 26 [(.t 21)])⟩, ⟨(some 6), none, (.mov (.t 22))⟩]) (.seq (.seq (.reg [⟨(some 7), none, (.mov (.c (.int .i64 0)))⟩]) (.block 0 (.loop sc_s_TwistsOf_L0))) (.seq (.reg [⟨(some 41), none, (.mov (.t 5))⟩, ⟨(some 4), none, (.mov (.t 41))⟩]) .ret))))))
theorem code_s_TwistsOf : fnCode Tryd.prog [] 13 = some (42, sc_s_TwistsOf, [(4, none)]) := by kernel_rfl
theorem fn_s_TwistsOf : FnOk Tryd.prog 13 F_s_TwistsOf := by
  have env := ((((envNil_ok (P := Tryd.prog)).add fn_s_IsComplex).add fn_s_l1In).add fn_s_l13Border).add fn_s_SmithOf
  refine fn_ok code_s_TwistsOf mixed env ?_
  intro args r h hb
  obtain ⟨_, _, ⟨n, l⟩, k, rfl, h1, h2, h4⟩ := F2_inv h
  cases dC_inv h1
  cases dI_inv h2
  cases h4
  clear h
  refine ⟨by simp, fun w0 U0 L0 N0 => ?_⟩
  clear hb
  simp only
  cases e0 : cplxB n l with
  | false =>
    have e : twL n l k = [] := if_neg fun h => by simp [cplxB_iff.2 h.1] at e0
    rw [e]
    simp -implicitDefEqProofs [sc_s_TwistsOf, F_s_IsComplex, e0]
  | true =>
  have hc := cplxB_iff.1 e0
  by_cases g1 : 0 ≤ k ∧ k ≤ 5
  rotate_left
  · have e : twL n l k = [] := if_neg fun h => g1 h.2
    have g2 : F_s_l1In [.int .i64 k, .int .i64 0, .int .i64 5] = some (.bool false) := by
      rw [← decide_eq_false g1]
      simp [F_s_l1In]
    rw [e]
    simp -implicitDefEqProofs [sc_s_TwistsOf, F_s_IsComplex, e0, g2]
  have g2 : F_s_l1In [.int .i64 k, .int .i64 0, .int .i64 5] = some (.bool true) := by
    rw [← decide_eq_true g1]
    simp [F_s_l1In]
  have hw1 : IntKind.i64.wrap (k + 1) = k + 1 := wrapI _ (by omega) (by omega)
  have hF1 : F_i_BorderMatrix [.agg [.int .i64 n, .list 1 (ints l)], .int .i64 (k + 1)] = some (.own 1 (rowsV (borM n l (k + 1)))) := by
    simp only [F_i_BorderMatrix, F2_mk, dC_agg, dI_int, Option.bind_some]
    rw [if_pos ⟨hc, by omega, by omega⟩]
  have hbm : borM n l (k + 1) = sgnM (szS (faceS l) k) (szS (faceS l) (k + 1)) := by
    unfold borM
    rw [szS_fos hc, szS_fos hc, show k + 1 - 1 = k by omega]
  have hF2 : F_s_SmithOf [.list 1 (rowsL (borM n l (k + 1)))] = some (.own 1 (ints (bsm (szS (faceS l) k) (szS (faceS l) (k + 1))))) := by
    have h1 := (bsm_sz (q := faceS l) (k := k.toNat + 1) ⟨by omega, by omega⟩).1
    rw [show ((k.toNat + 1 : Nat) : Int) = k + 1 by omega, show k + 1 - 1 = k by omega] at h1
    rw [hbm]
    simp only [F_s_SmithOf, F1_mk, dLL_list, Option.bind_some]
    rw [h1]
    rfl
  have hT : twL n l k = (bsm (szS (faceS l) k) (szS (faceS l) (k + 1))).filter fun d => decide (1 < d) := if_pos ⟨hc, g1⟩
  have hbl : (bsm (szS (faceS l) k) (szS (faceS l) (k + 1))).length ≤ 64 := by
    have := (bsm_len (szS (faceS l) k) (szS (faceS l) (k + 1))).1
    have := szS_len (faceS l) k
    omega
  rw [hT]
  generalize bsm (szS (faceS l) k) (szS (faceS l) (k + 1)) = S at *
  generalize borM n l (k + 1) = B at *
  simp -implicitDefEqProofs [sc_s_TwistsOf, F_s_IsComplex, e0, g2, hw1, hF1, hF2]
  refine loopI env mixed (fun j : Nat => [(5, .sl 1 1 0 ((S.take j).filter fun d => decide (1 < d)).length), (6, .sl 0 1 0 S.length), (7, .int .i64 (j : Int))]) (fun j => ([(1, ints ((S.take j).filter fun d => decide (1 < d))), (0, ints S)], 2)) (fun j => j ≤ S.length) (fun j => S.length - j) 0 (by simp) (SubI.ren (fun m => if m = 0 then some 3 else if m = 1 then some 1 else none) (by simp [subT, renV, ren1]) (by simp [subH, renL, ren1]) (fun m hm => by simp only at hm; rw [if_neg (by omega), if_neg (by omega)]) (by simp) (by simp)) ?_
  intro j hj
  by_cases hlt : j < S.length
  · have ft := filt_take hlt fun d => decide (1 < d)
    have fl := filt_le (S := S) j fun d => decide (1 < d)
    by_cases h1 : 1 < at0 S j
    · rw [if_pos (by simpa using h1)] at ft
      generalize hg : (S.take j).filter (fun d => decide (1 < d)) = g at *
      have htk : g.take g.length = g := List.take_length
      simp -implicitDefEqProofs [sc_s_TwistsOf_L0, hlt, h1]
      refine ⟨by omega, ?_⟩
      refine Again.of (j + 1) (by omega) (by omega) (SubI.ren (fun m => if m = 0 then some 0 else if m = 1 then some 3 else none) ?_ ?_ ?_ (by simp) (by simp))
      · simp (disch := omega) [subT, renV, ren1, wrapI, ft]
      · simp [subH, renL, ren1, ft]
        rw [← ints_app]
        rfl
      · intro m hm
        simp only at hm
        rw [if_neg (by omega), if_neg (by omega)]
    · rw [if_neg (by simpa using h1), List.append_nil] at ft
      generalize hg : (S.take j).filter (fun d => decide (1 < d)) = g at *
      simp -implicitDefEqProofs [sc_s_TwistsOf_L0, hlt, h1]
      exact Again.of (j + 1) (by omega) (by omega) (SubI.slots (by simp [ft]) (by simp (disch := omega) [wrapI, ft]))
  · have : j = S.length := by omega
    subst this
    rw [List.take_length]
    simp -implicitDefEqProofs [sc_s_TwistsOf_L0]
end Go.Proofs.YtkoljbncokmeaaaDoor
namespace Go.Proofs.YtkoljbncokmeaaaDoor
open Go Go.RowKit
set_option maxRecDepth 1000000
set_option linter.unusedSimpArgs false
set_option linter.unusedVariables false
set_option maxHeartbeats 1000000
/-- A text and then numbers, each behind a slash. -/
noncomputable def txS (t : ByteArray) (tw : List Int) : Nat → ByteArray
  | 0 => t
  | i + 1 => txS t tw i ++ (⟨⟨[47]⟩⟩ ++ decS (at0 tw i))
theorem decS_size {n : Int} (h0 : 0 ≤ n) (h : n < 100) : (decS n).size ≤ 2 := by
  by_cases h1 : n < 10
  · rw [decS_one h0 h1]
    show 1 ≤ 2
    omega
  · rw [decS_two (by omega) h, ba_size]
    show 1 + 1 ≤ 2
    omega
theorem txS_size {t : ByteArray} {tw : List Int} (h : ∀ i, i < tw.length → 0 ≤ at0 tw i ∧ at0 tw i < 100) : ∀ i, i ≤ tw.length → (txS t tw i).size ≤ t.size + 3 * i
  | 0, _ => Nat.le_refl _
  | i + 1, hi => by
    have h1 := txS_size (t := t) h i (by omega)
    have h2 := decS_size (h i (by omega)).1 (h i (by omega)).2
    show (txS t tw i ++ (⟨⟨[47]⟩⟩ ++ decS (at0 tw i))).size ≤ _
    rw [ba_size, ba_size]
    have h3 : (⟨⟨[47]⟩⟩ : ByteArray).size = 1 := rfl
    omega
noncomputable def ptS (n : Int) (l : List Int) (k : Nat) : ByteArray := txS (decS (at0 (frL n l) k)) (twL n l k) (twL n l k).length
noncomputable def psS (n : Int) (l : List Int) (i : Nat) : List ByteArray := (List.range i).map fun j => ptS n l (j + 1)
theorem psS_len (n : Int) (l : List Int) (i : Nat) : (psS n l i).length = i := by simp [psS]
theorem psS_succ (n : Int) (l : List Int) (i : Nat) : psS n l (i + 1) = psS n l i ++ [ptS n l (i + 1)] := by simp [psS, List.range_succ]
theorem jnS_size {m : List ByteArray} {B : Nat} (s : ByteArray) (h : ∀ i, i < m.length → (atS m i).size ≤ B) : ∀ i, i ≤ m.length → (jnS (m.take i) s).size ≤ i * (B + s.size)
  | 0, _ => by
    rw [List.take_zero, jnS_nil, ba_size0]
    omega
  | i + 1, hi => by
    have h1 := jnS_size s h i (by omega)
    have h2 := h i (by omega)
    rw [jn_step (by omega), ba_size, Nat.succ_mul]
    by_cases h0 : i = 0
    · rw [if_pos h0]; omega
    · rw [if_neg h0, ba_size]; omega
open Classical in
/-- The text of the holes. -/
noncomputable def htS (n : Int) (l : List Int) : ByteArray := if cplx n l then (if (frL n l).length ≤ 1 then ⟨⟨[45]⟩⟩ else jnS (psS n l ((frL n l).length - 1)) ⟨⟨[32]⟩⟩) else ⟨⟨[]⟩⟩
noncomputable def F_s_HolesText : List V → Option V := F1 dC fun c => some (.str (htS c.1 c.2))
structure htI (n : Int) (l : List Int) : Prop where
  len : (frL n l).length ≤ 7
  fr : ∀ k, k < (frL n l).length → 0 ≤ at0 (frL n l) k ∧ at0 (frL n l) k < 100
  tw : ∀ k : Nat, (twL n l k).length ≤ 64 ∧ ∀ i, i < (twL n l k).length → 0 ≤ at0 (twL n l k) i ∧ at0 (twL n l k) i < 100
  pt : ∀ k, k < (frL n l).length → (ptS n l k).size ≤ 200
  jn : ∀ i, i + 1 ≤ (frL n l).length → (jnS (psS n l i) ⟨⟨[32]⟩⟩).size ≤ 1000000
theorem ht_inv {n : Int} {l : List Int} (hc : cplx n l) : htI n l := by
  have htb := topZ_bnd (faceS l)
  have e2 : frL n l = frZ (faceS l) := if_pos hc
  have hlen : (frL n l).length = (topZ (faceS l) + 1).toNat := by rw [e2]; unfold frZ; rw [rowF_len]
  have hq : ∀ s t, isS s → isS t → subS s t → faceS l t → faceS l s := fun s t hs ht h hf => faceS_sub (cplx_isS hc) hs ht h hf
  have hfr : ∀ k, k < (frL n l).length → 0 ≤ at0 (frL n l) k ∧ at0 (frL n l) k < 100 := fun k hk => by
    have e : at0 (frL n l) k = frV (faceS l) k := by
      rw [e2]
      exact rowF_at (by omega)
    have := frV_nn hq (k := k) (by omega)
    omega
  have htw : ∀ k : Nat, (twL n l k).length ≤ 64 ∧ ∀ i, i < (twL n l k).length → 0 ≤ at0 (twL n l k) i ∧ at0 (twL n l k) i < 100 := fun k => by
    by_cases hk : k ≤ 5
    · have e : twL n l k = (bsm (szS (faceS l) k) (szS (faceS l) ((k : Int) + 1))).filter fun d => decide (1 < d) := if_pos ⟨hc, by omega, by omega⟩
      have hs := (bsm_spec (q := faceS l) (k := k + 1) ⟨by omega, by omega⟩).1
      rw [show ((k + 1 : Nat) : Int) = (k : Int) + 1 by omega, show (k : Int) + 1 - 1 = k by omega] at hs
      have hl := (bsm_len (szS (faceS l) k) (szS (faceS l) ((k : Int) + 1))).1
      have hl2 := szS_len (faceS l) k
      have hl3 := List.length_filter_le (fun d : Int => decide (1 < d)) (bsm (szS (faceS l) k) (szS (faceS l) ((k : Int) + 1)))
      rw [e]
      refine ⟨by omega, fun i hi => ?_⟩
      have hm := getD_mem' hi
      have := hs _ (List.mem_filter.1 hm).1
      omega
    · have e : twL n l k = [] := if_neg fun h => by have := h.2.2; omega
      rw [e]
      exact ⟨by simp, fun i hi => by simp at hi⟩
  have hpt : ∀ k, k < (frL n l).length → (ptS n l k).size ≤ 200 := fun k hk => by
    have h1 := decS_size (hfr k hk).1 (hfr k hk).2
    have h2 := txS_size (t := decS (at0 (frL n l) k)) (htw k).2 _ (Nat.le_refl _)
    have h3 := (htw k).1
    unfold ptS
    omega
  refine ⟨by omega, hfr, htw, hpt, fun i hi => ?_⟩
  have h1 := jnS_size (m := psS n l i) (B := 200) ⟨⟨[32]⟩⟩ (fun j hj => by
    rw [psS_len] at hj
    have e : atS (psS n l i) j = ptS n l (j + 1) := by simp [atS, psS, hj]
    rw [e]
    exact hpt _ (by omega)) (psS n l i).length (Nat.le_refl _)
  rw [List.take_length, psS_len] at h1
  have h3 : (⟨⟨[32]⟩⟩ : ByteArray).size = 1 := rfl
  rw [h3] at h1
  omega
theorem strs_snoc (m : List ByteArray) (x : ByteArray) : strs (m ++ [x]) = strs m ++ [.str x] := by simp [strs]
def sc_s_HolesText_L2 : SC := (.seq (.seq (.reg [⟨(some 29), none, (.mov (.t 8))⟩, ⟨(some 30), none, (.mov (.t 7))⟩, ⟨(some 31), none, (.len (.t 30))⟩, ⟨(some 32), none, (.bin false .lss (.t 29) (.t 31))⟩]) (.cond (.t 32) .skip (.exit 2))) (.seq (.block 3 (.reg [⟨(some 35), none, (.mov (.t 6))⟩, ⟨(some 36), none, (.bin false .add (.t 35) (.c (.str ⟨⟨[47]⟩⟩)))⟩, ⟨(some 37), none, (.mov (.t 7))⟩, ⟨(some 38), none, (.mov (.t 8))⟩, ⟨(some 39), none, (.idx 1 (.t 37) (.t 38))⟩, ⟨(some 40), none, (.ld none (.int .i64 0) (.t 39))⟩, ⟨(some 41), none, (.call 12 [(.t 40)])⟩, ⟨(some 42), none, (.bin false .add (.t 36) (.t 41))⟩, ⟨(some 6), none, (.mov (.t 42))⟩])) (.reg [⟨(some 33), none, (.mov (.t 8))⟩, ⟨(some 34), none, (.bin false .add (.t 33) (.c (.int .i64 1)))⟩, ⟨(some 8), none, (.mov (.t 34))⟩])))
def sc_s_HolesText_L0 : SC := (.seq (.seq (.reg [⟨(some 15), none, (.mov (.t 5))⟩, ⟨(some 16), none, (.mov (.t 3))⟩, ⟨(some 17), none, (.len (.t 16))⟩, ⟨(some 18), none, (.bin false .lss (.t 15) (.t 17))⟩]) (.cond (.t 18) .skip (.exit 0))) (.seq (.block 1 (.seq (.reg [⟨(some 21), none, (.mov (.t 3))⟩, ⟨(some 22), none, (.mov (.t 5))⟩, ⟨(some 23), none, (.idx 1 (.t 21) (.t 22))⟩, ⟨(some 24), none, (.ld none (.int .i64 0) (.t 23))⟩, ⟨(some 25), none, (.call 12 [(.t 24)])⟩, ⟨(some 6), none, (.mov (.t 25))⟩]) (.seq (.reg [⟨(some 26), none, (.ld (some 2) .undef (.t 1))⟩, ⟨(some 27), none, (.mov (.t 5))⟩, ⟨(some 28), none, (.call 13 [(.t 26), (.t 27)])⟩, ⟨(some 7), none, (.mov (.t 28))⟩]) (.seq (.seq (.reg [⟨(some 8), none, (.mov (.c (.int .i64 0)))⟩]) (.block 2 (.loop sc_s_HolesText_L2))) (.reg [⟨(some 43), none, (.mov (.t 4))⟩, ⟨(some 44), none, (.mov (.t 6))⟩, ⟨(some 45), none, (.mks 1 1 [(.str ⟨⟨[]⟩⟩)] [(0, (1, (.t 44)))])⟩, ⟨(some 46), none, (.app 1 16 (.t 43) (.t 45))⟩, ⟨(some 4), none, (.mov (.t 46))⟩]))))) (.reg [⟨(some 19), none, (.mov (.t 5))⟩, ⟨(some 20), none, (.bin false .add (.t 19) (.c (.int .i64 1)))⟩, ⟨(some 5), none, (.mov (.t 20))⟩])))
def sc_s_HolesText : SC := (.seq (.reg [⟨(some 1), none, (.box (.t 0))⟩, ⟨(some 2), none, (.mov (.c (.str ⟨⟨[]⟩⟩)))⟩]) (.seq (.seq (.reg [⟨(some 9), none, (.ld (some 2) .undef (.t 1))⟩, ⟨(some 10), none, (.call 10 [(.t 9)])⟩, ⟨(some 11), none, (.un .not (.t 10))⟩]) (.cond (.t 11) (.seq (.reg [⟨(some 2), none, (.mov (.c (.str ⟨⟨[]⟩⟩)))⟩]) .ret) .skip)) (.seq (.reg [⟨(some 12), none, (.ld (some 2) .undef (.t 1))⟩, ⟨(some 13), none, (.call 11 [(.t 12)])⟩, ⟨(some 3), none, (.mov (.t 13))⟩]) (.seq (.reg [⟨(some 14), none, (.mks 0 1 [] [])⟩, ⟨(some 4), none, (.mov (.t 14))⟩]) (.seq (.seq (.reg [⟨(some 5), none, (.mov (.c (.int .i64 1)))⟩]) (.block 0 (.loop sc_s_HolesText_L0))) (.seq (.seq (.reg [⟨(some 47), none, (.mov (.t 4))⟩, ⟨(some 48), none, (.len (.t 47))⟩, ⟨(some 49), none, (.bin false .eql (.t 48) (.c (.int .i64 0)))⟩]) (.cond (.t 49) (.seq (.reg [⟨(some 2), none, (.mov (.c (.str ⟨⟨[45]⟩⟩)))⟩]) .ret) .skip)) (.seq (.reg [⟨(some 50), none, (.mov (.t 4))⟩, ⟨(some 51), none, (.call 14 [(.t 50), (.c (.str ⟨⟨[32]⟩⟩))])⟩, ⟨(some 2), none, (.mov (.t 51))⟩]) .ret)))))))
theorem code_s_HolesText : fnCode Tryd.prog [] 5 = some (52, sc_s_HolesText, [(2, none)]) := by kernel_rfl
theorem fn_s_HolesText : FnOk Tryd.prog 5 F_s_HolesText := by
  have env := (((((envNil_ok (P := Tryd.prog)).add fn_s_IsComplex).add fn_s_FreeHoles).add fn_s_TwistsOf).add fn_s_FormatInt).add fn_s_Join
  refine fn_ok code_s_HolesText mixed env ?_
  intro args r h hb
  obtain ⟨_, ⟨n, l⟩, rfl, h1, h4⟩ := F1_inv h
  cases dC_inv h1
  cases h4
  clear h
  refine ⟨by simp, fun w0 U0 L0 N0 => ?_⟩
  clear hb
  simp only
  cases e0 : cplxB n l with
  | false =>
    have e : htS n l = ⟨⟨[]⟩⟩ := if_neg fun h => by simp [cplxB_iff.2 h] at e0
    rw [e]
    simp -implicitDefEqProofs [sc_s_HolesText, F_s_IsComplex, e0]
  | true =>
  have hc := cplxB_iff.1 e0
  obtain ⟨hlen, hfr, htw, hpt, hjn⟩ := ht_inv hc
  have hF1 : F_s_FreeHoles [.agg [.int .i64 n, .list 1 (ints l)]] = some (.own 1 (ints (frL n l))) := by simp [F_s_FreeHoles]
  have hT : htS n l = if (frL n l).length ≤ 1 then ⟨⟨[45]⟩⟩ else jnS (psS n l ((frL n l).length - 1)) ⟨⟨[32]⟩⟩ := if_pos hc
  have hps : ∀ i, psS n l (i + 1) = psS n l i ++ [txS (decS (at0 (frL n l) (i + 1))) (twL n l ((i : Int) + 1)) (twL n l ((i : Int) + 1)).length] := fun i => by
    rw [psS_succ]
    unfold ptS
    rw [show ((i + 1 : Nat) : Int) = (i : Int) + 1 by omega]
  generalize frL n l = O at *
  simp -implicitDefEqProofs [sc_s_HolesText, F_s_IsComplex, e0, hF1]
  refine loopI env mixed (fun i : Nat => [(1, .pt 0 0), (2, .str ⟨⟨[]⟩⟩), (3, .sl 1 1 0 O.length), (4, .sl 2 1 0 i), (5, .int .i64 ((i : Int) + 1))]) (fun i => ([(2, strs (psS n l i)), (1, ints O), (0, [.int .i64 n, .list 1 (ints l)])], 3)) (fun i => i = 0 ∨ i + 1 ≤ O.length) (fun i => O.length - i) 0 (by simp) (SubI.slots (by simp [psS, strs]) (by simp)) ?_
  intro i hi
  have hpl := psS_len n l i
  by_cases hlt : i + 1 < O.length
  · have hltI : (i : Int) + 1 < (O.length : Int) := by omega
    obtain ⟨f0, f1⟩ := hfr (i + 1) hlt
    obtain ⟨t64, ht⟩ := htw (i + 1)
    have hp := hps i
    have hp2 := hpt (i + 1) hlt
    rw [show ((i + 1 : Nat) : Int) = (i : Int) + 1 by omega] at t64 ht
    have hF2 : F_s_FormatInt [.int .i64 (at0 O (i + 1))] = some (.str (decS (at0 O (i + 1)))) := if_pos ⟨f0, f1⟩
    have hF3 : F_s_TwistsOf [.agg [.int .i64 n, .list 1 (ints l)], .int .i64 ((i : Int) + 1)] = some (.own 1 (ints (twL n l ((i : Int) + 1)))) := by simp [F_s_TwistsOf]
    have ht0 := decS_size f0 f1
    have htx := txS_size (t := decS (at0 O (i + 1))) ht
    have hw1 : IntKind.i64.wrap ((i : Int) + 1) = (i : Int) + 1 := wrapI _ (by omega) (by omega)
    have hw2 : IntKind.i64.wrap ((i : Int) + 1 + 1) = (i : Int) + 1 + 1 := wrapI _ (by omega) (by omega)
    have hat : (ints O).getD (i + 1) (.int .i64 0) = .int .i64 (at0 O (i + 1)) := by simp [at0, ints]
    generalize decS (at0 O (i + 1)) = t0 at *
    generalize twL n l ((i : Int) + 1) = S at *
    generalize psS n l i = g at *
    have htk : g.take i = g := List.take_of_length_le (by omega)
    simp -implicitDefEqProofs [sc_s_HolesText_L0, hltI, hlt, hF2, hF3]
    refine ⟨by omega, ?_⟩
    refine loopQ env mixed (fun j : Nat => [(1, .pt 0 0), (2, .str ⟨⟨[]⟩⟩), (3, .sl 1 1 0 O.length), (4, .sl 2 1 0 i), (5, .int .i64 ((i : Int) + 1)), (6, .str (txS t0 S j)), (7, .sl 3 1 0 S.length), (8, .int .i64 (j : Int))]) (fun j => ([(3, ints S), (2, strs g), (1, ints O), (0, [.int .i64 n, .list 1 (ints l)])], 4)) (fun j => j ≤ S.length) (fun j => S.length - j) 0 (by simp) (SubI.slots (by simp) (by simp [txS])) ?_
    intro j hj
    by_cases hjl : j < S.length
    · have hjI : (j : Int) < (S.length : Int) := by omega
      have hF4 : F_s_FormatInt [.int .i64 (at0 S j)] = some (.str (decS (at0 S j))) := if_pos (ht j hjl)
      have hd2 := decS_size (ht j hjl).1 (ht j hjl).2
      have hx1 := htx j (by omega)
      have hw3 : IntKind.i64.wrap ((j : Int) + 1) = (j : Int) + 1 := wrapI _ (by omega) (by omega)
      have hst : txS t0 S (j + 1) = txS t0 S j ++ ⟨⟨[47]⟩⟩ ++ decS (at0 S j) := by
        show txS t0 S j ++ (⟨⟨[47]⟩⟩ ++ decS (at0 S j)) = _
        exact ba_ext (by rw [ba_app, ba_app, ba_app, ba_app, List.append_assoc])
      have hs1 : (⟨⟨[47]⟩⟩ : ByteArray).size = 1 := rfl
      generalize hxx : txS t0 S (j + 1) = x2 at *
      generalize txS t0 S j = x at *
      generalize hdd : decS (at0 S j) = dd at *
      have hz1 : x.size + (⟨⟨[47]⟩⟩ : ByteArray).size ≤ 9223372036854775807 := by omega
      have hz2 : (x ++ (⟨⟨[47]⟩⟩ : ByteArray)).size + dd.size ≤ 9223372036854775807 := by rw [ba_size]; omega
      simp -implicitDefEqProofs [sc_s_HolesText_L2, hjl, hjI, hF4, hz1, hz2, hw3]
      repeat' (first | omega | apply And.intro)
      exact Again.of (j + 1) (by omega) (by omega) (SubI.slots (by simp) (by simp [hxx, hst]))
    · have : j = S.length := by omega
      subst this
      have hx1 := htx S.length (Nat.le_refl _)
      simp -implicitDefEqProofs [sc_s_HolesText_L2, hjl]
      refine SubQ.of (l1 := [(1, .pt 0 0), (2, .str ⟨⟨[]⟩⟩), (3, .sl 1 1 0 O.length), (4, .sl 2 1 0 i), (5, .int .i64 ((i : Int) + 1)), (6, .str (txS t0 S S.length))]) (SubI.slots rfl (by simp)) ?_
      generalize txS t0 S S.length = x at *
      simp -implicitDefEqProofs [htk, hw2, hpl]
      repeat' (first | omega | apply And.intro)
      refine Again.of (i + 1) (by omega) (by omega) (SubI.ren (fun m => if m = 0 then some 0 else if m = 1 then some 1 else if m = 2 then some 5 else none) ?_ ?_ ?_ (by simp) (by simp))
      · simp [subT, renV, ren1]
      · simp [subH, hp, renL, ren1]
        exact strs_snoc g x
      · intro m hm
        simp only at hm
        rw [if_neg (by omega), if_neg (by omega), if_neg (by omega)]
  · have hltI : ¬ (i : Int) + 1 < (O.length : Int) := by omega
    by_cases h0 : i = 0
    · subst h0
      rw [if_pos (by omega)] at hT
      have hle : O.length ≤ 1 := by omega
      have hleI : (O.length : Int) ≤ 1 := by omega
      simp -implicitDefEqProofs [sc_s_HolesText_L0, hlt, hltI, hT, hle, hleI]
    · have hi2 : i = O.length - 1 := by omega
      rw [if_neg (by omega), ← hi2] at hT
      have hF5 : F_s_Join [.list 1 (strs (psS n l i)), .str ⟨⟨[32]⟩⟩] = some (.str (jnS (psS n l i) ⟨⟨[32]⟩⟩)) := by
        have := hjn i (by omega)
        simp only [F_s_Join, F2_mk, dS_list, dSt, Option.bind_some]
        rw [if_pos ⟨by omega, this⟩]
      have htk : (psS n l i).take i = psS n l i := List.take_of_length_le (by omega)
      have h0I : ¬ (i : Int) = 0 := by omega
      simp -implicitDefEqProofs [sc_s_HolesText_L0, hlt, hltI, hT, htk, hF5, h0, h0I, hpl]
end Go.Proofs.YtkoljbncokmeaaaDoor
namespace Go.Proofs.YtkoljbncokmeaaaDoor
open Go Go.RowKit
set_option maxRecDepth 1000000
set_option linter.unusedSimpArgs false
set_option linter.unusedVariables false
set_option maxHeartbeats 1000000
def sc_i_TwistsOf_L0 : SC := (.seq (.reg [⟨(some 26), none, (.bin false .lss (.t 25) (.t 24))⟩]) (.seq (.cond (.t 26) .skip (.exit 0)) (.seq (.block 1 (.seq (.reg [⟨(some 27), none, (.idx 1 (.t 23) (.t 25))⟩, ⟨(some 28), none, (.ld none (.int .i64 0) (.t 27))⟩, ⟨(some 7), none, (.mov (.t 28))⟩]) (.seq (.reg [⟨(some 29), none, (.mov (.t 7))⟩, ⟨(some 30), none, (.bin false .gtr (.t 29) (.c (.int .i64 1)))⟩]) (.cond (.t 30) (.reg [⟨(some 31), none, (.mov (.t 5))⟩, ⟨(some 32), none, (.mov (.t 7))⟩, ⟨(some 33), none, (.mks 1 1 [(.int .i64 0)] [(0, (1, (.t 32)))])⟩, ⟨(some 34), none, (.app 1 8 (.t 31) (.t 33))⟩, ⟨(some 5), none, (.mov (.t 34))⟩]) .skip)))) (.reg [⟨(some 35), none, (.bin false .add (.t 25) (.c (.int .i64 1)))⟩, ⟨(some 25), none, (.mov (.t 35))⟩]))))
def sc_i_TwistsOf : SC := (.seq (.reg [⟨(some 2), none, (.box (.t 0))⟩, ⟨(some 4), none, (.mov (.c .nil))⟩]) (.seq (.seq (.reg [⟨(some 8), none, (.ld (some 2) .undef (.t 2))⟩, ⟨(some 9), none, (.call 16 [(.t 8)])⟩, ⟨(some 10), none, (.un .not (.t 9))⟩, ⟨(some 11), none, (.mov (.t 10))⟩, ⟨(some 12), (some (11, false)), (.mov (.t 1))⟩, ⟨(some 13), (some (11, false)), (.bin false .lss (.t 12) (.c (.int .i64 0)))⟩, ⟨(some 14), none, (.pick (.t 11) (.c (.bool true)) (.t 13))⟩, ⟨(some 15), none, (.mov (.t 14))⟩, ⟨(some 16), (some (15, false)), (.mov (.t 1))⟩, ⟨(some 17), (some (15, false)), (.bin false .gtr (.t 16) (.c (.int .i64 5)))⟩, ⟨(some 18), none, (.pick (.t 15) (.c (.bool true)) (.t 17))⟩]) (.cond (.t 18) (.seq (.reg [⟨(some 4), none, (.mov (.c .nil))⟩]) .ret) .skip)) (.seq (.reg [⟨(some 5), none, (.mov (.c .nil))⟩]) (.seq (.seq (.reg [⟨(some 19), none, (.ld (some 2) .undef (.t 2))⟩, ⟨(some 20), none, (.mov (.t 1))⟩, ⟨(some 21), none, (.bin false .add (.t 20) (.c (.int .i64 1)))⟩, ⟨(some 22), none, (.call 34 [(.t 19), (.t 21)])⟩, ⟨(some 23), none, (.call 31 [(.t 22)])⟩, ⟨(some 24), none, (.len (.t 23))⟩, ⟨(some 25), none, (.mov (.c (.int .i64 0)))⟩]) (.block 0 (.loop sc_i_TwistsOf_L0))) (.seq (.reg [⟨(some 36), none, (.mov (.t 5))⟩, ⟨(some 4), none, (.mov (.t 36))⟩]) .ret)))))
theorem code_i_TwistsOf : fnCode Tryd.prog [] 19 = some (37, sc_i_TwistsOf, [(4, none)]) := by kernel_rfl
theorem fn_i_TwistsOf : FnOk Tryd.prog 19 F_s_TwistsOf := by
  have env := (((envNil_ok (P := Tryd.prog)).add fn_i_IsComplex).add fn_i_BorderMatrix).add fn_i_SmithOf
  refine fn_ok code_i_TwistsOf mixed env ?_
  intro args r h hb
  obtain ⟨_, _, ⟨n, l⟩, k, rfl, h1, h2, h4⟩ := F2_inv h
  cases dC_inv h1
  cases dI_inv h2
  cases h4
  clear h
  refine ⟨by simp, fun w0 U0 L0 N0 => ?_⟩
  clear hb
  simp only
  cases e0 : cplxB n l with
  | false =>
    have e : twL n l k = [] := if_neg fun h => by simp [cplxB_iff.2 h.1] at e0
    rw [e]
    simp -implicitDefEqProofs [sc_i_TwistsOf, F_s_IsComplex, e0]
  | true =>
  have hc := cplxB_iff.1 e0
  by_cases g1 : 0 ≤ k ∧ k ≤ 5
  rotate_left
  · have e : twL n l k = [] := if_neg fun h => g1 h.2
    rw [e]
    by_cases g2 : k < 0
    · simp -implicitDefEqProofs [sc_i_TwistsOf, F_s_IsComplex, e0, g2]
    · have g3 : 5 < k := by omega
      simp -implicitDefEqProofs [sc_i_TwistsOf, F_s_IsComplex, e0, g2, g3]
  have g2 : ¬ k < 0 := by omega
  have g3 : ¬ 5 < k := by omega
  have hw1 : IntKind.i64.wrap (k + 1) = k + 1 := wrapI _ (by omega) (by omega)
  have hF1 : F_i_BorderMatrix [.agg [.int .i64 n, .list 1 (ints l)], .int .i64 (k + 1)] = some (.own 1 (rowsV (borM n l (k + 1)))) := by
    simp only [F_i_BorderMatrix, F2_mk, dC_agg, dI_int, Option.bind_some]
    rw [if_pos ⟨hc, by omega, by omega⟩]
  have hbm : borM n l (k + 1) = sgnM (szS (faceS l) k) (szS (faceS l) (k + 1)) := by
    unfold borM
    rw [szS_fos hc, szS_fos hc, show k + 1 - 1 = k by omega]
  have hF2 : F_i_SmithOf [.list 1 (rowsL (borM n l (k + 1)))] = some (.own 1 (ints (bsm (szS (faceS l) k) (szS (faceS l) (k + 1))))) := by
    have h1 := (bsm_sz (q := faceS l) (k := k.toNat + 1) ⟨by omega, by omega⟩).2
    rw [show ((k.toNat + 1 : Nat) : Int) = k + 1 by omega, show k + 1 - 1 = k by omega] at h1
    rw [hbm]
    simp only [F_i_SmithOf, F1_mk, dLL_list, Option.bind_some]
    rw [h1]
    rfl
  have hT : twL n l k = (bsm (szS (faceS l) k) (szS (faceS l) (k + 1))).filter fun d => decide (1 < d) := if_pos ⟨hc, g1⟩
  have hbl : (bsm (szS (faceS l) k) (szS (faceS l) (k + 1))).length ≤ 64 := by
    have := (bsm_len (szS (faceS l) k) (szS (faceS l) (k + 1))).1
    have := szS_len (faceS l) k
    omega
  rw [hT]
  generalize bsm (szS (faceS l) k) (szS (faceS l) (k + 1)) = S at *
  generalize borM n l (k + 1) = B at *
  simp -implicitDefEqProofs [sc_i_TwistsOf, F_s_IsComplex, e0, g2, g3, hw1, hF1, hF2]
  refine loopI env mixed (fun j : Nat => [(5, .sl 1 1 0 ((S.take j).filter fun d => decide (1 < d)).length), (23, .sl 0 1 0 S.length), (24, .int .i64 (S.length : Int)), (25, .int .i64 (j : Int))]) (fun j => ([(1, ints ((S.take j).filter fun d => decide (1 < d))), (0, ints S)], 2)) (fun j => j ≤ S.length) (fun j => S.length - j) 0 (by simp) ?_ ?_
  · refine SubI.nilN 5 1 (by simp) ?_
    exact SubI.ren (fun m => if m = 0 then some 2 else if m = 1 then some 3 else none) (by simp [subT, renV, ren1]) (by simp [subH, renL, ren1]) (fun m hm => by simp only at hm; rw [if_neg (by omega), if_neg (by omega)]) (by simp) (by simp)
  intro j hj
  by_cases hlt : j < S.length
  · have ft := filt_take hlt fun d => decide (1 < d)
    have fl := filt_le (S := S) j fun d => decide (1 < d)
    by_cases h1 : 1 < at0 S j
    · rw [if_pos (by simpa using h1)] at ft
      generalize hg : (S.take j).filter (fun d => decide (1 < d)) = g at *
      simp -implicitDefEqProofs [sc_i_TwistsOf_L0, hlt, h1]
      refine ⟨by omega, ?_⟩
      refine Again.of (j + 1) (by omega) (by omega) (SubI.ren (fun m => if m = 0 then some 0 else if m = 1 then some 3 else none) ?_ ?_ ?_ (by simp) (by simp))
      · simp (disch := omega) [subT, renV, ren1, wrapI, ft]
      · simp [subH, renL, ren1, ft]
        rw [← ints_app]
        rfl
      · intro m hm
        simp only at hm
        rw [if_neg (by omega), if_neg (by omega)]
    · rw [if_neg (by simpa using h1), List.append_nil] at ft
      generalize hg : (S.take j).filter (fun d => decide (1 < d)) = g at *
      simp -implicitDefEqProofs [sc_i_TwistsOf_L0, hlt, h1]
      exact Again.of (j + 1) (by omega) (by omega) (SubI.slots (by simp [ft]) (by simp (disch := omega) [wrapI, ft]))
  · have : j = S.length := by omega
    subst this
    rw [List.take_length]
    simp -implicitDefEqProofs [sc_i_TwistsOf_L0]
end Go.Proofs.YtkoljbncokmeaaaDoor
namespace Go.Proofs.YtkoljbncokmeaaaDoor
open Go Go.RowKit
set_option maxRecDepth 1000000
set_option linter.unusedSimpArgs false
set_option linter.unusedVariables false
set_option maxHeartbeats 1000000
def sc_i_FreeHoles_L2 : SC := (.seq (.reg [⟨(some 42), none, (.bin false .lss (.t 41) (.t 40))⟩]) (.seq (.cond (.t 42) .skip (.exit 2)) (.seq (.block 3 (.cut (.reg [⟨(some 43), none, (.mov (.t 41))⟩, ⟨(some 7), none, (.mov (.t 43))⟩]) (.dreg [⟨⟨(some 44), none, (.mov (.t 6))⟩, false, true⟩, ⟨⟨(some 45), none, (.mov (.t 3))⟩, false, false⟩, ⟨⟨(some 46), none, (.mov (.t 7))⟩, false, false⟩, ⟨⟨(some 47), none, (.idx 1 (.t 45) (.t 46))⟩, false, false⟩, ⟨⟨(some 48), none, (.ld none .nil (.t 47))⟩, false, false⟩, ⟨⟨(some 49), none, (.len (.t 48))⟩, false, false⟩, ⟨⟨(some 50), none, (.mov (.t 4))⟩, false, false⟩, ⟨⟨(some 51), none, (.mov (.t 7))⟩, false, false⟩, ⟨⟨(some 52), none, (.idx 1 (.t 50) (.t 51))⟩, false, false⟩, ⟨⟨(some 53), none, (.ld none (.int .i64 0) (.t 52))⟩, false, false⟩, ⟨⟨(some 54), none, (.bin false .sub (.t 49) (.t 53))⟩, false, false⟩, ⟨⟨(some 55), none, (.mov (.t 4))⟩, false, false⟩, ⟨⟨(some 56), none, (.mov (.t 7))⟩, false, false⟩, ⟨⟨(some 57), none, (.bin false .add (.t 56) (.c (.int .i64 1)))⟩, false, false⟩, ⟨⟨(some 58), none, (.idx 1 (.t 55) (.t 57))⟩, false, false⟩, ⟨⟨(some 59), none, (.ld none (.int .i64 0) (.t 58))⟩, false, false⟩, ⟨⟨(some 60), none, (.bin false .sub (.t 54) (.t 59))⟩, false, false⟩, ⟨⟨(some 61), none, (.mks 1 1 [(.int .i64 0)] [(0, (1, (.t 60)))])⟩, true, false⟩, ⟨⟨(some 62), none, (.app 1 8 (.t 44) (.t 61))⟩, true, false⟩, ⟨⟨(some 6), none, (.mov (.t 62))⟩, false, false⟩]))) (.reg [⟨(some 63), none, (.bin false .add (.t 41) (.c (.int .i64 1)))⟩, ⟨(some 41), none, (.mov (.t 63))⟩]))))
def sc_i_FreeHoles_L0 : SC := (.cut (.seq (.reg [⟨(some 18), none, (.mov (.t 5))⟩, ⟨(some 19), none, (.mov (.t 3))⟩, ⟨(some 20), none, (.len (.t 19))⟩, ⟨(some 21), none, (.bin false .lss (.t 18) (.t 20))⟩]) (.cond (.t 21) .skip (.exit 0))) (.seq (.block 1 (.dreg [⟨⟨(some 24), none, (.mov (.t 4))⟩, false, false⟩, ⟨⟨(some 25), none, (.mov (.t 5))⟩, false, false⟩, ⟨⟨(some 26), none, (.mov (.t 3))⟩, false, false⟩, ⟨⟨(some 27), none, (.mov (.t 5))⟩, false, false⟩, ⟨⟨(some 28), none, (.bin false .sub (.t 27) (.c (.int .i64 1)))⟩, false, false⟩, ⟨⟨(some 29), none, (.idx 1 (.t 26) (.t 28))⟩, false, false⟩, ⟨⟨(some 30), none, (.ld none .nil (.t 29))⟩, false, false⟩, ⟨⟨(some 31), none, (.mov (.t 3))⟩, false, false⟩, ⟨⟨(some 32), none, (.mov (.t 5))⟩, false, false⟩, ⟨⟨(some 33), none, (.idx 1 (.t 31) (.t 32))⟩, false, false⟩, ⟨⟨(some 34), none, (.ld none .nil (.t 33))⟩, false, false⟩, ⟨⟨(some 35), none, (.call 32 [(.t 30), (.t 34)])⟩, false, false⟩, ⟨⟨(some 36), none, (.call 31 [(.t 35)])⟩, false, false⟩, ⟨⟨(some 37), none, (.len (.t 36))⟩, false, false⟩, ⟨⟨(some 38), none, (.idx 1 (.t 24) (.t 25))⟩, false, false⟩, ⟨⟨none, none, (.st 1 (.t 38) (.t 37))⟩, true, false⟩])) (.reg [⟨(some 22), none, (.mov (.t 5))⟩, ⟨(some 23), none, (.bin false .add (.t 22) (.c (.int .i64 1)))⟩, ⟨(some 5), none, (.mov (.t 23))⟩])))
def sc_i_FreeHoles : SC := (.seq (.reg [⟨(some 1), none, (.box (.t 0))⟩, ⟨(some 2), none, (.mov (.c .nil))⟩]) (.seq (.seq (.reg [⟨(some 8), none, (.ld (some 2) .undef (.t 1))⟩, ⟨(some 9), none, (.call 16 [(.t 8)])⟩, ⟨(some 10), none, (.un .not (.t 9))⟩]) (.cond (.t 10) (.seq (.reg [⟨(some 2), none, (.mov (.c .nil))⟩]) .ret) .skip)) (.seq (.reg [⟨(some 11), none, (.ld (some 2) .undef (.t 1))⟩, ⟨(some 12), none, (.call 30 [(.t 11)])⟩, ⟨(some 13), none, (.call 29 [(.t 12)])⟩, ⟨(some 3), none, (.mov (.t 13))⟩]) (.seq (.reg [⟨(some 14), none, (.mov (.t 3))⟩, ⟨(some 15), none, (.len (.t 14))⟩, ⟨(some 16), none, (.bin false .add (.t 15) (.c (.int .i64 1)))⟩, ⟨(some 17), none, (.mk 1 8 [(.int .i64 0)] (.t 16) (.t 16))⟩, ⟨(some 4), none, (.mov (.t 17))⟩]) (.seq (.seq (.reg [⟨(some 5), none, (.mov (.c (.int .i64 1)))⟩]) (.block 0 (.loop sc_i_FreeHoles_L0))) (.seq (.reg [⟨(some 6), none, (.mov (.c .nil))⟩]) (.seq (.seq (.reg [⟨(some 39), none, (.mov (.t 3))⟩, ⟨(some 40), none, (.len (.t 39))⟩, ⟨(some 41), none, (.mov (.c (.int .i64 0)))⟩]) (.block 2 (.loop sc_i_FreeHoles_L2))) (.seq (.reg [⟨(some 64), none, (.mov (.t 6))⟩, ⟨(some 2), none, (.mov (.t 64))⟩]) .ret))))))))
theorem code_i_FreeHoles : fnCode Tryd.prog [666666, 555555] 17 = some (65, sc_i_FreeHoles, [(2, none)]) := by kernel_rfl
/-- The ranks of the borders below k, of m + 1 places. -/
noncomputable def rkT (q : Int → Prop) (m k : Nat) : List Int := rowF (m + 1) fun i => @ite _ (i < k) (Classical.propDecidable _) (rkS q i) 0
theorem rkT_set {q : Int → Prop} {m k : Nat} (h : k < m + 1) : (rkT q m k).set k (rkS q k) = rkT q m (k + 1) := by
  unfold rkT
  rw [rowF_set h]
  refine rowF_congr fun i hi => ?_
  by_cases e : i = k
  · rw [if_pos e, if_pos (by omega), e]
  · rw [if_neg e]
    by_cases h3 : i < k
    · rw [if_pos h3, if_pos (by omega)]
    · rw [if_neg h3, if_neg (by omega)]
@[simp] theorem rkT_len (q : Int → Prop) (m k : Nat) : (rkT q m k).length = m + 1 := by simp [rkT]
theorem rkT_one (q : Int → Prop) (m : Nat) : rkT q m 1 = List.replicate (m + 1) 0 := by
  rw [rowF_zero]
  refine rowF_congr fun i _ => ?_
  by_cases h : i < 1
  · have : i = 0 := by omega
    subst this
    rw [if_pos h]
    exact rkS_low q
  · rw [if_neg h]
theorem rkT_at {q : Int → Prop} {m k i : Nat} (ht : topZ q + 1 = m) (hk : m ≤ k) (h : i < m + 1) : at0 (rkT q m k) i = rkS q i := by
  unfold rkT
  rw [rowF_at h]
  by_cases h1 : i < k
  · rw [if_pos h1]
  · rw [if_neg h1, rkS_high q (by omega)]
theorem fn_i_FreeHoles : FnOk Tryd.prog 17 F_s_FreeHoles := by
  have env := ((((envNil_ok (P := Tryd.prog)).add fn_i_IsComplex).add fn_i_facesIn).add fn_i_bySize).add fn_i_borderOf |>.add fn_i_SmithOf
  refine fn_ok code_i_FreeHoles mixed env ?_
  intro args r h hb
  obtain ⟨_, ⟨n, l⟩, rfl, h1, h4⟩ := F1_inv h
  cases dC_inv h1
  cases h4
  clear h
  refine ⟨by simp, fun w0 U0 L0 N0 => ?_⟩
  clear hb
  simp only
  cases e0 : cplxB n l with
  | false =>
    have e : frL n l = [] := if_neg fun h => by simp [cplxB_iff.2 h] at e0
    rw [e]
    simp -implicitDefEqProofs [sc_i_FreeHoles, F_s_IsComplex, e0]
  | true =>
  have hc := cplxB_iff.1 e0
  have hS := cplx_isS hc
  have e : frL n l = frZ (faceS l) := if_pos hc
  rw [e]
  obtain ⟨q, hq⟩ : ∃ q, q = faceS l := ⟨_, rfl⟩
  rw [← hq]
  have hg := bySG_fam q
  have htb := topZ_bnd q
  obtain ⟨m, hm⟩ : ∃ m : Nat, topZ q + 1 = m := ⟨(topZ q + 1).toNat, by omega⟩
  have hBl : (bySR q).length = m := by unfold bySR; rw [bySz_len]; omega
  have hBa : ∀ i, i < m → atR (bySR q) i = szS q i := fun i hi => by
    unfold bySR
    exact szS_by (by omega)
  have hres : frZ q = rowF m (frV q) := by
    unfold frZ
    rw [show (topZ q + 1).toNat = m by omega]
  rw [hres]
  have hrl0 : (rowF m (frV q)).length = m := rowF_len _ _
  have hra := fun (i : Nat) (hi : i < m) => rowF_at (g := frV q) hi
  generalize rowF m (frV q) = O at *
  generalize bySR q = B at *
  have hm7 : m ≤ 7 := by omega
  have hw0 : IntKind.i64.wrap ((m : Int) + 1) = ((m + 1 : Nat) : Int) := by rw [wrapI _ (by omega) (by omega)]; omega
  have hF0 : F_i_facesIn [.agg [.int .i64 n, .list 1 (ints l)]] = some (.int .u64 (fam q)) := by
    simp only [F_i_facesIn, F1_mk, dC_agg, Option.bind_some]
    rw [if_pos hS]
    exact hq ▸ rfl
  simp -implicitDefEqProofs [sc_i_FreeHoles, F_s_IsComplex, e0, hF0, F_i_bySize, hg, hBl, hw0]
  repeat' (first | omega | apply And.intro)
  refine loopI env mixed (fun k : Nat => [(3, .sl 0 1 0 m), (4, .sl 1 1 0 (m + 1)), (5, .int .i64 (k : Int))]) (fun k => ([(1, ints (rkT q m k)), (0, rowsV B)], 2)) (fun k => 1 ≤ k ∧ (k ≤ m ∨ k = 1)) (fun k => m - k) 1 ⟨by omega, .inr rfl⟩ (SubI.ren (fun m => if m = 0 then some 1 else if m = 1 then some 2 else none) (by simp [subT, renV, ren1]) (by simp [subH, renL, ren1, rkT_one]) (fun m hm => by simp only at hm; rw [if_neg (by omega), if_neg (by omega)]) (by simp) (by simp)) ?_
  rintro k ⟨hk1, hk2⟩
  by_cases hlt : k < m
  · have hw1 : IntKind.i64.wrap ((k : Int) - 1) = ((k - 1 : Nat) : Int) := by rw [wrapI _ (by omega) (by omega)]; omega
    have hk1m : k - 1 < m := by omega
    have ha1 := hBa k hlt
    have ha2 := hBa (k - 1) hk1m
    rw [show ((k - 1 : Nat) : Int) = (k : Int) - 1 by omega] at ha2
    have hl1 := szS_len q k
    have hl2 := szS_len q ((k : Int) - 1)
    have hF1 : F_i_borderOf [.list 1 (ints (szS q ((k : Int) - 1))), .list 1 (ints (szS q k))] = some (.own 1 (rowsV (sgnM (szS q ((k : Int) - 1)) (szS q k)))) := by
      simp only [F_i_borderOf, F2_mk, dL_list, Option.bind_some]
      rw [if_pos ⟨szS_ok q k, hl2, hl1⟩]
    have hF2 : F_i_SmithOf [.list 1 (rowsL (sgnM (szS q ((k : Int) - 1)) (szS q k)))] = some (.own 1 (ints (bsm (szS q ((k : Int) - 1)) (szS q k)))) := by
      have h1 := (bsm_sz (q := q) (k := k) ⟨by omega, by omega⟩).2
      simp only [F_i_SmithOf, F1_mk, dLL_list, Option.bind_some]
      rw [h1]
      rfl
    have hset := rkT_set (q := q) (m := m) (k := k) (by omega)
    have hrk : rkS q k = ((bsm (szS q ((k : Int) - 1)) (szS q k)).length : Nat) := rfl
    rw [hrk] at hset
    have hrl := rkT_len q m k
    have hne : k - 1 ≠ k := by omega
    have hne2 : k ≠ k - 1 := by omega
    have hs1 := rowsV_self (M := B) (i := k) (by omega)
    have hs2 := rowsV_self (M := B) (i := k - 1) (by omega)
    rw [ha1] at hs1
    rw [ha2] at hs2
    generalize hg1 : rkT q m (k + 1) = g1 at *
    generalize rkT q m k = g at *
    generalize bsm (szS q ((k : Int) - 1)) (szS q k) = S at *
    generalize szS q ((k : Int) - 1) = r1 at *
    generalize szS q k = r2 at *
    have hcell : ((((rowsV B).set (k - 1) (.sl 2 1 0 r1.length)).set k (.sl 3 1 0 r2.length)).set k (.own 1 (ints r2))).set (k - 1) (.own 1 (ints r1)) = rowsV B := by
      rw [List.set_set, List.set_comm _ _ hne2, List.set_set, hs2, hs1]
    simp -implicitDefEqProofs [sc_i_FreeHoles_L0, hlt]
    refine CutI.of (l' := [(3, .sl 0 1 0 m), (4, .sl 1 1 0 (m + 1)), (5, .int .i64 (k : Int))]) (s' := ([(3, ints r2), (2, ints r1), (1, ints g), (0, ((rowsV B).set (k - 1) (.sl 2 1 0 r1.length)).set k (.sl 3 1 0 r2.length))], 4)) ?_ ?_
    · refine SubI.unfold 0 (k - 1) 1 (co := rowsV B) (cn := ints r1) rfl (by rw [rowsV_get (by omega), ha2]) (by omega) ?_
      refine SubI.unfold 0 k 1 (co := (rowsV B).set (k - 1) (.sl 2 1 0 ((ints r1).length / 1))) (cn := ints r2) rfl (by rw [List.getElem?_set_ne hne, rowsV_get (by omega), ha1]) (by omega) ?_
      exact SubI.slots (by simp) (by simp)
    simp -implicitDefEqProofs [freeOk, hlt, hk1m, hw1, hBl, hne, hne2, hF1, hF2, hrl, hset]
    repeat' (first | omega | apply And.intro)
    refine Again.of (k + 1) ⟨by omega, .inl (by omega)⟩ (by omega) ?_
    refine SubI.fold 0 3 k 1 r2.length (cn := ints r2) (co := ((rowsV B).set (k - 1) (.sl 2 1 0 r1.length)).set k (.sl 3 1 0 r2.length)) (by simp) (by simp) (by simp [hBl, hlt]) (by simp) ?_
    refine SubI.fold 0 2 (k - 1) 1 r1.length (cn := ints r1) (co := (((rowsV B).set (k - 1) (.sl 2 1 0 r1.length)).set k (.sl 3 1 0 r2.length)).set k (.own 1 (ints r2))) (by simp) (by simp) (by simp [hBl, hk1m, hne, hne2]) (by simp) ?_
    rw [hcell]
    refine SubI.ren (fun m => if m = 0 then some 0 else if m = 1 then some 1 else none) ?_ ?_ ?_ (by simp) (by simp)
    · simp (disch := omega) [subT, renV, ren1, wrapI]
    · simp [subH, renL, ren1, hg1]
    · intro m hm
      simp only at hm
      rw [if_neg (by omega), if_neg (by omega)]
  · have hat := fun (i : Nat) (hi : i < m + 1) => rkT_at (q := q) (k := k) hm (by omega) hi
    have hrl := rkT_len q m k
    generalize rkT q m k = g at *
    simp -implicitDefEqProofs [sc_i_FreeHoles_L0, hlt]
    repeat' (first | omega | apply And.intro)
    refine loopQ env mixed (fun i : Nat => [(3, .sl 0 1 0 m), (4, .sl 1 1 0 (m + 1)), (6, .sl 2 1 0 i), (40, .int .i64 (m : Int)), (41, .int .i64 (i : Int))]) (fun i => ([(2, ints (O.take i)), (1, ints g), (0, rowsV B)], 3)) (fun i => i ≤ m) (fun i => m - i) 0 (by simp) (SubI.nilN 6 1 (by simp) (SubI.slots (by simp) (by simp))) ?_
    intro i hi
    by_cases hlt2 : i < m
    · have ha1 := hBa i hlt2
      have hl1 := szS_len q i
      have hs1 := rowsV_self (M := B) (i := i) (by omega)
      have h1 := hat i (by omega)
      have h2 := hat (i + 1) (by omega)
      have b1 := rkS_bnd q i
      have b2 := rkS_bnd q ((i + 1 : Nat) : Int)
      have hv : frV q i = ((szS q i).length : Nat) - rkS q i - rkS q ((i + 1 : Nat) : Int) := by
        unfold frV
        rw [show ((i + 1 : Nat) : Int) = (i : Int) + 1 by omega]
      have ez : O.take (i + 1) = O.take i ++ [((szS q i).length : Nat) - rkS q i - rkS q ((i + 1 : Nat) : Int)] := by rw [take_at (by omega), hra i hlt2, hv]
      have gl : (O.take i).length = i := by simp; omega
      rw [ha1] at hs1
      have hw1 : IntKind.i64.wrap ((i : Int) + 1) = ((i + 1 : Nat) : Int) := by rw [wrapI _ (by omega) (by omega)]; omega
      generalize hz1 : O.take (i + 1) = z1 at *
      generalize O.take i = z at *
      generalize szS q i = r1 at *
      generalize rkS q i = k1 at *
      generalize rkS q ((i + 1 : Nat) : Int) = k2 at *
      have hw2 : IntKind.i64.wrap ((r1.length : Int) - k1) = r1.length - k1 := wrapI _ (by omega) (by omega)
      have hw3 : IntKind.i64.wrap ((r1.length : Int) - k1 - k2) = r1.length - k1 - k2 := wrapI _ (by omega) (by omega)
      have hlt3 : i + 1 < m + 1 := by omega
      have hlt4 : i < m + 1 := by omega
      have htk : z.take i = z := List.take_of_length_le (by omega)
      simp -implicitDefEqProofs [sc_i_FreeHoles_L2, hlt2]
      refine CutI.of (l' := [(3, .sl 0 1 0 m), (4, .sl 1 1 0 (m + 1)), (6, .sl 2 1 0 i), (7, .int .i64 (i : Int)), (40, .int .i64 (m : Int)), (41, .int .i64 (i : Int))]) (s' := ([(3, ints r1), (2, ints z), (1, ints g), (0, (rowsV B).set i (.sl 3 1 0 r1.length))], 4)) ?_ ?_
      · refine SubI.unfold 0 i 1 (co := rowsV B) (cn := ints r1) rfl (by rw [rowsV_get (by omega), ha1]) (by omega) ?_
        exact SubI.slots (by simp) (by simp)
      simp -implicitDefEqProofs [freeOk, hlt2, hlt3, hlt4, hBl, hrl, gl, h1, h2, hw1, hw2, hw3, htk]
      repeat' (first | omega | apply And.intro)
      refine Again.of (i + 1) (by omega) (by omega) ?_
      refine SubI.fold 0 3 i 1 r1.length (cn := ints r1) (co := (rowsV B).set i (.sl 3 1 0 r1.length)) (by simp) (by simp) (by simp [hBl, hlt2]) (by simp) ?_
      rw [List.set_set, hs1]
      refine SubI.ren (fun m => if m = 0 then some 0 else if m = 1 then some 1 else if m = 2 then some 5 else none) ?_ ?_ ?_ (by simp) (by simp)
      · simp (disch := omega) [subT, renV, ren1, wrapI]
      · simp [subH, renL, ren1, hz1, ez]
        rw [← ints_app]
        rfl
      · intro m hm
        simp only at hm
        rw [if_neg (by omega), if_neg (by omega), if_neg (by omega)]
    · have : i = m := by omega
      subst this
      have htk : O.take i = O := List.take_of_length_le (by omega)
      rw [htk]
      simp -implicitDefEqProofs [sc_i_FreeHoles_L2, hrl0]
      refine SubQ.of (l1 := [(6, .sl 2 1 0 i)]) (s1 := ([(2, ints O), (1, ints g), (0, rowsV B)], 3)) (SubI.slots rfl (by simp)) ?_
      simp -implicitDefEqProofs [hrl0, htk]
end Go.Proofs.YtkoljbncokmeaaaDoor
