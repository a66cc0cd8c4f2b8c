import Derived.Test.YtncnohompmcddaaGdA
namespace Go.Proofs.Ytncnohompmcddaa
open Go Go.RowKit
set_option maxRecDepth 1000000
set_option linter.unusedSimpArgs false
set_option linter.unusedVariables false
set_option maxHeartbeats 1000000
/-- The least number from 1 on that times a is 1 modulo p, or 0. -/
def invR (a p v : Int) : Prop := (v = 0 ∧ ∀ b : Nat, 1 ≤ b → (b : Int) < p → (a % p * b) % p ≠ 1) ∨ ∃ m : Nat, v = m ∧ 1 ≤ m ∧ (m : Int) < p ∧ (a % p * m) % p = 1 ∧ ∀ b : Nat, 1 ≤ b → b < m → (a % p * b) % p ≠ 1
theorem least_nat (q : Nat → Prop) (k : Nat) : (∀ i, i < k → ¬ q i) ∨ ∃ m, m < k ∧ q m ∧ ∀ i, i < m → ¬ q i := by
  induction k with
  | zero => exact .inl fun i hi => by omega
  | succ k ih =>
    rcases ih with h | ⟨m, a, b, c⟩
    · by_cases hq : q k
      · exact .inr ⟨k, by omega, hq, h⟩
      · refine .inl fun i hi => ?_
        rcases Nat.lt_succ_iff_lt_or_eq.1 hi with h1 | rfl
        · exact h i h1
        · exact hq
    · exact .inr ⟨m, by omega, b, c⟩
theorem inv_ex (a p : Int) : ∃ v, invR a p v := by
  rcases least_nat (fun b => 1 ≤ b ∧ (b : Int) < p ∧ (a % p * b) % p = 1) p.toNat with h | ⟨m, h1, ⟨h2, h3, h4⟩, h5⟩
  · exact ⟨0, .inl ⟨rfl, fun b hb hbp e => h b (by omega) ⟨hb, hbp, e⟩⟩⟩
  · exact ⟨m, .inr ⟨m, rfl, h2, h3, h4, fun b hb hbm e => h5 b hbm ⟨hb, by omega, e⟩⟩⟩
noncomputable def invZ (a p : Int) : Int := Classical.choose (inv_ex a p)
theorem invZ_spec (a p : Int) : invR a p (invZ a p) := Classical.choose_spec (inv_ex a p)
theorem invZ_hit {a p : Int} {m : Nat} (h1 : 1 ≤ m) (h2 : (m : Int) < p) (h3 : (a % p * m) % p = 1) (h4 : ∀ b : Nat, 1 ≤ b → b < m → (a % p * b) % p ≠ 1) : invZ a p = m := by
  rcases invZ_spec a p with ⟨_, h⟩ | ⟨k, e, k1, k2, k3, k4⟩
  · exact absurd h3 (h m h1 h2)
  · rw [e]
    rcases Nat.lt_trichotomy m k with h | h | h
    · exact absurd h3 (k4 m h1 h)
    · rw [h]
    · exact absurd k3 (h4 k k1 h)
theorem invZ_none {a p : Int} (h : ∀ b : Nat, 1 ≤ b → (b : Int) < p → (a % p * b) % p ≠ 1) : invZ a p = 0 := by
  rcases invZ_spec a p with ⟨e, _⟩ | ⟨k, _, k1, k2, k3, _⟩
  · exact e
  · exact absurd k3 (h k k1 k2)
theorem invZ_bnd {a p : Int} (hp : fpP p) : 0 ≤ invZ a p ∧ invZ a p < p := by
  have := fpP_bnd hp
  rcases invZ_spec a p with ⟨e, _⟩ | ⟨k, e, k1, k2, _⟩ <;> omega
theorem mulB {x y p : Int} (hp : p ≤ 5) (h1 : 0 ≤ x) (h2 : x < p) (h3 : 0 ≤ y) (h4 : y < p) : 0 ≤ x * y ∧ x * y ≤ 16 := by
  refine ⟨Int.mul_nonneg h1 h3, ?_⟩
  have := Int.mul_le_mul (show x ≤ 4 by omega) (show y ≤ 4 by omega) h3 (by omega)
  omega
theorem emodB {a p : Int} (hp : fpP p) : 0 ≤ a % p ∧ a % p < p := by
  have := fpP_bnd hp
  exact ⟨Int.emod_nonneg _ (by omega), Int.emod_lt_of_pos _ (by omega)⟩
noncomputable def F_s_InverseMod : List V → Option V := F2 dI dI fun a p => @ite _ (fpP p) (Classical.propDecidable _) (some (.int .i64 (invZ a p))) none
theorem fn_restMod_at {p : Int} (hp : fpP p) (a : Int) : F_i_restMod [.int .i64 a, .int .i64 p] = some (.int .i64 (a % p)) := by
  simp only [F_i_restMod, F2_mk, dI_int, Option.bind_some]
  rw [if_pos hp]
def sc_i_InverseMod_L0 : SC := (.seq (.seq (.reg [⟨(some 13), none, (.mov (.t 6))⟩, ⟨(some 14), none, (.mov (.t 1))⟩, ⟨(some 15), none, (.bin false .lss (.t 13) (.t 14))⟩]) (.cond (.t 15) .skip (.exit 0))) (.seq (.block 1 (.seq (.reg [⟨(some 18), none, (.mov (.t 5))⟩, ⟨(some 19), none, (.mov (.t 6))⟩, ⟨(some 20), none, (.bin false .mul (.t 18) (.t 19))⟩, ⟨(some 21), none, (.mov (.t 1))⟩, ⟨(some 22), none, (.bin false .rem (.t 20) (.t 21))⟩, ⟨(some 23), none, (.bin false .eql (.t 22) (.c (.int .i64 1)))⟩]) (.cond (.t 23) (.seq (.reg [⟨(some 24), none, (.mov (.t 6))⟩, ⟨(some 4), none, (.mov (.t 24))⟩]) .ret) .skip))) (.reg [⟨(some 16), none, (.mov (.t 6))⟩, ⟨(some 17), none, (.bin false .add (.t 16) (.c (.int .i64 1)))⟩, ⟨(some 6), none, (.mov (.t 17))⟩])))
def sc_i_InverseMod : SC := (.seq (.reg [⟨(some 4), none, (.mov (.c (.int .i64 0)))⟩]) (.seq (.seq (.reg [⟨(some 7), none, (.mov (.t 1))⟩, ⟨(some 8), none, (.call 39 [(.t 7)])⟩, ⟨(some 9), none, (.un .not (.t 8))⟩]) (.cond (.t 9) (.seq (.reg [⟨(some 4), none, (.mov (.c (.int .i64 0)))⟩]) .ret) .skip)) (.seq (.reg [⟨(some 10), none, (.mov (.t 0))⟩, ⟨(some 11), none, (.mov (.t 1))⟩, ⟨(some 12), none, (.call 61 [(.t 10), (.t 11)])⟩, ⟨(some 5), none, (.mov (.t 12))⟩]) (.seq (.seq (.reg [⟨(some 6), none, (.mov (.c (.int .i64 1)))⟩]) (.block 0 (.loop sc_i_InverseMod_L0))) (.seq (.reg [⟨(some 4), none, (.mov (.c (.int .i64 0)))⟩]) .ret)))))
theorem code_i_InverseMod : fnCode Try.prog [] 91 = some (25, sc_i_InverseMod, [(4, none)]) := by kernel_rfl
theorem fn_i_InverseMod : FnOk Try.prog 91 F_s_InverseMod := by
  have env := ((envNil_ok (P := Try.prog)).add fn_i_IsFieldPrime).add fn_i_restMod
  refine fn_ok code_i_InverseMod mixed env ?_
  intro args r h hb
  obtain ⟨_, _, a, p, rfl, h1, h2, h4⟩ := F2_inv h
  cases dI_inv h1
  cases dI_inv h2
  simp only [Option.ite_none_right_eq_some, Option.some.injEq] at h4
  obtain ⟨hp, rfl⟩ := h4
  clear h
  refine ⟨by simp, fun w0 U0 L0 N0 => ?_⟩
  clear hb
  have hd := dec_true hp
  have hFm := fn_restMod_at hp
  obtain ⟨p1, p2, p3⟩ := fpP_bnd hp
  obtain ⟨q1, q2⟩ := emodB (a := a) hp
  have hhit := fun (m : Nat) h1 h2 h3 h4 => invZ_hit (a := a) (p := p) (m := m) h1 h2 h3 h4
  have hnone := invZ_none (a := a) (p := p)
  generalize invZ a p = v at *
  generalize hc : a % p = c at *
  simp -implicitDefEqProofs [sc_i_InverseMod, F_s_IsFieldPrime, hd, hFm, hc]
  refine loopI env mixed (fun k : Nat => [(1, .int .i64 p), (5, .int .i64 c), (6, .int .i64 (k : Int))]) (fun _ => ([], 0)) (fun k => 1 ≤ k ∧ (k : Int) ≤ p ∧ ∀ b : Nat, 1 ≤ b → b < k → (c * b) % p ≠ 1) (fun k => p.toNat - k) 1 ⟨by omega, by omega, fun b h1 h2 => by omega⟩ (SubI.slots rfl (by simp)) ?_
  rintro k ⟨hk1, hkp, hI⟩
  by_cases hlt : (k : Int) < p
  · obtain ⟨m1, m2⟩ := mulB p2 q1 q2 (show (0 : Int) ≤ k by omega) hlt
    have hw : IntKind.i64.wrap (c * (k : Int)) = c * k := wrapI _ (by omega) (by omega)
    have ht := tmod_nn p m1
    by_cases h1 : (c * (k : Int)) % p = 1
    · have e := hhit k hk1 hlt h1 hI
      subst e
      simp -implicitDefEqProofs [sc_i_InverseMod_L0, hFm, hc, hlt, hw, ht, h1, p3]
    · simp -implicitDefEqProofs [sc_i_InverseMod_L0, hFm, hc, hlt, hw, ht, h1, p3]
      repeat' (first | omega | apply And.intro)
      refine Again.of (k + 1) ⟨by omega, by omega, fun b hb1 hb2 => ?_⟩ (by omega) (SubI.slots rfl (by simp (disch := omega) [wrapI]))
      rcases Nat.lt_succ_iff_lt_or_eq.1 hb2 with h | rfl
      · exact hI b hb1 h
      · exact h1
  · have e := hnone fun b hb1 hb2 => hI b hb1 (by omega)
    subst e
    simp -implicitDefEqProofs [sc_i_InverseMod_L0, hlt]
def sc_s_InverseMod_L0 : SC := (.seq (.seq (.reg [⟨(some 9), none, (.mov (.t 5))⟩, ⟨(some 10), none, (.mov (.t 1))⟩, ⟨(some 11), none, (.bin false .lss (.t 9) (.t 10))⟩]) (.cond (.t 11) .skip (.exit 0))) (.seq (.block 1 (.seq (.reg [⟨(some 14), none, (.mov (.t 0))⟩, ⟨(some 15), none, (.mov (.t 1))⟩, ⟨(some 16), none, (.call 55 [(.t 14), (.t 15)])⟩, ⟨(some 17), none, (.mov (.t 5))⟩, ⟨(some 18), none, (.bin false .mul (.t 16) (.t 17))⟩, ⟨(some 19), none, (.mov (.t 1))⟩, ⟨(some 20), none, (.bin false .rem (.t 18) (.t 19))⟩, ⟨(some 21), none, (.bin false .eql (.t 20) (.c (.int .i64 1)))⟩]) (.cond (.t 21) (.seq (.reg [⟨(some 22), none, (.mov (.t 5))⟩, ⟨(some 4), none, (.mov (.t 22))⟩]) .ret) .skip))) (.reg [⟨(some 12), none, (.mov (.t 5))⟩, ⟨(some 13), none, (.bin false .add (.t 12) (.c (.int .i64 1)))⟩, ⟨(some 5), none, (.mov (.t 13))⟩])))
def sc_s_InverseMod : SC := (.seq (.reg [⟨(some 4), none, (.mov (.c (.int .i64 0)))⟩]) (.seq (.seq (.reg [⟨(some 6), none, (.mov (.t 1))⟩, ⟨(some 7), none, (.call 33 [(.t 6)])⟩, ⟨(some 8), none, (.un .not (.t 7))⟩]) (.cond (.t 8) (.seq (.reg [⟨(some 4), none, (.mov (.c (.int .i64 0)))⟩]) .ret) .skip)) (.seq (.seq (.reg [⟨(some 5), none, (.mov (.c (.int .i64 1)))⟩]) (.block 0 (.loop sc_s_InverseMod_L0))) (.seq (.reg [⟨(some 4), none, (.mov (.c (.int .i64 0)))⟩]) .ret))))
theorem code_s_InverseMod : fnCode Try.prog [] 107 = some (23, sc_s_InverseMod, [(4, none)]) := by kernel_rfl
theorem fn_s_InverseMod : FnOk Try.prog 107 F_s_InverseMod := by
  have env := ((envNil_ok (P := Try.prog)).add fn_s_IsFieldPrime).add fn_s_l13Mod
  refine fn_ok code_s_InverseMod mixed env ?_
  intro args r h hb
  obtain ⟨_, _, a, p, rfl, h1, h2, h4⟩ := F2_inv h
  cases dI_inv h1
  cases dI_inv h2
  simp only [Option.ite_none_right_eq_some, Option.some.injEq] at h4
  obtain ⟨hp, rfl⟩ := h4
  clear h
  refine ⟨by simp, fun w0 U0 L0 N0 => ?_⟩
  clear hb
  have hd := dec_true hp
  have hFm := fn_restMod_at hp
  obtain ⟨p1, p2, p3⟩ := fpP_bnd hp
  obtain ⟨q1, q2⟩ := emodB (a := a) hp
  have hhit := fun (m : Nat) h1 h2 h3 h4 => invZ_hit (a := a) (p := p) (m := m) h1 h2 h3 h4
  have hnone := invZ_none (a := a) (p := p)
  generalize invZ a p = v at *
  generalize hc : a % p = c at *
  simp -implicitDefEqProofs [sc_s_InverseMod, F_s_IsFieldPrime, hd, hFm, hc]
  refine loopI env mixed (fun k : Nat => [(0, .int .i64 a), (1, .int .i64 p), (5, .int .i64 (k : Int))]) (fun _ => ([], 0)) (fun k => 1 ≤ k ∧ (k : Int) ≤ p ∧ ∀ b : Nat, 1 ≤ b → b < k → (c * b) % p ≠ 1) (fun k => p.toNat - k) 1 ⟨by omega, by omega, fun b h1 h2 => by omega⟩ (SubI.slots rfl (by simp)) ?_
  rintro k ⟨hk1, hkp, hI⟩
  by_cases hlt : (k : Int) < p
  · obtain ⟨m1, m2⟩ := mulB p2 q1 q2 (show (0 : Int) ≤ k by omega) hlt
    have hw : IntKind.i64.wrap (c * (k : Int)) = c * k := wrapI _ (by omega) (by omega)
    have ht := tmod_nn p m1
    by_cases h1 : (c * (k : Int)) % p = 1
    · have e := hhit k hk1 hlt h1 hI
      subst e
      simp -implicitDefEqProofs [sc_s_InverseMod_L0, hFm, hc, hlt, hw, ht, h1, p3]
    · simp -implicitDefEqProofs [sc_s_InverseMod_L0, hFm, hc, hlt, hw, ht, h1, p3]
      repeat' (first | omega | apply And.intro)
      refine Again.of (k + 1) ⟨by omega, by omega, fun b hb1 hb2 => ?_⟩ (by omega) (SubI.slots rfl (by simp (disch := omega) [wrapI]))
      rcases Nat.lt_succ_iff_lt_or_eq.1 hb2 with h | rfl
      · exact hI b hb1 h
      · exact h1
  · have e := hnone fun b hb1 hb2 => hI b hb1 (by omega)
    subst e
    simp -implicitDefEqProofs [sc_s_InverseMod_L0, hlt]
/-- A row whose first t places are taken from g. -/
noncomputable def pK (r : List Int) (g : Nat → Int) (t : Nat) : List Int := rowF r.length fun q => @ite _ (q < t) (Classical.propDecidable _) (g q) (at0 r q)
@[simp] theorem pK_len (r : List Int) (g : Nat → Int) (t : Nat) : (pK r g t).length = r.length := by simp [pK]
theorem rowF_self (r : List Int) : rowF r.length (at0 r) = r := by
  apply at0_ext (by simp)
  intro j hj
  exact rowF_at (by simpa using hj)
theorem pK_zero (r : List Int) (g : Nat → Int) : pK r g 0 = r := by
  rw [pK, rowF_congr (h := at0 r) fun j _ => by rw [if_neg (by omega)], rowF_self]
theorem pK_full (r : List Int) (g : Nat → Int) : pK r g r.length = rowF r.length g := rowF_congr fun j hj => by rw [if_pos hj]
theorem pK_at {r : List Int} {g : Nat → Int} {t q : Nat} (hq : q < r.length) (h : t ≤ q) : at0 (pK r g t) q = at0 r q := by
  unfold pK
  rw [rowF_at hq, if_neg (by omega)]
theorem pK_set {r : List Int} {g : Nat → Int} {t : Nat} (h : t < r.length) : (pK r g t).set t (g t) = pK r g (t + 1) := by
  unfold pK
  rw [rowF_set h]
  refine rowF_congr fun i hi => ?_
  by_cases e : i = t
  · rw [if_pos e, e, if_pos (by omega)]
  · rw [if_neg e]
    by_cases h3 : i < t
    · rw [if_pos h3, if_pos (by omega)]
    · rw [if_neg h3, if_neg (by omega)]
/-- A matrix whose first i rows are taken from G. -/
noncomputable def pM (M : List (List Int)) (G : Nat → List Int) (i : Nat) : List (List Int) := (List.range M.length).map fun k => @ite _ (k < i) (Classical.propDecidable _) (G k) (atR M k)
@[simp] theorem pM_len (M : List (List Int)) (G : Nat → List Int) (i : Nat) : (pM M G i).length = M.length := by simp [pM]
theorem pM_lt {M : List (List Int)} {G : Nat → List Int} {i k : Nat} (hk : k < M.length) (h : k < i) : atR (pM M G i) k = G k := by
  rw [atR_eq (by simpa using hk)]
  simp [pM, h]
theorem pM_ge {M : List (List Int)} {G : Nat → List Int} {i k : Nat} (hk : k < M.length) (h : i ≤ k) : atR (pM M G i) k = atR M k := by
  rw [atR_eq (by simpa using hk)]
  simp [pM, show ¬ k < i by omega]
theorem atR_ext {M N : List (List Int)} (h : M.length = N.length) (e : ∀ k, k < M.length → atR M k = atR N k) : M = N := by
  apply List.ext_getElem h
  intro k h1 h2
  rw [← atR_eq h1, ← atR_eq h2, e k h1]
theorem pM_zero (M : List (List Int)) (G : Nat → List Int) : pM M G 0 = M := atR_ext (by simp) fun k hk => pM_ge (by simpa using hk) (by omega)
theorem pM_set {M : List (List Int)} {G : Nat → List Int} {i : Nat} (h : i < M.length) : (pM M G i).set i (G i) = pM M G (i + 1) := atR_ext (by simp) fun k hk => by
  simp only [List.length_set, pM_len] at hk
  rw [atR_set]
  by_cases e : i = k
  · subst e
    rw [if_pos ⟨rfl, by simpa using hk⟩, pM_lt hk (by omega)]
  · rw [if_neg fun h => e h.1]
    by_cases h3 : k < i
    · rw [pM_lt hk h3, pM_lt hk (by omega)]
    · rw [pM_ge hk (by omega), pM_ge hk (by omega)]
theorem pM_keep {M : List (List Int)} {G : Nat → List Int} {i : Nat} (h : i < M.length) (e : G i = atR M i) : pM M G (i + 1) = pM M G i := by
  rw [← pM_set h, e]
  refine atR_ext (by simp) fun k hk => ?_
  rw [atR_set]
  by_cases e2 : i = k
  · subst e2
    rw [if_pos ⟨rfl, by simpa using h⟩, pM_ge h (by omega)]
  · rw [if_neg fun h => e2 h.1]
/-- Rows of one length with numbers from 0 to p - 1. -/
def okM (p : Int) (w : Nat) (M : List (List Int)) : Prop := ∀ i, i < M.length → (atR M i).length = w ∧ ∀ j, j < w → 0 ≤ at0 (atR M i) j ∧ at0 (atR M i) j < p
def sclG (p f : Int) (r : List Int) (q : Nat) : Int := at0 r q * f % p
noncomputable def sclR (p f : Int) (r : List Int) : List Int := rowF r.length (sclG p f r)
def elG (p c : Int) (r q : List Int) (j : Nat) : Int := (at0 r j - c * at0 q j) % p
noncomputable def elimR (p c : Int) (r q : List Int) : List Int := rowF r.length (elG p c r q)
@[simp] theorem sclR_len (p f : Int) (r : List Int) : (sclR p f r).length = r.length := by simp [sclR]
@[simp] theorem elimR_len (p c : Int) (r q : List Int) : (elimR p c r q).length = r.length := by simp [elimR]
theorem elimR_zero {p : Int} {r : List Int} (hr : ∀ j, j < r.length → 0 ≤ at0 r j ∧ at0 r j < p) (q : List Int) : elimR p 0 r q = r := by
  have : elimR p 0 r q = rowF r.length (at0 r) := rowF_congr fun j hj => by
    unfold elG
    rw [Int.zero_mul, Int.sub_zero]
    exact Int.emod_eq_of_lt (hr j hj).1 (hr j hj).2
  rw [this, rowF_self]
/-- What becomes of the row i when the column j is cleared by the row d. -/
noncomputable def clrG (p : Int) (M : List (List Int)) (d j i : Nat) : List Int := @ite _ (i = d) (Classical.propDecidable _) (atR M i) (elimR p (at0 (atR M i) j) (atR M i) (atR M d))
theorem clrG_d (p : Int) (M : List (List Int)) (d j : Nat) : clrG p M d j d = atR M d := by unfold clrG; rw [if_pos rfl]
theorem clrG_ne {p : Int} {M : List (List Int)} {d j i : Nat} (h : i ≠ d) : clrG p M d j i = elimR p (at0 (atR M i) j) (atR M i) (atR M d) := by unfold clrG; rw [if_neg h]
noncomputable def clrM (p : Int) (M : List (List Int)) (d j : Nat) : List (List Int) := pM M (clrG p M d j) M.length
noncomputable def sclM (p : Int) (M : List (List Int)) (d j : Nat) : List (List Int) := M.set d (sclR p (invZ (at0 (atR M d) j) p) (atR M d))
def swp (M : List (List Int)) (d a : Nat) : List (List Int) := (M.set d (atR M a)).set a (atR M d)
noncomputable def pivM (p : Int) (M : List (List Int)) (d a j : Nat) : List (List Int) := clrM p (sclM p (swp M d a) d j) d j
@[simp] theorem clrM_len (p : Int) (M : List (List Int)) (d j : Nat) : (clrM p M d j).length = M.length := by simp [clrM]
@[simp] theorem sclM_len (p : Int) (M : List (List Int)) (d j : Nat) : (sclM p M d j).length = M.length := by simp [sclM]
@[simp] theorem swp_len (M : List (List Int)) (d a : Nat) : (swp M d a).length = M.length := by simp [swp]
@[simp] theorem pivM_len (p : Int) (M : List (List Int)) (d a j : Nat) : (pivM p M d a j).length = M.length := by simp [pivM]
theorem swp_at {M : List (List Int)} {d a k : Nat} (hd : d < M.length) (ha : a < M.length) (hk : k < M.length) : atR (swp M d a) k = if k = a then atR M d else if k = d then atR M a else atR M k := by
  unfold swp
  rw [atR_set]
  by_cases e : a = k
  · subst e
    rw [if_pos ⟨rfl, by simpa using ha⟩, if_pos rfl]
  · rw [if_neg fun h => e h.1, if_neg fun h => e h.symm, atR_set]
    by_cases e2 : d = k
    · subst e2
      rw [if_pos ⟨rfl, hd⟩, if_pos rfl]
    · rw [if_neg fun h => e2 h.1, if_neg fun h => e2 h.symm]
theorem okM_swp {p : Int} {w : Nat} {M : List (List Int)} (h : okM p w M) {d a : Nat} (hd : d < M.length) (ha : a < M.length) : okM p w (swp M d a) := fun i hi => by
  rw [swp_len] at hi
  rw [swp_at hd ha hi]
  split
  · exact h d hd
  · split
    · exact h a ha
    · exact h i hi
theorem okM_scl {p : Int} {w : Nat} {M : List (List Int)} (hp : fpP p) (h : okM p w M) {d : Nat} (j : Nat) (hd : d < M.length) : okM p w (sclM p M d j) := fun i hi => by
  rw [sclM_len] at hi
  unfold sclM
  rw [atR_set]
  split
  · refine ⟨by rw [sclR_len]; exact (h d hd).1, fun q hq => ?_⟩
    unfold sclR
    rw [rowF_at (by rw [(h d hd).1]; exact hq)]
    exact emodB hp
  · exact h i hi
theorem okM_clr {p : Int} {w : Nat} {M : List (List Int)} (hp : fpP p) (h : okM p w M) (d j : Nat) : okM p w (clrM p M d j) := fun i hi => by
  rw [clrM_len] at hi
  unfold clrM
  rw [pM_lt hi hi]
  by_cases e : i = d
  · subst e
    rw [clrG_d]
    exact h i hi
  · rw [clrG_ne e]
    refine ⟨by rw [elimR_len]; exact (h i hi).1, fun q hq => ?_⟩
    unfold elimR
    rw [rowF_at (by rw [(h i hi).1]; exact hq)]
    exact emodB hp
theorem okM_piv {p : Int} {w : Nat} {M : List (List Int)} (hp : fpP p) (h : okM p w M) {d a : Nat} (j : Nat) (hd : d < M.length) (ha : a < M.length) : okM p w (pivM p M d a j) :=
  okM_clr hp (okM_scl hp (okM_swp h hd ha) j (by simpa using hd)) d j
/-- The first row from i on with a number in column j. -/
noncomputable def fndZ (M : List (List Int)) (j : Nat) : Nat → Nat → Nat
  | 0, i => i
  | k + 1, i => @ite _ (at0 (atR M i) j = 0) (Classical.propDecidable _) (fndZ M j k (i + 1)) i
theorem fndZ_yes {M : List (List Int)} {j k i : Nat} (h : at0 (atR M i) j = 0) : fndZ M j (k + 1) i = fndZ M j k (i + 1) := by rw [fndZ, if_pos h]
theorem fndZ_no {M : List (List Int)} {j k i : Nat} (h : ¬ at0 (atR M i) j = 0) : fndZ M j (k + 1) i = i := by rw [fndZ, if_neg h]
theorem fndZ_bnd (M : List (List Int)) (j : Nat) (k : Nat) : ∀ i, i ≤ fndZ M j k i ∧ fndZ M j k i ≤ i + k := by
  induction k with
  | zero => intro i; simp [fndZ]
  | succ k ih =>
    intro i
    by_cases h : at0 (atR M i) j = 0
    · rw [fndZ_yes h]
      have := ih (i + 1)
      omega
    · rw [fndZ_no h]; omega
/-- One column of the reduced form. -/
noncomputable def redC (p : Int) (j : Nat) (x : List (List Int) × List Int) : List (List Int) × List Int :=
  @ite _ (x.2.length < x.1.length ∧ fndZ x.1 j (x.1.length - x.2.length) x.2.length < x.1.length) (Classical.propDecidable _) (pivM p x.1 x.2.length (fndZ x.1 j (x.1.length - x.2.length) x.2.length) j, x.2 ++ [(j : Int)]) x
noncomputable def redS (p : Int) (M : List (List Int)) : Nat → List (List Int) × List Int
  | 0 => (M, [])
  | j + 1 => redC p j (redS p M j)
theorem redC_yes {p : Int} {j : Nat} {M : List (List Int)} {P : List Int} {a : Nat} (ha : fndZ M j (M.length - P.length) P.length = a) (h1 : P.length < M.length) (h2 : a < M.length) : redC p j (M, P) = (pivM p M P.length a j, P ++ [(j : Int)]) := by
  subst ha
  unfold redC
  rw [if_pos ⟨h1, h2⟩]
theorem redC_no {p : Int} {j : Nat} {M : List (List Int)} {P : List Int} (h : ¬ (P.length < M.length ∧ fndZ M j (M.length - P.length) P.length < M.length)) : redC p j (M, P) = (M, P) := by
  unfold redC
  rw [if_neg h]
structure redI (p : Int) (w : Nat) (M0 : List (List Int)) (j : Nat) (x : List (List Int) × List Int) : Prop where
  ok : okM p w x.1
  hl : x.1.length = M0.length
  hp : x.2.length ≤ x.1.length
  hj : ∀ q, q < x.2.length → 0 ≤ at0 x.2 q ∧ at0 x.2 q < j
  hs : x.2.length ≤ j
theorem redI_step {p : Int} {w : Nat} {M0 : List (List Int)} {j : Nat} {x : List (List Int) × List Int} (hp : fpP p) (h : redI p w M0 j x) : redI p w M0 (j + 1) (redC p j x) := by
  obtain ⟨M, P⟩ := x
  by_cases hc : P.length < M.length ∧ fndZ M j (M.length - P.length) P.length < M.length
  · rw [redC_yes rfl hc.1 hc.2]
    refine ⟨okM_piv hp h.ok j hc.1 hc.2, by have := h.hl; simpa using this, by simp only [pivM_len, List.length_append, List.length_singleton]; omega, fun q hq => ?_, by have := h.hs; simp only [List.length_append, List.length_singleton] at *; omega⟩
    simp only [List.length_append, List.length_singleton] at hq
    simp only
    rw [at0_app]
    split
    · have := h.hj q (by assumption)
      simp only at this
      omega
    · rw [show q - P.length = 0 by omega]
      simp only [at0, List.getElem?_cons_zero, Option.getD_some]
      omega
  · rw [redC_no hc]
    exact ⟨h.ok, h.hl, h.hp, fun q hq => by have := h.hj q hq; omega, by have := h.hs; omega⟩
theorem redI_all {p : Int} {w : Nat} {M0 : List (List Int)} (hp : fpP p) (h : okM p w M0) (j : Nat) : redI p w M0 j (redS p M0 j) := by
  induction j with
  | zero => exact ⟨h, rfl, by simp [redS], fun q hq => by simp [redS] at hq, by simp [redS]⟩
  | succ j ih => exact redI_step hp ih
theorem redS_stop {p : Int} {M : List (List Int)} {j : Nat} (h : (redS p M j).2.length = (redS p M j).1.length) : ∀ k, redS p M (j + k) = redS p M j := by
  intro k
  induction k with
  | zero => rfl
  | succ k ih =>
    rw [← Nat.add_assoc, redS, ih]
    generalize redS p M j = x at *
    obtain ⟨M, P⟩ := x
    exact redC_no fun hc => by simp only at h; omega
end Go.Proofs.Ytncnohompmcddaa
