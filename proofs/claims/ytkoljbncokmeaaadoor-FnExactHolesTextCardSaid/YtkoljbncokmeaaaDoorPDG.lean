import Derived.Test.YtkoljbncokmeaaaDoorPDF
import Derived.Test.YtkoljbncokmeaaaDoorPDE
import Derived.Test.YtkoljbncokmeaaaDoorPDD
namespace Go.Proofs.YtkoljbncokmeaaaDoor
open Go Go.RowKit
set_option maxRecDepth 1000000
set_option linter.unusedSimpArgs false
set_option linter.unusedVariables false
set_option maxHeartbeats 1000000
/-- The number of the face r in the border of s. -/
noncomputable def sgnZ (r s : Int) : Int := @ite _ (subS r s) (Classical.propDecidable _) (1 - 2 * (sz (band s (bnot s r - 1)) % 2)) 0
theorem sgnZ_no {r s : Int} (h : ¬ subS r s) : sgnZ r s = 0 := by unfold sgnZ; rw [if_neg h]
theorem sgnZ_yes {r s : Int} (h : subS r s) : sgnZ r s = 1 - 2 * (sz (band s (bnot s r - 1)) % 2) := by unfold sgnZ; rw [if_pos h]
theorem sgnZ_bnd (r s : Int) : -1 ≤ sgnZ r s ∧ sgnZ r s ≤ 1 := by
  by_cases h : subS r s
  · rw [sgnZ_yes h]; omega
  · rw [sgnZ_no h]; omega
theorem sgn_set {r s : Int} (hr : isS r) (hs : isS s) (hz : sz s = sz r + 1) (h : subS r s) : isS (bnot s r) ∧ isS (bnot s r - 1) := by
  have hb := isS_bnot hs hr
  have hne : bnot s r ≠ 0 := fun e => by
    have := subS_anti hs hr e h
    rw [this] at hz
    omega
  have h1 := hb.1
  have h2 := hb.2
  exact ⟨hb, by omega, by omega⟩
noncomputable def F_s_l13Sign : List V → Option V := F2 dI dI fun r s => @ite _ (isS r ∧ isS s ∧ sz s = sz r + 1) (Classical.propDecidable _) (some (.int .i64 (sgnZ r s))) none
theorem tmod_nn {a : Int} (p : Int) (h : 0 ≤ a) : a.tmod p = a % p := Int.tmod_eq_emod_of_nonneg h
theorem tmod_neg {a : Int} (p : Int) (h : a < 0) : a.tmod p = -((-a) % p) := by
  have h1 := tmod_nn (a := -a) p (by omega)
  rw [Int.neg_tmod] at h1
  omega
theorem fpP_bnd {p : Int} (hp : fpP p) : 2 ≤ p ∧ p ≤ 5 ∧ p ≠ 0 := by rcases hp with rfl | rfl | rfl <;> omega
noncomputable def sgnM (R C : List Int) : List (List Int) := R.map fun r => C.map (sgnZ r)
@[simp] theorem sgnM_len (R C : List Int) : (sgnM R C).length = R.length := by simp [sgnM]
theorem sgnM_at {R C : List Int} {i : Nat} (h : i < R.length) : atR (sgnM R C) i = C.map (sgnZ (at0 R i)) := by
  rw [atR_eq (by simpa using h), at0_eq h]
  simp [sgnM]
noncomputable def borM (n : Int) (l : List Int) (k : Int) : List (List Int) := sgnM (fosL n l (k - 1)) (fosL n l k)
theorem mem_fosL {n : Int} {l : List Int} {k s : Int} (h : s ∈ fosL n l k) : isS s ∧ cplx n l ∧ faceS l s ∧ sz s = k := mem_setsOf.1 h
noncomputable def F_i_BorderMatrix : List V → Option V := F2 dC dI fun c k => @ite _ (cplx c.1 c.2 ∧ 1 ≤ k ∧ k ≤ 6) (Classical.propDecidable _) (some (.own 1 (rowsV (borM c.1 c.2 k)))) none
/-- The rows as far as i. -/
def padR (M : List (List Int)) (i : Nat) : List (List Int) := (List.range M.length).map fun j => if j < i then atR M j else []
@[simp] theorem padR_len (M : List (List Int)) (i : Nat) : (padR M i).length = M.length := by simp [padR]
theorem padR_zero (M : List (List Int)) : padR M 0 = List.replicate M.length [] := by
  apply List.ext_getElem (by simp)
  intro j h1 h2
  simp [padR]
theorem padR_full (M : List (List Int)) : padR M M.length = M := by
  apply List.ext_getElem (by simp)
  intro j h1 h2
  simp [padR, h2, atR_eq h2]
theorem padR_set {M : List (List Int)} {i : Nat} (h : i < M.length) : (padR M i).set i (atR M i) = padR M (i + 1) := by
  apply List.ext_getElem (by simp)
  intro j h1 h2
  rw [List.getElem_set]
  simp only [padR, List.getElem_map, List.getElem_range]
  by_cases e : i = j
  · subst e; simp
  · by_cases h3 : j < i
    · simp [e, h3, show j < i + 1 by omega]
    · simp [e, h3, show ¬ j < i + 1 by omega]
theorem rowsV_self {M : List (List Int)} {i : Nat} (h : i < M.length) : (rowsV M).set i (.own 1 (ints (atR M i))) = rowsV M := by
  rw [rowsV_set]
  congr 1
  apply List.ext_getElem (by simp)
  intro j h1 h2
  rw [List.getElem_set]
  by_cases e : i = j
  · subst e; simp [atR_eq h]
  · simp [e]
theorem rowsV_snoc {M : List (List Int)} {i : Nat} (h : i < M.length) (v : V) : (rowsV (M.take i) ++ [v]).set i (.own 1 (ints (atR M i))) = rowsV (M.take (i + 1)) := by
  have hl : (rowsV (M.take i)).length = i := by simp; omega
  have e : M.take (i + 1) = M.take i ++ [atR M i] := by rw [List.take_succ_eq_append_getElem h, atR_eq h]
  rw [List.set_append, if_neg (by omega), hl, Nat.sub_self, e, ← rowsV_app]
  rfl
/-- A row of signs as far as j. -/
noncomputable def sgR (r : Int) (C : List Int) (j : Nat) : List Int := rowF C.length fun q => @ite _ (q < j) (Classical.propDecidable _) (sgnZ r (at0 C q)) 0
@[simp] theorem sgR_len (r : Int) (C : List Int) (j : Nat) : (sgR r C j).length = C.length := by simp [sgR]
theorem sgR_zero (r : Int) (C : List Int) : sgR r C 0 = List.replicate C.length 0 := by
  rw [rowF_zero]
  exact rowF_congr fun j _ => by rw [if_neg (by omega)]
theorem sgR_full (r : Int) (C : List Int) : sgR r C C.length = C.map (sgnZ r) := by
  rw [← rowF_map C (sgnZ r)]
  exact rowF_congr fun j hj => by rw [if_pos hj]
theorem sgR_set {r : Int} {C : List Int} {j : Nat} (h : j < C.length) : (sgR r C j).set j (sgnZ r (at0 C j)) = sgR r C (j + 1) := by
  unfold sgR
  rw [rowF_set h]
  refine rowF_congr fun i hi => ?_
  by_cases e : i = j
  · rw [if_pos e, e, if_pos (by omega)]
  · rw [if_neg e]
    by_cases h3 : i < j
    · rw [if_pos h3, if_pos (by omega)]
    · rw [if_neg h3, if_neg (by omega)]
def sc_i_borderSign : SC := (.seq (.reg [⟨(some 4), none, (.mov (.c (.int .i64 0)))⟩]) (.seq (.seq (.reg [⟨(some 6), none, (.mov (.t 0))⟩, ⟨(some 7), none, (.mov (.t 1))⟩, ⟨(some 8), none, (.bin false .andNot (.t 6) (.t 7))⟩, ⟨(some 9), none, (.bin false .neq (.t 8) (.c (.int .i64 0)))⟩]) (.cond (.t 9) (.seq (.reg [⟨(some 4), none, (.mov (.c (.int .i64 0)))⟩]) .ret) .skip)) (.seq (.reg [⟨(some 10), none, (.mov (.t 1))⟩, ⟨(some 11), none, (.mov (.t 0))⟩, ⟨(some 12), none, (.bin false .andNot (.t 10) (.t 11))⟩, ⟨(some 5), none, (.mov (.t 12))⟩]) (.seq (.seq (.reg [⟨(some 13), none, (.mov (.t 1))⟩, ⟨(some 14), none, (.mov (.t 5))⟩, ⟨(some 15), none, (.bin false .sub (.t 14) (.c (.int .i64 1)))⟩, ⟨(some 16), none, (.bin false .and (.t 13) (.t 15))⟩, ⟨(some 17), none, (.call 48 [(.t 16)])⟩, ⟨(some 18), none, (.bin false .rem (.t 17) (.c (.int .i64 2)))⟩, ⟨(some 19), none, (.bin false .eql (.t 18) (.c (.int .i64 0)))⟩]) (.cond (.t 19) (.seq (.reg [⟨(some 4), none, (.mov (.c (.int .i64 1)))⟩]) .ret) .skip)) (.seq (.reg [⟨(some 4), none, (.mov (.c (.int .i64 (-1))))⟩]) .ret)))))
theorem code_i_borderSign : fnCode Tryd.prog [] 53 = some (20, sc_i_borderSign, [(4, none)]) := by kernel_rfl
theorem fn_i_borderSign : FnOk Tryd.prog 53 F_s_l13Sign := by
  have env := (envNil_ok (P := Tryd.prog)).add fn_i_SizeOf
  refine fn_ok code_i_borderSign mixed env ?_
  intro args r h hb
  obtain ⟨_, _, r, s, rfl, h1, h2, h4⟩ := F2_inv h
  cases dI_inv h1
  cases dI_inv h2
  simp only [Option.ite_none_right_eq_some, Option.some.injEq] at h4
  obtain ⟨⟨hr, hs, hz⟩, rfl⟩ := h4
  clear h
  refine ⟨by simp, fun w0 U0 L0 N0 => ?_⟩
  clear hb
  by_cases h : bnot r s = 0
  rotate_left
  · have e := sgnZ_no (r := r) (s := s) h
    simp -implicitDefEqProofs [sc_i_borderSign, h, e]
  have e := sgnZ_yes (r := r) (s := s) h
  obtain ⟨q1, q2⟩ := sgn_set hr hs hz h
  have q3 := q1.1
  have q4 := q1.2
  have hb := isS_band hs q2
  have r1 := sizeOf1_set hb.1 hb.2
  have hw : IntKind.i64.wrap (bnot s r - 1) = bnot s r - 1 := wrapI _ (by omega) (by omega)
  have hz0 := sz_nn (band s (bnot s r - 1))
  generalize sz (band s (bnot s r - 1)) = z at *
  have ht := tmod_nn 2 hz0
  by_cases h2 : z % 2 = 0
  · rw [h2] at e ht
    simp -implicitDefEqProofs [sc_i_borderSign, F_i_SizeOf, h, e, hw, r1, ht]
  · have h3 : z % 2 = 1 := by omega
    rw [h3] at e ht
    simp -implicitDefEqProofs [sc_i_borderSign, F_i_SizeOf, h, e, hw, r1, ht]
def sc_i_restMod : SC := (.seq (.reg [⟨(some 4), none, (.mov (.c (.int .i64 0)))⟩]) (.seq (.reg [⟨(some 6), none, (.mov (.t 0))⟩, ⟨(some 7), none, (.mov (.t 1))⟩, ⟨(some 8), none, (.bin false .rem (.t 6) (.t 7))⟩, ⟨(some 5), none, (.mov (.t 8))⟩]) (.seq (.seq (.reg [⟨(some 9), none, (.mov (.t 5))⟩, ⟨(some 10), none, (.bin false .lss (.t 9) (.c (.int .i64 0)))⟩]) (.cond (.t 10) (.reg [⟨(some 11), none, (.mov (.t 5))⟩, ⟨(some 12), none, (.mov (.t 1))⟩, ⟨(some 13), none, (.bin false .add (.t 11) (.t 12))⟩, ⟨(some 5), none, (.mov (.t 13))⟩]) .skip)) (.seq (.reg [⟨(some 14), none, (.mov (.t 5))⟩, ⟨(some 4), none, (.mov (.t 14))⟩]) .ret))))
theorem code_i_restMod : fnCode Tryd.prog [] 80 = some (15, sc_i_restMod, [(4, none)]) := by kernel_rfl
end Go.Proofs.YtkoljbncokmeaaaDoor
namespace Go.Proofs.YtkoljbncokmeaaaDoor
open Go Go.RowKit
set_option maxRecDepth 1000000
set_option linter.unusedSimpArgs false
set_option linter.unusedVariables false
set_option maxHeartbeats 1000000
/-- The least number from 1 on that times a is 1 modulo p, or 0. -/
def invR (a p v : Int) : Prop := (v = 0 ∧ ∀ b : Nat, 1 ≤ b → (b : Int) < p → (a % p * b) % p ≠ 1) ∨ ∃ m : Nat, v = m ∧ 1 ≤ m ∧ (m : Int) < p ∧ (a % p * m) % p = 1 ∧ ∀ b : Nat, 1 ≤ b → b < m → (a % p * b) % p ≠ 1
theorem least_nat (q : Nat → Prop) (k : Nat) : (∀ i, i < k → ¬ q i) ∨ ∃ m, m < k ∧ q m ∧ ∀ i, i < m → ¬ q i := by
  induction k with
  | zero => exact .inl fun i hi => by omega
  | succ k ih =>
    rcases ih with h | ⟨m, a, b, c⟩
    · by_cases hq : q k
      · exact .inr ⟨k, by omega, hq, h⟩
      · refine .inl fun i hi => ?_
        rcases Nat.lt_succ_iff_lt_or_eq.1 hi with h1 | rfl
        · exact h i h1
        · exact hq
    · exact .inr ⟨m, by omega, b, c⟩
theorem inv_ex (a p : Int) : ∃ v, invR a p v := by
  rcases least_nat (fun b => 1 ≤ b ∧ (b : Int) < p ∧ (a % p * b) % p = 1) p.toNat with h | ⟨m, h1, ⟨h2, h3, h4⟩, h5⟩
  · exact ⟨0, .inl ⟨rfl, fun b hb hbp e => h b (by omega) ⟨hb, hbp, e⟩⟩⟩
  · exact ⟨m, .inr ⟨m, rfl, h2, h3, h4, fun b hb hbm e => h5 b hbm ⟨hb, by omega, e⟩⟩⟩
noncomputable def invZ (a p : Int) : Int := Classical.choose (inv_ex a p)
theorem invZ_spec (a p : Int) : invR a p (invZ a p) := Classical.choose_spec (inv_ex a p)
theorem emodB {a p : Int} (hp : fpP p) : 0 ≤ a % p ∧ a % p < p := by
  have := fpP_bnd hp
  exact ⟨Int.emod_nonneg _ (by omega), Int.emod_lt_of_pos _ (by omega)⟩
/-- A row whose first t places are taken from g. -/
noncomputable def pK (r : List Int) (g : Nat → Int) (t : Nat) : List Int := rowF r.length fun q => @ite _ (q < t) (Classical.propDecidable _) (g q) (at0 r q)
@[simp] theorem pK_len (r : List Int) (g : Nat → Int) (t : Nat) : (pK r g t).length = r.length := by simp [pK]
theorem rowF_self (r : List Int) : rowF r.length (at0 r) = r := by
  apply at0_ext (by simp)
  intro j hj
  exact rowF_at (by simpa using hj)
/-- A matrix whose first i rows are taken from G. -/
noncomputable def pM (M : List (List Int)) (G : Nat → List Int) (i : Nat) : List (List Int) := (List.range M.length).map fun k => @ite _ (k < i) (Classical.propDecidable _) (G k) (atR M k)
@[simp] theorem pM_len (M : List (List Int)) (G : Nat → List Int) (i : Nat) : (pM M G i).length = M.length := by simp [pM]
theorem pM_lt {M : List (List Int)} {G : Nat → List Int} {i k : Nat} (hk : k < M.length) (h : k < i) : atR (pM M G i) k = G k := by
  rw [atR_eq (by simpa using hk)]
  simp [pM, h]
theorem atR_ext {M N : List (List Int)} (h : M.length = N.length) (e : ∀ k, k < M.length → atR M k = atR N k) : M = N := by
  apply List.ext_getElem h
  intro k h1 h2
  rw [← atR_eq h1, ← atR_eq h2, e k h1]
/-- Rows of one length with numbers from 0 to p - 1. -/
def okM (p : Int) (w : Nat) (M : List (List Int)) : Prop := ∀ i, i < M.length → (atR M i).length = w ∧ ∀ j, j < w → 0 ≤ at0 (atR M i) j ∧ at0 (atR M i) j < p
def sclG (p f : Int) (r : List Int) (q : Nat) : Int := at0 r q * f % p
noncomputable def sclR (p f : Int) (r : List Int) : List Int := rowF r.length (sclG p f r)
def elG (p c : Int) (r q : List Int) (j : Nat) : Int := (at0 r j - c * at0 q j) % p
noncomputable def elimR (p c : Int) (r q : List Int) : List Int := rowF r.length (elG p c r q)
@[simp] theorem sclR_len (p f : Int) (r : List Int) : (sclR p f r).length = r.length := by simp [sclR]
@[simp] theorem elimR_len (p c : Int) (r q : List Int) : (elimR p c r q).length = r.length := by simp [elimR]
/-- What becomes of the row i when the column j is cleared by the row d. -/
noncomputable def clrG (p : Int) (M : List (List Int)) (d j i : Nat) : List Int := @ite _ (i = d) (Classical.propDecidable _) (atR M i) (elimR p (at0 (atR M i) j) (atR M i) (atR M d))
theorem clrG_d (p : Int) (M : List (List Int)) (d j : Nat) : clrG p M d j d = atR M d := by unfold clrG; rw [if_pos rfl]
theorem clrG_ne {p : Int} {M : List (List Int)} {d j i : Nat} (h : i ≠ d) : clrG p M d j i = elimR p (at0 (atR M i) j) (atR M i) (atR M d) := by unfold clrG; rw [if_neg h]
noncomputable def clrM (p : Int) (M : List (List Int)) (d j : Nat) : List (List Int) := pM M (clrG p M d j) M.length
noncomputable def sclM (p : Int) (M : List (List Int)) (d j : Nat) : List (List Int) := M.set d (sclR p (invZ (at0 (atR M d) j) p) (atR M d))
def swp (M : List (List Int)) (d a : Nat) : List (List Int) := (M.set d (atR M a)).set a (atR M d)
noncomputable def pivM (p : Int) (M : List (List Int)) (d a j : Nat) : List (List Int) := clrM p (sclM p (swp M d a) d j) d j
@[simp] theorem clrM_len (p : Int) (M : List (List Int)) (d j : Nat) : (clrM p M d j).length = M.length := by simp [clrM]
@[simp] theorem sclM_len (p : Int) (M : List (List Int)) (d j : Nat) : (sclM p M d j).length = M.length := by simp [sclM]
@[simp] theorem swp_len (M : List (List Int)) (d a : Nat) : (swp M d a).length = M.length := by simp [swp]
@[simp] theorem pivM_len (p : Int) (M : List (List Int)) (d a j : Nat) : (pivM p M d a j).length = M.length := by simp [pivM]
theorem swp_at {M : List (List Int)} {d a k : Nat} (hd : d < M.length) (ha : a < M.length) (hk : k < M.length) : atR (swp M d a) k = if k = a then atR M d else if k = d then atR M a else atR M k := by
  unfold swp
  rw [atR_set]
  by_cases e : a = k
  · subst e
    rw [if_pos ⟨rfl, by simpa using ha⟩, if_pos rfl]
  · rw [if_neg fun h => e h.1, if_neg fun h => e h.symm, atR_set]
    by_cases e2 : d = k
    · subst e2
      rw [if_pos ⟨rfl, hd⟩, if_pos rfl]
    · rw [if_neg fun h => e2 h.1, if_neg fun h => e2 h.symm]
theorem okM_swp {p : Int} {w : Nat} {M : List (List Int)} (h : okM p w M) {d a : Nat} (hd : d < M.length) (ha : a < M.length) : okM p w (swp M d a) := fun i hi => by
  rw [swp_len] at hi
  rw [swp_at hd ha hi]
  split
  · exact h d hd
  · split
    · exact h a ha
    · exact h i hi
theorem okM_scl {p : Int} {w : Nat} {M : List (List Int)} (hp : fpP p) (h : okM p w M) {d : Nat} (j : Nat) (hd : d < M.length) : okM p w (sclM p M d j) := fun i hi => by
  rw [sclM_len] at hi
  unfold sclM
  rw [atR_set]
  split
  · refine ⟨by rw [sclR_len]; exact (h d hd).1, fun q hq => ?_⟩
    unfold sclR
    rw [rowF_at (by rw [(h d hd).1]; exact hq)]
    exact emodB hp
  · exact h i hi
theorem okM_clr {p : Int} {w : Nat} {M : List (List Int)} (hp : fpP p) (h : okM p w M) (d j : Nat) : okM p w (clrM p M d j) := fun i hi => by
  rw [clrM_len] at hi
  unfold clrM
  rw [pM_lt hi hi]
  by_cases e : i = d
  · subst e
    rw [clrG_d]
    exact h i hi
  · rw [clrG_ne e]
    refine ⟨by rw [elimR_len]; exact (h i hi).1, fun q hq => ?_⟩
    unfold elimR
    rw [rowF_at (by rw [(h i hi).1]; exact hq)]
    exact emodB hp
theorem okM_piv {p : Int} {w : Nat} {M : List (List Int)} (hp : fpP p) (h : okM p w M) {d a : Nat} (j : Nat) (hd : d < M.length) (ha : a < M.length) : okM p w (pivM p M d a j) :=
  okM_clr hp (okM_scl hp (okM_swp h hd ha) j (by simpa using hd)) d j
/-- The first row from i on with a number in column j. -/
noncomputable def fndZ (M : List (List Int)) (j : Nat) : Nat → Nat → Nat
  | 0, i => i
  | k + 1, i => @ite _ (at0 (atR M i) j = 0) (Classical.propDecidable _) (fndZ M j k (i + 1)) i
theorem fndZ_yes {M : List (List Int)} {j k i : Nat} (h : at0 (atR M i) j = 0) : fndZ M j (k + 1) i = fndZ M j k (i + 1) := by rw [fndZ, if_pos h]
theorem fndZ_no {M : List (List Int)} {j k i : Nat} (h : ¬ at0 (atR M i) j = 0) : fndZ M j (k + 1) i = i := by rw [fndZ, if_neg h]
theorem fndZ_bnd (M : List (List Int)) (j : Nat) (k : Nat) : ∀ i, i ≤ fndZ M j k i ∧ fndZ M j k i ≤ i + k := by
  induction k with
  | zero => intro i; simp [fndZ]
  | succ k ih =>
    intro i
    by_cases h : at0 (atR M i) j = 0
    · rw [fndZ_yes h]
      have := ih (i + 1)
      omega
    · rw [fndZ_no h]; omega
/-- One column of the reduced form. -/
noncomputable def redC (p : Int) (j : Nat) (x : List (List Int) × List Int) : List (List Int) × List Int :=
  @ite _ (x.2.length < x.1.length ∧ fndZ x.1 j (x.1.length - x.2.length) x.2.length < x.1.length) (Classical.propDecidable _) (pivM p x.1 x.2.length (fndZ x.1 j (x.1.length - x.2.length) x.2.length) j, x.2 ++ [(j : Int)]) x
noncomputable def redS (p : Int) (M : List (List Int)) : Nat → List (List Int) × List Int
  | 0 => (M, [])
  | j + 1 => redC p j (redS p M j)
theorem redC_yes {p : Int} {j : Nat} {M : List (List Int)} {P : List Int} {a : Nat} (ha : fndZ M j (M.length - P.length) P.length = a) (h1 : P.length < M.length) (h2 : a < M.length) : redC p j (M, P) = (pivM p M P.length a j, P ++ [(j : Int)]) := by
  subst ha
  unfold redC
  rw [if_pos ⟨h1, h2⟩]
theorem redC_no {p : Int} {j : Nat} {M : List (List Int)} {P : List Int} (h : ¬ (P.length < M.length ∧ fndZ M j (M.length - P.length) P.length < M.length)) : redC p j (M, P) = (M, P) := by
  unfold redC
  rw [if_neg h]
structure redI (p : Int) (w : Nat) (M0 : List (List Int)) (j : Nat) (x : List (List Int) × List Int) : Prop where
  ok : okM p w x.1
  hl : x.1.length = M0.length
  hp : x.2.length ≤ x.1.length
  hj : ∀ q, q < x.2.length → 0 ≤ at0 x.2 q ∧ at0 x.2 q < j
  hs : x.2.length ≤ j
theorem redI_step {p : Int} {w : Nat} {M0 : List (List Int)} {j : Nat} {x : List (List Int) × List Int} (hp : fpP p) (h : redI p w M0 j x) : redI p w M0 (j + 1) (redC p j x) := by
  obtain ⟨M, P⟩ := x
  by_cases hc : P.length < M.length ∧ fndZ M j (M.length - P.length) P.length < M.length
  · rw [redC_yes rfl hc.1 hc.2]
    refine ⟨okM_piv hp h.ok j hc.1 hc.2, by have := h.hl; simpa using this, by simp only [pivM_len, List.length_append, List.length_singleton]; omega, fun q hq => ?_, by have := h.hs; simp only [List.length_append, List.length_singleton] at *; omega⟩
    simp only [List.length_append, List.length_singleton] at hq
    simp only
    rw [at0_app]
    split
    · have := h.hj q (by assumption)
      simp only at this
      omega
    · rw [show q - P.length = 0 by omega]
      simp only [at0, List.getElem?_cons_zero, Option.getD_some]
      omega
  · rw [redC_no hc]
    exact ⟨h.ok, h.hl, h.hp, fun q hq => by have := h.hj q hq; omega, by have := h.hs; omega⟩
theorem redI_all {p : Int} {w : Nat} {M0 : List (List Int)} (hp : fpP p) (h : okM p w M0) (j : Nat) : redI p w M0 j (redS p M0 j) := by
  induction j with
  | zero => exact ⟨h, rfl, by simp [redS], fun q hq => by simp [redS] at hq, by simp [redS]⟩
  | succ j ih => exact redI_step hp ih
end Go.Proofs.YtkoljbncokmeaaaDoor
namespace Go.Proofs.YtkoljbncokmeaaaDoor
open Go Go.RowKit
set_option maxRecDepth 1000000
set_option linter.unusedSimpArgs false
set_option linter.unusedVariables false
set_option maxHeartbeats 1000000
/-- A row of zeros whose first t places are taken from g. -/
noncomputable def zK (m : Nat) (g : Nat → Int) (t : Nat) : List Int := rowF m fun q => @ite _ (q < t) (Classical.propDecidable _) (g q) 0
@[simp] theorem zK_len (m : Nat) (g : Nat → Int) (t : Nat) : (zK m g t).length = m := by simp [zK]
theorem zK_zero (m : Nat) (g : Nat → Int) : zK m g 0 = List.replicate m 0 := by
  rw [rowF_zero]
  exact rowF_congr fun j _ => by rw [if_neg (by omega)]
theorem zK_full (m : Nat) (g : Nat → Int) : zK m g m = rowF m g := rowF_congr fun j hj => by rw [if_pos hj]
theorem zK_set {m : Nat} {g : Nat → Int} {j : Nat} (h : j < m) : (zK m g j).set j (g j) = zK m g (j + 1) := by
  unfold zK
  rw [rowF_set h]
  refine rowF_congr fun i hi => ?_
  by_cases e : i = j
  · rw [if_pos e, e, if_pos (by omega)]
  · rw [if_neg e]
    by_cases h3 : i < j
    · rw [if_pos h3, if_pos (by omega)]
    · rw [if_neg h3, if_neg (by omega)]
/-- The remainders of a matrix. -/
noncomputable def modG (p : Int) (M : List (List Int)) (i : Nat) : List Int := rowF (atR M i).length fun j => at0 (atR M i) j % p
noncomputable def modM (p : Int) (M : List (List Int)) : List (List Int) := pM M (modG p M) M.length
@[simp] theorem modM_len (p : Int) (M : List (List Int)) : (modM p M).length = M.length := by simp [modM]
theorem modM_at {p : Int} {M : List (List Int)} {i : Nat} (h : i < M.length) : atR (modM p M) i = rowF (atR M i).length fun j => at0 (atR M i) j % p := pM_lt h h
theorem okM_mod {p : Int} {w : Nat} {M : List (List Int)} (hp : fpP p) (h : ∀ i, i < M.length → (atR M i).length = w) : okM p w (modM p M) := fun i hi => by
  rw [modM_len] at hi
  rw [modM_at hi]
  refine ⟨by rw [rowF_len]; exact h i hi, fun j hj => ?_⟩
  rw [rowF_at (by rw [h i hi]; exact hj)]
  exact emodB hp
def dRowsV : List V → Option (List (List Int))
  | [] => some []
  | .own 1 c :: r => (dInts c).bind fun l => (dRowsV r).map (l :: ·)
  | _ => none
@[simp] theorem dRowsV_rowsV (m : List (List Int)) : dRowsV (rowsV m) = some m := by
  induction m with
  | nil => rfl
  | cons a m ih =>
    have e : rowsV (a :: m) = .own 1 (ints a) :: rowsV m := rfl
    simp [e, dRowsV, ih]
theorem dRowsV_inv : ∀ {c : List V} {m : List (List Int)}, dRowsV c = some m → c = rowsV m := by
  intro c
  induction c with
  | nil => intro m h; simp [dRowsV] at h; subst h; rfl
  | cons v c ih =>
    intro m h
    unfold dRowsV at h
    split at h
    · simp_all
    · rename_i n r e
      injection e with e1 e2
      subst e1 e2
      obtain ⟨l, h1, h2⟩ := Option.bind_eq_some_iff.1 h
      obtain ⟨q, h3, rfl⟩ := Option.map_eq_some_iff.1 h2
      rw [dInts_inv h1, ih h3]
      rfl
    · simp at h
structure matI (p : Int) (w m : Nat) (M : List (List Int)) : Prop where
  hp : fpP p
  hm : M.length = m
  ok : okM p w M
  hw : w ≤ 128
  hl : m ≤ 64
end Go.Proofs.YtkoljbncokmeaaaDoor
namespace Go.Proofs.YtkoljbncokmeaaaDoor
open Go Go.RowKit
set_option maxRecDepth 1000000
set_option linter.unusedSimpArgs false
set_option linter.unusedVariables false
set_option maxHeartbeats 1000000
theorem rowsL_drop0 {M : List (List Int)} {i : Nat} (h : i < M.length) (d : V) : (rowsL (M.drop i))[0]?.getD d = .list 1 (ints (atR M i)) := by
  rw [rowsL, List.getElem?_map, List.getElem?_drop, Nat.add_zero, List.getElem?_eq_getElem h, atR_eq h]
  rfl
end Go.Proofs.YtkoljbncokmeaaaDoor
namespace Go.Proofs.YtkoljbncokmeaaaDoor
open Go Go.RowKit
set_option maxRecDepth 1000000
set_option linter.unusedSimpArgs false
set_option linter.unusedVariables false
set_option maxHeartbeats 1000000
end Go.Proofs.YtkoljbncokmeaaaDoor
namespace Go.Proofs.YtkoljbncokmeaaaDoor
open Go Go.RowKit
set_option maxRecDepth 1000000
set_option linter.unusedSimpArgs false
set_option linter.unusedVariables false
set_option maxHeartbeats 1000000
theorem redS_nil (p : Int) (j : Nat) : redS p [] j = ([], []) := by
  induction j with
  | zero => rfl
  | succ j ih =>
    rw [redS, ih]
    exact redC_no fun h => by simp at h
end Go.Proofs.YtkoljbncokmeaaaDoor
namespace Go.Proofs.YtkoljbncokmeaaaDoor
open Go Go.RowKit
set_option maxRecDepth 1000000
set_option linter.unusedSimpArgs false
set_option linter.unusedVariables false
set_option maxHeartbeats 1000000
def sc_i_borderOf_L2 : SC := (.seq (.reg [⟨(some 29), none, (.bin false .lss (.t 28) (.t 27))⟩]) (.seq (.cond (.t 29) .skip (.exit 2)) (.seq (.block 3 (.seq (.reg [⟨(some 30), none, (.mov (.t 28))⟩, ⟨(some 31), none, (.idx 1 (.t 26) (.t 28))⟩, ⟨(some 32), none, (.ld none (.int .i64 0) (.t 31))⟩, ⟨(some 8), none, (.mov (.t 30))⟩, ⟨(some 9), none, (.mov (.t 32))⟩]) (.dreg [⟨⟨(some 33), none, (.mov (.t 5))⟩, false, false⟩, ⟨⟨(some 34), none, (.mov (.t 6))⟩, false, false⟩, ⟨⟨(some 35), none, (.idx 1 (.t 33) (.t 34))⟩, false, false⟩, ⟨⟨(some 36), none, (.ld none .nil (.t 35))⟩, false, false⟩, ⟨⟨(some 37), none, (.mov (.t 8))⟩, false, false⟩, ⟨⟨(some 38), none, (.mov (.t 7))⟩, false, false⟩, ⟨⟨(some 39), none, (.mov (.t 9))⟩, false, false⟩, ⟨⟨(some 40), none, (.call 53 [(.t 38), (.t 39)])⟩, false, false⟩, ⟨⟨(some 41), none, (.idx 1 (.t 36) (.t 37))⟩, false, false⟩, ⟨⟨none, none, (.st 1 (.t 41) (.t 40))⟩, true, false⟩]))) (.reg [⟨(some 42), none, (.bin false .add (.t 28) (.c (.int .i64 1)))⟩, ⟨(some 28), none, (.mov (.t 42))⟩]))))
def sc_i_borderOf_L0 : SC := (.seq (.reg [⟨(some 16), none, (.bin false .lss (.t 15) (.t 14))⟩]) (.seq (.cond (.t 16) .skip (.exit 0)) (.seq (.block 1 (.seq (.reg [⟨(some 17), none, (.mov (.t 15))⟩, ⟨(some 18), none, (.idx 1 (.t 13) (.t 15))⟩, ⟨(some 19), none, (.ld none (.int .i64 0) (.t 18))⟩, ⟨(some 6), none, (.mov (.t 17))⟩, ⟨(some 7), none, (.mov (.t 19))⟩]) (.seq (.reg [⟨(some 20), none, (.mov (.t 5))⟩, ⟨(some 21), none, (.mov (.t 6))⟩, ⟨(some 22), none, (.mov (.t 1))⟩, ⟨(some 23), none, (.len (.t 22))⟩, ⟨(some 24), none, (.mk 1 8 [(.int .i64 0)] (.t 23) (.t 23))⟩, ⟨(some 25), none, (.idx 1 (.t 20) (.t 21))⟩, ⟨none, none, (.st 1 (.t 25) (.t 24))⟩]) (.seq (.reg [⟨(some 26), none, (.mov (.t 1))⟩, ⟨(some 27), none, (.len (.t 26))⟩, ⟨(some 28), none, (.mov (.c (.int .i64 0)))⟩]) (.block 2 (.loop sc_i_borderOf_L2)))))) (.reg [⟨(some 43), none, (.bin false .add (.t 15) (.c (.int .i64 1)))⟩, ⟨(some 15), none, (.mov (.t 43))⟩]))))
def sc_i_borderOf : SC := (.seq (.reg [⟨(some 4), none, (.mov (.c .nil))⟩]) (.seq (.reg [⟨(some 10), none, (.mov (.t 0))⟩, ⟨(some 11), none, (.len (.t 10))⟩, ⟨(some 12), none, (.mk 1 24 [.nil] (.t 11) (.t 11))⟩, ⟨(some 5), none, (.mov (.t 12))⟩]) (.seq (.seq (.reg [⟨(some 13), none, (.mov (.t 0))⟩, ⟨(some 14), none, (.len (.t 13))⟩, ⟨(some 15), none, (.mov (.c (.int .i64 0)))⟩]) (.block 0 (.loop sc_i_borderOf_L0))) (.seq (.reg [⟨(some 44), none, (.mov (.t 5))⟩, ⟨(some 4), none, (.mov (.t 44))⟩]) .ret))))
theorem code_i_borderOf : fnCode Tryd.prog [] 32 = some (45, sc_i_borderOf, [(4, none)]) := by kernel_rfl
noncomputable def F_i_borderOf : List V → Option V := F2 dL dL fun R C => @ite _ ((∀ r ∈ R, ∀ s ∈ C, isS r ∧ isS s ∧ sz s = sz r + 1) ∧ R.length ≤ 64 ∧ C.length ≤ 64) (Classical.propDecidable _) (some (.own 1 (rowsV (sgnM R C)))) none
theorem fn_i_borderOf : FnOk Tryd.prog 32 F_i_borderOf := by
  have env := (envNil_ok (P := Tryd.prog)).add fn_i_borderSign
  refine fn_ok code_i_borderOf mixed env ?_
  intro args r h hb
  obtain ⟨_, _, R, C, rfl, h1, h2, h4⟩ := F2_inv h
  cases dL_inv h1
  cases dL_inv h2
  simp only [Option.ite_none_right_eq_some, Option.some.injEq] at h4
  obtain ⟨⟨hRC, hRl, hCl⟩, rfl⟩ := h4
  clear h
  refine ⟨by simp, fun w0 U0 L0 N0 => ?_⟩
  clear hb
  have hml := sgnM_len R C
  have hma := fun (i : Nat) (hi : i < R.length) => sgnM_at (C := C) hi
  generalize sgnM R C = M at *
  simp -implicitDefEqProofs [sc_i_borderOf]
  repeat' (first | omega | apply And.intro)
  have inner : ∀ (i : Nat) (Q : Post) (T0 : Tm), i < R.length → subE T0 [(1, .list 1 (ints C)), (5, .sl 0 1 0 R.length), (6, .int .i64 (i : Int)), (7, .int .i64 (at0 R i)), (13, .list 1 (ints R)), (14, .int .i64 (R.length : Int)), (15, .int .i64 (i : Int)), (26, .list 1 (ints C)), (27, .int .i64 (C.length : Int)), (28, .int .i64 0)] →
      Q (.exit 2) [(1, .list 1 (ints C)), (5, .sl 0 1 0 R.length), (13, .list 1 (ints R)), (14, .int .i64 (R.length : Int)), (15, .int .i64 (i : Int))] ([(0, rowsV (padR M (i + 1)))], 1) →
      LoopI ⟨Tryd.prog, w0, U0, L0, N0, 0, 45⟩ [] sc_i_borderOf_L2 Q T0 ([(1, ints (sgR (at0 R i) C 0)), (0, (rowsV (padR M i)).set i (.sl 1 1 0 C.length))], 2) := by
    intro i Q T0 hi hsub q1
    have hiM : i < M.length := by omega
    refine loopQ env mixed (fun j : Nat => [(1, .list 1 (ints C)), (5, .sl 0 1 0 R.length), (6, .int .i64 (i : Int)), (7, .int .i64 (at0 R i)), (13, .list 1 (ints R)), (14, .int .i64 (R.length : Int)), (15, .int .i64 (i : Int)), (26, .list 1 (ints C)), (27, .int .i64 (C.length : Int)), (28, .int .i64 (j : Int))]) (fun j => ([(1, ints (sgR (at0 R i) C j)), (0, (rowsV (padR M i)).set i (.sl 1 1 0 C.length))], 2)) (fun j => j ≤ C.length) (fun j => C.length - j) 0 (by simp) (SubI.slots rfl (by simpa using hsub)) ?_
    intro j hj
    by_cases hlt : j < C.length
    · obtain ⟨c1, c2, c3⟩ := hRC _ (getD_mem' hi) _ (getD_mem' hlt)
      have hF : F_s_l13Sign [.int .i64 (at0 R i), .int .i64 (at0 C j)] = some (.int .i64 (sgnZ (at0 R i) (at0 C j))) := by
        simp only [F_s_l13Sign, F2_mk, dI_int, Option.bind_some]
        rw [if_pos ⟨c1, c2, c3⟩]
      have hset := sgR_set (r := at0 R i) hlt
      have hgl := sgR_len (at0 R i) C j
      generalize sgR (at0 R i) C j = g at *
      simp -implicitDefEqProofs [sc_i_borderOf_L2, hF, hlt, hi, hml, hgl, hset]
      repeat' (first | omega | apply And.intro)
      exact Again.of (j + 1) (by omega) (by omega) (SubI.slots (by simp) (by simp (disch := omega) [wrapI]))
    · have : j = C.length := by omega
      subst this
      have hfu := sgR_full (at0 R i) C
      rw [← hma i hi] at hfu
      have hps := padR_set hiM
      have hal : (atR M i).length = C.length := by rw [hma i hi]; simp
      rw [hfu]
      simp -implicitDefEqProofs [sc_i_borderOf_L2]
      refine SubQ.of ?_ q1
      refine SubI.fold 0 1 i 1 C.length (cn := ints (atR M i)) (co := (rowsV (padR M i)).set i (.sl 1 1 0 C.length)) (by simp) (by simp) (by simp [hiM]) (by simp [hal]) ?_
      refine SubI.ren (fun m => if m = 0 then some 0 else none) ?_ ?_ ?_ (by simp) (by simp)
      · simp [subT, renV, ren1]
      · simp [subH, hps]
      · intro m hm
        simp only at hm
        rw [if_neg (by omega)]
  refine loopI env mixed (fun i : Nat => [(1, .list 1 (ints C)), (5, .sl 0 1 0 R.length), (13, .list 1 (ints R)), (14, .int .i64 (R.length : Int)), (15, .int .i64 (i : Int))]) (fun i => ([(0, rowsV (padR M i))], 1)) (fun i => i ≤ R.length) (fun i => R.length - i) 0 (by simp) (SubI.nilAll 0 1 (by simp; rfl) (by simp) (SubI.slots (by simp [padR_zero, rowsV, hml]) (by simp))) ?_
  intro i hi
  by_cases hlt : i < R.length
  · have hin := inner i
    have hz := sgR_zero (at0 R i) C
    simp -implicitDefEqProofs [sc_i_borderOf_L0, hlt, hml]
    rw [← hz]
    refine ⟨by omega, ⟨by omega, by omega⟩, by omega, ?_⟩
    refine hin _ _ hlt (by simp) ?_
    simp -implicitDefEqProofs
    exact Again.of (i + 1) (by omega) (by omega) (SubI.slots (by simp) (by simp (disch := omega) [wrapI]))
  · have : i = R.length := by omega
    subst this
    have hpf : padR M R.length = M := by rw [← hml, padR_full]
    have ht : M.take R.length = M := List.take_of_length_le (by omega)
    simp -implicitDefEqProofs [sc_i_borderOf_L0, hpf, ht]
    try omega
end Go.Proofs.YtkoljbncokmeaaaDoor
namespace Go.Proofs.YtkoljbncokmeaaaDoor
open Go Go.RowKit
set_option maxRecDepth 1000000
set_option linter.unusedSimpArgs false
set_option linter.unusedVariables false
set_option maxHeartbeats 1000000
def sc_s_l13Sign : SC := (.seq (.reg [⟨(some 4), none, (.mov (.c (.int .i64 0)))⟩]) (.seq (.seq (.reg [⟨(some 6), none, (.mov (.t 0))⟩, ⟨(some 7), none, (.mov (.t 1))⟩, ⟨(some 8), none, (.bin false .and (.t 6) (.t 7))⟩, ⟨(some 9), none, (.mov (.t 0))⟩, ⟨(some 10), none, (.bin false .neq (.t 8) (.t 9))⟩, ⟨(some 11), none, (.mov (.t 10))⟩, ⟨(some 12), (some (11, false)), (.mov (.t 1))⟩, ⟨(some 13), (some (11, false)), (.call 38 [(.t 12)])⟩, ⟨(some 14), (some (11, false)), (.mov (.t 0))⟩, ⟨(some 15), (some (11, false)), (.call 38 [(.t 14)])⟩, ⟨(some 16), (some (11, false)), (.bin false .sub (.t 13) (.t 15))⟩, ⟨(some 17), (some (11, false)), (.bin false .neq (.t 16) (.c (.int .i64 1)))⟩, ⟨(some 18), none, (.pick (.t 11) (.c (.bool true)) (.t 17))⟩]) (.cond (.t 18) (.seq (.reg [⟨(some 4), none, (.mov (.c (.int .i64 0)))⟩]) .ret) .skip)) (.seq (.reg [⟨(some 19), none, (.mov (.t 1))⟩, ⟨(some 20), none, (.mov (.t 0))⟩, ⟨(some 21), none, (.bin false .sub (.t 19) (.t 20))⟩, ⟨(some 5), none, (.mov (.t 21))⟩]) (.seq (.reg [⟨(some 22), none, (.mov (.t 1))⟩, ⟨(some 23), none, (.mov (.t 5))⟩, ⟨(some 24), none, (.bin false .sub (.t 23) (.c (.int .i64 1)))⟩, ⟨(some 25), none, (.bin false .and (.t 22) (.t 24))⟩, ⟨(some 26), none, (.call 38 [(.t 25)])⟩, ⟨(some 27), none, (.bin false .rem (.t 26) (.c (.int .i64 2)))⟩, ⟨(some 28), none, (.bin false .mul (.c (.int .i64 2)) (.t 27))⟩, ⟨(some 29), none, (.bin false .sub (.c (.int .i64 1)) (.t 28))⟩, ⟨(some 4), none, (.mov (.t 29))⟩]) .ret))))
theorem code_s_l13Sign : fnCode Tryd.prog [] 43 = some (30, sc_s_l13Sign, [(4, none)]) := by kernel_rfl
theorem fn_s_l13Sign : FnOk Tryd.prog 43 F_s_l13Sign := by
  have env := (envNil_ok (P := Tryd.prog)).add fn_s_l2Size
  refine fn_ok code_s_l13Sign mixed env ?_
  intro args r h hb
  obtain ⟨_, _, r, s, rfl, h1, h2, h4⟩ := F2_inv h
  cases dI_inv h1
  cases dI_inv h2
  simp only [Option.ite_none_right_eq_some, Option.some.injEq] at h4
  obtain ⟨⟨hr, hs, hz⟩, rfl⟩ := h4
  clear h
  refine ⟨by simp, fun w0 U0 L0 N0 => ?_⟩
  clear hb
  by_cases hsub : subS r s
  rotate_left
  · have e := sgnZ_no (r := r) (s := s) hsub
    have h : ¬ band r s = r := fun h => hsub ((subS_iff hr hs).2 h)
    simp -implicitDefEqProofs [sc_s_l13Sign, h, e]
  have h := (subS_iff hr hs).1 hsub
  have e := sgnZ_yes (r := r) (s := s) hsub
  obtain ⟨q1, q2⟩ := sgn_set hr hs hz hsub
  have q3 := q1.1
  have q4 := q1.2
  have hb := isS_band hs q2
  have b1 : r < 9223372036854775808 := by have := hr.2; omega
  have b2 : s < 9223372036854775808 := by have := hs.2; omega
  have b3 : band s (bnot s r - 1) < 9223372036854775808 := by have := hb.2; omega
  have hsz : IntKind.i64.wrap (sz s - sz r) = 1 := by rw [wrapI _ (by omega) (by omega)]; omega
  have hsr : IntKind.i64.wrap (s - r) = bnot s r := by rw [sub_eq_bnot hr hs hsub, wrapI _ (by omega) (by omega)]
  have hw : IntKind.i64.wrap (bnot s r - 1) = bnot s r - 1 := wrapI _ (by omega) (by omega)
  have hz0 := sz_nn (band s (bnot s r - 1))
  generalize hzz : sz (band s (bnot s r - 1)) = z at *
  have ht := tmod_nn 2 hz0
  have hw2 : IntKind.i64.wrap (2 * (z % 2)) = 2 * (z % 2) := wrapI _ (by omega) (by omega)
  have hw3 : IntKind.i64.wrap (1 - 2 * (z % 2)) = 1 - 2 * (z % 2) := wrapI _ (by omega) (by omega)
  simp -implicitDefEqProofs [sc_s_l13Sign, F_s_l2Size, h, b1, b2, b3, hsz, hsr, hw, hzz, ht, hw2, hw3, e]
end Go.Proofs.YtkoljbncokmeaaaDoor
namespace Go.Proofs.YtkoljbncokmeaaaDoor
open Go Go.RowKit
set_option maxRecDepth 1000000
set_option linter.unusedSimpArgs false
set_option linter.unusedVariables false
set_option maxHeartbeats 1000000
def sc_i_BorderMatrix : SC := (.seq (.reg [⟨(some 2), none, (.box (.t 0))⟩, ⟨(some 4), none, (.mov (.c .nil))⟩]) (.seq (.seq (.reg [⟨(some 5), none, (.ld (some 2) .undef (.t 2))⟩, ⟨(some 6), none, (.call 16 [(.t 5)])⟩, ⟨(some 7), none, (.un .not (.t 6))⟩, ⟨(some 8), none, (.mov (.t 7))⟩, ⟨(some 9), (some (8, false)), (.mov (.t 1))⟩, ⟨(some 10), (some (8, false)), (.bin false .lss (.t 9) (.c (.int .i64 1)))⟩, ⟨(some 11), none, (.pick (.t 8) (.c (.bool true)) (.t 10))⟩, ⟨(some 12), none, (.mov (.t 11))⟩, ⟨(some 13), (some (12, false)), (.mov (.t 1))⟩, ⟨(some 14), (some (12, false)), (.bin false .gtr (.t 13) (.c (.int .i64 6)))⟩, ⟨(some 15), none, (.pick (.t 12) (.c (.bool true)) (.t 14))⟩]) (.cond (.t 15) (.seq (.reg [⟨(some 4), none, (.mov (.c .nil))⟩]) .ret) .skip)) (.seq (.dreg [⟨⟨(some 16), none, (.ld (some 2) .undef (.t 2))⟩, false, false⟩, ⟨⟨(some 17), none, (.mov (.t 1))⟩, false, false⟩, ⟨⟨(some 18), none, (.bin false .sub (.t 17) (.c (.int .i64 1)))⟩, false, false⟩, ⟨⟨(some 19), none, (.call 55 [(.t 16), (.t 18)])⟩, false, false⟩, ⟨⟨(some 20), none, (.ld (some 2) .undef (.t 2))⟩, false, false⟩, ⟨⟨(some 21), none, (.mov (.t 1))⟩, false, false⟩, ⟨⟨(some 22), none, (.call 55 [(.t 20), (.t 21)])⟩, false, false⟩, ⟨⟨(some 23), none, (.call 32 [(.t 19), (.t 22)])⟩, true, false⟩, ⟨⟨(some 4), none, (.mov (.t 23))⟩, false, false⟩]) .ret)))
theorem code_i_BorderMatrix : fnCode Tryd.prog [32] 34 = some (24, sc_i_BorderMatrix, [(4, none)]) := by kernel_rfl
theorem borM_ok {n : Int} {l : List Int} {k : Int} : (∀ r ∈ fosL n l (k - 1), ∀ s ∈ fosL n l k, isS r ∧ isS s ∧ sz s = sz r + 1) ∧ (fosL n l (k - 1)).length ≤ 64 ∧ (fosL n l k).length ≤ 64 := by
  refine ⟨fun r hr s hs => ?_, setsOf_len _, setsOf_len _⟩
  obtain ⟨a, _, _, b⟩ := mem_fosL hr
  obtain ⟨c, _, _, d⟩ := mem_fosL hs
  exact ⟨a, c, by omega⟩
theorem fn_i_BorderMatrix : FnOk Tryd.prog 34 F_i_BorderMatrix := by
  have env := (((envNil_ok (P := Tryd.prog)).add fn_i_IsComplex).add fn_i_FacesOfSize).add fn_i_borderOf
  refine fn_ok code_i_BorderMatrix mixed env ?_
  intro args r h hb
  obtain ⟨_, _, ⟨n, l⟩, k, rfl, h1, h2, h4⟩ := F2_inv h
  cases dC_inv h1
  cases dI_inv h2
  simp only [Option.ite_none_right_eq_some, Option.some.injEq] at h4
  obtain ⟨⟨hc, hk1, hk6⟩, rfl⟩ := h4
  clear h
  refine ⟨by simp, fun w0 U0 L0 N0 => ?_⟩
  clear hb
  have e0 := cplxB_iff.2 hc
  have g1 : ¬ k < 1 := by omega
  have g2 : ¬ 6 < k := by omega
  have hw : IntKind.i64.wrap (k - 1) = k - 1 := wrapI _ (by omega) (by omega)
  have hF : F_i_borderOf [.list 1 (ints (fosL n l (k - 1))), .list 1 (ints (fosL n l k))] = some (.own 1 (rowsV (borM n l k))) := by
    simp only [F_i_borderOf, F2_mk, dL_list, Option.bind_some]
    rw [if_pos borM_ok]
    rfl
  generalize borM n l k = M at *
  simp -implicitDefEqProofs [sc_i_BorderMatrix, F_s_IsComplex, F_s_FacesOfSize, e0, g1, g2, hw, hF]
def sc_s_l13Border_L2 : SC := (.seq (.seq (.reg [⟨(some 26), none, (.mov (.t 10))⟩, ⟨(some 27), none, (.mov (.t 7))⟩, ⟨(some 28), none, (.len (.t 27))⟩, ⟨(some 29), none, (.bin false .lss (.t 26) (.t 28))⟩]) (.cond (.t 29) .skip (.exit 2))) (.seq (.block 3 (.dreg [⟨⟨(some 32), none, (.mov (.t 9))⟩, false, true⟩, ⟨⟨(some 33), none, (.mov (.t 6))⟩, false, false⟩, ⟨⟨(some 34), none, (.mov (.t 8))⟩, false, false⟩, ⟨⟨(some 35), none, (.idx 1 (.t 33) (.t 34))⟩, false, false⟩, ⟨⟨(some 36), none, (.ld none (.int .i64 0) (.t 35))⟩, false, false⟩, ⟨⟨(some 37), none, (.mov (.t 7))⟩, false, false⟩, ⟨⟨(some 38), none, (.mov (.t 10))⟩, false, false⟩, ⟨⟨(some 39), none, (.idx 1 (.t 37) (.t 38))⟩, false, false⟩, ⟨⟨(some 40), none, (.ld none (.int .i64 0) (.t 39))⟩, false, false⟩, ⟨⟨(some 41), none, (.call 43 [(.t 36), (.t 40)])⟩, false, false⟩, ⟨⟨(some 42), none, (.mks 1 1 [(.int .i64 0)] [(0, (1, (.t 41)))])⟩, true, false⟩, ⟨⟨(some 43), none, (.app 1 8 (.t 32) (.t 42))⟩, true, false⟩, ⟨⟨(some 9), none, (.mov (.t 43))⟩, false, false⟩])) (.reg [⟨(some 30), none, (.mov (.t 10))⟩, ⟨(some 31), none, (.bin false .add (.t 30) (.c (.int .i64 1)))⟩, ⟨(some 10), none, (.mov (.t 31))⟩])))
def sc_s_l13Border_L0 : SC := (.seq (.seq (.reg [⟨(some 19), none, (.mov (.t 8))⟩, ⟨(some 20), none, (.mov (.t 6))⟩, ⟨(some 21), none, (.len (.t 20))⟩, ⟨(some 22), none, (.bin false .lss (.t 19) (.t 21))⟩]) (.cond (.t 22) .skip (.exit 0))) (.seq (.block 1 (.seq (.reg [⟨(some 25), none, (.mks 0 1 [] [])⟩, ⟨(some 9), none, (.mov (.t 25))⟩]) (.seq (.seq (.reg [⟨(some 10), none, (.mov (.c (.int .i64 0)))⟩]) (.block 2 (.loop sc_s_l13Border_L2))) (.reg [⟨(some 44), none, (.mov (.t 5))⟩, ⟨(some 45), none, (.mov (.t 9))⟩, ⟨(some 46), none, (.mks 1 1 [.nil] [(0, (1, (.t 45)))])⟩, ⟨(some 47), none, (.app 1 24 (.t 44) (.t 46))⟩, ⟨(some 5), none, (.mov (.t 47))⟩])))) (.reg [⟨(some 23), none, (.mov (.t 8))⟩, ⟨(some 24), none, (.bin false .add (.t 23) (.c (.int .i64 1)))⟩, ⟨(some 8), none, (.mov (.t 24))⟩])))
def sc_s_l13Border : SC := (.seq (.reg [⟨(some 2), none, (.box (.t 0))⟩, ⟨(some 4), none, (.mov (.c .nil))⟩]) (.seq (.reg [⟨(some 11), none, (.mks 0 1 [] [])⟩, ⟨(some 5), none, (.mov (.t 11))⟩]) (.seq (.reg [⟨(some 12), none, (.ld (some 2) .undef (.t 2))⟩, ⟨(some 13), none, (.mov (.t 1))⟩, ⟨(some 14), none, (.bin false .sub (.t 13) (.c (.int .i64 1)))⟩, ⟨(some 15), none, (.call 42 [(.t 12), (.t 14)])⟩, ⟨(some 6), none, (.mov (.t 15))⟩]) (.seq (.reg [⟨(some 16), none, (.ld (some 2) .undef (.t 2))⟩, ⟨(some 17), none, (.mov (.t 1))⟩, ⟨(some 18), none, (.call 42 [(.t 16), (.t 17)])⟩, ⟨(some 7), none, (.mov (.t 18))⟩]) (.seq (.seq (.reg [⟨(some 8), none, (.mov (.c (.int .i64 0)))⟩]) (.block 0 (.loop sc_s_l13Border_L0))) (.seq (.reg [⟨(some 48), none, (.mov (.t 5))⟩, ⟨(some 4), none, (.mov (.t 48))⟩]) .ret))))))
theorem code_s_l13Border : fnCode Tryd.prog [] 27 = some (49, sc_s_l13Border, [(4, none)]) := by kernel_rfl
theorem fn_s_l13Border : FnOk Tryd.prog 27 F_i_BorderMatrix := by
  have env := ((envNil_ok (P := Tryd.prog)).add fn_s_FacesOfSize).add fn_s_l13Sign
  refine fn_ok code_s_l13Border mixed env ?_
  intro args r h hb
  obtain ⟨_, _, ⟨n, l⟩, k, rfl, h1, h2, h4⟩ := F2_inv h
  cases dC_inv h1
  cases dI_inv h2
  simp only [Option.ite_none_right_eq_some, Option.some.injEq] at h4
  obtain ⟨⟨hc, hk1, hk6⟩, rfl⟩ := h4
  clear h
  refine ⟨by simp, fun w0 U0 L0 N0 => ?_⟩
  clear hb
  have hw : IntKind.i64.wrap (k - 1) = k - 1 := wrapI _ (by omega) (by omega)
  obtain ⟨hRC, hRl, hCl⟩ := borM_ok (n := n) (l := l) (k := k)
  have hF1 : F_s_FacesOfSize [.agg [.int .i64 n, .list 1 (ints l)], .int .i64 (k - 1)] = some (.own 1 (ints (fosL n l (k - 1)))) := by simp [F_s_FacesOfSize]
  have hF2 : F_s_FacesOfSize [.agg [.int .i64 n, .list 1 (ints l)], .int .i64 k] = some (.own 1 (ints (fosL n l k))) := by simp [F_s_FacesOfSize]
  unfold borM
  generalize fosL n l (k - 1) = R at *
  generalize fosL n l k = C at *
  have hml := sgnM_len R C
  have hma := fun (i : Nat) (hi : i < R.length) => sgnM_at (C := C) hi
  generalize sgnM R C = M at *
  simp -implicitDefEqProofs [sc_s_l13Border, hw, hF1, hF2]
  have inner : ∀ (i : Nat) (Q : Post) (T0 : Tm), i < R.length → subE T0 [(5, .sl 1 1 0 i), (6, .sl 2 1 0 R.length), (7, .sl 3 1 0 C.length), (8, .int .i64 (i : Int)), (9, .sl 4 1 0 0), (10, .int .i64 0)] →
      Q (.exit 2) [(5, .sl 1 1 0 i), (6, .sl 2 1 0 R.length), (7, .sl 3 1 0 C.length), (8, .int .i64 (i : Int)), (9, .sl 4 1 0 C.length)] ([(4, ints (atR M i)), (3, ints C), (2, ints R), (1, rowsV (M.take i)), (0, [.int .i64 n, .list 1 (ints l)])], 5) →
      LoopI ⟨Tryd.prog, w0, U0, L0, N0, 0, 49⟩ [] sc_s_l13Border_L2 Q T0 ([(4, []), (3, ints C), (2, ints R), (1, rowsV (M.take i)), (0, [.int .i64 n, .list 1 (ints l)])], 5) := by
    intro i Q T0 hi hsub q1
    have hal : (atR M i).length = C.length := by rw [hma i hi]; simp
    have hae : ∀ j, j < C.length → at0 (atR M i) j = sgnZ (at0 R i) (at0 C j) := fun j hj => by
      rw [hma i hi, ← rowF_map, rowF_at hj]
    generalize atR M i = A at *
    refine loopQ env mixed (fun j : Nat => [(5, .sl 1 1 0 i), (6, .sl 2 1 0 R.length), (7, .sl 3 1 0 C.length), (8, .int .i64 (i : Int)), (9, .sl 4 1 0 j), (10, .int .i64 (j : Int))]) (fun j => ([(4, ints (A.take j)), (3, ints C), (2, ints R), (1, rowsV (M.take i)), (0, [.int .i64 n, .list 1 (ints l)])], 5)) (fun j => j ≤ C.length) (fun j => C.length - j) 0 (by simp) (SubI.slots (by simp) (by simpa using hsub)) ?_
    intro j hj
    by_cases hlt : j < C.length
    · obtain ⟨c1, c2, c3⟩ := hRC _ (getD_mem' hi) _ (getD_mem' hlt)
      have hF : F_s_l13Sign [.int .i64 (at0 R i), .int .i64 (at0 C j)] = some (.int .i64 (sgnZ (at0 R i) (at0 C j))) := by
        simp only [F_s_l13Sign, F2_mk, dI_int, Option.bind_some]
        rw [if_pos ⟨c1, c2, c3⟩]
      have e : A.take (j + 1) = A.take j ++ [sgnZ (at0 R i) (at0 C j)] := by rw [take_at (by omega), hae j hlt]
      have gl : (A.take j).length = j := by simp; omega
      generalize A.take j = g at *
      simp -implicitDefEqProofs [sc_s_l13Border_L2, freeOk, hF, hlt, hi, gl]
      repeat' (first | omega | apply And.intro)
      refine Again.of (j + 1) (by omega) (by omega) (SubI.ren (fun m => if m = 0 then some 0 else if m = 1 then some 1 else if m = 2 then some 2 else if m = 3 then some 3 else if m = 4 then some 6 else none) ?_ ?_ ?_ (by simp) (by simp))
      · simp (disch := omega) [subT, renV, ren1, wrapI]
      · have ht : g.take j = g := List.take_of_length_le (by omega)
        simp [subH, e, renL, ren1, ht]
        rw [← ints_app]
        rfl
      · intro m hm
        simp only at hm
        rw [if_neg (by omega), if_neg (by omega), if_neg (by omega), if_neg (by omega), if_neg (by omega)]
    · have : j = C.length := by omega
      subst this
      have ht : A.take C.length = A := List.take_of_length_le (by omega)
      simp -implicitDefEqProofs [sc_s_l13Border_L2, ht]
      exact SubQ.of (SubI.slots rfl (by simp)) q1
  refine loopI env mixed (fun i : Nat => [(5, .sl 1 1 0 i), (6, .sl 2 1 0 R.length), (7, .sl 3 1 0 C.length), (8, .int .i64 (i : Int))]) (fun i => ([(3, ints C), (2, ints R), (1, rowsV (M.take i)), (0, [.int .i64 n, .list 1 (ints l)])], 4)) (fun i => i ≤ R.length) (fun i => R.length - i) 0 (by simp) (SubI.slots (by simp) (by simp)) ?_
  intro i hi
  by_cases hlt : i < R.length
  · have hin := inner i
    have hiM : i < M.length := by omega
    have hal : (atR M i).length = C.length := by rw [hma i hlt]; simp
    have hsn := rowsV_snoc hiM (.sl 4 1 0 C.length)
    have gl : (rowsV (M.take i)).length = i := by simp; omega
    simp -implicitDefEqProofs [sc_s_l13Border_L0, hlt]
    refine hin _ _ hlt (by simp) ?_
    simp -implicitDefEqProofs [gl]
    have htt : (M.take i).take i = M.take i := List.take_of_length_le (by simp; omega)
    rw [htt]
    refine ⟨by omega, Again.of (i + 1) (by omega) (by omega) ?_⟩
    refine SubI.fold 6 4 i 1 C.length (cn := ints (atR M i)) (co := rowsV (M.take i) ++ [.sl 4 1 0 C.length]) (by simp) (by simp) (by rw [List.getElem?_append_right (by omega), gl, Nat.sub_self]; rfl) (by simp [hal]) ?_
    rw [hsn]
    refine SubI.ren (fun m => if m = 0 then some 0 else if m = 1 then some 6 else if m = 2 then some 2 else if m = 3 then some 3 else none) ?_ ?_ ?_ (by simp) (by simp)
    · simp (disch := omega) [subT, renV, ren1, wrapI]
    · simp [subH, renL, ren1]
    · intro m hm
      simp only at hm
      rw [if_neg (by omega), if_neg (by omega), if_neg (by omega), if_neg (by omega)]
  · have : i = R.length := by omega
    subst this
    have ht : M.take R.length = M := List.take_of_length_le (by omega)
    simp -implicitDefEqProofs [sc_s_l13Border_L0, ht]
    try omega
end Go.Proofs.YtkoljbncokmeaaaDoor
namespace Go.Proofs.YtkoljbncokmeaaaDoor
open Go Go.RowKit
set_option maxRecDepth 1000000
set_option linter.unusedSimpArgs false
set_option linter.unusedVariables false
set_option maxHeartbeats 1000000
/-- The number in a row and a column. -/
def ent (M : List (List Int)) (i j : Nat) : Int := at0 (atR M i) j
def rect (w : Nat) (M : List (List Int)) : Prop := ∀ i, i < M.length → (atR M i).length = w
noncomputable def wdM (M : List (List Int)) : Nat := (atR M 0).length
def bdE (B : Int) (n w : Nat) (f : Nat → Nat → Int) : Prop := ∀ i j, i < n → j < w → -B ≤ f i j ∧ f i j ≤ B
/-- A matrix by its numbers. -/
def matF (n w : Nat) (f : Nat → Nat → Int) : List (List Int) := (List.range n).map fun i => rowF w (f i)
@[simp] theorem matF_len (n w : Nat) (f : Nat → Nat → Int) : (matF n w f).length = n := by simp [matF]
theorem matF_at {n w i : Nat} {f : Nat → Nat → Int} (h : i < n) : atR (matF n w f) i = rowF w (f i) := by
  simp [matF, atR, h]
theorem matF_ent {n w i j : Nat} {f : Nat → Nat → Int} (h : i < n) (hj : j < w) : ent (matF n w f) i j = f i j := by
  unfold ent
  rw [matF_at h, rowF_at hj]
theorem matF_congr {n w : Nat} {f g : Nat → Nat → Int} (h : ∀ i j, i < n → j < w → f i j = g i j) : matF n w f = matF n w g := by
  unfold matF
  refine List.map_congr_left fun i hi => rowF_congr fun j hj => h i j (List.mem_range.1 hi) hj
theorem matF_self {w : Nat} {M : List (List Int)} (h : rect w M) : matF M.length w (ent M) = M := atR_ext (by simp) fun k hk => by
  rw [matF_len] at hk
  rw [matF_at hk]
  have := rowF_self (atR M k)
  rw [h k hk] at this
  exact this
theorem matF_set {n w i : Nat} {f : Nat → Nat → Int} (g : Nat → Int) (h : i < n) : (matF n w f).set i (rowF w g) = matF n w (fun a => if a = i then g else f a) := atR_ext (by simp) fun k hk => by
  simp only [List.length_set, matF_len] at hk
  rw [atR_set, matF_at hk, matF_at hk, matF_len]
  by_cases e : i = k
  · rw [if_pos ⟨e, by omega⟩, if_pos e.symm]
  · rw [if_neg (fun h => e h.1), if_neg (fun h => e h.symm)]
theorem rect_matF (n w : Nat) (f : Nat → Nat → Int) : rect w (matF n w f) := fun i hi => by
  rw [matF_len] at hi
  rw [matF_at hi, rowF_len]
theorem rect_wd {w : Nat} {M : List (List Int)} (h : rect w M) (h0 : 0 < M.length) : wdM M = w := h 0 h0
theorem wd_matF {n w : Nat} {f : Nat → Nat → Int} (h : 0 < n) : wdM (matF n w f) = w := rect_wd (rect_matF n w f) (by simpa using h)
open Classical in
/-- The least number from a corner on: one step, a row, all rows. -/
noncomputable def lsS (f : Nat → Nat → Int) (i j : Nat) (st : Int × Int) : Int × Int := if f i j ≠ 0 ∧ (st.1 < 0 ∨ (f i j).natAbs < (f st.1.toNat st.2.toNat).natAbs) then ((i : Int), (j : Int)) else st
noncomputable def lsJ (f : Nat → Nat → Int) (i k : Nat) (st : Int × Int) : Nat → Int × Int
  | 0 => st
  | n + 1 => lsS f i (k + n) (lsJ f i k st n)
noncomputable def lsI (f : Nat → Nat → Int) (w k : Nat) (st : Int × Int) : Nat → Int × Int
  | 0 => st
  | n + 1 => lsJ f (k + n) k (lsI f w k st n) (w - k)
noncomputable def lsZ (f : Nat → Nat → Int) (n w k : Nat) : Int × Int := lsI f w k (-1, -1) (n - k)
/-- What a place found so far is like. -/
def lsP (f : Nat → Nat → Int) (n w : Nat) (st : Int × Int) : Prop := st = (-1, -1) ∨ (0 ≤ st.1 ∧ st.1 < n ∧ 0 ≤ st.2 ∧ st.2 < w ∧ f st.1.toNat st.2.toNat ≠ 0)
theorem lsS_P {f : Nat → Nat → Int} {n w i j : Nat} {st : Int × Int} (hi : i < n) (hj : j < w) (h : lsP f n w st) : lsP f n w (lsS f i j st) := by
  unfold lsS
  split
  · rename_i h1
    exact .inr ⟨by simp only; omega, by simp only; omega, by simp only; omega, by simp only; omega, by simpa using h1.1⟩
  · exact h
theorem lsJ_P {f : Nat → Nat → Int} {n w i k : Nat} {st : Int × Int} (hi : i < n) (h : lsP f n w st) : ∀ u, k + u ≤ w ∨ u = 0 → lsP f n w (lsJ f i k st u)
  | 0, _ => h
  | u + 1, hu => by
    unfold lsJ
    exact lsS_P hi (by omega) (lsJ_P hi h u (by omega))
theorem lsI_P {f : Nat → Nat → Int} {n w k : Nat} {st : Int × Int} (h : lsP f n w st) : ∀ t, k + t ≤ n ∨ t = 0 → lsP f n w (lsI f w k st t)
  | 0, _ => h
  | t + 1, ht => by
    unfold lsI
    exact lsJ_P (by omega) (lsI_P h t (by omega)) _ (by omega)
theorem rowsL_dR {a : List (List Int)} {k : Nat} (h : k < a.length) (v : V) : (rowsL (a.drop k))[0]?.getD v = .list 1 (ints (atR a k)) := by
  rw [← rowsL_drop, List.getElem?_drop, Nat.add_zero, rowsL, List.getElem?_map, List.getElem?_eq_getElem h]
  simp [atR, h]
theorem lsJ_succ {f : Nat → Nat → Int} {i k j : Nat} {st : Int × Int} (h : k ≤ j) : lsJ f i k st (j + 1 - k) = lsS f i j (lsJ f i k st (j - k)) := by
  obtain ⟨u, rfl⟩ : ∃ u, j = k + u := ⟨j - k, by omega⟩
  rw [show k + u + 1 - k = u + 1 by omega, show k + u - k = u by omega]
  rfl
theorem lsI_succ {f : Nat → Nat → Int} {w k i : Nat} {st : Int × Int} (h : k ≤ i) : lsI f w k st (i + 1 - k) = lsJ f i k (lsI f w k st (i - k)) (w - k) := by
  obtain ⟨u, rfl⟩ : ∃ u, i = k + u := ⟨i - k, by omega⟩
  rw [show k + u + 1 - k = u + 1 by omega, show k + u - k = u by omega]
  rfl
def sc_s_l1Max : SC := (.seq (.reg [⟨(some 4), none, (.mov (.c (.int .i64 0)))⟩]) (.seq (.seq (.reg [⟨(some 5), none, (.mov (.t 0))⟩, ⟨(some 6), none, (.mov (.t 1))⟩, ⟨(some 7), none, (.bin false .gtr (.t 5) (.t 6))⟩]) (.cond (.t 7) (.seq (.reg [⟨(some 8), none, (.mov (.t 0))⟩, ⟨(some 4), none, (.mov (.t 8))⟩]) .ret) .skip)) (.seq (.reg [⟨(some 9), none, (.mov (.t 1))⟩, ⟨(some 4), none, (.mov (.t 9))⟩]) .ret)))
theorem code_s_l1Max : fnCode Tryd.prog [] 76 = some (10, sc_s_l1Max, [(4, none)]) := by kernel_rfl
noncomputable def F_s_l1Max : List V → Option V := F2 dI dI fun a b => some (.int .i64 (max a b))
theorem fn_s_l1Max : FnOk Tryd.prog 76 F_s_l1Max := by
  refine fn_ok code_s_l1Max mixed envNil_ok ?_
  intro args r h hb
  obtain ⟨_, _, a, b, rfl, h1, h2, h4⟩ := F2_inv h
  cases dI_inv h1
  cases dI_inv h2
  cases h4
  clear h
  refine ⟨by simp, fun w0 U0 L0 N0 => ?_⟩
  clear hb
  by_cases hl : b < a
  · rw [show max a b = a by omega]
    simp -implicitDefEqProofs [sc_s_l1Max, hl]
  · rw [show max a b = b by omega]
    simp -implicitDefEqProofs [sc_s_l1Max, hl]
def sc_s_l15Abs : SC := (.seq (.reg [⟨(some 2), none, (.mov (.c (.int .i64 0)))⟩]) (.seq (.reg [⟨(some 3), none, (.mov (.t 0))⟩, ⟨(some 4), none, (.mov (.t 0))⟩, ⟨(some 5), none, (.un .neg (.t 4))⟩, ⟨(some 6), none, (.call 76 [(.t 3), (.t 5)])⟩, ⟨(some 2), none, (.mov (.t 6))⟩]) .ret))
theorem code_s_l15Abs : fnCode Tryd.prog [] 60 = some (7, sc_s_l15Abs, [(2, none)]) := by kernel_rfl
noncomputable def F_s_l15Abs : List V → Option V := F1 dI fun a => @ite _ (-9223372036854775807 ≤ a ∧ a ≤ 9223372036854775807) (Classical.propDecidable _) (some (.int .i64 (a.natAbs : Nat))) none
theorem fn_s_l15Abs : FnOk Tryd.prog 60 F_s_l15Abs := by
  have env := (envNil_ok (P := Tryd.prog)).add fn_s_l1Max
  refine fn_ok code_s_l15Abs mixed env ?_
  intro args r h hb
  obtain ⟨_, a, rfl, h1, h4⟩ := F1_inv h
  cases dI_inv h1
  simp only [Option.ite_none_right_eq_some, Option.some.injEq] at h4
  obtain ⟨⟨ha, hb2⟩, rfl⟩ := h4
  clear h
  refine ⟨by simp, fun w0 U0 L0 N0 => ?_⟩
  clear hb
  have hw : IntKind.i64.wrap (-a) = -a := wrapI _ (by omega) (by omega)
  have hF : F_s_l1Max [.int .i64 a, .int .i64 (-a)] = some (.int .i64 ((a.natAbs : Nat) : Int)) := by
    simp only [F_s_l1Max, F2_mk, dI_int, Option.bind_some]
    rw [show max a (-a) = (a.natAbs : Int) by omega]
  generalize ((a.natAbs : Nat) : Int) = v at *
  simp -implicitDefEqProofs [sc_s_l15Abs, hw, hF]
end Go.Proofs.YtkoljbncokmeaaaDoor
namespace Go.Proofs.YtkoljbncokmeaaaDoor
open Go Go.RowKit
set_option maxRecDepth 1000000
set_option linter.unusedSimpArgs false
set_option linter.unusedVariables false
set_option maxHeartbeats 1000000
def sc_s_l15Least_L2 : SC := (.seq (.seq (.reg [⟨(some 18), none, (.mov (.t 9))⟩, ⟨(some 19), none, (.mov (.t 0))⟩, ⟨(some 20), none, (.mov (.t 8))⟩, ⟨(some 21), none, (.idx 1 (.t 19) (.t 20))⟩, ⟨(some 22), none, (.ld none .nil (.t 21))⟩, ⟨(some 23), none, (.len (.t 22))⟩, ⟨(some 24), none, (.bin false .lss (.t 18) (.t 23))⟩]) (.cond (.t 24) .skip (.exit 2))) (.seq (.block 3 (.seq (.dreg [⟨⟨(some 27), none, (.mov (.t 0))⟩, false, false⟩, ⟨⟨(some 28), none, (.mov (.t 8))⟩, false, false⟩, ⟨⟨(some 29), none, (.idx 1 (.t 27) (.t 28))⟩, false, false⟩, ⟨⟨(some 30), none, (.ld none .nil (.t 29))⟩, false, false⟩, ⟨⟨(some 31), none, (.mov (.t 9))⟩, false, false⟩, ⟨⟨(some 32), none, (.idx 1 (.t 30) (.t 31))⟩, false, false⟩, ⟨⟨(some 33), none, (.ld none (.int .i64 0) (.t 32))⟩, false, false⟩, ⟨⟨(some 34), none, (.bin false .neq (.t 33) (.c (.int .i64 0)))⟩, false, false⟩, ⟨⟨(some 35), none, (.mov (.t 34))⟩, false, false⟩, ⟨⟨(some 36), (some (35, true)), (.mov (.t 6))⟩, false, false⟩, ⟨⟨(some 37), (some (35, true)), (.bin false .lss (.t 36) (.c (.int .i64 0)))⟩, false, false⟩, ⟨⟨(some 38), (some (35, true)), (.mov (.t 37))⟩, false, false⟩, ⟨⟨(some 39), (some (38, false)), (.mov (.t 0))⟩, false, false⟩, ⟨⟨(some 40), (some (38, false)), (.mov (.t 8))⟩, false, false⟩, ⟨⟨(some 41), (some (38, false)), (.idx 1 (.t 39) (.t 40))⟩, false, false⟩, ⟨⟨(some 42), (some (38, false)), (.ld none .nil (.t 41))⟩, false, false⟩, ⟨⟨(some 43), (some (38, false)), (.mov (.t 9))⟩, false, false⟩, ⟨⟨(some 44), (some (38, false)), (.idx 1 (.t 42) (.t 43))⟩, false, false⟩, ⟨⟨(some 45), (some (38, false)), (.ld none (.int .i64 0) (.t 44))⟩, false, false⟩, ⟨⟨(some 46), (some (38, false)), (.call 60 [(.t 45)])⟩, false, false⟩, ⟨⟨(some 47), (some (38, false)), (.mov (.t 0))⟩, false, false⟩, ⟨⟨(some 48), (some (38, false)), (.mov (.t 6))⟩, false, false⟩, ⟨⟨(some 49), (some (38, false)), (.idx 1 (.t 47) (.t 48))⟩, false, false⟩, ⟨⟨(some 50), (some (38, false)), (.ld none .nil (.t 49))⟩, false, false⟩, ⟨⟨(some 51), (some (38, false)), (.mov (.t 7))⟩, false, false⟩, ⟨⟨(some 52), (some (38, false)), (.idx 1 (.t 50) (.t 51))⟩, false, false⟩, ⟨⟨(some 53), (some (38, false)), (.ld none (.int .i64 0) (.t 52))⟩, false, false⟩, ⟨⟨(some 54), (some (38, false)), (.call 60 [(.t 53)])⟩, false, false⟩, ⟨⟨(some 55), (some (38, false)), (.bin false .lss (.t 46) (.t 54))⟩, false, false⟩, ⟨⟨(some 56), (some (35, true)), (.pick (.t 38) (.c (.bool true)) (.t 55))⟩, false, false⟩, ⟨⟨(some 57), none, (.pick (.t 35) (.t 56) (.c (.bool false)))⟩, false, false⟩]) (.cond (.t 57) (.seq (.reg [⟨(some 58), none, (.mov (.t 8))⟩, ⟨(some 6), none, (.mov (.t 58))⟩]) (.reg [⟨(some 59), none, (.mov (.t 9))⟩, ⟨(some 7), none, (.mov (.t 59))⟩])) .skip))) (.reg [⟨(some 25), none, (.mov (.t 9))⟩, ⟨(some 26), none, (.bin false .add (.t 25) (.c (.int .i64 1)))⟩, ⟨(some 9), none, (.mov (.t 26))⟩])))
def sc_s_l15Least_L0 : SC := (.seq (.seq (.reg [⟨(some 11), none, (.mov (.t 8))⟩, ⟨(some 12), none, (.mov (.t 0))⟩, ⟨(some 13), none, (.len (.t 12))⟩, ⟨(some 14), none, (.bin false .lss (.t 11) (.t 13))⟩]) (.cond (.t 14) .skip (.exit 0))) (.seq (.block 1 (.seq (.reg [⟨(some 17), none, (.mov (.t 1))⟩, ⟨(some 9), none, (.mov (.t 17))⟩]) (.block 2 (.loop sc_s_l15Least_L2)))) (.reg [⟨(some 15), none, (.mov (.t 8))⟩, ⟨(some 16), none, (.bin false .add (.t 15) (.c (.int .i64 1)))⟩, ⟨(some 8), none, (.mov (.t 16))⟩])))
def sc_s_l15Least : SC := (.seq (.reg [⟨(some 4), none, (.mov (.c (.int .i64 0)))⟩, ⟨(some 5), none, (.mov (.c (.int .i64 0)))⟩]) (.seq (.reg [⟨(some 6), none, (.mov (.c (.int .i64 (-1))))⟩]) (.seq (.reg [⟨(some 7), none, (.mov (.c (.int .i64 (-1))))⟩]) (.seq (.seq (.reg [⟨(some 10), none, (.mov (.t 1))⟩, ⟨(some 8), none, (.mov (.t 10))⟩]) (.block 0 (.loop sc_s_l15Least_L0))) (.seq (.reg [⟨(some 60), none, (.mov (.t 6))⟩, ⟨(some 61), none, (.mov (.t 7))⟩, ⟨(some 4), none, (.mov (.t 60))⟩, ⟨(some 5), none, (.mov (.t 61))⟩]) .ret)))))
theorem code_s_l15Least : fnCode Tryd.prog [] 61 = some (62, sc_s_l15Least, [(4, none), (5, none)]) := by kernel_rfl
noncomputable def lowB (M : List (List Int)) : Prop := rect (wdM M) M ∧ bdE 4611686018427387904 M.length (wdM M) (ent M) ∧ M.length ≤ 64 ∧ wdM M ≤ 64
noncomputable def F_s_l15Least : List V → Option V := F2 dLL dI fun M k => @ite _ (lowB M ∧ 0 ≤ k ∧ k ≤ 64) (Classical.propDecidable _) (some (.tup [.int .i64 (lsZ (ent M) M.length (wdM M) k.toNat).1, .int .i64 (lsZ (ent M) M.length (wdM M) k.toNat).2])) none
theorem fn_s_l15Least : FnOk Tryd.prog 61 F_s_l15Least := by
  have env := (envNil_ok (P := Tryd.prog)).add fn_s_l15Abs
  refine fn_ok code_s_l15Least mixed env ?_
  intro args r h hb
  obtain ⟨_, _, M, k, rfl, h1, h2, h4⟩ := F2_inv h
  cases dLL_inv h1
  cases dI_inv h2
  simp only [Option.ite_none_right_eq_some, Option.some.injEq] at h4
  obtain ⟨⟨⟨hr, hbd, hn, hw⟩, hk0, hk1⟩, rfl⟩ := h4
  clear h
  obtain ⟨k, rfl⟩ : ∃ q : Nat, k = q := ⟨k.toNat, by omega⟩
  rw [Int.toNat_natCast]
  refine ⟨by simp, fun w0 U0 L0 N0 => ?_⟩
  clear hb
  generalize wdM M = w at *
  unfold lsZ
  have hP := fun t h => lsI_P (f := ent M) (n := M.length) (w := w) (k := k) (.inl rfl : lsP (ent M) M.length w (-1, -1)) t h
  have inner : ∀ (i : Nat) (st : Int × Int) (Q : Post) (T0 : Tm), i < M.length → lsP (ent M) M.length w st → subE T0 [(0, .list 1 (rowsL M)), (1, .int .i64 (k : Int)), (6, .int .i64 st.1), (7, .int .i64 st.2), (8, .int .i64 (i : Int)), (9, .int .i64 (k : Int))] →
      Q (.exit 2) [(0, .list 1 (rowsL M)), (1, .int .i64 (k : Int)), (6, .int .i64 (lsJ (ent M) i k st (w - k)).1), (7, .int .i64 (lsJ (ent M) i k st (w - k)).2), (8, .int .i64 (i : Int))] ([], 0) →
      LoopI ⟨Tryd.prog, w0, U0, L0, N0, 0, 62⟩ [] sc_s_l15Least_L2 Q T0 ([], 0) := by
    intro i st Q T0 hi hst hsub q1
    have hri := hr i hi
    refine loopQ env mixed (fun j : Nat => [(0, .list 1 (rowsL M)), (1, .int .i64 (k : Int)), (6, .int .i64 (lsJ (ent M) i k st (j - k)).1), (7, .int .i64 (lsJ (ent M) i k st (j - k)).2), (8, .int .i64 (i : Int)), (9, .int .i64 (j : Int))]) (fun _ => ([], 0)) (fun j => k ≤ j ∧ (j ≤ w ∨ j = k)) (fun j => w - j) k ⟨Nat.le_refl k, .inr rfl⟩ (SubI.slots rfl (by simpa [lsJ] using hsub)) ?_
    rintro j ⟨hkj, hu⟩
    have hst2 := lsJ_P (k := k) hi hst (j - k) (by omega)
    by_cases hlt : j < w
    · have hstep := lsJ_succ (f := ent M) (i := i) (st := st) hkj
      generalize lsJ (ent M) i k st (j - k) = s at *
      have hA : ∀ a b, a < M.length → b < w → F_s_l15Abs [.int .i64 (at0 (atR M a) b)] = some (.int .i64 ((ent M a b).natAbs : Nat)) := fun a b ha hb => by
        have := hbd a b ha hb
        unfold ent at this
        simp only [F_s_l15Abs, F1_mk, dI_int, Option.bind_some]
        rw [if_pos ⟨by omega, by omega⟩]
        rfl
      have hA1 := hA i j hi hlt
      obtain ⟨sr, sc⟩ := s
      by_cases hz : at0 (atR M i) j = 0
      · have hk : lsS (ent M) i j (sr, sc) = (sr, sc) := by unfold lsS; rw [if_neg fun h => h.1 hz]
        rw [hk] at hstep
        simp -implicitDefEqProofs [sc_s_l15Least_L2, freeOk, hi, hri, hlt, rowsL_dR hi, hz, fz, noname, dr, nolist]
        repeat' (first | omega | apply And.intro)
        exact Again.of (j + 1) (by omega) (by omega) (SubI.slots rfl (by simp (disch := omega) [wrapI, hstep]))
      rcases hst2 with e | ⟨s1, s2, s3, s4, s5⟩
      · simp only [Prod.mk.injEq] at e
        obtain ⟨rfl, rfl⟩ := e
        have hk : lsS (ent M) i j (-1, -1) = ((i : Int), (j : Int)) := by unfold lsS; rw [if_pos ⟨hz, .inl (by simp)⟩]
        rw [hk] at hstep
        simp -implicitDefEqProofs [sc_s_l15Least_L2, freeOk, hi, hri, hlt, rowsL_dR hi, hz, fz, noname, dr, nolist]
        repeat' (first | omega | apply And.intro)
        exact Again.of (j + 1) (by omega) (by omega) (SubI.slots rfl (by simp (disch := omega) [wrapI, hstep]))
      · simp only at s1 s2 s3 s4 s5
        obtain ⟨sr, rfl⟩ : ∃ q : Nat, sr = q := ⟨sr.toNat, by omega⟩
        obtain ⟨sc, rfl⟩ : ∃ q : Nat, sc = q := ⟨sc.toNat, by omega⟩
        have hsr : sr < M.length := by omega
        have hsc : sc < w := by omega
        have hrs := hr sr hsr
        have hA2 := hA sr sc hsr hsc
        have hneg : ¬ ((sr : Int) < 0) := by omega
        by_cases hc : (ent M i j).natAbs < (ent M sr sc).natAbs
        · have hk : lsS (ent M) i j ((sr : Int), (sc : Int)) = ((i : Int), (j : Int)) := by unfold lsS; rw [if_pos ⟨hz, .inr (by simpa using hc)⟩]
          rw [hk] at hstep
          have hc' : ((ent M i j).natAbs : Int) < ((ent M sr sc).natAbs : Int) := by omega
          generalize (((ent M i j).natAbs : Nat) : Int) = x1 at *
          generalize (((ent M sr sc).natAbs : Nat) : Int) = x2 at *
          simp -implicitDefEqProofs [sc_s_l15Least_L2, freeOk, hi, hri, hlt, hsr, hsc, hrs, rowsL_dR hi, rowsL_dR hsr, hz, hneg, hA1, hA2, hc', fz, noname, dr, nolist]
          repeat' (first | omega | apply And.intro)
          exact Again.of (j + 1) (by omega) (by omega) (SubI.slots rfl (by simp (disch := omega) [wrapI, hstep]))
        · have hk : lsS (ent M) i j ((sr : Int), (sc : Int)) = ((sr : Int), (sc : Int)) := by
            unfold lsS
            rw [if_neg fun h => ?_]
            rcases h.2 with h | h
            · simp only at h; omega
            · exact hc (by simpa using h)
          rw [hk] at hstep
          have hc' : ¬ (((ent M i j).natAbs : Int) < ((ent M sr sc).natAbs : Int)) := by omega
          generalize (((ent M i j).natAbs : Nat) : Int) = x1 at *
          generalize (((ent M sr sc).natAbs : Nat) : Int) = x2 at *
          simp -implicitDefEqProofs [sc_s_l15Least_L2, freeOk, hi, hri, hlt, hsr, hsc, hrs, rowsL_dR hi, rowsL_dR hsr, hz, hneg, hA1, hA2, hc', fz, noname, dr, nolist]
          repeat' (first | omega | apply And.intro)
          exact Again.of (j + 1) (by omega) (by omega) (SubI.slots rfl (by simp (disch := omega) [wrapI, hstep]))
    · have hu2 : lsJ (ent M) i k st (j - k) = lsJ (ent M) i k st (w - k) := by rw [show j - k = w - k by omega]
      simp -implicitDefEqProofs [sc_s_l15Least_L2, hi, hri, hlt, hu2, rowsL_dR hi]
      refine ⟨by omega, SubQ.of ?_ q1⟩
      exact SubI.slots rfl (by simp)
  simp -implicitDefEqProofs [sc_s_l15Least]
  refine loopI env mixed (fun i : Nat => [(0, .list 1 (rowsL M)), (1, .int .i64 (k : Int)), (6, .int .i64 (lsI (ent M) w k (-1, -1) (i - k)).1), (7, .int .i64 (lsI (ent M) w k (-1, -1) (i - k)).2), (8, .int .i64 (i : Int))]) (fun _ => ([], 0)) (fun i => k ≤ i ∧ (i ≤ M.length ∨ i = k)) (fun i => M.length - i) k ⟨Nat.le_refl k, .inr rfl⟩ (SubI.slots rfl (by simp [lsI])) ?_
  rintro i ⟨hki, ht⟩
  have hPt := hP (i - k) (by omega)
  by_cases hlt : i < M.length
  · have hstep := lsI_succ (f := ent M) (w := w) (st := (-1, -1)) hki
    have hin := inner i (lsI (ent M) w k (-1, -1) (i - k))
    generalize lsI (ent M) w k (-1, -1) (i - k) = s at *
    simp -implicitDefEqProofs [sc_s_l15Least_L0, hlt]
    refine hin _ _ hlt hPt (by simp) ?_
    simp -implicitDefEqProofs
    exact Again.of (i + 1) (by omega) (by omega) (SubI.slots rfl (by simp (disch := omega) [wrapI, hstep]))
  · have ht2 : lsI (ent M) w k (-1, -1) (i - k) = lsI (ent M) w k (-1, -1) (M.length - k) := by rw [show i - k = M.length - k by omega]
    simp -implicitDefEqProofs [sc_s_l15Least_L0, hlt, ht2]
end Go.Proofs.YtkoljbncokmeaaaDoor
namespace Go.Proofs.YtkoljbncokmeaaaDoor
open Go Go.RowKit
set_option maxRecDepth 1000000
set_option linter.unusedSimpArgs false
set_option linter.unusedVariables false
set_option maxHeartbeats 1000000
theorem rowsV_matF_set {n w i : Nat} {f : Nat → Nat → Int} (g : Nat → Int) (h : i < n) : (rowsV (matF n w f)).set i (.own 1 (ints (rowF w g))) = rowsV (matF n w (fun a => if a = i then g else f a)) := by
  rw [rowsV_set, matF_set g h]
theorem rowF_swap {w k j : Nat} {g : Nat → Int} (hk : k < w) (hj : j < w) : ((rowF w g).set k (g j)).set j (g k) = rowF w fun b => g (swI k j b) := by
  rw [rowF_set hk, rowF_set hj]
  refine rowF_congr fun b _ => ?_
  unfold swI
  by_cases e1 : b = k
  · subst e1
    by_cases e2 : b = j
    · subst e2; simp
    · simp [e2]
  · by_cases e2 : b = j
    · subst e2; simp [e1]
    · simp [e1, e2]
/-- Rows and columns are exchanged. -/
def swF (k i j : Nat) (f : Nat → Nat → Int) (a b : Nat) : Int := f (swI k i a) (swI k j b)
theorem swI_lt {k j b w : Nat} (hk : k < w) (hj : j < w) (hb : b < w) : swI k j b < w := by
  unfold swI
  split
  · exact hj
  · split
    · exact hk
    · exact hb
theorem swI_l (k j : Nat) : swI k j k = j := by unfold swI; rw [if_pos rfl]
theorem swI_same (k b : Nat) : swI k k b = b := by
  unfold swI
  by_cases e : b = k
  · rw [if_pos e, e]
  · rw [if_neg e, if_neg e]
/-- A step of the exchange of columns. -/
noncomputable def swC (k j i : Nat) (f : Nat → Nat → Int) (a b : Nat) : Int := @ite _ (a < i) (Classical.propDecidable _) (f a (swI k j b)) (f a b)
theorem swC_zero {n w k j : Nat} (f : Nat → Nat → Int) : matF n w (swC k j 0 f) = matF n w f := matF_congr fun a b _ _ => by unfold swC; rw [if_neg (by omega)]
theorem swC_full {n w k j : Nat} (f : Nat → Nat → Int) : matF n w (swC k j n f) = matF n w fun a b => f a (swI k j b) := matF_congr fun a b ha _ => by unfold swC; rw [if_pos ha]
theorem swC_row {w k j i : Nat} {f : Nat → Nat → Int} : rowF w (swC k j i f i) = rowF w (f i) := rowF_congr fun b _ => by unfold swC; rw [if_neg (by omega)]
theorem swC_step {n w k j i : Nat} {f : Nat → Nat → Int} : matF n w (fun a => if a = i then (fun b => f i (swI k j b)) else swC k j i f a) = matF n w (swC k j (i + 1) f) := matF_congr fun a b _ _ => by
  by_cases e : a = i
  · subst e
    rw [if_pos rfl]
    unfold swC
    rw [if_pos (by omega)]
  · rw [if_neg e]
    unfold swC
    by_cases h : a < i
    · rw [if_pos h, if_pos (by omega)]
    · rw [if_neg h, if_neg (by omega)]
theorem swp_matF {n w k i : Nat} {f : Nat → Nat → Int} (hk : k < n) (hi : i < n) : swp (matF n w f) k i = matF n w fun a => f (swI k i a) := atR_ext (by simp) fun q hq => by
  rw [swp_len, matF_len] at hq
  rw [swp_at (by simpa using hk) (by simpa using hi) (by simpa using hq), matF_at hk, matF_at hi, matF_at hq, matF_at hq]
  unfold swI
  by_cases e1 : q = i
  · subst e1
    by_cases e2 : q = k
    · subst e2; simp
    · simp [e2]
  · by_cases e2 : q = k
    · subst e2; simp [e1]
    · simp [e1, e2]
theorem swp_fold {M : List (List Int)} {d a : Nat} (hda : ¬ d = a) (x y : V) : ((((((rowsV M).set a x).set d y).set a y).set d x).set d (.own 1 (ints (atR M a)))).set a (.own 1 (ints (atR M d))) = rowsV (swp M d a) := by
  unfold swp
  rw [← rowsV_set, ← rowsV_set]
  apply List.ext_getElem (by simp)
  intro k h1 h2
  simp only [List.getElem_set]
  by_cases e1 : a = k
  · simp [e1]
  · by_cases e2 : d = k
    · simp [e1, e2]
    · simp [e1, e2]
def sc_s_l15Swap_L0 : SC := (.seq (.seq (.reg [⟨(some 27), none, (.mov (.t 10))⟩, ⟨(some 28), none, (.mov (.t 0))⟩, ⟨(some 29), none, (.len (.t 28))⟩, ⟨(some 30), none, (.bin false .lss (.t 27) (.t 29))⟩]) (.cond (.t 30) .skip (.exit 0))) (.seq (.block 1 (.seq (.reg [⟨(some 33), none, (.mov (.t 0))⟩, ⟨(some 34), none, (.mov (.t 10))⟩, ⟨(some 35), none, (.idx 1 (.t 33) (.t 34))⟩, ⟨(some 36), none, (.ld none .nil (.t 35))⟩, ⟨(some 37), none, (.mov (.t 3))⟩, ⟨(some 38), none, (.idx 1 (.t 36) (.t 37))⟩, ⟨(some 39), none, (.ld none (.int .i64 0) (.t 38))⟩, ⟨(some 11), none, (.mov (.t 39))⟩]) (.seq (.dreg [⟨⟨(some 40), none, (.mov (.t 0))⟩, false, false⟩, ⟨⟨(some 41), none, (.mov (.t 10))⟩, false, false⟩, ⟨⟨(some 42), none, (.idx 1 (.t 40) (.t 41))⟩, false, false⟩, ⟨⟨(some 43), none, (.ld none .nil (.t 42))⟩, false, false⟩, ⟨⟨(some 44), none, (.mov (.t 3))⟩, false, false⟩, ⟨⟨(some 45), none, (.mov (.t 0))⟩, false, false⟩, ⟨⟨(some 46), none, (.mov (.t 10))⟩, false, false⟩, ⟨⟨(some 47), none, (.idx 1 (.t 45) (.t 46))⟩, false, false⟩, ⟨⟨(some 48), none, (.ld none .nil (.t 47))⟩, false, false⟩, ⟨⟨(some 49), none, (.mov (.t 1))⟩, false, false⟩, ⟨⟨(some 50), none, (.idx 1 (.t 48) (.t 49))⟩, false, false⟩, ⟨⟨(some 51), none, (.ld none (.int .i64 0) (.t 50))⟩, false, false⟩, ⟨⟨(some 52), none, (.idx 1 (.t 43) (.t 44))⟩, false, false⟩, ⟨⟨none, none, (.st 1 (.t 52) (.t 51))⟩, true, false⟩]) (.reg [⟨(some 53), none, (.mov (.t 0))⟩, ⟨(some 54), none, (.mov (.t 10))⟩, ⟨(some 55), none, (.idx 1 (.t 53) (.t 54))⟩, ⟨(some 56), none, (.ld none .nil (.t 55))⟩, ⟨(some 57), none, (.mov (.t 1))⟩, ⟨(some 58), none, (.mov (.t 11))⟩, ⟨(some 59), none, (.idx 1 (.t 56) (.t 57))⟩, ⟨none, none, (.st 1 (.t 59) (.t 58))⟩])))) (.reg [⟨(some 31), none, (.mov (.t 10))⟩, ⟨(some 32), none, (.bin false .add (.t 31) (.c (.int .i64 1)))⟩, ⟨(some 10), none, (.mov (.t 32))⟩])))
def sc_s_l15Swap : SC := (.seq (.reg [⟨(some 8), none, (.mov (.c .nil))⟩]) (.seq (.reg [⟨(some 12), none, (.mov (.t 0))⟩, ⟨(some 13), none, (.mov (.t 2))⟩, ⟨(some 14), none, (.idx 1 (.t 12) (.t 13))⟩, ⟨(some 15), none, (.ld none .nil (.t 14))⟩, ⟨(some 9), none, (.mov (.t 15))⟩]) (.seq (.reg [⟨(some 16), none, (.mov (.t 0))⟩, ⟨(some 17), none, (.mov (.t 2))⟩, ⟨(some 18), none, (.mov (.t 0))⟩, ⟨(some 19), none, (.mov (.t 1))⟩, ⟨(some 20), none, (.idx 1 (.t 18) (.t 19))⟩, ⟨(some 21), none, (.ld none .nil (.t 20))⟩, ⟨(some 22), none, (.idx 1 (.t 16) (.t 17))⟩, ⟨none, none, (.st 1 (.t 22) (.t 21))⟩]) (.seq (.reg [⟨(some 23), none, (.mov (.t 0))⟩, ⟨(some 24), none, (.mov (.t 1))⟩, ⟨(some 25), none, (.mov (.t 9))⟩, ⟨(some 26), none, (.idx 1 (.t 23) (.t 24))⟩, ⟨none, none, (.st 1 (.t 26) (.t 25))⟩]) (.seq (.seq (.reg [⟨(some 10), none, (.mov (.c (.int .i64 0)))⟩]) (.block 0 (.loop sc_s_l15Swap_L0))) (.seq (.reg [⟨(some 60), none, (.mov (.t 0))⟩, ⟨(some 8), none, (.mov (.t 60))⟩]) .ret))))))
theorem code_s_l15Swap : fnCode Tryd.prog [] 62 = some (61, sc_s_l15Swap, [(8, none)]) := by kernel_rfl
noncomputable def swpR (M : List (List Int)) (k i j : Nat) : List (List Int) := matF M.length (wdM M) (swF k i j (ent M))
def dimM (M : List (List Int)) : Prop := rect (wdM M) M ∧ M.length ≤ 64 ∧ wdM M ≤ 64
noncomputable def G_s_l15Swap : List V → List V → Option (V × List V)
  | [.sl 0 1 0 m, .int .i64 k, .int .i64 i, .int .i64 j], cells => (dRowsV cells).bind fun M => @ite _ (m = M.length ∧ dimM M ∧ 0 ≤ k ∧ k < M.length ∧ k < wdM M ∧ 0 ≤ i ∧ i < M.length ∧ 0 ≤ j ∧ j < wdM M) (Classical.propDecidable _) (some (.sl 0 1 0 m, rowsV (swpR M k.toNat i.toNat j.toNat))) none
  | _, _ => none
theorem ln_s_l15Swap : LendOk Tryd.prog 62 0 G_s_l15Swap := by
  have env := envNil_ok (P := Tryd.prog)
  refine fn_lend code_s_l15Swap mixed env ?_
  intro args cells r cells' hG hb
  unfold G_s_l15Swap at hG
  split at hG
  case h_2 => simp at hG
  rename_i m k i j
  obtain ⟨M, h1, h2⟩ := Option.bind_eq_some_iff.1 hG
  have hc := dRowsV_inv h1
  subst hc
  simp only [Option.ite_none_right_eq_some, Option.some.injEq, Prod.mk.injEq] at h2
  obtain ⟨⟨rfl, ⟨hr, hn, hw⟩, hk0, hk1, hk2, hi0, hi1, hj0, hj1⟩, rfl, rfl⟩ := h2
  obtain ⟨k, rfl⟩ : ∃ n : Nat, k = n := ⟨k.toNat, by omega⟩
  obtain ⟨i, rfl⟩ : ∃ n : Nat, i = n := ⟨i.toNat, by omega⟩
  obtain ⟨j, rfl⟩ : ∃ n : Nat, j = n := ⟨j.toNat, by omega⟩
  simp only [Int.toNat_natCast]
  clear hG h1 hb
  unfold swpR
  have hself := matF_self hr
  generalize wdM M = w at *
  generalize hf : ent M = f at *
  generalize hnn : M.length = n at *
  rw [← hself]
  clear hself hr hf
  have hkn : k < n := by omega
  have hkw : k < w := by omega
  have hin : i < n := by omega
  have hjw : j < w := by omega
  refine ⟨by simp, fun w0 U0 L0 N0 => ?_⟩
  have loop : ∀ (g : Nat → Nat → Int) (Q : Post) (T0 : Tm) (H0 : Hp), SubI 1 T0 H0 [(0, .sl 0 1 0 n), (1, .int .i64 (k : Int)), (3, .int .i64 (j : Int)), (10, .int .i64 ((0 : Nat) : Int))] ([(0, rowsV (matF n w g))], 1) →
      Q (.exit 0) [(0, .sl 0 1 0 n)] ([(0, rowsV (matF n w fun a b => g a (swI k j b)))], 1) →
      LoopI ⟨Tryd.prog, w0, U0, L0, N0, 1, 61⟩ [] sc_s_l15Swap_L0 Q T0 H0 := by
    intro g Q T0 H0 hsub q1
    refine loopQ env mixed (fun t : Nat => [(0, .sl 0 1 0 n), (1, .int .i64 (k : Int)), (3, .int .i64 (j : Int)), (10, .int .i64 (t : Int))]) (fun t => ([(0, rowsV (matF n w (swC k j t g)))], 1)) (fun t => t ≤ n) (fun t => n - t) 0 (by simp) (by rw [swC_zero]; exact hsub) ?_
    intro t ht
    by_cases hlt : t < n
    · have hat := matF_at (w := w) (f := swC k j t g) hlt
      rw [swC_row] at hat
      have hl : (matF n w (swC k j t g)).length = n := matF_len _ _ _
      have hs := rowF_swap (g := g t) hkw hjw
      have hst := rowsV_matF_set (w := w) (f := swC k j t g) (fun b => g t (swI k j b)) hlt
      rw [swC_step] at hst
      have e1 := rowF_at (g := g t) hkw
      have e2 := rowF_at (g := g t) hjw
      have hrl : (rowF w (g t)).length = w := rowF_len _ _
      have hrl2 : (rowF w fun b => g t (swI k j b)).length = w := rowF_len _ _
      have hsr : ((rowF w (g t)).set j (g t k)).set k (g t j) = rowF w fun b => g t (swI k j b) := by
        rw [← hs]
        by_cases e : k = j
        · subst e; rfl
        · rw [List.set_comm _ _ (fun h => e h.symm)]
      generalize (rowF w fun b => g t (swI k j b)) = r2 at *
      generalize rowF w (g t) = r1 at *
      generalize matF n w (swC k j t g) = Mt at *
      simp -implicitDefEqProofs [sc_s_l15Swap_L0, freeOk, hlt, hl, hat, hkw, hjw, hrl, e1, e2, hsr]
      repeat' (first | omega | apply And.intro)
      refine Again.of (t + 1) (by omega) (by omega) ?_
      refine SubI.fold 0 1 t 1 w (cn := ints r2) (co := (rowsV Mt).set t (.sl 1 1 0 w)) (by simp) (by simp) (by simp [hl, hlt]) (by simp [hrl2]) ?_
      refine SubI.ren (fun m => if m = 0 then some 0 else none) ?_ ?_ ?_ (by simp) (by simp)
      · simp (disch := omega) [subT, renV, ren1, wrapI]
      · simp [subH, renL, ren1, List.set_set, hst]
      · intro m hm
        simp only at hm
        rw [if_neg (by omega)]
    · have : t = n := by omega
      subst this
      rw [← swC_full] at q1
      simp -implicitDefEqProofs [sc_s_l15Swap_L0]
      exact SubQ.of (SubI.slots rfl (by simp)) q1
  have hres : matF n w (swF k i j f) = matF n w fun a b => (fun a b => f (swI k i a) b) a (swI k j b) := rfl
  rw [hres]
  have hsp := swp_matF (w := w) (f := f) hkn hin
  rw [show (fun a b => f (swI k i a) b) = fun a => f (swI k i a) from rfl]
  have hl : (matF n w f).length = n := matF_len _ _ _
  have hai := matF_at (w := w) (f := f) hin
  have hak := matF_at (w := w) (f := f) hkn
  have hli : (rowF w (f i)).length = w := rowF_len _ _
  have hlk : (rowF w (f k)).length = w := rowF_len _ _
  have hlo := loop fun a => f (swI k i a)
  by_cases hik : i = k
  · subst hik
    have hsm : matF n w (fun a => f (swI i i a)) = matF n w f := matF_congr fun a b _ _ => by rw [swI_same]
    rw [hsm] at hlo
    have hself := rowsV_self (M := matF n w f) (i := i) (by omega)
    rw [hai] at hself
    generalize rowF w (f i) = ri at *
    generalize matF n w f = M0 at *
    simp -implicitDefEqProofs [sc_s_l15Swap, hin, hl, hai, hli]
    repeat' (first | omega | apply And.intro)
    refine hlo _ _ _ ?_ ?_
    · refine SubI.fold 0 1 i 1 w (cn := ints ri) (co := (rowsV M0).set i (.sl 1 1 0 w)) (by simp) (by simp) (by simp [hl, hin]) (by simp [hli]) ?_
      refine SubI.ren (fun m => if m = 0 then some 0 else none) ?_ ?_ ?_ (by simp) (by simp)
      · simp [subT, renV, ren1]
      · simp [subH, renL, ren1, List.set_set, hself]
      · intro m hm
        simp only at hm
        rw [if_neg (by omega)]
    · simp -implicitDefEqProofs
  · have hki : ¬ k = i := fun e => hik e.symm
    have hcell := swp_fold (M := matF n w f) (d := k) (a := i) hki (.sl 1 1 0 w) (.sl 2 1 0 w)
    rw [hsp, hak, hai] at hcell
    simp -implicitDefEqProofs [sc_s_l15Swap, hin, hkn, hl, hai, hak, hli, hlk, hik, hki]
    repeat' (first | omega | apply And.intro)
    refine hlo _ _ _ ?_ ?_
    · generalize rowF w (f i) = ri at *
      generalize rowF w (f k) = rk at *
      generalize matF n w f = M0 at *
      refine SubI.fold 0 1 k 1 w (cn := ints ri) (co := ((((rowsV M0).set i (.sl 1 1 0 w)).set k (.sl 2 1 0 w)).set i (.sl 2 1 0 w)).set k (.sl 1 1 0 w)) (by simp) (by simp) (by simp [hl, hkn]) (by simp [hli]) ?_
      refine SubI.fold 0 2 i 1 w (cn := ints rk) (co := (((((rowsV M0).set i (.sl 1 1 0 w)).set k (.sl 2 1 0 w)).set i (.sl 2 1 0 w)).set k (.sl 1 1 0 w)).set k (.own 1 (ints ri))) (by simp) (by simp) (by simp [hl, hin, hik, hki]) (by simp [hlk]) ?_
      rw [hcell]
      refine SubI.ren (fun m => if m = 0 then some 0 else none) ?_ ?_ ?_ (by simp) (by simp)
      · simp [subT, renV, ren1]
      · simp [subH, renL, ren1]
      · intro m hm
        simp only at hm
        rw [if_neg (by omega)]
    · simp -implicitDefEqProofs
end Go.Proofs.YtkoljbncokmeaaaDoor
