import Derived.Test.YtncnohompmcddaaGcD
import Derived.Test.YtncnohompmcddaaGcI
import Derived.Test.YtncnohompmcddaaKJ
import Derived.Test.YtncnohompmcddaaGaC
namespace Go.Proofs.Ytncnohompmcddaa
open Go Go.RowKit
set_option maxRecDepth 1000000
set_option linter.unusedSimpArgs false
set_option linter.unusedVariables false
set_option maxHeartbeats 1000000
/-- The number of the face r in the border of s. -/
noncomputable def sgnZ (r s : Int) : Int := @ite _ (subS r s) (Classical.propDecidable _) (1 - 2 * (sz (band s (bnot s r - 1)) % 2)) 0
theorem sgnZ_no {r s : Int} (h : ¬ subS r s) : sgnZ r s = 0 := by unfold sgnZ; rw [if_neg h]
theorem sgnZ_yes {r s : Int} (h : subS r s) : sgnZ r s = 1 - 2 * (sz (band s (bnot s r - 1)) % 2) := by unfold sgnZ; rw [if_pos h]
theorem sgnZ_bnd (r s : Int) : -1 ≤ sgnZ r s ∧ sgnZ r s ≤ 1 := by
  by_cases h : subS r s
  · rw [sgnZ_yes h]; omega
  · rw [sgnZ_no h]; omega
theorem sgn_set {r s : Int} (hr : isS r) (hs : isS s) (hz : sz s = sz r + 1) (h : subS r s) : isS (bnot s r) ∧ isS (bnot s r - 1) := by
  have hb := isS_bnot hs hr
  have hne : bnot s r ≠ 0 := fun e => by
    have := subS_anti hs hr e h
    rw [this] at hz
    omega
  have h1 := hb.1
  have h2 := hb.2
  exact ⟨hb, by omega, by omega⟩
noncomputable def F_s_l13Sign : List V → Option V := F2 dI dI fun r s => @ite _ (isS r ∧ isS s ∧ sz s = sz r + 1) (Classical.propDecidable _) (some (.int .i64 (sgnZ r s))) none
theorem tmod_nn {a : Int} (p : Int) (h : 0 ≤ a) : a.tmod p = a % p := Int.tmod_eq_emod_of_nonneg h
theorem tmod_neg {a : Int} (p : Int) (h : a < 0) : a.tmod p = -((-a) % p) := by
  have h1 := tmod_nn (a := -a) p (by omega)
  rw [Int.neg_tmod] at h1
  omega
theorem rest_eq {a p : Int} (hp : fpP p) : (a.tmod p < 0 → a.tmod p + p = a % p) ∧ (¬ a.tmod p < 0 → a.tmod p = a % p) ∧ -5 < a.tmod p ∧ a.tmod p < 5 ∧ (a.tmod p + p).tmod p = a % p := by
  have key : ∀ t : Int, (a.tmod p = t) → (t < 0 → t + p = a % p) → (¬ t < 0 → t = a % p) → -p < t → t < p → (a.tmod p < 0 → a.tmod p + p = a % p) ∧ (¬ a.tmod p < 0 → a.tmod p = a % p) ∧ -5 < a.tmod p ∧ a.tmod p < 5 ∧ (a.tmod p + p).tmod p = a % p := by
    intro t e h1 h2 h3 h4
    rw [e, tmod_nn p (by omega)]
    have h5 : p ≤ 5 := by rcases hp with rfl | rfl | rfl <;> omega
    refine ⟨h1, h2, by omega, by omega, ?_⟩
    rcases hp with rfl | rfl | rfl <;> omega
  by_cases ha : a < 0
  · refine key _ (tmod_neg p ha) ?_ ?_ ?_ ?_ <;> rcases hp with rfl | rfl | rfl <;> omega
  · refine key _ (tmod_nn p (by omega)) ?_ ?_ ?_ ?_ <;> rcases hp with rfl | rfl | rfl <;> omega
theorem fpP_bnd {p : Int} (hp : fpP p) : 2 ≤ p ∧ p ≤ 5 ∧ p ≠ 0 := by rcases hp with rfl | rfl | rfl <;> omega
noncomputable def F_i_restMod : List V → Option V := F2 dI dI fun a p => @ite _ (fpP p) (Classical.propDecidable _) (some (.int .i64 (a % p))) none
/-- Sums of products, the first j. -/
def dotK (r x : List Int) : Nat → Int
  | 0 => 0
  | j + 1 => dotK r x j + at0 r j * at0 x j
theorem dotK_bnd {r x : List Int} {p : Int} (hp : p ≤ 5) (hr : ∀ j, j < x.length → -1 ≤ at0 r j ∧ at0 r j ≤ 1) (hx : inP p x) : ∀ j, j ≤ x.length → -(4 * j) ≤ dotK r x j ∧ dotK r x j ≤ 4 * j ∧ (j < x.length → -4 ≤ at0 r j * at0 x j ∧ at0 r j * at0 x j ≤ 4) := by
  have mul : ∀ j, j < x.length → -4 ≤ at0 r j * at0 x j ∧ at0 r j * at0 x j ≤ 4 := fun j hj => by
    have h1 := hr j hj
    have h2 := hx j hj
    have h3 : at0 r j = -1 ∨ at0 r j = 0 ∨ at0 r j = 1 := by omega
    rcases h3 with e | e | e <;> rw [e] <;> omega
  intro j
  induction j with
  | zero => intro _; exact ⟨by simp [dotK], by simp [dotK], mul 0⟩
  | succ j ih =>
    intro hj
    obtain ⟨a, b, c⟩ := ih (by omega)
    have := c (by omega)
    exact ⟨by simp only [dotK]; omega, by simp only [dotK]; omega, mul (j + 1)⟩
noncomputable def sgnM (R C : List Int) : List (List Int) := R.map fun r => C.map (sgnZ r)
@[simp] theorem sgnM_len (R C : List Int) : (sgnM R C).length = R.length := by simp [sgnM]
theorem sgnM_at {R C : List Int} {i : Nat} (h : i < R.length) : atR (sgnM R C) i = C.map (sgnZ (at0 R i)) := by
  rw [atR_eq (by simpa using h), at0_eq h]
  simp [sgnM]
noncomputable def borM (n : Int) (l : List Int) (k : Int) : List (List Int) := sgnM (fosL n l (k - 1)) (fosL n l k)
theorem mem_fosL {n : Int} {l : List Int} {k s : Int} (h : s ∈ fosL n l k) : isS s ∧ cplx n l ∧ faceS l s ∧ sz s = k := mem_setsOf.1 h
noncomputable def F_i_BorderMatrix : List V → Option V := F2 dC dI fun c k => @ite _ (cplx c.1 c.2 ∧ 1 ≤ k ∧ k ≤ 6) (Classical.propDecidable _) (some (.own 1 (rowsV (borM c.1 c.2 k)))) none
/-- The rows as far as i. -/
def padR (M : List (List Int)) (i : Nat) : List (List Int) := (List.range M.length).map fun j => if j < i then atR M j else []
@[simp] theorem padR_len (M : List (List Int)) (i : Nat) : (padR M i).length = M.length := by simp [padR]
theorem padR_zero (M : List (List Int)) : padR M 0 = List.replicate M.length [] := by
  apply List.ext_getElem (by simp)
  intro j h1 h2
  simp [padR]
theorem padR_full (M : List (List Int)) : padR M M.length = M := by
  apply List.ext_getElem (by simp)
  intro j h1 h2
  simp [padR, h2, atR_eq h2]
theorem padR_set {M : List (List Int)} {i : Nat} (h : i < M.length) : (padR M i).set i (atR M i) = padR M (i + 1) := by
  apply List.ext_getElem (by simp)
  intro j h1 h2
  rw [List.getElem_set]
  simp only [padR, List.getElem_map, List.getElem_range]
  by_cases e : i = j
  · subst e; simp
  · by_cases h3 : j < i
    · simp [e, h3, show j < i + 1 by omega]
    · simp [e, h3, show ¬ j < i + 1 by omega]
theorem rowsV_self {M : List (List Int)} {i : Nat} (h : i < M.length) : (rowsV M).set i (.own 1 (ints (atR M i))) = rowsV M := by
  rw [rowsV_set]
  congr 1
  apply List.ext_getElem (by simp)
  intro j h1 h2
  rw [List.getElem_set]
  by_cases e : i = j
  · subst e; simp [atR_eq h]
  · simp [e]
theorem rowsV_snoc {M : List (List Int)} {i : Nat} (h : i < M.length) (v : V) : (rowsV (M.take i) ++ [v]).set i (.own 1 (ints (atR M i))) = rowsV (M.take (i + 1)) := by
  have hl : (rowsV (M.take i)).length = i := by simp; omega
  have e : M.take (i + 1) = M.take i ++ [atR M i] := by rw [List.take_succ_eq_append_getElem h, atR_eq h]
  rw [List.set_append, if_neg (by omega), hl, Nat.sub_self, e, ← rowsV_app]
  rfl
/-- A row of signs as far as j. -/
noncomputable def sgR (r : Int) (C : List Int) (j : Nat) : List Int := rowF C.length fun q => @ite _ (q < j) (Classical.propDecidable _) (sgnZ r (at0 C q)) 0
@[simp] theorem sgR_len (r : Int) (C : List Int) (j : Nat) : (sgR r C j).length = C.length := by simp [sgR]
theorem sgR_zero (r : Int) (C : List Int) : sgR r C 0 = List.replicate C.length 0 := by
  rw [rowF_zero]
  exact rowF_congr fun j _ => by rw [if_neg (by omega)]
theorem sgR_full (r : Int) (C : List Int) : sgR r C C.length = C.map (sgnZ r) := by
  rw [← rowF_map C (sgnZ r)]
  exact rowF_congr fun j hj => by rw [if_pos hj]
theorem sgR_set {r : Int} {C : List Int} {j : Nat} (h : j < C.length) : (sgR r C j).set j (sgnZ r (at0 C j)) = sgR r C (j + 1) := by
  unfold sgR
  rw [rowF_set h]
  refine rowF_congr fun i hi => ?_
  by_cases e : i = j
  · rw [if_pos e, e, if_pos (by omega)]
  · rw [if_neg e]
    by_cases h3 : i < j
    · rw [if_pos h3, if_pos (by omega)]
    · rw [if_neg h3, if_neg (by omega)]
def sc_i_borderSign : SC := (.seq (.reg [⟨(some 4), none, (.mov (.c (.int .i64 0)))⟩]) (.seq (.seq (.reg [⟨(some 6), none, (.mov (.t 0))⟩, ⟨(some 7), none, (.mov (.t 1))⟩, ⟨(some 8), none, (.bin false .andNot (.t 6) (.t 7))⟩, ⟨(some 9), none, (.bin false .neq (.t 8) (.c (.int .i64 0)))⟩]) (.cond (.t 9) (.seq (.reg [⟨(some 4), none, (.mov (.c (.int .i64 0)))⟩]) .ret) .skip)) (.seq (.reg [⟨(some 10), none, (.mov (.t 1))⟩, ⟨(some 11), none, (.mov (.t 0))⟩, ⟨(some 12), none, (.bin false .andNot (.t 10) (.t 11))⟩, ⟨(some 5), none, (.mov (.t 12))⟩]) (.seq (.seq (.reg [⟨(some 13), none, (.mov (.t 1))⟩, ⟨(some 14), none, (.mov (.t 5))⟩, ⟨(some 15), none, (.bin false .sub (.t 14) (.c (.int .i64 1)))⟩, ⟨(some 16), none, (.bin false .and (.t 13) (.t 15))⟩, ⟨(some 17), none, (.call 47 [(.t 16)])⟩, ⟨(some 18), none, (.bin false .rem (.t 17) (.c (.int .i64 2)))⟩, ⟨(some 19), none, (.bin false .eql (.t 18) (.c (.int .i64 0)))⟩]) (.cond (.t 19) (.seq (.reg [⟨(some 4), none, (.mov (.c (.int .i64 1)))⟩]) .ret) .skip)) (.seq (.reg [⟨(some 4), none, (.mov (.c (.int .i64 (-1))))⟩]) .ret)))))
theorem code_i_borderSign : fnCode Try.prog [] 104 = some (20, sc_i_borderSign, [(4, none)]) := by kernel_rfl
theorem fn_i_borderSign : FnOk Try.prog 104 F_s_l13Sign := by
  have env := (envNil_ok (P := Try.prog)).add fn_i_SizeOf
  refine fn_ok code_i_borderSign mixed env ?_
  intro args r h hb
  obtain ⟨_, _, r, s, rfl, h1, h2, h4⟩ := F2_inv h
  cases dI_inv h1
  cases dI_inv h2
  simp only [Option.ite_none_right_eq_some, Option.some.injEq] at h4
  obtain ⟨⟨hr, hs, hz⟩, rfl⟩ := h4
  clear h
  refine ⟨by simp, fun w0 U0 L0 N0 => ?_⟩
  clear hb
  by_cases h : bnot r s = 0
  rotate_left
  · have e := sgnZ_no (r := r) (s := s) h
    simp -implicitDefEqProofs [sc_i_borderSign, h, e]
  have e := sgnZ_yes (r := r) (s := s) h
  obtain ⟨q1, q2⟩ := sgn_set hr hs hz h
  have q3 := q1.1
  have q4 := q1.2
  have hb := isS_band hs q2
  have r1 := sizeOf1_set hb.1 hb.2
  have hw : IntKind.i64.wrap (bnot s r - 1) = bnot s r - 1 := wrapI _ (by omega) (by omega)
  have hz0 := sz_nn (band s (bnot s r - 1))
  generalize sz (band s (bnot s r - 1)) = z at *
  have ht := tmod_nn 2 hz0
  by_cases h2 : z % 2 = 0
  · rw [h2] at e ht
    simp -implicitDefEqProofs [sc_i_borderSign, F_i_SizeOf, h, e, hw, r1, ht]
  · have h3 : z % 2 = 1 := by omega
    rw [h3] at e ht
    simp -implicitDefEqProofs [sc_i_borderSign, F_i_SizeOf, h, e, hw, r1, ht]
def sc_i_restMod : SC := (.seq (.reg [⟨(some 4), none, (.mov (.c (.int .i64 0)))⟩]) (.seq (.reg [⟨(some 6), none, (.mov (.t 0))⟩, ⟨(some 7), none, (.mov (.t 1))⟩, ⟨(some 8), none, (.bin false .rem (.t 6) (.t 7))⟩, ⟨(some 5), none, (.mov (.t 8))⟩]) (.seq (.seq (.reg [⟨(some 9), none, (.mov (.t 5))⟩, ⟨(some 10), none, (.bin false .lss (.t 9) (.c (.int .i64 0)))⟩]) (.cond (.t 10) (.reg [⟨(some 11), none, (.mov (.t 5))⟩, ⟨(some 12), none, (.mov (.t 1))⟩, ⟨(some 13), none, (.bin false .add (.t 11) (.t 12))⟩, ⟨(some 5), none, (.mov (.t 13))⟩]) .skip)) (.seq (.reg [⟨(some 14), none, (.mov (.t 5))⟩, ⟨(some 4), none, (.mov (.t 14))⟩]) .ret))))
theorem code_i_restMod : fnCode Try.prog [] 61 = some (15, sc_i_restMod, [(4, none)]) := by kernel_rfl
theorem fn_i_restMod : FnOk Try.prog 61 F_i_restMod := by
  refine fn_ok code_i_restMod mixed envNil_ok ?_
  intro args r h hb
  obtain ⟨_, _, a, p, rfl, h1, h2, h4⟩ := F2_inv h
  cases dI_inv h1
  cases dI_inv h2
  simp only [Option.ite_none_right_eq_some, Option.some.injEq] at h4
  obtain ⟨hp, rfl⟩ := h4
  clear h
  refine ⟨by simp, fun w0 U0 L0 N0 => ?_⟩
  clear hb
  obtain ⟨e1, e2, e3, e4, _⟩ := rest_eq (a := a) hp
  obtain ⟨p1, p2, p3⟩ := fpP_bnd hp
  by_cases ht : a.tmod p < 0
  · have e := e1 ht
    have hw : IntKind.i64.wrap (a.tmod p + p) = a % p := by rw [wrapI _ (by omega) (by omega), e]
    simp -implicitDefEqProofs [sc_i_restMod, p3, ht, hw]
  · have e := e2 ht
    have hn : ¬ a % p < 0 := by rw [← e]; exact ht
    simp -implicitDefEqProofs [sc_i_restMod, p3, ht, hn, e]
    try omega
def sc_s_l13Mod : SC := (.seq (.reg [⟨(some 4), none, (.mov (.c (.int .i64 0)))⟩]) (.seq (.reg [⟨(some 5), none, (.mov (.t 0))⟩, ⟨(some 6), none, (.mov (.t 1))⟩, ⟨(some 7), none, (.bin false .rem (.t 5) (.t 6))⟩, ⟨(some 8), none, (.mov (.t 1))⟩, ⟨(some 9), none, (.bin false .add (.t 7) (.t 8))⟩, ⟨(some 10), none, (.mov (.t 1))⟩, ⟨(some 11), none, (.bin false .rem (.t 9) (.t 10))⟩, ⟨(some 4), none, (.mov (.t 11))⟩]) .ret))
theorem code_s_l13Mod : fnCode Try.prog [] 55 = some (12, sc_s_l13Mod, [(4, none)]) := by kernel_rfl
theorem fn_s_l13Mod : FnOk Try.prog 55 F_i_restMod := by
  refine fn_ok code_s_l13Mod mixed envNil_ok ?_
  intro args r h hb
  obtain ⟨_, _, a, p, rfl, h1, h2, h4⟩ := F2_inv h
  cases dI_inv h1
  cases dI_inv h2
  simp only [Option.ite_none_right_eq_some, Option.some.injEq] at h4
  obtain ⟨hp, rfl⟩ := h4
  clear h
  refine ⟨by simp, fun w0 U0 L0 N0 => ?_⟩
  clear hb
  obtain ⟨_, _, e3, e4, e5⟩ := rest_eq (a := a) hp
  obtain ⟨p1, p2, p3⟩ := fpP_bnd hp
  have hw : IntKind.i64.wrap (a.tmod p + p) = a.tmod p + p := wrapI _ (by omega) (by omega)
  simp -implicitDefEqProofs [sc_s_l13Mod, p3, hw, e5]
end Go.Proofs.Ytncnohompmcddaa
