import Derived.Test.YtmemomfffehnkaaKI
import Derived.Test.YtmemomfffehnkaaKV
namespace Go.Proofs.Ytmemomfffehnkaa
open Go Go.RowKit
set_option maxRecDepth 1000000
set_option linter.unusedSimpArgs false
set_option linter.unusedVariables false
set_option maxHeartbeats 1000000
def sc_l_at22 : SC := (.seq (.reg [⟨(some 4), none, (.mov (.c (.int .i64 0)))⟩]) (.seq (.seq (.reg [⟨(some 5), none, (.mov (.t 1))⟩, ⟨(some 6), none, (.bin false .lss (.t 5) (.c (.int .i64 0)))⟩, ⟨(some 7), none, (.mov (.t 6))⟩, ⟨(some 8), (some (7, false)), (.mov (.t 1))⟩, ⟨(some 9), (some (7, false)), (.mov (.t 0))⟩, ⟨(some 10), (some (7, false)), (.len (.t 9))⟩, ⟨(some 11), (some (7, false)), (.bin false .geq (.t 8) (.t 10))⟩, ⟨(some 12), none, (.pick (.t 7) (.c (.bool true)) (.t 11))⟩]) (.cond (.t 12) (.seq (.reg [⟨(some 4), none, (.mov (.c (.int .i64 0)))⟩]) .ret) .skip)) (.seq (.reg [⟨(some 13), none, (.mov (.t 0))⟩, ⟨(some 14), none, (.mov (.t 1))⟩, ⟨(some 15), none, (.idx 1 (.t 13) (.t 14))⟩, ⟨(some 16), none, (.ld none (.int .i64 0) (.t 15))⟩, ⟨(some 4), none, (.mov (.t 16))⟩]) .ret)))
theorem code_l_at22 : fnCode Try.prog [] 26 = some (17, sc_l_at22, [(4, none)]) := by kernel_rfl
noncomputable def atZ (l : List Int) (i : Int) : Int := @ite _ (i < 0) (Classical.propDecidable _) 0 (at0 l i.toNat)
noncomputable def F_l_at22 : List V → Option V := F2 dL dI fun l i => some (.int .i64 (atZ l i))
theorem atZ_nat (l : List Int) (k : Nat) : atZ l (k : Int) = at0 l k := by
  unfold atZ
  rw [if_neg (by omega), Int.toNat_natCast]
theorem at0_none {l : List Int} {k : Nat} (h : l.length ≤ k) : at0 l k = 0 := by simp [at0, List.getElem?_eq_none h]
theorem fn_l_at22 : FnOk Try.prog 26 F_l_at22 := by
  refine fn_ok code_l_at22 mixed envNil_ok ?_
  intro args r h hb
  obtain ⟨_, _, l, i, rfl, h1, h2, h4⟩ := F2_inv h
  cases dL_inv h1
  cases dI_inv h2
  cases h4
  clear h
  refine ⟨by simp, fun w0 U0 L0 N0 => ?_⟩
  clear hb
  by_cases h0 : i < 0
  · have e : atZ l i = 0 := if_pos h0
    rw [e]
    simp -implicitDefEqProofs [sc_l_at22, h0]
  obtain ⟨k, rfl⟩ := Int.eq_ofNat_of_zero_le (show 0 ≤ i by omega)
  rw [atZ_nat]
  by_cases h1 : l.length ≤ k
  · rw [at0_none h1]
    have h2 : (l.length : Int) ≤ (k : Int) := by omega
    simp -implicitDefEqProofs [sc_l_at22, h1, h2]
    try omega
  · have h2 : ¬ (l.length : Int) ≤ (k : Int) := by omega
    have h3 : k < l.length := by omega
    simp -implicitDefEqProofs [sc_l_at22, h1, h2, h3]
    try omega
def sc_l_signed_L0 : SC := (.seq (.seq (.reg [⟨(some 5), none, (.mov (.t 4))⟩, ⟨(some 6), none, (.mov (.t 0))⟩, ⟨(some 7), none, (.len (.t 6))⟩, ⟨(some 8), none, (.bin false .lss (.t 5) (.t 7))⟩]) (.cond (.t 8) .skip (.exit 0))) (.seq (.block 1 (.reg [⟨(some 11), none, (.mov (.t 3))⟩, ⟨(some 12), none, (.mov (.t 4))⟩, ⟨(some 13), none, (.bin false .rem (.t 12) (.c (.int .i64 2)))⟩, ⟨(some 14), none, (.bin false .mul (.c (.int .i64 2)) (.t 13))⟩, ⟨(some 15), none, (.bin false .sub (.t 14) (.c (.int .i64 1)))⟩, ⟨(some 16), none, (.mov (.t 0))⟩, ⟨(some 17), none, (.mov (.t 4))⟩, ⟨(some 18), none, (.idx 1 (.t 16) (.t 17))⟩, ⟨(some 19), none, (.ld none (.int .i64 0) (.t 18))⟩, ⟨(some 20), none, (.bin false .mul (.t 15) (.t 19))⟩, ⟨(some 21), none, (.bin false .add (.t 11) (.t 20))⟩, ⟨(some 3), none, (.mov (.t 21))⟩])) (.reg [⟨(some 9), none, (.mov (.t 4))⟩, ⟨(some 10), none, (.bin false .add (.t 9) (.c (.int .i64 1)))⟩, ⟨(some 4), none, (.mov (.t 10))⟩])))
def sc_l_signed : SC := (.seq (.reg [⟨(some 2), none, (.mov (.c (.int .i64 0)))⟩]) (.seq (.reg [⟨(some 3), none, (.mov (.c (.int .i64 0)))⟩]) (.seq (.seq (.reg [⟨(some 4), none, (.mov (.c (.int .i64 0)))⟩]) (.block 0 (.loop sc_l_signed_L0))) (.seq (.reg [⟨(some 22), none, (.mov (.t 3))⟩, ⟨(some 2), none, (.mov (.t 22))⟩]) .ret))))
theorem code_l_signed : fnCode Try.prog [] 93 = some (23, sc_l_signed, [(2, none)]) := by kernel_rfl
def sgK (k : Nat) : Int := 2 * ((k : Int) % 2) - 1
/-- The sum with signs. -/
def sgnL (l : List Int) : Int := sumN l.length fun k => sgK k * at0 l k
theorem sgK_rng (k : Nat) : sgK k = 1 ∨ sgK k = -1 := by unfold sgK; omega
theorem sgK_mul (k : Nat) {x : Int} (h : 0 ≤ x ∧ x ≤ 64) : -64 ≤ sgK k * x ∧ sgK k * x ≤ 64 := by
  rcases sgK_rng k with e | e <;> rw [e] <;> omega
theorem at0_rng {l : List Int} (h : ∀ x ∈ l, 0 ≤ x ∧ x ≤ 64) (k : Nat) : 0 ≤ at0 l k ∧ at0 l k ≤ 64 := by
  by_cases hk : k < l.length
  · exact h _ (getD_mem' hk)
  · have : at0 l k = 0 := by simp [at0, List.getElem?_eq_none (Nat.le_of_not_lt hk)]
    rw [this]; omega
theorem sgn_bnd {l : List Int} (h : ∀ x ∈ l, 0 ≤ x ∧ x ≤ 64) : ∀ m : Nat, -(64 * (m : Int)) ≤ (sumN m fun k => sgK k * at0 l k) ∧ (sumN m fun k => sgK k * at0 l k) ≤ 64 * m
  | 0 => by simp [sumN]
  | m + 1 => by
    have h1 := sgn_bnd h m
    have h2 := sgK_mul m (at0_rng h m)
    rw [sumN]
    omega
noncomputable def F_l_signed : List V → Option V := F1 dL fun l => @ite _ ((∀ x ∈ l, 0 ≤ x ∧ x ≤ 64) ∧ l.length ≤ 64) (Classical.propDecidable _) (some (.int .i64 (sgnL l))) none
theorem fn_l_signed : FnOk Try.prog 93 F_l_signed := by
  refine fn_ok code_l_signed mixed envNil_ok ?_
  intro args r h hb
  obtain ⟨_, l, rfl, h1, h4⟩ := F1_inv h
  cases dL_inv h1
  clear h
  simp only [Option.ite_none_right_eq_some, Option.some.injEq] at h4
  obtain ⟨⟨hx, hl⟩, rfl⟩ := h4
  refine ⟨by simp, fun w0 U0 L0 N0 => ?_⟩
  clear hb
  simp -implicitDefEqProofs [sc_l_signed]
  refine loopI envNil_ok mixed (fun k : Nat => [(0, .list 1 (ints l)), (3, .int .i64 (sumN k fun j => sgK j * at0 l j)), (4, .int .i64 (k : Int))]) (fun _ => ([], 0)) (fun k => k ≤ l.length) (fun k => l.length - k) 0 (by simp) (SubI.slots rfl (by simp [sumN])) ?_
  intro k hk
  by_cases hlt : k < l.length
  · have hb1 := sgn_bnd hx k
    have hb2 := sgn_bnd hx (k + 1)
    have hb3 := sgK_mul k (at0_rng hx k)
    have hs : (sumN (k + 1) fun j => sgK j * at0 l j) = (sumN k fun j => sgK j * at0 l j) + sgK k * at0 l k := rfl
    have hm : ((k : Int)).tmod 2 = (k : Int) % 2 := Int.tmod_eq_emod_of_nonneg (by omega)
    have w1 : IntKind.i64.wrap (2 * ((k : Int) % 2)) = 2 * ((k : Int) % 2) := wrapI _ (by omega) (by omega)
    have w2 : IntKind.i64.wrap (2 * ((k : Int) % 2) - 1) = sgK k := wrapI _ (by omega) (by omega)
    have w3 : IntKind.i64.wrap (sgK k * at0 l k) = sgK k * at0 l k := wrapI _ (by omega) (by omega)
    have w4 : IntKind.i64.wrap ((sumN k fun j => sgK j * at0 l j) + sgK k * at0 l k) = sumN (k + 1) fun j => sgK j * at0 l j := by rw [← hs]; exact wrapI _ (by omega) (by omega)
    generalize (sumN k fun j => sgK j * at0 l j) = s1 at *
    generalize he2 : (sumN (k + 1) fun j => sgK j * at0 l j) = s2 at *
    simp -implicitDefEqProofs [sc_l_signed_L0, hlt, hm, w1, w2, w3, w4]
    repeat' (first | omega | apply And.intro)
    exact Again.of (k + 1) (by omega) (by omega) (SubI.slots rfl (by simp (disch := omega) [wrapI, he2]))
  · have hka : k = l.length := by omega
    subst hka
    have e : sgnL l = sumN l.length fun k => sgK k * at0 l k := rfl
    rw [e]
    simp -implicitDefEqProofs [sc_l_signed_L0]
def sc_s_EulerOf_L0 : SC := (.seq (.seq (.reg [⟨(some 8), none, (.mov (.t 5))⟩, ⟨(some 9), none, (.mov (.t 4))⟩, ⟨(some 10), none, (.len (.t 9))⟩, ⟨(some 11), none, (.bin false .lss (.t 8) (.t 10))⟩]) (.cond (.t 11) .skip (.exit 0))) (.seq (.block 1 (.reg [⟨(some 14), none, (.mov (.t 3))⟩, ⟨(some 15), none, (.mov (.t 4))⟩, ⟨(some 16), none, (.mov (.t 5))⟩, ⟨(some 17), none, (.idx 1 (.t 15) (.t 16))⟩, ⟨(some 18), none, (.ld none (.int .i64 0) (.t 17))⟩, ⟨(some 19), none, (.call 156 [(.t 18)])⟩, ⟨(some 20), none, (.bin false .rem (.t 19) (.c (.int .i64 2)))⟩, ⟨(some 21), none, (.bin false .mul (.c (.int .i64 2)) (.t 20))⟩, ⟨(some 22), none, (.bin false .add (.t 14) (.t 21))⟩, ⟨(some 23), none, (.bin false .sub (.t 22) (.c (.int .i64 1)))⟩, ⟨(some 3), none, (.mov (.t 23))⟩])) (.reg [⟨(some 12), none, (.mov (.t 5))⟩, ⟨(some 13), none, (.bin false .add (.t 12) (.c (.int .i64 1)))⟩, ⟨(some 5), none, (.mov (.t 13))⟩])))
def sc_s_EulerOf : SC := (.seq (.reg [⟨(some 1), none, (.box (.t 0))⟩, ⟨(some 2), none, (.mov (.c (.int .i64 0)))⟩]) (.seq (.reg [⟨(some 3), none, (.mov (.c (.int .i64 0)))⟩]) (.seq (.reg [⟨(some 6), none, (.ld (some 2) .undef (.t 1))⟩, ⟨(some 7), none, (.call 43 [(.t 6)])⟩, ⟨(some 4), none, (.mov (.t 7))⟩]) (.seq (.seq (.reg [⟨(some 5), none, (.mov (.c (.int .i64 0)))⟩]) (.block 0 (.loop sc_s_EulerOf_L0))) (.seq (.reg [⟨(some 24), none, (.mov (.t 3))⟩, ⟨(some 2), none, (.mov (.t 24))⟩]) .ret)))))
theorem code_s_EulerOf : fnCode Try.prog [] 78 = some (25, sc_s_EulerOf, [(2, none)]) := by kernel_rfl
noncomputable def eulZ (n : Int) (l : List Int) : Int := sumL (facesL n l) sgE
noncomputable def F_s_EulerOf : List V → Option V := F1 dC fun c => some (.int .i64 (eulZ c.1 c.2))
theorem sgE_rng (s : Int) : sgE s = 1 ∨ sgE s = -1 := by unfold sgE; omega
theorem sgE_bnd (l : List Int) : ∀ m : Nat, -(m : Int) ≤ (sumN m fun k => sgE (at0 l k)) ∧ (sumN m fun k => sgE (at0 l k)) ≤ m
  | 0 => by simp [sumN]
  | m + 1 => by
    have h1 := sgE_bnd l m
    have h2 := sgE_rng (at0 l m)
    rw [sumN]
    omega
theorem eulZ_bnd (n : Int) (l : List Int) : -64 ≤ eulZ n l ∧ eulZ n l ≤ 64 := by
  have h1 := sgE_bnd (facesL n l) (facesL n l).length
  have h2 : (facesL n l).length ≤ 64 := setsOf_len _
  unfold eulZ sumL
  omega
theorem fn_s_EulerOf : FnOk Try.prog 78 F_s_EulerOf := by
  have env := ((envNil_ok (P := Try.prog)).add fn_s_FacesOf).add fn_s_l2Size
  refine fn_ok code_s_EulerOf mixed env ?_
  intro args r h hb
  obtain ⟨_, ⟨n, l⟩, rfl, h1, h4⟩ := F1_inv h
  cases dC_inv h1
  cases h4
  clear h
  refine ⟨by simp, fun w0 U0 L0 N0 => ?_⟩
  clear hb
  have hF : F_s_FacesOf [.agg [.int .i64 n, .list 1 (ints l)]] = some (.own 1 (ints (facesL n l))) := by
    simp only [F_s_FacesOf, F1_mk, dC_agg, Option.bind_some]
  have hFl : (facesL n l).length ≤ 64 := setsOf_len _
  have hFS : allS (facesL n l) := allS_setsOf _
  have e : eulZ n l = sumN (facesL n l).length fun k => sgE (at0 (facesL n l) k) := rfl
  rw [e]
  clear e
  generalize facesL n l = L at *
  simp -implicitDefEqProofs [sc_s_EulerOf, hF]
  refine loopI env mixed (fun k : Nat => [(3, .int .i64 (sumN k fun j => sgE (at0 L j))), (4, .sl 1 1 0 L.length), (5, .int .i64 (k : Int))]) (fun _ => ([(1, ints L), (0, [.int .i64 n, .list 1 (ints l)])], 2)) (fun k => k ≤ L.length) (fun k => L.length - k) 0 (by simp) (SubI.slots rfl (by simp [sumN])) ?_
  intro k hk
  by_cases hlt : k < L.length
  · have hs1 := allS_at hFS hlt
    have h6 := sz_six hs1
    have h0 := sz_nn (at0 L k)
    have r1 : at0 L k < 9223372036854775808 := by have := hs1.2; omega
    have hb1 := sgE_bnd L k
    have hb2 := sgE_bnd L (k + 1)
    have hs : (sumN (k + 1) fun j => sgE (at0 L j)) = (sumN k fun j => sgE (at0 L j)) + sgE (at0 L k) := rfl
    have hsg : sgE (at0 L k) = 2 * (sz (at0 L k) % 2) - 1 := rfl
    have hm : (sz (at0 L k)).tmod 2 = sz (at0 L k) % 2 := Int.tmod_eq_emod_of_nonneg h0
    have w1 : IntKind.i64.wrap (2 * (sz (at0 L k) % 2)) = 2 * (sz (at0 L k) % 2) := wrapI _ (by omega) (by omega)
    have w2 : IntKind.i64.wrap ((sumN k fun j => sgE (at0 L j)) + 2 * (sz (at0 L k) % 2)) = (sumN k fun j => sgE (at0 L j)) + 2 * (sz (at0 L k) % 2) := wrapI _ (by omega) (by omega)
    have w3 : IntKind.i64.wrap ((sumN k fun j => sgE (at0 L j)) + 2 * (sz (at0 L k) % 2) - 1) = sumN (k + 1) fun j => sgE (at0 L j) := by
      rw [hs, hsg, ← Int.add_sub_assoc]
      exact wrapI _ (by omega) (by omega)
    have hz : F_s_l2Size [.int .i64 (at0 L k)] = some (.int .i64 (sz (at0 L k))) := by
      simp only [F_s_l2Size, F1_mk, dI_int, Option.bind_some]
      rw [if_pos r1]
    generalize (sumN k fun j => sgE (at0 L j)) = s1 at *
    generalize he2 : (sumN (k + 1) fun j => sgE (at0 L j)) = s2 at *
    simp -implicitDefEqProofs [sc_s_EulerOf_L0, hlt, hz, hm, w1, w2, w3]
    repeat' (first | omega | apply And.intro)
    exact Again.of (k + 1) (by omega) (by omega) (SubI.slots rfl (by simp (disch := omega) [wrapI, he2]))
  · have hka : k = L.length := by omega
    subst hka
    simp -implicitDefEqProofs [sc_s_EulerOf_L0]
def sc_l_samePairs_L0 : SC := (.seq (.seq (.reg [⟨(some 11), none, (.mov (.t 5))⟩, ⟨(some 12), none, (.mov (.t 0))⟩, ⟨(some 13), none, (.len (.t 12))⟩, ⟨(some 14), none, (.bin false .lss (.t 11) (.t 13))⟩]) (.cond (.t 14) .skip (.exit 0))) (.seq (.block 1 (.seq (.dreg [⟨⟨(some 17), none, (.mov (.t 0))⟩, false, false⟩, ⟨⟨(some 18), none, (.mov (.t 5))⟩, false, false⟩, ⟨⟨(some 19), none, (.idx 2 (.t 17) (.t 18))⟩, false, false⟩, ⟨⟨(some 20), none, (.ld (some 2) .undef (.t 19))⟩, false, false⟩, ⟨⟨(some 21), none, (.mov (.t 1))⟩, false, false⟩, ⟨⟨(some 22), none, (.mov (.t 5))⟩, false, false⟩, ⟨⟨(some 23), none, (.idx 2 (.t 21) (.t 22))⟩, false, false⟩, ⟨⟨(some 24), none, (.ld (some 2) .undef (.t 23))⟩, false, false⟩, ⟨⟨(some 25), none, (.eqp false (.t 20) (.t 24))⟩, false, false⟩]) (.cond (.t 25) (.seq (.reg [⟨(some 4), none, (.mov (.c (.bool false)))⟩]) .ret) .skip))) (.reg [⟨(some 15), none, (.mov (.t 5))⟩, ⟨(some 16), none, (.bin false .add (.t 15) (.c (.int .i64 1)))⟩, ⟨(some 5), none, (.mov (.t 16))⟩])))
def sc_l_samePairs : SC := (.seq (.reg [⟨(some 4), none, (.mov (.c (.bool false)))⟩]) (.seq (.seq (.reg [⟨(some 6), none, (.mov (.t 0))⟩, ⟨(some 7), none, (.len (.t 6))⟩, ⟨(some 8), none, (.mov (.t 1))⟩, ⟨(some 9), none, (.len (.t 8))⟩, ⟨(some 10), none, (.bin false .neq (.t 7) (.t 9))⟩]) (.cond (.t 10) (.seq (.reg [⟨(some 4), none, (.mov (.c (.bool false)))⟩]) .ret) .skip)) (.seq (.seq (.reg [⟨(some 5), none, (.mov (.c (.int .i64 0)))⟩]) (.block 0 (.loop sc_l_samePairs_L0))) (.seq (.reg [⟨(some 4), none, (.mov (.c (.bool true)))⟩]) .ret))))
theorem code_l_samePairs : fnCode Try.prog [] 89 = some (26, sc_l_samePairs, [(4, none)]) := by kernel_rfl
noncomputable def F_l_samePairs : List V → Option V := F2 dP dP fun a b => some (.bool (dec (a = b)))
theorem fn_l_samePairs : FnOk Try.prog 89 F_l_samePairs := by
  refine fn_ok code_l_samePairs mixed envNil_ok ?_
  intro args r h hb
  obtain ⟨_, _, a, b, rfl, h1, h2, h4⟩ := F2_inv h
  cases dP_inv h1
  cases dP_inv h2
  cases h4
  clear h
  have hla := bnd_prs (hb (.list 2 (prs a)) (by simp))
  refine ⟨by simp, fun w0 U0 L0 N0 => ?_⟩
  clear hb
  generalize hv : dec (a = b) = v
  by_cases hl : a.length = b.length
  rotate_left
  · have hv1 : v = false := hv ▸ dec_false fun h => hl (by rw [h])
    have hl' : ¬ ((a.length : Int) = b.length) := by omega
    simp -implicitDefEqProofs [sc_l_samePairs, hl', hv1]
    try omega
  simp -implicitDefEqProofs [sc_l_samePairs, hl]
  refine loopI envNil_ok mixed (fun k : Nat => [(0, .list 2 (prs a)), (1, .list 2 (prs b)), (5, .int .i64 (k : Int))]) (fun _ => ([], 0)) (fun k => k ≤ a.length ∧ ∀ j, j < k → pr0 a j = pr0 b j) (fun k => a.length - k) 0 (by simp) (SubI.slots rfl (by simp)) ?_
  rintro k ⟨hk, hI⟩
  by_cases hlt : k < a.length
  · have hlt2 : k < b.length := by omega
    have hd1 := prs_at hlt
    have hd2 := prs_at hlt2
    by_cases he : pr0 a k = pr0 b k
    · simp -implicitDefEqProofs [sc_l_samePairs_L0, freeOk, hlt, hlt2, hd1, hd2, he]
      repeat' (first | omega | apply And.intro)
      refine Again.of (k + 1) ⟨by omega, fun j hj => ?_⟩ (by omega) (SubI.slots rfl (by simp (disch := omega) [wrapI]))
      rcases Nat.lt_succ_iff_lt_or_eq.1 hj with h1 | rfl
      · exact hI j h1
      · exact he
    · have hv1 : v = false := hv ▸ dec_false fun h => he (by rw [h])
      have he2 : ((pr0 a k).1 == (pr0 b k).1 && (pr0 a k).2 == (pr0 b k).2) = false := by
        rw [Bool.eq_false_iff]
        intro h
        simp only [Bool.and_eq_true, beq_iff_eq] at h
        exact he (Prod.ext h.1 h.2)
      simp -implicitDefEqProofs only [Bool.and_eq_false_iff, beq_eq_false_iff_ne, ne_eq] at he2
      have he3 : (pr0 a k).1 = (pr0 b k).1 → ¬ (pr0 a k).2 = (pr0 b k).2 := fun h => he2.elim (fun h1 => absurd h h1) id
      clear he2
      by_cases e1 : (pr0 a k).1 = (pr0 b k).1
      · have e2 := he3 e1
        simp -implicitDefEqProofs [sc_l_samePairs_L0, freeOk, hlt, hlt2, hd1, hd2, e1, e2, hv1]
        try omega
      · simp -implicitDefEqProofs [sc_l_samePairs_L0, freeOk, hlt, hlt2, hd1, hd2, e1, hv1]
        try omega
  · have hv1 : v = true := hv ▸ dec_true (pr0_ext hl fun j hj => hI j (by omega))
    have hka : k = a.length := by omega
    subst hka
    simp -implicitDefEqProofs [sc_l_samePairs_L0, hl, hv1]
end Go.Proofs.Ytmemomfffehnkaa
