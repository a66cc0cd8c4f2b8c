import Derived.Test.YtncnohompmcddaaHbB
import Derived.Test.YtncnohompmcddaaHbC
namespace Go.Proofs.Ytncnohompmcddaa
open Go Go.RowKit
set_option maxRecDepth 1000000
set_option linter.unusedSimpArgs false
set_option linter.unusedVariables false
set_option maxHeartbeats 1000000
def sc_i_DepthOf : SC := (.seq (.reg [⟨(some 2), none, (.box (.t 0))⟩, ⟨(some 4), none, (.mov (.c (.int .i64 0)))⟩]) (.seq (.seq (.reg [⟨(some 5), none, (.ld (some 2) .undef (.t 2))⟩, ⟨(some 6), none, (.call 38 [(.t 5)])⟩, ⟨(some 7), none, (.un .not (.t 6))⟩, ⟨(some 8), none, (.mov (.t 7))⟩, ⟨(some 9), (some (8, false)), (.fad 1 (.t 2))⟩, ⟨(some 10), (some (8, false)), (.ld none .nil (.t 9))⟩, ⟨(some 11), (some (8, false)), (.len (.t 10))⟩, ⟨(some 12), (some (8, false)), (.bin false .eql (.t 11) (.c (.int .i64 0)))⟩, ⟨(some 13), none, (.pick (.t 8) (.c (.bool true)) (.t 12))⟩, ⟨(some 14), none, (.mov (.t 13))⟩, ⟨(some 15), (some (14, false)), (.mov (.t 1))⟩, ⟨(some 16), (some (14, false)), (.call 39 [(.t 15)])⟩, ⟨(some 17), (some (14, false)), (.un .not (.t 16))⟩, ⟨(some 18), none, (.pick (.t 14) (.c (.bool true)) (.t 17))⟩]) (.cond (.t 18) (.seq (.reg [⟨(some 4), none, (.mov (.c (.int .i64 (-1))))⟩]) .ret) .skip)) (.seq (.reg [⟨(some 19), none, (.ld (some 2) .undef (.t 2))⟩, ⟨(some 20), none, (.call 41 [(.t 19)])⟩, ⟨(some 21), none, (.mov (.t 1))⟩, ⟨(some 22), none, (.call 40 [(.t 20), (.t 21)])⟩, ⟨(some 4), none, (.mov (.t 22))⟩]) .ret)))
theorem code_i_DepthOf : fnCode Try.prog [] 13 = some (23, sc_i_DepthOf, [(4, none)]) := by kernel_rfl
theorem dpF_nil (n p : Int) : dpF n [] p = -1 := by
  unfold dpF
  split
  · exact dpZ_empty (by rw [topZ_nil]; omega)
  · rfl
theorem fn_i_DepthOf : FnOk Try.prog 13 F_s_DepthOf := by
  have env := ((((envNil_ok (P := Try.prog)).add fn_i_IsComplex).add fn_i_IsFieldPrime).add fn_i_facesIn).add fn_i_depthIn
  refine fn_ok code_i_DepthOf mixed env ?_
  intro args r h hb
  obtain ⟨_, _, ⟨n, l⟩, p, rfl, h1, h2, h4⟩ := F2_inv h
  cases dC_inv h1
  cases dI_inv h2
  cases h4
  clear h
  refine ⟨by simp, fun w0 U0 L0 N0 => ?_⟩
  clear hb
  simp only
  cases e0 : cplxB n l with
  | false =>
    have e : dpF n l p = -1 := if_neg fun h => by simp [cplxB_iff.2 h.1] at e0
    rw [e]
    simp -implicitDefEqProofs [sc_i_DepthOf, F_s_IsComplex, e0]
  | true =>
  have hc := cplxB_iff.1 e0
  have hS := cplx_isS hc
  by_cases hl : l = []
  · subst hl
    have e := dpF_nil n p
    rw [e]
    simp -implicitDefEqProofs [sc_i_DepthOf, F_s_IsComplex, e0]
  by_cases hp : fpP p
  rotate_left
  · have e : dpF n l p = -1 := if_neg fun h => hp h.2
    have hd := dec_false hp
    rw [e]
    simp -implicitDefEqProofs [sc_i_DepthOf, F_s_IsComplex, F_s_IsFieldPrime, e0, hl, hd]
  have hd := dec_true hp
  have e : dpF n l p = dpZ p (faceS l) := if_pos ⟨hc, hp⟩
  have hg := dpG_fam (faceS l) hp
  rw [e]
  simp -implicitDefEqProofs [sc_i_DepthOf, F_s_IsComplex, F_s_IsFieldPrime, F_i_facesIn, F_i_depthIn, e0, hl, hd, hS, hg]
def sc_i_isFullDepth : SC := (.seq (.reg [⟨(some 4), none, (.mov (.c (.bool false)))⟩]) (.seq (.reg [⟨(some 5), none, (.mov (.t 0))⟩, ⟨(some 6), none, (.bin false .neq (.t 5) (.c (.int .u64 0)))⟩, ⟨(some 7), none, (.mov (.t 6))⟩, ⟨(some 8), (some (7, true)), (.mov (.t 0))⟩, ⟨(some 9), (some (7, true)), (.mov (.t 1))⟩, ⟨(some 10), (some (7, true)), (.call 40 [(.t 8), (.t 9)])⟩, ⟨(some 11), (some (7, true)), (.mov (.t 0))⟩, ⟨(some 12), (some (7, true)), (.call 43 [(.t 11)])⟩, ⟨(some 13), (some (7, true)), (.bin false .eql (.t 10) (.t 12))⟩, ⟨(some 14), none, (.pick (.t 7) (.t 13) (.c (.bool false)))⟩, ⟨(some 4), none, (.mov (.t 14))⟩]) .ret))
theorem code_i_isFullDepth : fnCode Try.prog [] 48 = some (15, sc_i_isFullDepth, [(4, none)]) := by kernel_rfl
noncomputable def fdG (f p : Int) : Option V := @ite _ (0 ≤ f ∧ f < 18446744073709551616 ∧ fpP p) (Classical.propDecidable _) (some (.bool (dec (fdP p (bitP f))))) none
theorem fdG_fam (q : Int → Prop) {p : Int} (hp : fpP p) : fdG (fam q) p = some (.bool (dec (fdP p q))) := by
  unfold fdG
  rw [if_pos ⟨fam_nn q, fam_lt q, hp⟩]
  congr 2
  rw [Bool.eq_iff_iff, dec_iff, dec_iff]
  exact fdP_congr fun s hs => bitP_fam hs
noncomputable def F_i_isFullDepth : List V → Option V := F2 dU dI fdG
theorem fn_i_isFullDepth : FnOk Try.prog 48 F_i_isFullDepth := by
  have env := ((envNil_ok (P := Try.prog)).add fn_i_depthIn).add fn_i_topSize
  refine fn_ok code_i_isFullDepth mixed env ?_
  intro args r h hb
  obtain ⟨_, _, f, p, rfl, h1, h2, h4⟩ := F2_inv h
  cases dU_inv h1
  cases dI_inv h2
  clear h
  simp only [fdG, Option.ite_none_right_eq_some, Option.some.injEq] at h4
  obtain ⟨⟨hf1, hf2, hp⟩, rfl⟩ := h4
  have hf := fam_bitP hf1 hf2
  generalize bitP f = q at *
  subst hf
  refine ⟨by simp, fun w0 U0 L0 N0 => ?_⟩
  clear hb
  generalize hv : dec (fdP p q) = v
  have hg1 := topG_fam q
  have hg2 := dpG_fam q hp
  have hz := fam_top (q := q)
  by_cases ht : 0 ≤ topZ q
  rotate_left
  · have hv1 : v = false := hv ▸ dec_false fun h => ht h.1
    have h0 := hz.2 ht
    simp -implicitDefEqProofs [sc_i_isFullDepth, h0, hv1]
  have h0 : ¬ fam q = 0 := fun h => hz.1 h ht
  have hv1 : v = (dpZ p q == topZ q) := by
    rw [← hv, Bool.eq_iff_iff, dec_iff, beq_iff_eq]
    exact ⟨fun h => h.2, fun h => ⟨ht, h⟩⟩
  generalize fam q = f at *
  generalize dpZ p q = D at *
  generalize topZ q = T at *
  simp -implicitDefEqProofs [sc_i_isFullDepth, F_i_depthIn, F_i_topSize, h0, hg1, hg2, hv1]
def sc_s_IsCohenMacaulay : SC := (.seq (.reg [⟨(some 2), none, (.box (.t 0))⟩, ⟨(some 4), none, (.mov (.c (.bool false)))⟩]) (.seq (.reg [⟨(some 6), none, (.ld (some 2) .undef (.t 2))⟩, ⟨(some 7), none, (.mov (.t 1))⟩, ⟨(some 8), none, (.call 11 [(.t 6), (.t 7)])⟩, ⟨(some 5), none, (.mov (.t 8))⟩]) (.seq (.reg [⟨(some 9), none, (.mov (.t 5))⟩, ⟨(some 10), none, (.bin false .geq (.t 9) (.c (.int .i64 0)))⟩, ⟨(some 11), none, (.mov (.t 10))⟩, ⟨(some 12), (some (11, true)), (.mov (.t 5))⟩, ⟨(some 13), (some (11, true)), (.ld (some 2) .undef (.t 2))⟩, ⟨(some 14), (some (11, true)), (.call 42 [(.t 13)])⟩, ⟨(some 15), (some (11, true)), (.bin false .add (.t 14) (.c (.int .i64 1)))⟩, ⟨(some 16), (some (11, true)), (.bin false .eql (.t 12) (.t 15))⟩, ⟨(some 17), none, (.pick (.t 11) (.t 16) (.c (.bool false)))⟩, ⟨(some 4), none, (.mov (.t 17))⟩]) .ret)))
theorem code_s_IsCohenMacaulay : fnCode Try.prog [] 17 = some (18, sc_s_IsCohenMacaulay, [(4, none)]) := by kernel_rfl
/-- Cohen-Macaulay: the depth is the number of points of a greatest face. -/
def cmP (n : Int) (l : List Int) (p : Int) : Prop := cplx n l ∧ fpP p ∧ fdP p (faceS l)
noncomputable def F_s_IsCohenMacaulay : List V → Option V := F2 dC dI fun c p => some (.bool (dec (cmP c.1 c.2 p)))
theorem cm_iff {n : Int} {l : List Int} {p : Int} : cmP n l p ↔ 0 ≤ dpF n l p ∧ dpF n l p = dimZ n l + 1 := by
  unfold cmP dpF dimZ fdP
  by_cases hc : cplx n l
  · by_cases hp : fpP p
    · rw [if_pos ⟨hc, hp⟩, if_pos hc]
      constructor
      · rintro ⟨_, _, h1, h2⟩
        omega
      · rintro ⟨h1, h2⟩
        exact ⟨hc, hp, by omega, by omega⟩
    · rw [if_neg fun h => hp h.2]
      exact ⟨fun h => absurd h.2.1 hp, fun h => by omega⟩
  · rw [if_neg fun h => hc h.1]
    exact ⟨fun h => absurd h.1 hc, fun h => by omega⟩
theorem fn_s_IsCohenMacaulay : FnOk Try.prog 17 F_s_IsCohenMacaulay := by
  have env := ((envNil_ok (P := Try.prog)).add fn_s_DepthOf).add fn_s_DimOf
  refine fn_ok code_s_IsCohenMacaulay mixed env ?_
  intro args r h hb
  obtain ⟨_, _, ⟨n, l⟩, p, rfl, h1, h2, h4⟩ := F2_inv h
  cases dC_inv h1
  cases dI_inv h2
  cases h4
  clear h
  refine ⟨by simp, fun w0 U0 L0 N0 => ?_⟩
  clear hb
  simp only
  generalize hv : dec (cmP n l p) = v
  have hF1 : F_s_DepthOf [.agg [.int .i64 n, .list 1 (ints l)], .int .i64 p] = some (.int .i64 (dpF n l p)) := by simp [F_s_DepthOf]
  have hF2 : F_s_DimOf [.agg [.int .i64 n, .list 1 (ints l)]] = some (.int .i64 (dimZ n l)) := by simp [F_s_DimOf]
  have hdb := dimZ_bnd n l
  have hw : IntKind.i64.wrap (dimZ n l + 1) = dimZ n l + 1 := wrapI _ (by omega) (by omega)
  have hi : cmP n l p ↔ 0 ≤ dpF n l p ∧ dpF n l p = dimZ n l + 1 := cm_iff
  generalize dpF n l p = D at *
  generalize dimZ n l = E at *
  by_cases h0 : 0 ≤ D
  rotate_left
  · have hv1 : v = false := hv ▸ dec_false fun h => h0 (hi.1 h).1
    simp -implicitDefEqProofs [sc_s_IsCohenMacaulay, hF1, h0, hv1]
  have hv1 : v = (D == E + 1) := by
    rw [← hv, Bool.eq_iff_iff, dec_iff, beq_iff_eq]
    exact hi.trans ⟨fun h => h.2, fun h => ⟨h0, h⟩⟩
  simp -implicitDefEqProofs [sc_s_IsCohenMacaulay, hF1, hF2, h0, hw, hv1]
end Go.Proofs.Ytncnohompmcddaa
