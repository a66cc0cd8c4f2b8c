import Derived.Test.YtncnohompmcddaaHbL
namespace Go.Proofs.Ytncnohompmcddaa
open Go Go.RowKit
set_option maxRecDepth 1000000
set_option linter.unusedSimpArgs false
set_option linter.unusedVariables false
set_option maxHeartbeats 1000000
def sc_i_DepthBySkeleton_L0 : SC := (.seq (.seq (.reg [⟨(some 25), none, (.mov (.t 6))⟩, ⟨(some 26), none, (.bin false .geq (.t 25) (.c (.int .i64 0)))⟩]) (.cond (.t 26) .skip (.exit 0))) (.seq (.block 1 (.seq (.reg [⟨(some 29), none, (.mov (.t 5))⟩, ⟨(some 30), none, (.mov (.t 6))⟩, ⟨(some 31), none, (.call 64 [(.t 29), (.t 30)])⟩, ⟨(some 32), none, (.mov (.t 1))⟩, ⟨(some 33), none, (.call 48 [(.t 31), (.t 32)])⟩]) (.cond (.t 33) (.seq (.reg [⟨(some 34), none, (.mov (.t 6))⟩, ⟨(some 4), none, (.mov (.t 34))⟩]) .ret) .skip))) (.reg [⟨(some 27), none, (.mov (.t 6))⟩, ⟨(some 28), none, (.bin false .sub (.t 27) (.c (.int .i64 1)))⟩, ⟨(some 6), none, (.mov (.t 28))⟩])))
def sc_i_DepthBySkeleton : SC := (.seq (.reg [⟨(some 2), none, (.box (.t 0))⟩, ⟨(some 4), none, (.mov (.c (.int .i64 0)))⟩]) (.seq (.seq (.reg [⟨(some 7), none, (.ld (some 2) .undef (.t 2))⟩, ⟨(some 8), none, (.call 38 [(.t 7)])⟩, ⟨(some 9), none, (.un .not (.t 8))⟩, ⟨(some 10), none, (.mov (.t 9))⟩, ⟨(some 11), (some (10, false)), (.fad 1 (.t 2))⟩, ⟨(some 12), (some (10, false)), (.ld none .nil (.t 11))⟩, ⟨(some 13), (some (10, false)), (.len (.t 12))⟩, ⟨(some 14), (some (10, false)), (.bin false .eql (.t 13) (.c (.int .i64 0)))⟩, ⟨(some 15), none, (.pick (.t 10) (.c (.bool true)) (.t 14))⟩, ⟨(some 16), none, (.mov (.t 15))⟩, ⟨(some 17), (some (16, false)), (.mov (.t 1))⟩, ⟨(some 18), (some (16, false)), (.call 39 [(.t 17)])⟩, ⟨(some 19), (some (16, false)), (.un .not (.t 18))⟩, ⟨(some 20), none, (.pick (.t 16) (.c (.bool true)) (.t 19))⟩]) (.cond (.t 20) (.seq (.reg [⟨(some 4), none, (.mov (.c (.int .i64 (-1))))⟩]) .ret) .skip)) (.seq (.reg [⟨(some 21), none, (.ld (some 2) .undef (.t 2))⟩, ⟨(some 22), none, (.call 41 [(.t 21)])⟩, ⟨(some 5), none, (.mov (.t 22))⟩]) (.seq (.seq (.reg [⟨(some 23), none, (.mov (.t 5))⟩, ⟨(some 24), none, (.call 43 [(.t 23)])⟩, ⟨(some 6), none, (.mov (.t 24))⟩]) (.block 0 (.loop sc_i_DepthBySkeleton_L0))) (.seq (.reg [⟨(some 4), none, (.mov (.c (.int .i64 (-1))))⟩]) .ret)))))
theorem code_i_DepthBySkeleton : fnCode Try.prog [] 26 = some (35, sc_i_DepthBySkeleton, [(4, none)]) := by kernel_rfl
theorem fn_i_DepthBySkeleton : FnOk Try.prog 26 F_s_DepthBySkeleton := by
  have env := ((((((envNil_ok (P := Try.prog)).add fn_i_IsComplex).add fn_i_IsFieldPrime).add fn_i_facesIn).add fn_i_topSize).add fn_i_skeletonIn).add fn_i_isFullDepth
  refine fn_ok code_i_DepthBySkeleton mixed env ?_
  intro args r h hb
  obtain ⟨_, _, ⟨n, l⟩, p, rfl, h1, h2, h4⟩ := F2_inv h
  cases dC_inv h1
  cases dI_inv h2
  cases h4
  clear h
  refine ⟨by simp, fun w0 U0 L0 N0 => ?_⟩
  clear hb
  simp only
  cases e0 : cplxB n l with
  | false =>
    have e : dbF n l p = -1 := dbF_no fun k h => by simp [cplxB_iff.2 h.1] at e0
    rw [e]
    simp -implicitDefEqProofs [sc_i_DepthBySkeleton, F_s_IsComplex, e0]
  | true =>
  have hc := cplxB_iff.1 e0
  have hS := cplx_isS hc
  by_cases hl : l = []
  · subst hl
    have e : dbF n [] p = -1 := dbF_no fun k h => by
      have h1 := h.2.2.1
      have h2 := h.2.2.2.1
      rw [topZ_nil] at h2
      omega
    rw [e]
    simp -implicitDefEqProofs [sc_i_DepthBySkeleton, F_s_IsComplex, e0]
  by_cases hp : fpP p
  rotate_left
  · have e : dbF n l p = -1 := dbF_no fun k h => hp h.2.1
    have hd := dec_false hp
    rw [e]
    simp -implicitDefEqProofs [sc_i_DepthBySkeleton, F_s_IsComplex, F_s_IsFieldPrime, e0, hl, hd]
  have hd := dec_true hp
  have hg1 := topG_fam (faceS l)
  have htb := topZ_bnd (faceS l)
  have hX : ∀ v, dbR n l p v → dbF n l p = v := fun v h => dbF_of h
  have hiff : ∀ k, dbS n l p k ↔ 0 ≤ k ∧ k ≤ topZ (faceS l) ∧ fdP p (skP (faceS l) k) := fun k => ⟨fun h => h.2.2, fun h => ⟨hc, hp, h⟩⟩
  generalize dbF n l p = X at *
  generalize topZ (faceS l) = T at *
  simp -implicitDefEqProofs [sc_i_DepthBySkeleton, F_s_IsComplex, F_s_IsFieldPrime, F_i_facesIn, F_i_topSize, e0, hl, hd, hS, hg1]
  refine loopI env mixed (fun k : Int => [(1, .int .i64 p), (5, .int .u64 (fam (faceS l))), (6, .int .i64 k)]) (fun _ => ([(0, [.int .i64 n, .list 1 (ints l)])], 1)) (fun k => -1 ≤ k ∧ k ≤ T ∧ ∀ j, k < j → ¬ dbS n l p j) (fun k => (k + 1).toNat) T ⟨by omega, by omega, fun j hj h => by have := ((hiff j).1 h).2.1; omega⟩ (SubI.slots (by simp) (by simp)) ?_
  rintro k ⟨hk1, hk2, hI⟩
  by_cases hlt : 0 ≤ k
  rotate_left
  · have e := hX (-1) (.inl ⟨rfl, fun j h => hI j (by have := ((hiff j).1 h).1; omega) h⟩)
    subst e
    simp -implicitDefEqProofs [sc_i_DepthBySkeleton_L0, hlt]
  have hg2 := sklG_fam (faceS l) k
  have hg3 := fdG_fam (skP (faceS l) k) hp
  have hk := hiff k
  generalize fam (skP (faceS l) k) = G at *
  by_cases g2 : fdP p (skP (faceS l) k)
  · rw [dec_true g2] at hg3
    have e := hX k (.inr ⟨hk.2 ⟨hlt, hk2, g2⟩, fun j h => Classical.byContradiction fun hn => hI j (by omega) h⟩)
    subst e
    simp -implicitDefEqProofs [sc_i_DepthBySkeleton_L0, F_i_skeletonIn, F_i_isFullDepth, hlt, hg2, hg3]
  · rw [dec_false g2] at hg3
    have hw : IntKind.i64.wrap (k - 1) = k - 1 := wrapI _ (by omega) (by omega)
    simp -implicitDefEqProofs [sc_i_DepthBySkeleton_L0, F_i_skeletonIn, F_i_isFullDepth, hlt, hg2, hg3]
    refine Again.of (k - 1) ⟨by omega, by omega, fun j hj h => ?_⟩ (by omega) (SubI.slots (by simp) (by simp [hw]))
    by_cases e : j = k
    · subst e
      exact g2 (hk.1 h).2.2
    · exact hI j (by omega) h
end Go.Proofs.Ytncnohompmcddaa
