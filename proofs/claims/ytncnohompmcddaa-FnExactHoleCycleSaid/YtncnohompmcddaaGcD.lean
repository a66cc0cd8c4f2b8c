import Derived.Test.YtncnohompmcddaaGcB
import Derived.Test.YtncnohompmcddaaGcF
namespace Go.Proofs.Ytncnohompmcddaa
open Go Go.RowKit
set_option maxRecDepth 1000000
set_option linter.unusedSimpArgs false
set_option linter.unusedVariables false
set_option maxHeartbeats 1000000
def sc_s_IsChain_L0 : SC := (.seq (.seq (.reg [⟨(some 10), none, (.mov (.t 9))⟩, ⟨(some 11), none, (.mov (.t 3))⟩, ⟨(some 12), none, (.len (.t 11))⟩, ⟨(some 13), none, (.bin false .lss (.t 10) (.t 12))⟩]) (.cond (.t 13) .skip (.exit 0))) (.seq (.block 1 (.seq (.reg [⟨(some 16), none, (.mov (.t 3))⟩, ⟨(some 17), none, (.mov (.t 9))⟩, ⟨(some 18), none, (.idx 1 (.t 16) (.t 17))⟩, ⟨(some 19), none, (.ld none (.int .i64 0) (.t 18))⟩, ⟨(some 20), none, (.bin false .lss (.t 19) (.c (.int .i64 0)))⟩, ⟨(some 21), none, (.mov (.t 20))⟩, ⟨(some 22), (some (21, false)), (.mov (.t 3))⟩, ⟨(some 23), (some (21, false)), (.mov (.t 9))⟩, ⟨(some 24), (some (21, false)), (.idx 1 (.t 22) (.t 23))⟩, ⟨(some 25), (some (21, false)), (.ld none (.int .i64 0) (.t 24))⟩, ⟨(some 26), (some (21, false)), (.mov (.t 2))⟩, ⟨(some 27), (some (21, false)), (.bin false .geq (.t 25) (.t 26))⟩, ⟨(some 28), none, (.pick (.t 21) (.c (.bool true)) (.t 27))⟩]) (.cond (.t 28) (.seq (.reg [⟨(some 8), none, (.mov (.c (.bool false)))⟩]) .ret) .skip))) (.reg [⟨(some 14), none, (.mov (.t 9))⟩, ⟨(some 15), none, (.bin false .add (.t 14) (.c (.int .i64 1)))⟩, ⟨(some 9), none, (.mov (.t 15))⟩])))
def sc_s_IsChain : SC := (.seq (.reg [⟨(some 4), none, (.box (.t 0))⟩, ⟨(some 8), none, (.mov (.c (.bool false)))⟩]) (.seq (.seq (.reg [⟨(some 9), none, (.mov (.c (.int .i64 0)))⟩]) (.block 0 (.loop sc_s_IsChain_L0))) (.seq (.reg [⟨(some 29), none, (.ld (some 2) .undef (.t 4))⟩, ⟨(some 30), none, (.call 49 [(.t 29)])⟩, ⟨(some 31), none, (.mov (.t 30))⟩, ⟨(some 32), (some (31, true)), (.mov (.t 1))⟩, ⟨(some 33), (some (31, true)), (.call 50 [(.t 32), (.c (.int .i64 1)), (.c (.int .i64 6))])⟩, ⟨(some 34), none, (.pick (.t 31) (.t 33) (.c (.bool false)))⟩, ⟨(some 35), none, (.mov (.t 34))⟩, ⟨(some 36), (some (35, true)), (.mov (.t 2))⟩, ⟨(some 37), (some (35, true)), (.call 33 [(.t 36)])⟩, ⟨(some 38), none, (.pick (.t 35) (.t 37) (.c (.bool false)))⟩, ⟨(some 39), none, (.mov (.t 38))⟩, ⟨(some 40), (some (39, true)), (.mov (.t 3))⟩, ⟨(some 41), (some (39, true)), (.len (.t 40))⟩, ⟨(some 42), (some (39, true)), (.ld (some 2) .undef (.t 4))⟩, ⟨(some 43), (some (39, true)), (.mov (.t 1))⟩, ⟨(some 44), (some (39, true)), (.call 51 [(.t 42), (.t 43)])⟩, ⟨(some 45), (some (39, true)), (.len (.t 44))⟩, ⟨(some 46), (some (39, true)), (.bin false .eql (.t 41) (.t 45))⟩, ⟨(some 47), none, (.pick (.t 39) (.t 46) (.c (.bool false)))⟩, ⟨(some 8), none, (.mov (.t 47))⟩]) .ret)))
theorem code_s_IsChain : fnCode Try.prog [] 89 = some (48, sc_s_IsChain, [(8, none)]) := by kernel_rfl
def chnP (n : Int) (l : List Int) (k p : Int) (x : List Int) : Prop := cplx n l ∧ 1 ≤ k ∧ k ≤ 6 ∧ fpP p ∧ x.length = (fosL n l k).length ∧ inP p x
noncomputable def F_s_IsChain : List V → Option V := F4 dC dI dI dL fun c k p x => some (.bool (dec (chnP c.1 c.2 k p x)))
theorem fn_s_IsChain : FnOk Try.prog 89 F_s_IsChain := by
  have env := ((((envNil_ok (P := Try.prog)).add fn_s_IsComplex).add fn_s_l1In).add fn_s_IsFieldPrime).add fn_s_FacesOfSize
  refine fn_ok code_s_IsChain mixed env ?_
  intro args r h hb
  obtain ⟨_, _, _, _, ⟨n, l⟩, k, p, x, rfl, h1, h2, h3, h5, h4⟩ := F4_inv h
  cases dC_inv h1
  cases dI_inv h2
  cases dI_inv h3
  cases dL_inv h5
  cases h4
  clear h
  have hlen := bnd_ints (hb (.list 1 (ints x)) (by simp))
  refine ⟨by simp, fun w0 U0 L0 N0 => ?_⟩
  clear hb
  generalize hv : dec (chnP n l k p x) = v
  have hfl : (fosL n l k).length ≤ 64 := setsOf_len _
  have hFS : F_s_FacesOfSize [.agg [.int .i64 n, .list 1 (ints l)], .int .i64 k] = some (.own 1 (ints (fosL n l k))) := by simp [F_s_FacesOfSize]
  unfold chnP at hv
  simp -implicitDefEqProofs [sc_s_IsChain]
  refine loopI env mixed (fun j : Nat => [(1, .int .i64 k), (2, .int .i64 p), (3, .list 1 (ints x)), (4, .pt 0 0), (9, .int .i64 (j : Int))]) (fun _ => ([(0, [.int .i64 n, .list 1 (ints l)])], 1)) (fun k => k ≤ x.length ∧ ∀ j, j < k → 0 ≤ at0 x j ∧ at0 x j < p) (fun k => x.length - k) 0 (by simp) (SubI.slots (by simp) (by simp)) ?_
  rintro j ⟨hk, hI⟩
  by_cases hlt : j < x.length
  · by_cases h1 : at0 x j < 0
    · have hv1 : v = false := hv ▸ dec_false fun h => by have := (h.2.2.2.2.2 j hlt).1; omega
      simp -implicitDefEqProofs [sc_s_IsChain_L0, hlt, h1, hv1]
      try omega
    by_cases h2 : p ≤ at0 x j
    · have hv1 : v = false := hv ▸ dec_false fun h => by have := (h.2.2.2.2.2 j hlt).2; omega
      simp -implicitDefEqProofs [sc_s_IsChain_L0, hlt, h1, h2, hv1]
      try omega
    simp -implicitDefEqProofs [sc_s_IsChain_L0, hlt, h1, h2]
    repeat' (first | omega | apply And.intro)
    refine Again.of (j + 1) ⟨by omega, fun i hj => ?_⟩ (by omega) (SubI.slots rfl (by simp (disch := omega) [wrapI]))
    rcases Nat.lt_succ_iff_lt_or_eq.1 hj with h | rfl
    · exact hI i h
    · exact ⟨by omega, by omega⟩
  · have : j = x.length := by omega
    subst this
    generalize fosL n l k = R at *
    cases e0 : cplxB n l with
    | false =>
      have hv1 : v = false := hv ▸ dec_false fun h => by simp [cplxB_iff.2 h.1] at e0
      simp -implicitDefEqProofs [sc_s_IsChain_L0, F_s_IsComplex, e0, hv1]
    | true =>
    by_cases g1 : 1 ≤ k ∧ k ≤ 6
    rotate_left
    · have hv1 : v = false := hv ▸ dec_false fun h => g1 ⟨h.2.1, h.2.2.1⟩
      have g2 : F_s_l1In [.int .i64 k, .int .i64 1, .int .i64 6] = some (.bool false) := by
        rw [← decide_eq_false g1]
        simp [F_s_l1In]
      simp -implicitDefEqProofs [sc_s_IsChain_L0, F_s_IsComplex, e0, g2, hv1]
    have g2 : F_s_l1In [.int .i64 k, .int .i64 1, .int .i64 6] = some (.bool true) := by
      rw [← decide_eq_true g1]
      simp [F_s_l1In]
    by_cases g3 : fpP p
    rotate_left
    · have hv1 : v = false := hv ▸ dec_false fun h => g3 h.2.2.2.1
      have g4 := dec_false g3
      simp -implicitDefEqProofs [sc_s_IsChain_L0, F_s_IsComplex, F_s_IsFieldPrime, e0, g2, g4, hv1]
    have g4 := dec_true g3
    have hv1 : v = (x.length == R.length) := by
      rw [← hv, Bool.eq_iff_iff, dec_iff, beq_iff_eq]
      exact ⟨fun h => h.2.2.2.2.1, fun h => ⟨cplxB_iff.1 e0, g1.1, g1.2, g3, h, hI⟩⟩
    simp -implicitDefEqProofs [sc_s_IsChain_L0, F_s_IsComplex, F_s_IsFieldPrime, hFS, e0, g2, g4, hv1]
    try (rw [Bool.eq_iff_iff, beq_iff_eq, beq_iff_eq]; omega)
end Go.Proofs.Ytncnohompmcddaa
