import Derived.Test.YtmemomfffehnkaaKP
import Derived.Test.YtmemomfffehnkaaKQ
import Derived.Test.YtmemomfffehnkaaKJ
import Derived.Test.YtmemomfffehnkaaFnZ
namespace Go.Proofs.Ytmemomfffehnkaa
open Go Go.RowKit
set_option maxRecDepth 1000000
set_option linter.unusedSimpArgs false
set_option linter.unusedVariables false
set_option maxHeartbeats 1000000
def sc_s_IsFieldPrime : SC := (.seq (.reg [⟨(some 2), none, (.mov (.c (.bool false)))⟩]) (.seq (.reg [⟨(some 3), none, (.mov (.t 0))⟩, ⟨(some 4), none, (.bin false .eql (.t 3) (.c (.int .i64 2)))⟩, ⟨(some 5), none, (.mov (.t 4))⟩, ⟨(some 6), (some (5, false)), (.mov (.t 0))⟩, ⟨(some 7), (some (5, false)), (.bin false .eql (.t 6) (.c (.int .i64 3)))⟩, ⟨(some 8), none, (.pick (.t 5) (.c (.bool true)) (.t 7))⟩, ⟨(some 9), none, (.mov (.t 8))⟩, ⟨(some 10), (some (9, false)), (.mov (.t 0))⟩, ⟨(some 11), (some (9, false)), (.bin false .eql (.t 10) (.c (.int .i64 5)))⟩, ⟨(some 12), none, (.pick (.t 9) (.c (.bool true)) (.t 11))⟩, ⟨(some 2), none, (.mov (.t 12))⟩]) .ret))
theorem code_s_IsFieldPrime : fnCode Try.prog [] 25 = some (13, sc_s_IsFieldPrime, [(2, none)]) := by kernel_rfl
def fpP (p : Int) : Prop := p = 2 ∨ p = 3 ∨ p = 5
noncomputable def F_s_IsFieldPrime : List V → Option V := F1 dI fun p => some (.bool (dec (fpP p)))
theorem fn_s_IsFieldPrime : FnOk Try.prog 25 F_s_IsFieldPrime := by
  refine fn_ok code_s_IsFieldPrime mixed envNil_ok ?_
  intro args r h hb
  obtain ⟨_, p, rfl, h1, h4⟩ := F1_inv h
  cases dI_inv h1
  cases h4
  refine ⟨by simp, fun w0 U0 L0 N0 => ?_⟩
  by_cases h2 : p = 2
  · subst h2
    have hd := dec_true (show fpP 2 from .inl rfl)
    simp -implicitDefEqProofs [sc_s_IsFieldPrime, hd]
  by_cases h3 : p = 3
  · subst h3
    have hd := dec_true (show fpP 3 from .inr (.inl rfl))
    simp -implicitDefEqProofs [sc_s_IsFieldPrime, hd]
  by_cases h5 : p = 5
  · subst h5
    have hd := dec_true (show fpP 5 from .inr (.inr rfl))
    simp -implicitDefEqProofs [sc_s_IsFieldPrime, hd]
  have hd : dec (fpP p) = false := dec_false fun h => h.elim h2 fun h => h.elim h3 h5
  simp -implicitDefEqProofs [sc_s_IsFieldPrime, h2, h3, h5, hd]
def sc_i_IsFieldPrime : SC := (.seq (.reg [⟨(some 2), none, (.mov (.c (.bool false)))⟩]) (.seq (.reg [⟨(some 3), none, (.mov (.t 0))⟩, ⟨(some 4), none, (.bin false .eql (.t 3) (.c (.int .i64 2)))⟩, ⟨(some 5), none, (.mov (.t 4))⟩, ⟨(some 6), (some (5, false)), (.mov (.t 0))⟩, ⟨(some 7), (some (5, false)), (.bin false .eql (.t 6) (.c (.int .i64 3)))⟩, ⟨(some 8), none, (.pick (.t 5) (.c (.bool true)) (.t 7))⟩, ⟨(some 9), none, (.mov (.t 8))⟩, ⟨(some 10), (some (9, false)), (.mov (.t 0))⟩, ⟨(some 11), (some (9, false)), (.bin false .eql (.t 10) (.c (.int .i64 5)))⟩, ⟨(some 12), none, (.pick (.t 9) (.c (.bool true)) (.t 11))⟩, ⟨(some 2), none, (.mov (.t 12))⟩]) .ret))
theorem code_i_IsFieldPrime : fnCode Try.prog [] 131 = some (13, sc_i_IsFieldPrime, [(2, none)]) := by kernel_rfl
theorem fn_i_IsFieldPrime : FnOk Try.prog 131 F_s_IsFieldPrime := by
  refine fn_ok code_i_IsFieldPrime mixed envNil_ok ?_
  intro args r h hb
  obtain ⟨_, p, rfl, h1, h4⟩ := F1_inv h
  cases dI_inv h1
  cases h4
  refine ⟨by simp, fun w0 U0 L0 N0 => ?_⟩
  by_cases h2 : p = 2
  · subst h2
    have hd := dec_true (show fpP 2 from .inl rfl)
    simp -implicitDefEqProofs [sc_i_IsFieldPrime, hd]
  by_cases h3 : p = 3
  · subst h3
    have hd := dec_true (show fpP 3 from .inr (.inl rfl))
    simp -implicitDefEqProofs [sc_i_IsFieldPrime, hd]
  by_cases h5 : p = 5
  · subst h5
    have hd := dec_true (show fpP 5 from .inr (.inr rfl))
    simp -implicitDefEqProofs [sc_i_IsFieldPrime, hd]
  have hd : dec (fpP p) = false := dec_false fun h => h.elim h2 fun h => h.elim h3 h5
  simp -implicitDefEqProofs [sc_i_IsFieldPrime, h2, h3, h5, hd]
def sc_i_isChainOf_L0 : SC := (.seq (.reg [⟨(some 16), none, (.bin false .lss (.t 15) (.t 14))⟩]) (.seq (.cond (.t 16) .skip (.exit 0)) (.seq (.block 1 (.seq (.reg [⟨(some 17), none, (.idx 1 (.t 13) (.t 15))⟩, ⟨(some 18), none, (.ld none (.int .i64 0) (.t 17))⟩, ⟨(some 8), none, (.mov (.t 18))⟩]) (.seq (.reg [⟨(some 19), none, (.mov (.t 8))⟩, ⟨(some 20), none, (.bin false .lss (.t 19) (.c (.int .i64 0)))⟩, ⟨(some 21), none, (.mov (.t 20))⟩, ⟨(some 22), (some (21, false)), (.mov (.t 8))⟩, ⟨(some 23), (some (21, false)), (.mov (.t 1))⟩, ⟨(some 24), (some (21, false)), (.bin false .geq (.t 22) (.t 23))⟩, ⟨(some 25), none, (.pick (.t 21) (.c (.bool true)) (.t 24))⟩]) (.cond (.t 25) (.seq (.reg [⟨(some 6), none, (.mov (.c (.bool false)))⟩]) .ret) .skip)))) (.reg [⟨(some 26), none, (.bin false .add (.t 15) (.c (.int .i64 1)))⟩, ⟨(some 15), none, (.mov (.t 26))⟩]))))
def sc_i_isChainOf : SC := (.seq (.reg [⟨(some 6), none, (.mov (.c (.bool false)))⟩]) (.seq (.seq (.reg [⟨(some 9), none, (.mov (.t 2))⟩, ⟨(some 10), none, (.len (.t 9))⟩, ⟨(some 11), none, (.mov (.t 0))⟩, ⟨(some 12), none, (.bin false .neq (.t 10) (.t 11))⟩]) (.cond (.t 12) (.seq (.reg [⟨(some 6), none, (.mov (.c (.bool false)))⟩]) .ret) .skip)) (.seq (.seq (.reg [⟨(some 13), none, (.mov (.t 2))⟩, ⟨(some 14), none, (.len (.t 13))⟩, ⟨(some 15), none, (.mov (.c (.int .i64 0)))⟩]) (.block 0 (.loop sc_i_isChainOf_L0))) (.seq (.reg [⟨(some 6), none, (.mov (.c (.bool true)))⟩]) .ret))))
theorem code_i_isChainOf : fnCode Try.prog [] 136 = some (27, sc_i_isChainOf, [(6, none)]) := by kernel_rfl
def inP (p : Int) (x : List Int) : Prop := ∀ j, j < x.length → 0 ≤ at0 x j ∧ at0 x j < p
noncomputable def F_i_isChainOf : List V → Option V := F3 dI dI dL fun n p x => some (.bool (dec ((x.length : Int) = n ∧ inP p x)))
theorem fn_i_isChainOf : FnOk Try.prog 136 F_i_isChainOf := by
  refine fn_ok code_i_isChainOf mixed envNil_ok ?_
  intro args r h hb
  obtain ⟨_, _, _, n, p, x, rfl, h1, h2, h3, h4⟩ := F3_inv h
  cases dI_inv h1
  cases dI_inv h2
  cases dL_inv h3
  cases h4
  clear h
  have hlen := bnd_ints (hb (.list 1 (ints x)) (by simp))
  refine ⟨by simp, fun w0 U0 L0 N0 => ?_⟩
  clear hb
  generalize hv : dec ((x.length : Int) = n ∧ inP p x) = v
  by_cases hn : (x.length : Int) = n
  rotate_left
  · have hv1 : v = false := hv ▸ dec_false fun h => hn h.1
    simp -implicitDefEqProofs [sc_i_isChainOf, hn, hv1]
  simp -implicitDefEqProofs [sc_i_isChainOf, hn]
  refine loopI envNil_ok mixed (fun k : Nat => [(1, .int .i64 p), (13, .list 1 (ints x)), (14, .int .i64 (x.length : Int)), (15, .int .i64 (k : Int))]) (fun _ => ([], 0)) (fun k => k ≤ x.length ∧ ∀ j, j < k → 0 ≤ at0 x j ∧ at0 x j < p) (fun k => x.length - k) 0 (by simp) (SubI.slots (by simp) (by simp [hn])) ?_
  rintro k ⟨hk, hI⟩
  by_cases hlt : k < x.length
  · by_cases h1 : at0 x k < 0
    · have hv1 : v = false := hv ▸ dec_false fun h => by have := (h.2 k hlt).1; omega
      simp -implicitDefEqProofs [sc_i_isChainOf_L0, hlt, h1, hv1]
      try omega
    by_cases h2 : p ≤ at0 x k
    · have hv1 : v = false := hv ▸ dec_false fun h => by have := (h.2 k hlt).2; omega
      simp -implicitDefEqProofs [sc_i_isChainOf_L0, hlt, h1, h2, hv1]
      try omega
    simp -implicitDefEqProofs [sc_i_isChainOf_L0, hlt, h1, h2]
    repeat' (first | omega | apply And.intro)
    refine Again.of (k + 1) ⟨by omega, fun j hj => ?_⟩ (by omega) (SubI.slots rfl (by simp (disch := omega) [wrapI]))
    rcases Nat.lt_succ_iff_lt_or_eq.1 hj with h | rfl
    · exact hI j h
    · exact ⟨by omega, by omega⟩
  · have : k = x.length := by omega
    subst this
    have hv1 : v = true := hv ▸ dec_true ⟨hn, hI⟩
    simp -implicitDefEqProofs [sc_i_isChainOf_L0, hv1]
end Go.Proofs.Ytmemomfffehnkaa
namespace Go.Proofs.Ytmemomfffehnkaa
open Go Go.RowKit
set_option maxRecDepth 1000000
set_option linter.unusedSimpArgs false
set_option linter.unusedVariables false
set_option maxHeartbeats 1000000
def sc_s_IsChain_L0 : SC := (.seq (.seq (.reg [⟨(some 10), none, (.mov (.t 9))⟩, ⟨(some 11), none, (.mov (.t 3))⟩, ⟨(some 12), none, (.len (.t 11))⟩, ⟨(some 13), none, (.bin false .lss (.t 10) (.t 12))⟩]) (.cond (.t 13) .skip (.exit 0))) (.seq (.block 1 (.seq (.reg [⟨(some 16), none, (.mov (.t 3))⟩, ⟨(some 17), none, (.mov (.t 9))⟩, ⟨(some 18), none, (.idx 1 (.t 16) (.t 17))⟩, ⟨(some 19), none, (.ld none (.int .i64 0) (.t 18))⟩, ⟨(some 20), none, (.bin false .lss (.t 19) (.c (.int .i64 0)))⟩, ⟨(some 21), none, (.mov (.t 20))⟩, ⟨(some 22), (some (21, false)), (.mov (.t 3))⟩, ⟨(some 23), (some (21, false)), (.mov (.t 9))⟩, ⟨(some 24), (some (21, false)), (.idx 1 (.t 22) (.t 23))⟩, ⟨(some 25), (some (21, false)), (.ld none (.int .i64 0) (.t 24))⟩, ⟨(some 26), (some (21, false)), (.mov (.t 2))⟩, ⟨(some 27), (some (21, false)), (.bin false .geq (.t 25) (.t 26))⟩, ⟨(some 28), none, (.pick (.t 21) (.c (.bool true)) (.t 27))⟩]) (.cond (.t 28) (.seq (.reg [⟨(some 8), none, (.mov (.c (.bool false)))⟩]) .ret) .skip))) (.reg [⟨(some 14), none, (.mov (.t 9))⟩, ⟨(some 15), none, (.bin false .add (.t 14) (.c (.int .i64 1)))⟩, ⟨(some 9), none, (.mov (.t 15))⟩])))
def sc_s_IsChain : SC := (.seq (.reg [⟨(some 4), none, (.box (.t 0))⟩, ⟨(some 8), none, (.mov (.c (.bool false)))⟩]) (.seq (.seq (.reg [⟨(some 9), none, (.mov (.c (.int .i64 0)))⟩]) (.block 0 (.loop sc_s_IsChain_L0))) (.seq (.reg [⟨(some 29), none, (.ld (some 2) .undef (.t 4))⟩, ⟨(some 30), none, (.call 24 [(.t 29)])⟩, ⟨(some 31), none, (.mov (.t 30))⟩, ⟨(some 32), (some (31, true)), (.mov (.t 1))⟩, ⟨(some 33), (some (31, true)), (.call 132 [(.t 32), (.c (.int .i64 1)), (.c (.int .i64 6))])⟩, ⟨(some 34), none, (.pick (.t 31) (.t 33) (.c (.bool false)))⟩, ⟨(some 35), none, (.mov (.t 34))⟩, ⟨(some 36), (some (35, true)), (.mov (.t 2))⟩, ⟨(some 37), (some (35, true)), (.call 25 [(.t 36)])⟩, ⟨(some 38), none, (.pick (.t 35) (.t 37) (.c (.bool false)))⟩, ⟨(some 39), none, (.mov (.t 38))⟩, ⟨(some 40), (some (39, true)), (.mov (.t 3))⟩, ⟨(some 41), (some (39, true)), (.len (.t 40))⟩, ⟨(some 42), (some (39, true)), (.ld (some 2) .undef (.t 4))⟩, ⟨(some 43), (some (39, true)), (.mov (.t 1))⟩, ⟨(some 44), (some (39, true)), (.call 124 [(.t 42), (.t 43)])⟩, ⟨(some 45), (some (39, true)), (.len (.t 44))⟩, ⟨(some 46), (some (39, true)), (.bin false .eql (.t 41) (.t 45))⟩, ⟨(some 47), none, (.pick (.t 39) (.t 46) (.c (.bool false)))⟩, ⟨(some 8), none, (.mov (.t 47))⟩]) .ret)))
theorem code_s_IsChain : fnCode Try.prog [] 21 = some (48, sc_s_IsChain, [(8, none)]) := by kernel_rfl
def chnP (n : Int) (l : List Int) (k p : Int) (x : List Int) : Prop := cplx n l ∧ 1 ≤ k ∧ k ≤ 6 ∧ fpP p ∧ x.length = (fosL n l k).length ∧ inP p x
noncomputable def F_s_IsChain : List V → Option V := F4 dC dI dI dL fun c k p x => some (.bool (dec (chnP c.1 c.2 k p x)))
theorem fn_s_IsChain : FnOk Try.prog 21 F_s_IsChain := by
  have env := ((((envNil_ok (P := Try.prog)).add fn_s_IsComplex).add fn_s_l1In).add fn_s_IsFieldPrime).add fn_s_FacesOfSize
  refine fn_ok code_s_IsChain mixed env ?_
  intro args r h hb
  obtain ⟨_, _, _, _, ⟨n, l⟩, k, p, x, rfl, h1, h2, h3, h5, h4⟩ := F4_inv h
  cases dC_inv h1
  cases dI_inv h2
  cases dI_inv h3
  cases dL_inv h5
  cases h4
  clear h
  have hlen := bnd_ints (hb (.list 1 (ints x)) (by simp))
  refine ⟨by simp, fun w0 U0 L0 N0 => ?_⟩
  clear hb
  generalize hv : dec (chnP n l k p x) = v
  have hfl : (fosL n l k).length ≤ 64 := setsOf_len _
  have hFS : F_s_FacesOfSize [.agg [.int .i64 n, .list 1 (ints l)], .int .i64 k] = some (.own 1 (ints (fosL n l k))) := by simp [F_s_FacesOfSize]
  unfold chnP at hv
  simp -implicitDefEqProofs [sc_s_IsChain]
  refine loopI env mixed (fun j : Nat => [(1, .int .i64 k), (2, .int .i64 p), (3, .list 1 (ints x)), (4, .pt 0 0), (9, .int .i64 (j : Int))]) (fun _ => ([(0, [.int .i64 n, .list 1 (ints l)])], 1)) (fun k => k ≤ x.length ∧ ∀ j, j < k → 0 ≤ at0 x j ∧ at0 x j < p) (fun k => x.length - k) 0 (by simp) (SubI.slots (by simp) (by simp)) ?_
  rintro j ⟨hk, hI⟩
  by_cases hlt : j < x.length
  · by_cases h1 : at0 x j < 0
    · have hv1 : v = false := hv ▸ dec_false fun h => by have := (h.2.2.2.2.2 j hlt).1; omega
      simp -implicitDefEqProofs [sc_s_IsChain_L0, hlt, h1, hv1]
      try omega
    by_cases h2 : p ≤ at0 x j
    · have hv1 : v = false := hv ▸ dec_false fun h => by have := (h.2.2.2.2.2 j hlt).2; omega
      simp -implicitDefEqProofs [sc_s_IsChain_L0, hlt, h1, h2, hv1]
      try omega
    simp -implicitDefEqProofs [sc_s_IsChain_L0, hlt, h1, h2]
    repeat' (first | omega | apply And.intro)
    refine Again.of (j + 1) ⟨by omega, fun i hj => ?_⟩ (by omega) (SubI.slots rfl (by simp (disch := omega) [wrapI]))
    rcases Nat.lt_succ_iff_lt_or_eq.1 hj with h | rfl
    · exact hI i h
    · exact ⟨by omega, by omega⟩
  · have : j = x.length := by omega
    subst this
    generalize fosL n l k = R at *
    cases e0 : cplxB n l with
    | false =>
      have hv1 : v = false := hv ▸ dec_false fun h => by simp [cplxB_iff.2 h.1] at e0
      simp -implicitDefEqProofs [sc_s_IsChain_L0, F_s_IsComplex, e0, hv1]
    | true =>
    by_cases g1 : 1 ≤ k ∧ k ≤ 6
    rotate_left
    · have hv1 : v = false := hv ▸ dec_false fun h => g1 ⟨h.2.1, h.2.2.1⟩
      have g2 : F_s_l1In [.int .i64 k, .int .i64 1, .int .i64 6] = some (.bool false) := by
        rw [← decide_eq_false g1]
        simp [F_s_l1In]
      simp -implicitDefEqProofs [sc_s_IsChain_L0, F_s_IsComplex, e0, g2, hv1]
    have g2 : F_s_l1In [.int .i64 k, .int .i64 1, .int .i64 6] = some (.bool true) := by
      rw [← decide_eq_true g1]
      simp [F_s_l1In]
    by_cases g3 : fpP p
    rotate_left
    · have hv1 : v = false := hv ▸ dec_false fun h => g3 h.2.2.2.1
      have g4 := dec_false g3
      simp -implicitDefEqProofs [sc_s_IsChain_L0, F_s_IsComplex, F_s_IsFieldPrime, e0, g2, g4, hv1]
    have g4 := dec_true g3
    have hv1 : v = (x.length == R.length) := by
      rw [← hv, Bool.eq_iff_iff, dec_iff, beq_iff_eq]
      exact ⟨fun h => h.2.2.2.2.1, fun h => ⟨cplxB_iff.1 e0, g1.1, g1.2, g3, h, hI⟩⟩
    simp -implicitDefEqProofs [sc_s_IsChain_L0, F_s_IsComplex, F_s_IsFieldPrime, hFS, e0, g2, g4, hv1]
    try (rw [Bool.eq_iff_iff, beq_iff_eq, beq_iff_eq]; omega)
end Go.Proofs.Ytmemomfffehnkaa
namespace Go.Proofs.Ytmemomfffehnkaa
open Go Go.RowKit
set_option maxRecDepth 1000000
set_option linter.unusedSimpArgs false
set_option linter.unusedVariables false
set_option maxHeartbeats 1000000
def sc_i_complexOf : SC := (.seq (.reg [⟨(some 4), none, (.new [(.int .i64 0), .nil])⟩]) (.seq (.reg [⟨(some 5), none, (.mov (.t 0))⟩, ⟨(some 6), none, (.mov (.t 1))⟩, ⟨(some 7), none, (.call 192 [(.t 6)])⟩, ⟨(some 8), none, (.agg [(.int .i64 0), .nil] [(0, (1, (.t 5))), (1, (1, (.t 7)))])⟩, ⟨none, none, (.st 2 (.t 4) (.t 8))⟩]) .ret))
theorem code_i_complexOf : fnCode Try.prog [] 175 = some (9, sc_i_complexOf, [(4, (some 2))]) := by kernel_rfl
noncomputable def cofG (n f : Int) : Option V := @ite _ (0 ≤ f ∧ f < 18446744073709551616) (Classical.propDecidable _) (some (.agg [.int .i64 n, .own 1 (ints (setsOf (maxP (bitP f))))])) none
theorem cofG_fam (n : Int) (p : Int → Prop) : cofG n (fam p) = some (.agg [.int .i64 n, .own 1 (ints (setsOf (maxP p)))]) := by
  unfold cofG
  rw [if_pos ⟨fam_nn p, fam_lt p⟩, setsOf_congr fun s hs => maxP_congr (fun s hs => bitP_fam hs) hs]
noncomputable def F_i_complexOf : List V → Option V := F2 dI dU cofG
theorem fn_i_complexOf : FnOk Try.prog 175 F_i_complexOf := by
  have env := (envNil_ok (P := Try.prog)).add fn_i_maximalIn
  refine fn_ok code_i_complexOf mixed env ?_
  intro args r h hb
  obtain ⟨_, _, n, f, rfl, h1, h2, h4⟩ := F2_inv h
  cases dI_inv h1
  cases dU_inv h2
  clear h
  simp only [cofG, Option.ite_none_right_eq_some, Option.some.injEq] at h4
  obtain ⟨⟨hf1, hf2⟩, rfl⟩ := h4
  have hf := fam_bitP hf1 hf2
  generalize bitP f = p at *
  subst hf
  refine ⟨by simp, fun w0 U0 L0 N0 => ?_⟩
  have hm := maxG_fam p
  simp -implicitDefEqProofs [sc_i_complexOf, F_i_maximalIn, hm]
end Go.Proofs.Ytmemomfffehnkaa
namespace Go.Proofs.Ytmemomfffehnkaa
open Go Go.RowKit
set_option maxRecDepth 1000000
set_option linter.unusedSimpArgs false
set_option linter.unusedVariables false
set_option maxHeartbeats 1000000
/-- A row by its places. -/
def rowF (m : Nat) (g : Nat → Int) : List Int := (List.range m).map g
@[simp] theorem rowF_len (m : Nat) (g : Nat → Int) : (rowF m g).length = m := by simp [rowF]
theorem rowF_at {m j : Nat} {g : Nat → Int} (h : j < m) : at0 (rowF m g) j = g j := by simp [rowF, at0, h]
theorem rowF_congr {m : Nat} {g h : Nat → Int} (e : ∀ j, j < m → g j = h j) : rowF m g = rowF m h := List.map_congr_left fun j hj => e j (List.mem_range.1 hj)
theorem rowF_set {m j : Nat} {g : Nat → Int} (h : j < m) (v : Int) : (rowF m g).set j v = rowF m fun i => if i = j then v else g i := by
  apply at0_ext (by simp)
  intro i hi
  simp only [List.length_set, rowF_len] at hi
  rw [at0_set, rowF_at hi, rowF_at hi]
  by_cases e : j = i
  · subst e
    rw [if_pos ⟨rfl, by simpa using hi⟩, if_pos rfl]
  · rw [if_neg fun h => e h.1, if_neg fun h => e h.symm]
theorem rowF_map (L : List Int) (f : Int → Int) : rowF L.length (fun j => f (at0 L j)) = L.map f := by
  apply List.ext_getElem (by simp)
  intro j h1 h2
  simp only [rowF_len] at h1
  simp [rowF, at0_eq h1]
theorem rowF_zero (m : Nat) : List.replicate m 0 = rowF m fun _ => 0 := by
  apply List.ext_getElem (by simp)
  intro j h1 h2
  simp [rowF]
/-- The faces of one point less than the greatest. -/
noncomputable def rdgL (n : Int) (l : List Int) : List Int := @ite _ (dimZ n l < 0) (Classical.propDecidable _) [] (fosL n l (dimZ n l))
/-- How many greatest facets hold s. -/
noncomputable def cntR (d : Int) (l : List Int) (s : Int) : Int := ((l.filter fun f => dec (subS s f ∧ sz f = d + 1)).length : Nat)
theorem cntR_nil (d s : Int) : cntR d [] s = 0 := rfl
theorem cntR_yes {d s : Int} {l : List Int} {i : Nat} (hi : i < l.length) (h : subS s (at0 l i) ∧ sz (at0 l i) = d + 1) : cntR d (l.take (i + 1)) s = cntR d (l.take i) s + 1 := by
  unfold cntR
  rw [filt_pos hi (dec_true h), List.length_append]
  simp
theorem cntR_no {d s : Int} {l : List Int} {i : Nat} (hi : i < l.length) (h : ¬ (subS s (at0 l i) ∧ sz (at0 l i) = d + 1)) : cntR d (l.take (i + 1)) s = cntR d (l.take i) s := by
  unfold cntR
  rw [filt_neg hi (dec_false h)]
theorem cntR_bnd (d s : Int) (l : List Int) (i : Nat) : 0 ≤ cntR d (l.take i) s ∧ cntR d (l.take i) s ≤ i := by
  unfold cntR
  have h2 : (l.take i).length ≤ i := by simp; omega
  have h3 := List.length_filter_le (fun f => dec (subS s f ∧ sz f = d + 1)) (l.take i)
  omega
noncomputable def rcL (n : Int) (l : List Int) : List Int := (rdgL n l).map fun s => cntR (dimZ n l) l s
theorem rdgL_neg {n : Int} {l : List Int} (h : dimZ n l < 0) : rdgL n l = [] := by unfold rdgL; rw [if_pos h]
theorem rdgL_nn {n : Int} {l : List Int} (h : ¬ dimZ n l < 0) : rdgL n l = fosL n l (dimZ n l) := by unfold rdgL; rw [if_neg h]
theorem rcL_neg {n : Int} {l : List Int} (h : dimZ n l < 0) : rcL n l = [] := by unfold rcL; rw [rdgL_neg h]; rfl
theorem rdgL_ok (n : Int) (l : List Int) : allS (rdgL n l) ∧ (rdgL n l).length ≤ 64 := by
  by_cases h : dimZ n l < 0
  · rw [rdgL_neg h]; exact ⟨by simp [allS], by simp⟩
  · rw [rdgL_nn h]; exact ⟨allS_setsOf _, setsOf_len _⟩
theorem dimZ_cplx {n : Int} {l : List Int} (h : ¬ dimZ n l < 0) : cplx n l := Classical.byContradiction fun hc => h (by unfold dimZ; rw [if_neg hc]; omega)
theorem dimZ_bnd (n : Int) (l : List Int) : -2 ≤ dimZ n l ∧ dimZ n l ≤ 5 := by
  unfold dimZ
  have := topZ_bnd (faceS l)
  split <;> omega
noncomputable def F_s_RidgeCounts : List V → Option V := F1 dC fun c => some (.own 1 (ints (rcL c.1 c.2)))
noncomputable def F_i_ridgesOf : List V → Option V := F1 dC fun c => some (.tup [.own 1 (ints (rdgL c.1 c.2)), .own 1 (ints (rcL c.1 c.2))])
/-- The counts of the first k sets; of the set at k as far as the facet at i. -/
noncomputable def rcK (d : Int) (l L : List Int) (k : Nat) : List Int := rowF L.length fun j => if j < k then cntR d l (at0 L j) else 0
noncomputable def rcI (d : Int) (l L : List Int) (k i : Nat) : List Int := rowF L.length fun j => if j < k then cntR d l (at0 L j) else if j = k then cntR d (l.take i) (at0 L k) else 0
@[simp] theorem rcK_len (d : Int) (l L : List Int) (k : Nat) : (rcK d l L k).length = L.length := by simp [rcK]
@[simp] theorem rcI_len (d : Int) (l L : List Int) (k i : Nat) : (rcI d l L k i).length = L.length := by simp [rcI]
theorem rcK_zero (d : Int) (l L : List Int) : rcK d l L 0 = List.replicate L.length 0 := by
  rw [rowF_zero]
  exact rowF_congr fun j _ => by simp
theorem rcK_full (d : Int) (l L : List Int) : rcK d l L L.length = L.map fun s => cntR d l s := by
  rw [← rowF_map]
  exact rowF_congr fun j hj => by simp [hj]
theorem rcI_zero (d : Int) (l L : List Int) (k : Nat) : rcI d l L k 0 = rcK d l L k := rowF_congr fun j hj => by
  by_cases h1 : j < k
  · simp [h1]
  · by_cases h2 : j = k
    · simp [h2, cntR_nil]
    · simp [h1, h2]
theorem rcI_full (d : Int) (l L : List Int) (k : Nat) : rcI d l L k l.length = rcK d l L (k + 1) := rowF_congr fun j hj => by
  by_cases h1 : j < k
  · simp [h1, show j < k + 1 by omega]
  · by_cases h2 : j = k
    · simp [h2]
    · simp [h1, h2, show ¬ j < k + 1 by omega]
theorem rcI_at (d : Int) (l : List Int) {L : List Int} {k : Nat} (i : Nat) (hk : k < L.length) : at0 (rcI d l L k i) k = cntR d (l.take i) (at0 L k) := by
  unfold rcI
  rw [rowF_at hk]
  simp
theorem rcI_yes {d : Int} {l L : List Int} {k i : Nat} (hk : k < L.length) (hi : i < l.length) (h : subS (at0 L k) (at0 l i) ∧ sz (at0 l i) = d + 1) : (rcI d l L k i).set k (cntR d (l.take i) (at0 L k) + 1) = rcI d l L k (i + 1) := by
  unfold rcI
  rw [rowF_set hk]
  refine rowF_congr fun j hj => ?_
  by_cases h2 : j = k
  · simp only [h2, if_true, Nat.lt_irrefl, if_false]
    rw [cntR_yes hi h]
  · simp only [h2, if_false]
theorem rcI_no {d : Int} {l L : List Int} {k i : Nat} (hi : i < l.length) (h : ¬ (subS (at0 L k) (at0 l i) ∧ sz (at0 l i) = d + 1)) : rcI d l L k (i + 1) = rcI d l L k i := by
  unfold rcI
  rw [cntR_no hi h]
theorem rcL_at {n : Int} {l : List Int} {k : Nat} (h : k < (rdgL n l).length) : at0 (rcL n l) k = cntR (dimZ n l) l (at0 (rdgL n l) k) := by
  unfold rcL
  rw [← rowF_map, rowF_at h]
def sc_s_RidgeCounts_L2 : SC := (.seq (.seq (.reg [⟨(some 21), none, (.mov (.t 7))⟩, ⟨(some 22), none, (.fad 1 (.t 1))⟩, ⟨(some 23), none, (.ld none .nil (.t 22))⟩, ⟨(some 24), none, (.len (.t 23))⟩, ⟨(some 25), none, (.bin false .lss (.t 21) (.t 24))⟩]) (.cond (.t 25) .skip (.exit 2))) (.seq (.block 3 (.dreg [⟨⟨(some 28), none, (.mov (.t 6))⟩, false, false⟩, ⟨⟨(some 29), none, (.fad 1 (.t 1))⟩, false, false⟩, ⟨⟨(some 30), none, (.ld none .nil (.t 29))⟩, false, false⟩, ⟨⟨(some 31), none, (.mov (.t 7))⟩, false, false⟩, ⟨⟨(some 32), none, (.idx 1 (.t 30) (.t 31))⟩, false, false⟩, ⟨⟨(some 33), none, (.ld none (.int .i64 0) (.t 32))⟩, false, false⟩, ⟨⟨(some 34), none, (.mov (.t 4))⟩, false, false⟩, ⟨⟨(some 35), none, (.mov (.t 5))⟩, false, false⟩, ⟨⟨(some 36), none, (.idx 1 (.t 34) (.t 35))⟩, false, false⟩, ⟨⟨(some 37), none, (.ld none (.int .i64 0) (.t 36))⟩, false, false⟩, ⟨⟨(some 38), none, (.bin false .and (.t 33) (.t 37))⟩, false, false⟩, ⟨⟨(some 39), none, (.mov (.t 4))⟩, false, false⟩, ⟨⟨(some 40), none, (.mov (.t 5))⟩, false, false⟩, ⟨⟨(some 41), none, (.idx 1 (.t 39) (.t 40))⟩, false, false⟩, ⟨⟨(some 42), none, (.ld none (.int .i64 0) (.t 41))⟩, false, false⟩, ⟨⟨(some 43), none, (.bin false .eql (.t 38) (.t 42))⟩, false, false⟩, ⟨⟨(some 44), none, (.mov (.t 43))⟩, false, false⟩, ⟨⟨(some 45), (some (44, true)), (.fad 1 (.t 1))⟩, false, false⟩, ⟨⟨(some 46), (some (44, true)), (.ld none .nil (.t 45))⟩, false, false⟩, ⟨⟨(some 47), (some (44, true)), (.mov (.t 7))⟩, false, false⟩, ⟨⟨(some 48), (some (44, true)), (.idx 1 (.t 46) (.t 47))⟩, false, false⟩, ⟨⟨(some 49), (some (44, true)), (.ld none (.int .i64 0) (.t 48))⟩, false, false⟩, ⟨⟨(some 50), (some (44, true)), (.call 156 [(.t 49)])⟩, false, false⟩, ⟨⟨(some 51), (some (44, true)), (.ld (some 2) .undef (.t 1))⟩, false, false⟩, ⟨⟨(some 52), (some (44, true)), (.call 155 [(.t 51)])⟩, false, false⟩, ⟨⟨(some 53), (some (44, true)), (.bin false .add (.t 52) (.c (.int .i64 1)))⟩, false, false⟩, ⟨⟨(some 54), (some (44, true)), (.bin false .eql (.t 50) (.t 53))⟩, false, false⟩, ⟨⟨(some 55), none, (.pick (.t 44) (.t 54) (.c (.bool false)))⟩, false, false⟩, ⟨⟨(some 56), none, (.call 164 [(.t 55)])⟩, false, false⟩, ⟨⟨(some 57), none, (.bin false .add (.t 28) (.t 56))⟩, false, false⟩, ⟨⟨(some 6), none, (.mov (.t 57))⟩, false, false⟩])) (.reg [⟨(some 26), none, (.mov (.t 7))⟩, ⟨(some 27), none, (.bin false .add (.t 26) (.c (.int .i64 1)))⟩, ⟨(some 7), none, (.mov (.t 27))⟩])))
def sc_s_RidgeCounts_L0 : SC := (.seq (.seq (.reg [⟨(some 15), none, (.mov (.t 5))⟩, ⟨(some 16), none, (.mov (.t 4))⟩, ⟨(some 17), none, (.len (.t 16))⟩, ⟨(some 18), none, (.bin false .lss (.t 15) (.t 17))⟩]) (.cond (.t 18) .skip (.exit 0))) (.seq (.block 1 (.seq (.reg [⟨(some 6), none, (.mov (.c (.int .i64 0)))⟩]) (.seq (.seq (.reg [⟨(some 7), none, (.mov (.c (.int .i64 0)))⟩]) (.block 2 (.loop sc_s_RidgeCounts_L2))) (.reg [⟨(some 58), none, (.mov (.t 3))⟩, ⟨(some 59), none, (.mov (.t 6))⟩, ⟨(some 60), none, (.mks 1 1 [(.int .i64 0)] [(0, (1, (.t 59)))])⟩, ⟨(some 61), none, (.app 1 8 (.t 58) (.t 60))⟩, ⟨(some 3), none, (.mov (.t 61))⟩])))) (.reg [⟨(some 19), none, (.mov (.t 5))⟩, ⟨(some 20), none, (.bin false .add (.t 19) (.c (.int .i64 1)))⟩, ⟨(some 5), none, (.mov (.t 20))⟩])))
def sc_i_ridgesOf_L2 : SC := (.seq (.reg [⟨(some 32), none, (.bin false .lss (.t 31) (.t 30))⟩]) (.seq (.cond (.t 32) .skip (.exit 2)) (.seq (.block 3 (.seq (.reg [⟨(some 33), none, (.idx 1 (.t 29) (.t 31))⟩, ⟨(some 34), none, (.ld none (.int .i64 0) (.t 33))⟩, ⟨(some 10), none, (.mov (.t 34))⟩]) (.seq (.reg [⟨(some 35), none, (.mov (.t 10))⟩, ⟨(some 36), none, (.call 181 [(.t 35)])⟩, ⟨(some 37), none, (.mov (.t 4))⟩, ⟨(some 38), none, (.bin false .add (.t 37) (.c (.int .i64 1)))⟩, ⟨(some 39), none, (.bin false .eql (.t 36) (.t 38))⟩, ⟨(some 40), none, (.mov (.t 39))⟩, ⟨(some 41), (some (40, true)), (.mov (.t 8))⟩, ⟨(some 42), (some (40, true)), (.mov (.t 10))⟩, ⟨(some 43), (some (40, true)), (.bin false .andNot (.t 41) (.t 42))⟩, ⟨(some 44), (some (40, true)), (.bin false .eql (.t 43) (.c (.int .i64 0)))⟩, ⟨(some 45), none, (.pick (.t 40) (.t 44) (.c (.bool false)))⟩]) (.cond (.t 45) (.reg [⟨(some 46), none, (.mov (.t 6))⟩, ⟨(some 47), none, (.mov (.t 7))⟩, ⟨(some 48), none, (.idx 1 (.t 46) (.t 47))⟩, ⟨(some 49), none, (.ld none (.int .i64 0) (.t 48))⟩, ⟨(some 50), none, (.bin false .add (.t 49) (.c (.int .i64 1)))⟩, ⟨(some 51), none, (.idx 1 (.t 46) (.t 47))⟩, ⟨none, none, (.st 1 (.t 51) (.t 50))⟩]) .skip)))) (.reg [⟨(some 52), none, (.bin false .add (.t 31) (.c (.int .i64 1)))⟩, ⟨(some 31), none, (.mov (.t 52))⟩]))))
def sc_i_ridgesOf_L0 : SC := (.seq (.reg [⟨(some 24), none, (.bin false .lss (.t 23) (.t 22))⟩]) (.seq (.cond (.t 24) .skip (.exit 0)) (.seq (.block 1 (.seq (.reg [⟨(some 25), none, (.mov (.t 23))⟩, ⟨(some 26), none, (.idx 1 (.t 21) (.t 23))⟩, ⟨(some 27), none, (.ld none (.int .i64 0) (.t 26))⟩, ⟨(some 7), none, (.mov (.t 25))⟩, ⟨(some 8), none, (.mov (.t 27))⟩]) (.seq (.reg [⟨(some 28), none, (.fad 1 (.t 1))⟩, ⟨(some 29), none, (.ld none .nil (.t 28))⟩, ⟨(some 30), none, (.len (.t 29))⟩, ⟨(some 31), none, (.mov (.c (.int .i64 0)))⟩]) (.block 2 (.loop sc_i_ridgesOf_L2))))) (.reg [⟨(some 53), none, (.bin false .add (.t 23) (.c (.int .i64 1)))⟩, ⟨(some 23), none, (.mov (.t 53))⟩]))))
end Go.Proofs.Ytmemomfffehnkaa
