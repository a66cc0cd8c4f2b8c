import Derived.Test.YtncnohompmcddaaKP
namespace Go.Proofs.Ytncnohompmcddaa
open Go Go.RowKit
set_option maxRecDepth 1000000
set_option linter.unusedSimpArgs false
set_option linter.unusedVariables false
set_option maxHeartbeats 1000000
def sc_s_IsFieldPrime : SC := (.seq (.reg [⟨(some 2), none, (.mov (.c (.bool false)))⟩]) (.seq (.reg [⟨(some 3), none, (.mov (.t 0))⟩, ⟨(some 4), none, (.bin false .eql (.t 3) (.c (.int .i64 2)))⟩, ⟨(some 5), none, (.mov (.t 4))⟩, ⟨(some 6), (some (5, false)), (.mov (.t 0))⟩, ⟨(some 7), (some (5, false)), (.bin false .eql (.t 6) (.c (.int .i64 3)))⟩, ⟨(some 8), none, (.pick (.t 5) (.c (.bool true)) (.t 7))⟩, ⟨(some 9), none, (.mov (.t 8))⟩, ⟨(some 10), (some (9, false)), (.mov (.t 0))⟩, ⟨(some 11), (some (9, false)), (.bin false .eql (.t 10) (.c (.int .i64 5)))⟩, ⟨(some 12), none, (.pick (.t 9) (.c (.bool true)) (.t 11))⟩, ⟨(some 2), none, (.mov (.t 12))⟩]) .ret))
theorem code_s_IsFieldPrime : fnCode Try.prog [] 33 = some (13, sc_s_IsFieldPrime, [(2, none)]) := by kernel_rfl
def fpP (p : Int) : Prop := p = 2 ∨ p = 3 ∨ p = 5
noncomputable def F_s_IsFieldPrime : List V → Option V := F1 dI fun p => some (.bool (dec (fpP p)))
theorem fn_s_IsFieldPrime : FnOk Try.prog 33 F_s_IsFieldPrime := by
  refine fn_ok code_s_IsFieldPrime mixed envNil_ok ?_
  intro args r h hb
  obtain ⟨_, p, rfl, h1, h4⟩ := F1_inv h
  cases dI_inv h1
  cases h4
  refine ⟨by simp, fun w0 U0 L0 N0 => ?_⟩
  by_cases h2 : p = 2
  · subst h2
    have hd := dec_true (show fpP 2 from .inl rfl)
    simp -implicitDefEqProofs [sc_s_IsFieldPrime, hd]
  by_cases h3 : p = 3
  · subst h3
    have hd := dec_true (show fpP 3 from .inr (.inl rfl))
    simp -implicitDefEqProofs [sc_s_IsFieldPrime, hd]
  by_cases h5 : p = 5
  · subst h5
    have hd := dec_true (show fpP 5 from .inr (.inr rfl))
    simp -implicitDefEqProofs [sc_s_IsFieldPrime, hd]
  have hd : dec (fpP p) = false := dec_false fun h => h.elim h2 fun h => h.elim h3 h5
  simp -implicitDefEqProofs [sc_s_IsFieldPrime, h2, h3, h5, hd]
def sc_i_IsFieldPrime : SC := (.seq (.reg [⟨(some 2), none, (.mov (.c (.bool false)))⟩]) (.seq (.reg [⟨(some 3), none, (.mov (.t 0))⟩, ⟨(some 4), none, (.bin false .eql (.t 3) (.c (.int .i64 2)))⟩, ⟨(some 5), none, (.mov (.t 4))⟩, ⟨(some 6), (some (5, false)), (.mov (.t 0))⟩, ⟨(some 7), (some (5, false)), (.bin false .eql (.t 6) (.c (.int .i64 3)))⟩, ⟨(some 8), none, (.pick (.t 5) (.c (.bool true)) (.t 7))⟩, ⟨(some 9), none, (.mov (.t 8))⟩, ⟨(some 10), (some (9, false)), (.mov (.t 0))⟩, ⟨(some 11), (some (9, false)), (.bin false .eql (.t 10) (.c (.int .i64 5)))⟩, ⟨(some 12), none, (.pick (.t 9) (.c (.bool true)) (.t 11))⟩, ⟨(some 2), none, (.mov (.t 12))⟩]) .ret))
theorem code_i_IsFieldPrime : fnCode Try.prog [] 39 = some (13, sc_i_IsFieldPrime, [(2, none)]) := by kernel_rfl
theorem fn_i_IsFieldPrime : FnOk Try.prog 39 F_s_IsFieldPrime := by
  refine fn_ok code_i_IsFieldPrime mixed envNil_ok ?_
  intro args r h hb
  obtain ⟨_, p, rfl, h1, h4⟩ := F1_inv h
  cases dI_inv h1
  cases h4
  refine ⟨by simp, fun w0 U0 L0 N0 => ?_⟩
  by_cases h2 : p = 2
  · subst h2
    have hd := dec_true (show fpP 2 from .inl rfl)
    simp -implicitDefEqProofs [sc_i_IsFieldPrime, hd]
  by_cases h3 : p = 3
  · subst h3
    have hd := dec_true (show fpP 3 from .inr (.inl rfl))
    simp -implicitDefEqProofs [sc_i_IsFieldPrime, hd]
  by_cases h5 : p = 5
  · subst h5
    have hd := dec_true (show fpP 5 from .inr (.inr rfl))
    simp -implicitDefEqProofs [sc_i_IsFieldPrime, hd]
  have hd : dec (fpP p) = false := dec_false fun h => h.elim h2 fun h => h.elim h3 h5
  simp -implicitDefEqProofs [sc_i_IsFieldPrime, h2, h3, h5, hd]
def sc_i_isChainOf_L0 : SC := (.seq (.reg [⟨(some 16), none, (.bin false .lss (.t 15) (.t 14))⟩]) (.seq (.cond (.t 16) .skip (.exit 0)) (.seq (.block 1 (.seq (.reg [⟨(some 17), none, (.idx 1 (.t 13) (.t 15))⟩, ⟨(some 18), none, (.ld none (.int .i64 0) (.t 17))⟩, ⟨(some 8), none, (.mov (.t 18))⟩]) (.seq (.reg [⟨(some 19), none, (.mov (.t 8))⟩, ⟨(some 20), none, (.bin false .lss (.t 19) (.c (.int .i64 0)))⟩, ⟨(some 21), none, (.mov (.t 20))⟩, ⟨(some 22), (some (21, false)), (.mov (.t 8))⟩, ⟨(some 23), (some (21, false)), (.mov (.t 1))⟩, ⟨(some 24), (some (21, false)), (.bin false .geq (.t 22) (.t 23))⟩, ⟨(some 25), none, (.pick (.t 21) (.c (.bool true)) (.t 24))⟩]) (.cond (.t 25) (.seq (.reg [⟨(some 6), none, (.mov (.c (.bool false)))⟩]) .ret) .skip)))) (.reg [⟨(some 26), none, (.bin false .add (.t 15) (.c (.int .i64 1)))⟩, ⟨(some 15), none, (.mov (.t 26))⟩]))))
def sc_i_isChainOf : SC := (.seq (.reg [⟨(some 6), none, (.mov (.c (.bool false)))⟩]) (.seq (.seq (.reg [⟨(some 9), none, (.mov (.t 2))⟩, ⟨(some 10), none, (.len (.t 9))⟩, ⟨(some 11), none, (.mov (.t 0))⟩, ⟨(some 12), none, (.bin false .neq (.t 10) (.t 11))⟩]) (.cond (.t 12) (.seq (.reg [⟨(some 6), none, (.mov (.c (.bool false)))⟩]) .ret) .skip)) (.seq (.seq (.reg [⟨(some 13), none, (.mov (.t 2))⟩, ⟨(some 14), none, (.len (.t 13))⟩, ⟨(some 15), none, (.mov (.c (.int .i64 0)))⟩]) (.block 0 (.loop sc_i_isChainOf_L0))) (.seq (.reg [⟨(some 6), none, (.mov (.c (.bool true)))⟩]) .ret))))
theorem code_i_isChainOf : fnCode Try.prog [] 108 = some (27, sc_i_isChainOf, [(6, none)]) := by kernel_rfl
def inP (p : Int) (x : List Int) : Prop := ∀ j, j < x.length → 0 ≤ at0 x j ∧ at0 x j < p
noncomputable def F_i_isChainOf : List V → Option V := F3 dI dI dL fun n p x => some (.bool (dec ((x.length : Int) = n ∧ inP p x)))
theorem fn_i_isChainOf : FnOk Try.prog 108 F_i_isChainOf := by
  refine fn_ok code_i_isChainOf mixed envNil_ok ?_
  intro args r h hb
  obtain ⟨_, _, _, n, p, x, rfl, h1, h2, h3, h4⟩ := F3_inv h
  cases dI_inv h1
  cases dI_inv h2
  cases dL_inv h3
  cases h4
  clear h
  have hlen := bnd_ints (hb (.list 1 (ints x)) (by simp))
  refine ⟨by simp, fun w0 U0 L0 N0 => ?_⟩
  clear hb
  generalize hv : dec ((x.length : Int) = n ∧ inP p x) = v
  by_cases hn : (x.length : Int) = n
  rotate_left
  · have hv1 : v = false := hv ▸ dec_false fun h => hn h.1
    simp -implicitDefEqProofs [sc_i_isChainOf, hn, hv1]
  simp -implicitDefEqProofs [sc_i_isChainOf, hn]
  refine loopI envNil_ok mixed (fun k : Nat => [(1, .int .i64 p), (13, .list 1 (ints x)), (14, .int .i64 (x.length : Int)), (15, .int .i64 (k : Int))]) (fun _ => ([], 0)) (fun k => k ≤ x.length ∧ ∀ j, j < k → 0 ≤ at0 x j ∧ at0 x j < p) (fun k => x.length - k) 0 (by simp) (SubI.slots (by simp) (by simp [hn])) ?_
  rintro k ⟨hk, hI⟩
  by_cases hlt : k < x.length
  · by_cases h1 : at0 x k < 0
    · have hv1 : v = false := hv ▸ dec_false fun h => by have := (h.2 k hlt).1; omega
      simp -implicitDefEqProofs [sc_i_isChainOf_L0, hlt, h1, hv1]
      try omega
    by_cases h2 : p ≤ at0 x k
    · have hv1 : v = false := hv ▸ dec_false fun h => by have := (h.2 k hlt).2; omega
      simp -implicitDefEqProofs [sc_i_isChainOf_L0, hlt, h1, h2, hv1]
      try omega
    simp -implicitDefEqProofs [sc_i_isChainOf_L0, hlt, h1, h2]
    repeat' (first | omega | apply And.intro)
    refine Again.of (k + 1) ⟨by omega, fun j hj => ?_⟩ (by omega) (SubI.slots rfl (by simp (disch := omega) [wrapI]))
    rcases Nat.lt_succ_iff_lt_or_eq.1 hj with h | rfl
    · exact hI j h
    · exact ⟨by omega, by omega⟩
  · have : k = x.length := by omega
    subst this
    have hv1 : v = true := hv ▸ dec_true ⟨hn, hI⟩
    simp -implicitDefEqProofs [sc_i_isChainOf_L0, hv1]
end Go.Proofs.Ytncnohompmcddaa
