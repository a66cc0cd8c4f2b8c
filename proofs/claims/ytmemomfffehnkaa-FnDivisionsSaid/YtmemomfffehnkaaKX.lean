import Derived.Test.YtmemomfffehnkaaKH
namespace Go.Proofs.Ytmemomfffehnkaa
open Go Go.RowKit
set_option maxRecDepth 1000000
set_option linter.unusedSimpArgs false
set_option linter.unusedVariables false
set_option maxHeartbeats 1000000
def sc_i_intervalOf_1 : SC := (.seq (.reg [⟨(some 4), none, (.mov (.c (.bool false)))⟩]) (.seq (.reg [⟨(some 5), none, (.ld none (.int .i64 0) (.t 1))⟩, ⟨(some 6), none, (.mov (.t 0))⟩, ⟨(some 7), none, (.bin false .andNot (.t 5) (.t 6))⟩, ⟨(some 8), none, (.bin false .eql (.t 7) (.c (.int .i64 0)))⟩, ⟨(some 9), none, (.mov (.t 8))⟩, ⟨(some 10), (some (9, true)), (.mov (.t 0))⟩, ⟨(some 11), (some (9, true)), (.ld none (.int .i64 0) (.t 2))⟩, ⟨(some 12), (some (9, true)), (.bin false .andNot (.t 10) (.t 11))⟩, ⟨(some 13), (some (9, true)), (.bin false .eql (.t 12) (.c (.int .i64 0)))⟩, ⟨(some 14), none, (.pick (.t 9) (.t 13) (.c (.bool false)))⟩, ⟨(some 4), none, (.mov (.t 14))⟩]) .ret))
theorem code_i_intervalOf_1 : fnCode Try.prog [] 229 = some (15, sc_i_intervalOf_1, [(4, none)]) := by kernel_rfl
noncomputable def F_i_intervalOf_1 : List V → Option V
  | [.int .i64 s, .rp [.int .i64 a], .rp [.int .i64 b]] => some (.bool (dec (subS a s ∧ subS s b)))
  | _ => none
theorem fn_i_intervalOf_1 : FnOk Try.prog 229 F_i_intervalOf_1 := by
  refine fn_ok code_i_intervalOf_1 mixed envNil_ok ?_
  intro args r h hb
  unfold F_i_intervalOf_1 at h
  split at h
  case h_2 => simp at h
  rename_i s a b
  cases h
  refine ⟨by simp, fun w0 U0 L0 N0 => ?_⟩
  generalize hv : dec (subS a s ∧ subS s b) = v
  by_cases h1 : bnot a s = 0
  · by_cases h2 : bnot s b = 0
    · have hv1 : v = true := hv ▸ dec_true ⟨h1, h2⟩
      simp -implicitDefEqProofs [sc_i_intervalOf_1, h1, h2, hv1]
    · have hv1 : v = false := hv ▸ dec_false fun h => h2 h.2
      simp -implicitDefEqProofs [sc_i_intervalOf_1, h1, h2, hv1]
  · have hv1 : v = false := hv ▸ dec_false fun h => h1 h.1
    simp -implicitDefEqProofs [sc_i_intervalOf_1, h1, hv1]
def sc_i_intervalOf : SC := (.seq (.reg [⟨(some 2), none, (.box (.t 0))⟩, ⟨(some 3), none, (.box (.t 1))⟩, ⟨(some 4), none, (.mov (.c (.int .u64 0)))⟩]) (.seq (.reg [⟨(some 5), none, (.fn 229 [(.t 2), (.t 3)])⟩, ⟨(some 6), none, (.call 227 [(.c (.int .i64 6)), (.t 5)])⟩, ⟨(some 4), none, (.mov (.t 6))⟩]) .ret))
theorem code_i_intervalOf : fnCode Try.prog [] 204 = some (7, sc_i_intervalOf, [(4, none)]) := by kernel_rfl
open Classical in
noncomputable def F_i_intervalOf : List V → Option V := F2 dI dI fun a b => some (.int .u64 (fam fun s => subS a s ∧ subS s b))
theorem fn_i_intervalOf : FnOk Try.prog 204 F_i_intervalOf := by
  have env := (envNil_ok (P := Try.prog)).add (fn_i_pickSets fn_i_intervalOf_1)
  refine fn_ok code_i_intervalOf mixed env ?_
  intro args r h hb
  obtain ⟨_, _, a, b, rfl, h1, h2, h4⟩ := F2_inv h
  cases dI_inv h1
  cases dI_inv h2
  cases h4
  refine ⟨by simp, fun w0 U0 L0 N0 => ?_⟩
  have e : F_i_pickSets 229 F_i_intervalOf_1 [.int .i64 6, .fn 229 [.rp [.int .i64 a], .rp [.int .i64 b]]] = some (.int .u64 (fam fun s => subS a s ∧ subS s b)) := by
    simp only [F_i_pickSets]
    rw [if_pos ⟨rfl, by omega, by omega, fun H => by simp, fun s _ _ => ⟨_, rfl⟩⟩]
    congr 2
    refine fam_congr fun s hs => ?_
    have : s < 2 ^ (6 : Int).toNat := hs.2
    simp only [this, true_and, F_i_intervalOf_1, Option.some.injEq, V.bool.injEq]
    exact dec_iff
  simp -implicitDefEqProofs [sc_i_intervalOf, e]
end Go.Proofs.Ytmemomfffehnkaa
