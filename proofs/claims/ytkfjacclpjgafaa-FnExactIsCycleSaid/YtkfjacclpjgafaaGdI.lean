import Derived.Test.YtkfjacclpjgafaaGdH
import Derived.Test.YtkfjacclpjgafaaGdF
namespace Go.Proofs.Ytkfjacclpjgafaa
open Go Go.RowKit
set_option maxRecDepth 1000000
set_option linter.unusedSimpArgs false
set_option linter.unusedVariables false
set_option maxHeartbeats 1000000
def sc_s_IsCycle : SC := (.seq (.reg [⟨(some 4), none, (.box (.t 0))⟩, ⟨(some 8), none, (.mov (.c (.bool false)))⟩]) (.seq (.reg [⟨(some 12), none, (.ld (some 2) .undef (.t 4))⟩, ⟨(some 13), none, (.mov (.t 1))⟩, ⟨(some 14), none, (.mov (.t 2))⟩, ⟨(some 15), none, (.mov (.t 3))⟩, ⟨(some 16), none, (.call 42 [(.t 12), (.t 13), (.t 14), (.t 15)])⟩, ⟨(some 11), none, (.mov (.t 16))⟩, ⟨(some 17), none, (.ext 0 (.t 11))⟩, ⟨(some 18), none, (.ext 1 (.t 11))⟩, ⟨(some 9), none, (.mov (.t 17))⟩, ⟨(some 10), none, (.mov (.t 18))⟩]) (.seq (.reg [⟨(some 19), none, (.mov (.t 10))⟩, ⟨(some 20), none, (.mov (.t 19))⟩, ⟨(some 21), (some (20, true)), (.mov (.t 9))⟩, ⟨(some 22), (some (20, true)), (.call 106 [(.t 21)])⟩, ⟨(some 23), none, (.pick (.t 20) (.t 22) (.c (.bool false)))⟩, ⟨(some 8), none, (.mov (.t 23))⟩]) .ret)))
theorem code_s_IsCycle : fnCode Try.prog [] 50 = some (24, sc_s_IsCycle, [(8, none)]) := by kernel_rfl
def cycP (n : Int) (l : List Int) (k p : Int) (x : List Int) : Prop := chnP n l k p x ∧ zerP (bochL n l k p x)
noncomputable def F_s_IsCycle : List V → Option V := F4 dC dI dI dL fun c k p x => some (.bool (dec (cycP c.1 c.2 k p x)))
theorem fn_s_IsCycle : FnOk Try.prog 50 F_s_IsCycle := by
  have env := ((envNil_ok (P := Try.prog)).add fn_s_BorderOfChain).add fn_s_l16Zero
  refine fn_ok code_s_IsCycle mixed env ?_
  intro args r h hb
  obtain ⟨_, _, _, _, ⟨n, l⟩, k, p, x, rfl, h1, h2, h3, h5, h4⟩ := F4_inv h
  cases dC_inv h1
  cases dI_inv h2
  cases dI_inv h3
  cases dL_inv h5
  cases h4
  clear h
  refine ⟨by simp, fun w0 U0 L0 N0 => ?_⟩
  clear hb
  generalize hv : dec (cycP n l k p x) = v
  have hFB : F_s_BorderOfChain [.agg [.int .i64 n, .list 1 (ints l)], .int .i64 k, .int .i64 p, .list 1 (ints x)] = some (.tup [.own 1 (ints (bochL n l k p x)), .bool (dec (chnP n l k p x))]) := by simp [F_s_BorderOfChain]
  unfold cycP at hv
  generalize bochL n l k p x = O at *
  by_cases hP : chnP n l k p x
  rotate_left
  · have hv1 : v = false := hv ▸ dec_false fun h => hP h.1
    rw [dec_false hP] at hFB
    simp -implicitDefEqProofs [sc_s_IsCycle, hFB, hv1]
  rw [dec_true hP] at hFB
  have hv1 : dec (zerP O) = v := by
    rw [← hv, Bool.eq_iff_iff, dec_iff, dec_iff]
    exact ⟨fun h => ⟨hP, h⟩, fun h => h.2⟩
  simp -implicitDefEqProofs [sc_s_IsCycle, hFB, F_s_l16Zero, hv1]
def sc_i_IsCycle : SC := (.seq (.reg [⟨(some 4), none, (.box (.t 0))⟩, ⟨(some 8), none, (.mov (.c (.bool false)))⟩]) (.seq (.reg [⟨(some 12), none, (.ld (some 2) .undef (.t 4))⟩, ⟨(some 13), none, (.mov (.t 1))⟩, ⟨(some 14), none, (.mov (.t 2))⟩, ⟨(some 15), none, (.mov (.t 3))⟩, ⟨(some 16), none, (.call 43 [(.t 12), (.t 13), (.t 14), (.t 15)])⟩, ⟨(some 11), none, (.mov (.t 16))⟩, ⟨(some 17), none, (.ext 0 (.t 11))⟩, ⟨(some 18), none, (.ext 1 (.t 11))⟩, ⟨(some 9), none, (.mov (.t 17))⟩, ⟨(some 10), none, (.mov (.t 18))⟩]) (.seq (.reg [⟨(some 19), none, (.mov (.t 10))⟩, ⟨(some 20), none, (.mov (.t 19))⟩, ⟨(some 21), (some (20, true)), (.mov (.t 9))⟩, ⟨(some 22), (some (20, true)), (.call 107 [(.t 21)])⟩, ⟨(some 23), none, (.pick (.t 20) (.t 22) (.c (.bool false)))⟩, ⟨(some 8), none, (.mov (.t 23))⟩]) .ret)))
theorem code_i_IsCycle : fnCode Try.prog [] 51 = some (24, sc_i_IsCycle, [(8, none)]) := by kernel_rfl
theorem fn_i_IsCycle : FnOk Try.prog 51 F_s_IsCycle := by
  have env := ((envNil_ok (P := Try.prog)).add fn_i_BorderOfChain).add fn_i_isZeroList
  refine fn_ok code_i_IsCycle mixed env ?_
  intro args r h hb
  obtain ⟨_, _, _, _, ⟨n, l⟩, k, p, x, rfl, h1, h2, h3, h5, h4⟩ := F4_inv h
  cases dC_inv h1
  cases dI_inv h2
  cases dI_inv h3
  cases dL_inv h5
  cases h4
  clear h
  refine ⟨by simp, fun w0 U0 L0 N0 => ?_⟩
  clear hb
  generalize hv : dec (cycP n l k p x) = v
  have hFB : F_s_BorderOfChain [.agg [.int .i64 n, .list 1 (ints l)], .int .i64 k, .int .i64 p, .list 1 (ints x)] = some (.tup [.own 1 (ints (bochL n l k p x)), .bool (dec (chnP n l k p x))]) := by simp [F_s_BorderOfChain]
  unfold cycP at hv
  generalize bochL n l k p x = O at *
  by_cases hP : chnP n l k p x
  rotate_left
  · have hv1 : v = false := hv ▸ dec_false fun h => hP h.1
    rw [dec_false hP] at hFB
    simp -implicitDefEqProofs [sc_i_IsCycle, hFB, hv1]
  rw [dec_true hP] at hFB
  have hv1 : dec (zerP O) = v := by
    rw [← hv, Bool.eq_iff_iff, dec_iff, dec_iff]
    exact ⟨fun h => ⟨hP, h⟩, fun h => h.2⟩
  simp -implicitDefEqProofs [sc_i_IsCycle, hFB, F_s_l16Zero, hv1]
end Go.Proofs.Ytkfjacclpjgafaa
