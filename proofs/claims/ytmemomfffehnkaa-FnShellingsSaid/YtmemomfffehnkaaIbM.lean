import Derived.Test.YtmemomfffehnkaaIbL
import Derived.Test.YtmemomfffehnkaaIbP
namespace Go.Proofs.Ytmemomfffehnkaa
open Go Go.RowKit
set_option maxRecDepth 1000000
set_option linter.unusedSimpArgs false
set_option linter.unusedVariables false
set_option maxHeartbeats 1000000
def sc_i_FindShelling : SC := (.seq (.reg [⟨(some 1), none, (.box (.t 0))⟩, ⟨(some 2), none, (.mov (.c .nil))⟩, ⟨(some 3), none, (.mov (.c (.bool false)))⟩]) (.seq (.seq (.reg [⟨(some 4), none, (.ld (some 2) .undef (.t 1))⟩, ⟨(some 5), none, (.call 130 [(.t 4)])⟩, ⟨(some 6), none, (.un .not (.t 5))⟩]) (.cond (.t 6) (.seq (.reg [⟨(some 2), none, (.mov (.c .nil))⟩, ⟨(some 3), none, (.mov (.c (.bool false)))⟩]) .ret) .skip)) (.seq (.reg [⟨(some 7), none, (.fad 1 (.t 1))⟩, ⟨(some 8), none, (.ld none .nil (.t 7))⟩, ⟨(some 9), none, (.call 145 [(.t 8), (.c (.fn 146 []))])⟩, ⟨(some 10), none, (.ext 0 (.t 9))⟩, ⟨(some 11), none, (.ext 1 (.t 9))⟩, ⟨(some 2), none, (.mov (.t 10))⟩, ⟨(some 3), none, (.mov (.t 11))⟩]) .ret)))
theorem code_i_FindShelling : fnCode Try.prog [] 30 = some (12, sc_i_FindShelling, [(2, none), (3, none)]) := by kernel_rfl
theorem fn_i_FindShelling : FnOk Try.prog 30 F_s_FindShelling := by
  have env := ((envNil_ok (P := Try.prog)).add fn_i_IsComplex).add fn_i_leastOrder
  refine fn_ok code_i_FindShelling mixed env ?_
  intro args r h hb
  obtain ⟨_, ⟨n, l⟩, rfl, h1, h4⟩ := F1_inv h
  cases dC_inv h1
  cases h4
  clear h
  refine ⟨by simp, fun w0 U0 L0 N0 => ?_⟩
  clear hb
  simp only
  cases e0 : cplxB n l with
  | false =>
    have hP : ¬ fshP n l := fun h => by simp [cplxB_iff.2 h.1] at e0
    rw [fshL_no hP, dec_false hP]
    simp -implicitDefEqProofs [sc_i_FindShelling, F_s_IsComplex, e0]
  | true =>
  have hc := cplxB_iff.1 e0
  have hS := cplx_isS hc
  have hL : F_i_leastOrder [.list 1 (ints l), .fn 146 []] = some (.tup [.own 1 (ints (loL l)), .bool (dec (loP l))]) := by
    simp only [F_i_leastOrder, dL_list, Option.bind_some]
    rw [if_pos ⟨rfl, hS, cplx_nodup hc, fun h => srt_sf hc h⟩]
  have hi : fshP n l ↔ loP l := ⟨fun h => h.2, fun h => ⟨hc, h⟩⟩
  have e1 : fshL n l = loL l := by
    by_cases h : loP l
    · rw [fshL_yes (hi.2 h), loL_yes h]
    · rw [fshL_no fun h2 => h (hi.1 h2), loL_no h]
  have e2 : dec (fshP n l) = dec (loP l) := by rw [Bool.eq_iff_iff, dec_iff, dec_iff]; exact hi
  rw [e1, e2]
  simp -implicitDefEqProofs [sc_i_FindShelling, F_s_IsComplex, e0, hL]
def sc_i_IsShellable : SC := (.seq (.reg [⟨(some 1), none, (.box (.t 0))⟩, ⟨(some 2), none, (.mov (.c (.bool false)))⟩]) (.seq (.reg [⟨(some 6), none, (.ld (some 2) .undef (.t 1))⟩, ⟨(some 7), none, (.call 30 [(.t 6)])⟩, ⟨(some 5), none, (.mov (.t 7))⟩, ⟨(some 8), none, (.ext 0 (.t 5))⟩, ⟨(some 9), none, (.ext 1 (.t 5))⟩, ⟨(some 3), none, (.mov (.t 8))⟩, ⟨(some 4), none, (.mov (.t 9))⟩]) (.seq (.reg [⟨(some 10), none, (.mov (.t 4))⟩, ⟨(some 2), none, (.mov (.t 10))⟩]) .ret)))
theorem code_i_IsShellable : fnCode Try.prog [] 40 = some (11, sc_i_IsShellable, [(2, none)]) := by kernel_rfl
theorem fn_i_IsShellable : FnOk Try.prog 40 F_s_IsShellable := by
  have env := (envNil_ok (P := Try.prog)).add fn_i_FindShelling
  refine fn_ok code_i_IsShellable mixed env ?_
  intro args r h hb
  obtain ⟨_, ⟨n, l⟩, rfl, h1, h4⟩ := F1_inv h
  cases dC_inv h1
  cases h4
  clear h
  refine ⟨by simp, fun w0 U0 L0 N0 => ?_⟩
  simp -implicitDefEqProofs [sc_i_IsShellable, F_s_FindShelling]
end Go.Proofs.Ytmemomfffehnkaa
