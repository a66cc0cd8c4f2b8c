import Derived.Test.YtncnohompmcddaaGcR
import Derived.Test.YtncnohompmcddaaHaG
import Derived.Test.YtncnohompmcddaaHaE
namespace Go.Proofs.Ytncnohompmcddaa
open Go Go.RowKit
set_option maxRecDepth 1000000
set_option linter.unusedSimpArgs false
set_option linter.unusedVariables false
set_option maxHeartbeats 1000000
def sc_s_IsOrientable : SC := (.seq (.reg [⟨(some 1), none, (.box (.t 0))⟩, ⟨(some 2), none, (.mov (.c (.bool false)))⟩]) (.seq (.reg [⟨(some 4), none, (.ld (some 2) .undef (.t 1))⟩, ⟨(some 5), none, (.call 34 [(.t 4), (.c (.int .i64 3))])⟩, ⟨(some 3), none, (.mov (.t 5))⟩]) (.seq (.reg [⟨(some 6), none, (.ld (some 2) .undef (.t 1))⟩, ⟨(some 7), none, (.call 69 [(.t 6)])⟩, ⟨(some 8), none, (.mov (.t 7))⟩, ⟨(some 9), (some (8, true)), (.mov (.t 3))⟩, ⟨(some 10), (some (8, true)), (.mov (.t 3))⟩, ⟨(some 11), (some (8, true)), (.len (.t 10))⟩, ⟨(some 12), (some (8, true)), (.bin false .sub (.t 11) (.c (.int .i64 1)))⟩, ⟨(some 13), (some (8, true)), (.idx 1 (.t 9) (.t 12))⟩, ⟨(some 14), (some (8, true)), (.ld none (.int .i64 0) (.t 13))⟩, ⟨(some 15), (some (8, true)), (.bin false .eql (.t 14) (.c (.int .i64 1)))⟩, ⟨(some 16), none, (.pick (.t 8) (.t 15) (.c (.bool false)))⟩, ⟨(some 2), none, (.mov (.t 16))⟩]) .ret)))
theorem code_s_IsOrientable : fnCode Try.prog [] 29 = some (17, sc_s_IsOrientable, [(2, none)]) := by kernel_rfl
def oriP (n : Int) (l : List Int) : Prop := surfP n l ∧ at0 (hmL n l 3) ((hmL n l 3).length - 1) = 1
theorem ori_len {n : Int} {l : List Int} (h : surfP n l) : 0 < (hmL n l 3).length ∧ (hmL n l 3).length ≤ 7 := by
  have hd : dimZ n l = 2 := h.1
  have hc := dimZ_cplx (n := n) (l := l) (by omega)
  have ht : dimZ n l = topZ (faceS l) - 1 := by unfold dimZ; rw [if_pos hc]
  have e : hmL n l 3 = holL 3 (faceS l) := if_pos ⟨hc, .inr (.inl rfl)⟩
  have h1 := holL_len 3 (faceS l)
  rw [e]
  omega
open Classical in
noncomputable def F_s_IsOrientable : List V → Option V := F1 dC fun c => if allR c.2 then some (.bool (dec (oriP c.1 c.2))) else none
theorem fn_s_IsOrientable : FnOk Try.prog 29 F_s_IsOrientable := by
  have env := ((envNil_ok (P := Try.prog)).add fn_s_IsSurface).add fn_s_HolesMod
  refine fn_ok code_s_IsOrientable mixed env ?_
  intro args r h hb
  obtain ⟨_, ⟨n, l⟩, rfl, h1, h4⟩ := F1_inv h
  cases dC_inv h1
  simp only [Option.ite_none_right_eq_some, Option.some.injEq] at h4
  obtain ⟨hR, rfl⟩ := h4
  clear h
  refine ⟨by simp, fun w0 U0 L0 N0 => ?_⟩
  clear hb
  generalize hv : dec (oriP n l) = v
  have hFH : F_s_HolesMod [.agg [.int .i64 n, .list 1 (ints l)], .int .i64 3] = some (.own 1 (ints (hmL n l 3))) := by simp [F_s_HolesMod]
  by_cases hs : surfP n l
  rotate_left
  · have hv1 : v = false := hv ▸ dec_false fun h => hs h.1
    have hd := dec_false hs
    generalize hmL n l 3 = H at *
    simp -implicitDefEqProofs [sc_s_IsOrientable, F_s_IsSurface, hFH, hR, hd, hv1]
  have hd := dec_true hs
  have hlen := ori_len hs
  have hv1 : v = (at0 (hmL n l 3) ((hmL n l 3).length - 1) == 1) := by
    rw [← hv, Bool.eq_iff_iff, dec_iff, beq_iff_eq]
    exact ⟨fun h => h.2, fun h => ⟨hs, h⟩⟩
  generalize hmL n l 3 = H at *
  have hw : IntKind.i64.wrap ((H.length : Int) - 1) = ((H.length - 1 : Nat) : Int) := by rw [wrapI _ (by omega) (by omega)]; omega
  have hlast : H.length - 1 < H.length := by omega
  simp -implicitDefEqProofs [sc_s_IsOrientable, F_s_IsSurface, hFH, hR, hd, hw, hlast, hv1]
  try omega
def sc_i_IsOrientable : SC := (.seq (.reg [⟨(some 1), none, (.box (.t 0))⟩, ⟨(some 2), none, (.mov (.c (.bool false)))⟩]) (.seq (.seq (.reg [⟨(some 4), none, (.ld (some 2) .undef (.t 1))⟩, ⟨(some 5), none, (.call 70 [(.t 4)])⟩, ⟨(some 6), none, (.un .not (.t 5))⟩]) (.cond (.t 6) (.seq (.reg [⟨(some 2), none, (.mov (.c (.bool false)))⟩]) .ret) .skip)) (.seq (.reg [⟨(some 7), none, (.ld (some 2) .undef (.t 1))⟩, ⟨(some 8), none, (.call 71 [(.t 7), (.c (.int .i64 3))])⟩, ⟨(some 3), none, (.mov (.t 8))⟩]) (.seq (.reg [⟨(some 9), none, (.mov (.t 3))⟩, ⟨(some 10), none, (.mov (.t 3))⟩, ⟨(some 11), none, (.len (.t 10))⟩, ⟨(some 12), none, (.bin false .sub (.t 11) (.c (.int .i64 1)))⟩, ⟨(some 13), none, (.idx 1 (.t 9) (.t 12))⟩, ⟨(some 14), none, (.ld none (.int .i64 0) (.t 13))⟩, ⟨(some 15), none, (.bin false .eql (.t 14) (.c (.int .i64 1)))⟩, ⟨(some 2), none, (.mov (.t 15))⟩]) .ret))))
theorem code_i_IsOrientable : fnCode Try.prog [] 30 = some (16, sc_i_IsOrientable, [(2, none)]) := by kernel_rfl
theorem fn_i_IsOrientable : FnOk Try.prog 30 F_s_IsOrientable := by
  have env := ((envNil_ok (P := Try.prog)).add fn_i_IsSurface).add fn_i_HolesMod
  refine fn_ok code_i_IsOrientable mixed env ?_
  intro args r h hb
  obtain ⟨_, ⟨n, l⟩, rfl, h1, h4⟩ := F1_inv h
  cases dC_inv h1
  simp only [Option.ite_none_right_eq_some, Option.some.injEq] at h4
  obtain ⟨hR, rfl⟩ := h4
  clear h
  refine ⟨by simp, fun w0 U0 L0 N0 => ?_⟩
  clear hb
  generalize hv : dec (oriP n l) = v
  have hFH : F_s_HolesMod [.agg [.int .i64 n, .list 1 (ints l)], .int .i64 3] = some (.own 1 (ints (hmL n l 3))) := by simp [F_s_HolesMod]
  by_cases hs : surfP n l
  rotate_left
  · have hv1 : v = false := hv ▸ dec_false fun h => hs h.1
    have hd := dec_false hs
    generalize hmL n l 3 = H at *
    simp -implicitDefEqProofs [sc_i_IsOrientable, F_s_IsSurface, hFH, hR, hd, hv1]
  have hd := dec_true hs
  have hlen := ori_len hs
  have hv1 : v = (at0 (hmL n l 3) ((hmL n l 3).length - 1) == 1) := by
    rw [← hv, Bool.eq_iff_iff, dec_iff, beq_iff_eq]
    exact ⟨fun h => h.2, fun h => ⟨hs, h⟩⟩
  generalize hmL n l 3 = H at *
  have hw : IntKind.i64.wrap ((H.length : Int) - 1) = ((H.length - 1 : Nat) : Int) := by rw [wrapI _ (by omega) (by omega)]; omega
  have hlast : H.length - 1 < H.length := by omega
  simp -implicitDefEqProofs [sc_i_IsOrientable, F_s_IsSurface, hFH, hR, hd, hw, hlast, hv1]
  try omega
end Go.Proofs.Ytncnohompmcddaa
