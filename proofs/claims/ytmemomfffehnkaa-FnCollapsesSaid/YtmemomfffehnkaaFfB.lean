import Derived.Test.YtmemomfffehnkaaFfA
namespace Go.Proofs.Ytmemomfffehnkaa
open Go Go.RowKit
set_option maxRecDepth 1000000
set_option linter.unusedSimpArgs false
set_option linter.unusedVariables false
set_option maxHeartbeats 1000000
def sc_s_IsCollapsed : SC := (.seq (.reg [⟨(some 1), none, (.box (.t 0))⟩, ⟨(some 2), none, (.mov (.c (.bool false)))⟩]) (.seq (.reg [⟨(some 4), none, (.ld (some 2) .undef (.t 1))⟩, ⟨(some 5), none, (.call 77 [(.t 4)])⟩, ⟨(some 3), none, (.mov (.t 5))⟩]) (.seq (.reg [⟨(some 6), none, (.ld (some 2) .undef (.t 1))⟩, ⟨(some 7), none, (.call 24 [(.t 6)])⟩, ⟨(some 8), none, (.mov (.t 7))⟩, ⟨(some 9), (some (8, true)), (.mov (.t 3))⟩, ⟨(some 10), (some (8, true)), (.len (.t 9))⟩, ⟨(some 11), (some (8, true)), (.bin false .eql (.t 10) (.c (.int .i64 0)))⟩, ⟨(some 12), (some (8, true)), (.mov (.t 11))⟩, ⟨(some 13), (some (12, false)), (.mov (.t 3))⟩, ⟨(some 14), (some (12, false)), (.mov (.t 3))⟩, ⟨(some 15), (some (12, false)), (.len (.t 14))⟩, ⟨(some 16), (some (12, false)), (.bin false .sub (.t 15) (.c (.int .i64 1)))⟩, ⟨(some 17), (some (12, false)), (.idx 1 (.t 13) (.t 16))⟩, ⟨(some 18), (some (12, false)), (.ld none (.int .i64 0) (.t 17))⟩, ⟨(some 19), (some (12, false)), (.bin false .eql (.t 18) (.c (.int .i64 0)))⟩, ⟨(some 20), (some (8, true)), (.pick (.t 12) (.c (.bool true)) (.t 19))⟩, ⟨(some 21), none, (.pick (.t 8) (.t 20) (.c (.bool false)))⟩, ⟨(some 2), none, (.mov (.t 21))⟩]) .ret)))
theorem code_s_IsCollapsed : fnCode Try.prog [] 75 = some (22, sc_s_IsCollapsed, [(2, none)]) := by kernel_rfl
def collP (n : Int) (l : List Int) : Prop := cplx n l ∧ (freeL n l = [] ∨ at0 (freeL n l) ((freeL n l).length - 1) = 0)
noncomputable def F_s_IsCollapsed : List V → Option V := F1 dC fun c => some (.bool (dec (collP c.1 c.2)))
theorem fn_s_IsCollapsed : FnOk Try.prog 75 F_s_IsCollapsed := by
  have env := ((envNil_ok (P := Try.prog)).add fn_s_FreeFaces).add fn_s_IsComplex
  refine fn_ok code_s_IsCollapsed mixed env ?_
  intro args r h hb
  obtain ⟨_, ⟨n, l⟩, rfl, h1, h4⟩ := F1_inv h
  cases dC_inv h1
  cases h4
  refine ⟨by simp, fun w0 U0 L0 N0 => ?_⟩
  clear h
  generalize hv : dec (collP n l) = v
  have hLl : (freeL n l).length ≤ 64 := setsOf_len _
  unfold collP at hv
  cases e0 : cplxB n l with
  | false =>
    have hv1 : v = false := hv ▸ dec_false fun h => by simp [cplxB_iff.2 h.1] at e0
    simp -implicitDefEqProofs [sc_s_IsCollapsed, F_s_IsComplex, F_s_FreeFaces, e0, hv1]
  | true =>
    have hc := cplxB_iff.1 e0
    generalize hf : freeL n l = L at *
    by_cases hne : L = []
    · have hv1 : v = true := hv ▸ dec_true ⟨hc, .inl hne⟩
      simp -implicitDefEqProofs [sc_s_IsCollapsed, F_s_IsComplex, F_s_FreeFaces, e0, hf, hne, hv1]
    · have hpos := List.length_pos_iff.2 hne
      have hw : IntKind.i64.wrap ((L.length : Int) - 1) = ((L.length - 1 : Nat) : Int) := by rw [wrapI _ (by omega) (by omega)]; omega
      have hlast : L.length - 1 < L.length := by omega
      have hv1 : v = (at0 L (L.length - 1) == 0) := by
        rw [← hv, Bool.eq_iff_iff, dec_iff, beq_iff_eq]
        exact ⟨fun h => h.2.elim (fun e => absurd e hne) id, fun h => ⟨hc, .inr h⟩⟩
      simp -implicitDefEqProofs [sc_s_IsCollapsed, F_s_IsComplex, F_s_FreeFaces, e0, hf, hne, hw, hv1]
      try omega
def sc_i_IsCollapsed : SC := (.seq (.reg [⟨(some 1), none, (.box (.t 0))⟩, ⟨(some 2), none, (.mov (.c (.bool false)))⟩]) (.seq (.seq (.reg [⟨(some 4), none, (.ld (some 2) .undef (.t 1))⟩, ⟨(some 5), none, (.call 130 [(.t 4)])⟩, ⟨(some 6), none, (.un .not (.t 5))⟩]) (.cond (.t 6) (.seq (.reg [⟨(some 2), none, (.mov (.c (.bool false)))⟩]) .ret) .skip)) (.seq (.reg [⟨(some 7), none, (.ld (some 2) .undef (.t 1))⟩, ⟨(some 8), none, (.call 76 [(.t 7)])⟩, ⟨(some 3), none, (.mov (.t 8))⟩]) (.seq (.reg [⟨(some 9), none, (.mov (.t 3))⟩, ⟨(some 10), none, (.len (.t 9))⟩, ⟨(some 11), none, (.bin false .eql (.t 10) (.c (.int .i64 0)))⟩, ⟨(some 12), none, (.mov (.t 11))⟩, ⟨(some 13), (some (12, false)), (.mov (.t 3))⟩, ⟨(some 14), (some (12, false)), (.mov (.t 3))⟩, ⟨(some 15), (some (12, false)), (.len (.t 14))⟩, ⟨(some 16), (some (12, false)), (.bin false .sub (.t 15) (.c (.int .i64 1)))⟩, ⟨(some 17), (some (12, false)), (.idx 1 (.t 13) (.t 16))⟩, ⟨(some 18), (some (12, false)), (.ld none (.int .i64 0) (.t 17))⟩, ⟨(some 19), (some (12, false)), (.bin false .eql (.t 18) (.c (.int .i64 0)))⟩, ⟨(some 20), none, (.pick (.t 12) (.c (.bool true)) (.t 19))⟩, ⟨(some 2), none, (.mov (.t 20))⟩]) .ret))))
theorem code_i_IsCollapsed : fnCode Try.prog [] 74 = some (21, sc_i_IsCollapsed, [(2, none)]) := by kernel_rfl
theorem fn_i_IsCollapsed : FnOk Try.prog 74 F_s_IsCollapsed := by
  have env := ((envNil_ok (P := Try.prog)).add fn_i_FreeFaces).add fn_i_IsComplex
  refine fn_ok code_i_IsCollapsed mixed env ?_
  intro args r h hb
  obtain ⟨_, ⟨n, l⟩, rfl, h1, h4⟩ := F1_inv h
  cases dC_inv h1
  cases h4
  refine ⟨by simp, fun w0 U0 L0 N0 => ?_⟩
  clear h
  generalize hv : dec (collP n l) = v
  have hLl : (freeL n l).length ≤ 64 := setsOf_len _
  unfold collP at hv
  cases e0 : cplxB n l with
  | false =>
    have hv1 : v = false := hv ▸ dec_false fun h => by simp [cplxB_iff.2 h.1] at e0
    simp -implicitDefEqProofs [sc_i_IsCollapsed, F_s_IsComplex, F_s_FreeFaces, e0, hv1]
  | true =>
    have hc := cplxB_iff.1 e0
    generalize hf : freeL n l = L at *
    by_cases hne : L = []
    · have hv1 : v = true := hv ▸ dec_true ⟨hc, .inl hne⟩
      simp -implicitDefEqProofs [sc_i_IsCollapsed, F_s_IsComplex, F_s_FreeFaces, e0, hf, hne, hv1]
    · have hpos := List.length_pos_iff.2 hne
      have hw : IntKind.i64.wrap ((L.length : Int) - 1) = ((L.length - 1 : Nat) : Int) := by rw [wrapI _ (by omega) (by omega)]; omega
      have hlast : L.length - 1 < L.length := by omega
      have hv1 : v = (at0 L (L.length - 1) == 0) := by
        rw [← hv, Bool.eq_iff_iff, dec_iff, beq_iff_eq]
        exact ⟨fun h => h.2.elim (fun e => absurd e hne) id, fun h => ⟨hc, .inr h⟩⟩
      simp -implicitDefEqProofs [sc_i_IsCollapsed, F_s_IsComplex, F_s_FreeFaces, e0, hf, hne, hw, hv1]
      try omega
end Go.Proofs.Ytmemomfffehnkaa
