import Derived.Test.YtncnohompmcddaaGdA
namespace Go.Proofs.Ytncnohompmcddaa
open Go Go.RowKit
set_option maxRecDepth 1000000
set_option linter.unusedSimpArgs false
set_option linter.unusedVariables false
set_option maxHeartbeats 1000000
def sc_s_l13Sign : SC := (.seq (.reg [⟨(some 4), none, (.mov (.c (.int .i64 0)))⟩]) (.seq (.seq (.reg [⟨(some 6), none, (.mov (.t 0))⟩, ⟨(some 7), none, (.mov (.t 1))⟩, ⟨(some 8), none, (.bin false .and (.t 6) (.t 7))⟩, ⟨(some 9), none, (.mov (.t 0))⟩, ⟨(some 10), none, (.bin false .neq (.t 8) (.t 9))⟩, ⟨(some 11), none, (.mov (.t 10))⟩, ⟨(some 12), (some (11, false)), (.mov (.t 1))⟩, ⟨(some 13), (some (11, false)), (.call 36 [(.t 12)])⟩, ⟨(some 14), (some (11, false)), (.mov (.t 0))⟩, ⟨(some 15), (some (11, false)), (.call 36 [(.t 14)])⟩, ⟨(some 16), (some (11, false)), (.bin false .sub (.t 13) (.t 15))⟩, ⟨(some 17), (some (11, false)), (.bin false .neq (.t 16) (.c (.int .i64 1)))⟩, ⟨(some 18), none, (.pick (.t 11) (.c (.bool true)) (.t 17))⟩]) (.cond (.t 18) (.seq (.reg [⟨(some 4), none, (.mov (.c (.int .i64 0)))⟩]) .ret) .skip)) (.seq (.reg [⟨(some 19), none, (.mov (.t 1))⟩, ⟨(some 20), none, (.mov (.t 0))⟩, ⟨(some 21), none, (.bin false .sub (.t 19) (.t 20))⟩, ⟨(some 5), none, (.mov (.t 21))⟩]) (.seq (.reg [⟨(some 22), none, (.mov (.t 1))⟩, ⟨(some 23), none, (.mov (.t 5))⟩, ⟨(some 24), none, (.bin false .sub (.t 23) (.c (.int .i64 1)))⟩, ⟨(some 25), none, (.bin false .and (.t 22) (.t 24))⟩, ⟨(some 26), none, (.call 36 [(.t 25)])⟩, ⟨(some 27), none, (.bin false .rem (.t 26) (.c (.int .i64 2)))⟩, ⟨(some 28), none, (.bin false .mul (.c (.int .i64 2)) (.t 27))⟩, ⟨(some 29), none, (.bin false .sub (.c (.int .i64 1)) (.t 28))⟩, ⟨(some 4), none, (.mov (.t 29))⟩]) .ret))))
theorem code_s_l13Sign : fnCode Try.prog [] 88 = some (30, sc_s_l13Sign, [(4, none)]) := by kernel_rfl
theorem fn_s_l13Sign : FnOk Try.prog 88 F_s_l13Sign := by
  have env := (envNil_ok (P := Try.prog)).add fn_s_l2Size
  refine fn_ok code_s_l13Sign mixed env ?_
  intro args r h hb
  obtain ⟨_, _, r, s, rfl, h1, h2, h4⟩ := F2_inv h
  cases dI_inv h1
  cases dI_inv h2
  simp only [Option.ite_none_right_eq_some, Option.some.injEq] at h4
  obtain ⟨⟨hr, hs, hz⟩, rfl⟩ := h4
  clear h
  refine ⟨by simp, fun w0 U0 L0 N0 => ?_⟩
  clear hb
  by_cases hsub : subS r s
  rotate_left
  · have e := sgnZ_no (r := r) (s := s) hsub
    have h : ¬ band r s = r := fun h => hsub ((subS_iff hr hs).2 h)
    simp -implicitDefEqProofs [sc_s_l13Sign, h, e]
  have h := (subS_iff hr hs).1 hsub
  have e := sgnZ_yes (r := r) (s := s) hsub
  obtain ⟨q1, q2⟩ := sgn_set hr hs hz hsub
  have q3 := q1.1
  have q4 := q1.2
  have hb := isS_band hs q2
  have b1 : r < 9223372036854775808 := by have := hr.2; omega
  have b2 : s < 9223372036854775808 := by have := hs.2; omega
  have b3 : band s (bnot s r - 1) < 9223372036854775808 := by have := hb.2; omega
  have hsz : IntKind.i64.wrap (sz s - sz r) = 1 := by rw [wrapI _ (by omega) (by omega)]; omega
  have hsr : IntKind.i64.wrap (s - r) = bnot s r := by rw [sub_eq_bnot hr hs hsub, wrapI _ (by omega) (by omega)]
  have hw : IntKind.i64.wrap (bnot s r - 1) = bnot s r - 1 := wrapI _ (by omega) (by omega)
  have hz0 := sz_nn (band s (bnot s r - 1))
  generalize hzz : sz (band s (bnot s r - 1)) = z at *
  have ht := tmod_nn 2 hz0
  have hw2 : IntKind.i64.wrap (2 * (z % 2)) = 2 * (z % 2) := wrapI _ (by omega) (by omega)
  have hw3 : IntKind.i64.wrap (1 - 2 * (z % 2)) = 1 - 2 * (z % 2) := wrapI _ (by omega) (by omega)
  simp -implicitDefEqProofs [sc_s_l13Sign, F_s_l2Size, h, b1, b2, b3, hsz, hsr, hw, hzz, ht, hw2, hw3, e]
end Go.Proofs.Ytncnohompmcddaa
