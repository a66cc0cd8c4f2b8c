import Derived.Test.YtncnohompmcddaaHaA
import Derived.Test.YtncnohompmcddaaGdN
import Derived.Test.YtncnohompmcddaaGdP
import Derived.Test.YtncnohompmcddaaGdD
namespace Go.Proofs.Ytncnohompmcddaa
open Go Go.RowKit
set_option maxRecDepth 1000000
set_option linter.unusedSimpArgs false
set_option linter.unusedVariables false
set_option maxHeartbeats 1000000
def sc_i_rankOf : SC := (.seq (.reg [⟨(some 4), none, (.mov (.c (.int .i64 0)))⟩]) (.seq (.seq (.reg [⟨(some 5), none, (.mov (.t 0))⟩, ⟨(some 6), none, (.len (.t 5))⟩, ⟨(some 7), none, (.bin false .eql (.t 6) (.c (.int .i64 0)))⟩]) (.cond (.t 7) (.seq (.reg [⟨(some 4), none, (.mov (.c (.int .i64 0)))⟩]) .ret) .skip)) (.seq (.dreg [⟨⟨(some 8), none, (.mov (.t 0))⟩, false, false⟩, ⟨⟨(some 9), none, (.mov (.t 1))⟩, false, false⟩, ⟨⟨(some 11), none, (.mov (.t 0))⟩, false, true⟩, ⟨⟨(some 12), none, (.idx 1 (.t 11) (.c (.int .i64 0)))⟩, false, true⟩, ⟨⟨(some 13), none, (.ld none .nil (.t 12))⟩, false, true⟩, ⟨⟨(some 14), none, (.len (.t 13))⟩, false, true⟩, ⟨⟨(some 15), none, (.mov (.t 1))⟩, false, true⟩, ⟨⟨(some 10), none, (.call 58 [(.t 8), (.t 9)])⟩, true, false⟩, ⟨⟨(some 16), none, (.call 60 [(.t 10), (.t 14), (.t 15)])⟩, true, false⟩, ⟨⟨(some 17), none, (.len (.t 16))⟩, false, false⟩, ⟨⟨(some 4), none, (.mov (.t 17))⟩, false, false⟩]) .ret)))
theorem code_i_rankOf : fnCode Try.prog [58, 60] 79 = some (18, sc_i_rankOf, [(4, none)]) := by kernel_rfl
theorem fn_i_rankOf : FnOk Try.prog 79 F_i_rankOf := by
  have env := ((envNil_ok (P := Try.prog)).add fn_i_modMatrix).addl ln_i_reduceMod
  refine fn_ok code_i_rankOf mixed env ?_
  intro args r h hb
  obtain ⟨_, _, M, p, rfl, h1, h2, h4⟩ := F2_inv h
  cases dLL_inv h1
  cases dI_inv h2
  simp only [Option.ite_none_right_eq_some, Option.some.injEq] at h4
  obtain ⟨⟨hp, ⟨hml, hrl⟩, heq⟩, rfl⟩ := h4
  clear h
  refine ⟨by simp, fun w0 U0 L0 N0 => ?_⟩
  clear hb
  by_cases h0 : M = []
  · subst h0
    rw [rnk_nil]
    simp -implicitDefEqProofs [sc_i_rankOf]
  have hpos := List.length_pos_iff.2 h0
  have hw := hrl 0 hpos
  have hF : F_i_modMatrix [.list 1 (rowsL M), .int .i64 p] = some (.own 1 (rowsV (modM p M))) := by
    simp only [F_i_modMatrix, F2_mk, dLL_list, dI_int, Option.bind_some]
    rw [if_pos ⟨hp, hml, hrl⟩]
  have hG : G_i_reduceMod [.sl 0 1 0 M.length, .int .i64 ((atR M 0).length : Nat), .int .i64 p] (rowsV (modM p M)) = some (.own 1 (ints (redS p (modM p M) (atR M 0).length).2), rowsV (redS p (modM p M) (atR M 0).length).1) := by
    simp only [G_i_reduceMod, dRowsV_rowsV, Option.bind_some]
    rw [if_pos ⟨(atR M 0).length, ⟨hp, by simp, okM_mod hp heq, hw, hml⟩, by omega, by omega⟩, Int.toNat_natCast]
  have hol := modM_len p M
  have hd0 : (rowsL M)[0]?.getD .nil = .list 1 (ints (atR M 0)) := by
    have := rowsL_drop0 hpos .nil
    rwa [List.drop_zero] at this
  have hr : rnk p M = (redS p (modM p M) (atR M 0).length).2.length := rfl
  rw [hr]
  generalize redS p (modM p M) (atR M 0).length = x at *
  generalize modM p M = O at *
  simp -implicitDefEqProofs [sc_i_rankOf, freeOk, ren0, h0, hpos, hF, hol, hd0, hG]
end Go.Proofs.Ytncnohompmcddaa
