import Derived.Test.YtkbgmkkboiihnaaIbF
import Derived.Test.YtkbgmkkboiihnaaKP
namespace Go.Proofs.Ytkbgmkkboiihnaa
open Go Go.RowKit
set_option maxRecDepth 1000000
set_option linter.unusedSimpArgs false
set_option linter.unusedVariables false
set_option maxHeartbeats 1000000
def len8S : ByteArray := ⟨⟨[0, 1, 2, 2, 3, 3, 3, 3, 4, 4, 4, 4, 4, 4, 4, 4, 5, 5, 5, 5, 5, 5, 5, 5, 5, 5, 5, 5, 5, 5, 5, 5, 6, 6, 6, 6, 6, 6, 6, 6, 6, 6, 6, 6, 6, 6, 6, 6, 6, 6, 6, 6, 6, 6, 6, 6, 6, 6, 6, 6, 6, 6, 6, 6, 7, 7, 7, 7, 7, 7, 7, 7, 7, 7, 7, 7, 7, 7, 7, 7, 7, 7, 7, 7, 7, 7, 7, 7, 7, 7, 7, 7, 7, 7, 7, 7, 7, 7, 7, 7, 7, 7, 7, 7, 7, 7, 7, 7, 7, 7, 7, 7, 7, 7, 7, 7, 7, 7, 7, 7, 7, 7, 7, 7, 7, 7, 7, 7, 8, 8, 8, 8, 8, 8, 8, 8, 8, 8, 8, 8, 8, 8, 8, 8, 8, 8, 8, 8, 8, 8, 8, 8, 8, 8, 8, 8, 8, 8, 8, 8, 8, 8, 8, 8, 8, 8, 8, 8, 8, 8, 8, 8, 8, 8, 8, 8, 8, 8, 8, 8, 8, 8, 8, 8, 8, 8, 8, 8, 8, 8, 8, 8, 8, 8, 8, 8, 8, 8, 8, 8, 8, 8, 8, 8, 8, 8, 8, 8, 8, 8, 8, 8, 8, 8, 8, 8, 8, 8, 8, 8, 8, 8, 8, 8, 8, 8, 8, 8, 8, 8, 8, 8, 8, 8, 8, 8, 8, 8, 8, 8, 8, 8, 8, 8, 8, 8, 8, 8, 8, 8, 8, 8, 8, 8, 8, 8]⟩⟩
def sc_math_bits_Len64 : SC := (.seq (.reg [⟨(some 2), none, (.mov (.c (.int .i64 0)))⟩]) (.seq (.seq (.reg [⟨(some 3), none, (.mov (.t 0))⟩, ⟨(some 4), none, (.bin false .geq (.t 3) (.c (.int .u64 4294967296)))⟩]) (.cond (.t 4) (.seq (.reg [⟨(some 5), none, (.mov (.t 0))⟩, ⟨(some 6), none, (.bin false .shr (.t 5) (.c (.int .u64 32)))⟩, ⟨(some 0), none, (.mov (.t 6))⟩]) (.reg [⟨(some 2), none, (.mov (.c (.int .i64 32)))⟩])) .skip)) (.seq (.seq (.reg [⟨(some 7), none, (.mov (.t 0))⟩, ⟨(some 8), none, (.bin false .geq (.t 7) (.c (.int .u64 65536)))⟩]) (.cond (.t 8) (.seq (.reg [⟨(some 9), none, (.mov (.t 0))⟩, ⟨(some 10), none, (.bin false .shr (.t 9) (.c (.int .u64 16)))⟩, ⟨(some 0), none, (.mov (.t 10))⟩]) (.reg [⟨(some 11), none, (.mov (.t 2))⟩, ⟨(some 12), none, (.bin false .add (.t 11) (.c (.int .i64 16)))⟩, ⟨(some 2), none, (.mov (.t 12))⟩])) .skip)) (.seq (.seq (.reg [⟨(some 13), none, (.mov (.t 0))⟩, ⟨(some 14), none, (.bin false .geq (.t 13) (.c (.int .u64 256)))⟩]) (.cond (.t 14) (.seq (.reg [⟨(some 15), none, (.mov (.t 0))⟩, ⟨(some 16), none, (.bin false .shr (.t 15) (.c (.int .u64 8)))⟩, ⟨(some 0), none, (.mov (.t 16))⟩]) (.reg [⟨(some 17), none, (.mov (.t 2))⟩, ⟨(some 18), none, (.bin false .add (.t 17) (.c (.int .i64 8)))⟩, ⟨(some 2), none, (.mov (.t 18))⟩])) .skip)) (.seq (.reg [⟨(some 19), none, (.mov (.t 2))⟩, ⟨(some 20), none, (.mov (.t 0))⟩, ⟨(some 21), none, (.conv .u8 (.t 20))⟩, ⟨(some 22), none, (.ixs (.c (.str len8S)) (.t 21))⟩, ⟨(some 23), none, (.conv .i64 (.t 22))⟩, ⟨(some 24), none, (.bin false .add (.t 19) (.t 23))⟩, ⟨(some 2), none, (.mov (.t 24))⟩]) .ret)))))
theorem code_math_bits_Len64 : fnCode Try.prog [] 93 = some (25, sc_math_bits_Len64, [(2, none)]) := by kernel_rfl
/-- The length in bits of a small number. -/
def lenB (n : Int) : Int := if n < 1 then 0 else if n < 2 then 1 else if n < 4 then 2 else if n < 8 then 3 else 4
noncomputable def F_Len64 : List V → Option V := F1 dU fun n => @ite _ (0 ≤ n ∧ n ≤ 8) (Classical.propDecidable _) (some (.int .i64 (lenB n))) none
theorem q_ixs8 {Γ : Env} {H : List (Nat × List V)} {e : Opd → V} (x i : Opd) : evQ Γ H e (.ixs x i) = match e x, asI (e i) with
    | .str s, some i => some (decide (0 ≤ i) && decide (i < s.size), .int .u8 ((s.data.toList.getD i.toNat 0).toNat : Int))
    | _, _ => none := rfl
theorem fn_Len64 : FnOk Try.prog 93 F_Len64 := by
  refine fn_ok code_math_bits_Len64 mixed envNil_ok ?_
  intro args r h hb
  obtain ⟨_, n, rfl, h1, h4⟩ := F1_inv h
  cases dU_inv h1
  simp only [Option.ite_none_right_eq_some, Option.some.injEq] at h4
  obtain ⟨⟨h0, h8⟩, rfl⟩ := h4
  clear h
  refine ⟨by simp, fun w0 U0 L0 N0 => ?_⟩
  have hn : n = 0 ∨ n = 1 ∨ n = 2 ∨ n = 3 ∨ n = 4 ∨ n = 5 ∨ n = 6 ∨ n = 7 ∨ n = 8 := by omega
  have w0' : IntKind.u8.wrap 0 = 0 := by decide
  have w1 : IntKind.u8.wrap 1 = 1 := by decide
  have w2 : IntKind.u8.wrap 2 = 2 := by decide
  have w3 : IntKind.u8.wrap 3 = 3 := by decide
  have w4 : IntKind.u8.wrap 4 = 4 := by decide
  have w5 : IntKind.u8.wrap 5 = 5 := by decide
  have w6 : IntKind.u8.wrap 6 = 6 := by decide
  have w7 : IntKind.u8.wrap 7 = 7 := by decide
  have w8 : IntKind.u8.wrap 8 = 8 := by decide
  have x0 : IntKind.i64.wrap 0 = 0 := by decide
  have x1 : IntKind.i64.wrap 1 = 1 := by decide
  have x2 : IntKind.i64.wrap 2 = 2 := by decide
  have x3 : IntKind.i64.wrap 3 = 3 := by decide
  have x4 : IntKind.i64.wrap 4 = 4 := by decide
  have hsz : len8S.size = 256 := by decide
  have a0 : len8S.data.toList.getD 0 0 = 0 := rfl
  have b0 : len8S.data.toList[0]?.getD 0 = 0 := rfl
  have c0 : len8S.data[0]?.getD 0 = 0 := rfl
  have a1 : len8S.data.toList.getD 1 0 = 1 := rfl
  have b1 : len8S.data.toList[1]?.getD 0 = 1 := rfl
  have c1 : len8S.data[1]?.getD 0 = 1 := rfl
  have a2 : len8S.data.toList.getD 2 0 = 2 := rfl
  have b2 : len8S.data.toList[2]?.getD 0 = 2 := rfl
  have c2 : len8S.data[2]?.getD 0 = 2 := rfl
  have a3 : len8S.data.toList.getD 3 0 = 2 := rfl
  have b3 : len8S.data.toList[3]?.getD 0 = 2 := rfl
  have c3 : len8S.data[3]?.getD 0 = 2 := rfl
  have a4 : len8S.data.toList.getD 4 0 = 3 := rfl
  have b4 : len8S.data.toList[4]?.getD 0 = 3 := rfl
  have c4 : len8S.data[4]?.getD 0 = 3 := rfl
  have a5 : len8S.data.toList.getD 5 0 = 3 := rfl
  have b5 : len8S.data.toList[5]?.getD 0 = 3 := rfl
  have c5 : len8S.data[5]?.getD 0 = 3 := rfl
  have a6 : len8S.data.toList.getD 6 0 = 3 := rfl
  have b6 : len8S.data.toList[6]?.getD 0 = 3 := rfl
  have c6 : len8S.data[6]?.getD 0 = 3 := rfl
  have a7 : len8S.data.toList.getD 7 0 = 3 := rfl
  have b7 : len8S.data.toList[7]?.getD 0 = 3 := rfl
  have c7 : len8S.data[7]?.getD 0 = 3 := rfl
  have a8 : len8S.data.toList.getD 8 0 = 4 := rfl
  have b8 : len8S.data.toList[8]?.getD 0 = 4 := rfl
  have c8 : len8S.data[8]?.getD 0 = 4 := rfl
  have d0 : ∀ h : 0 < len8S.data.size, len8S.data[0]'h = 0 := fun _ => rfl
  have d1 : ∀ h : 1 < len8S.data.size, len8S.data[1]'h = 1 := fun _ => rfl
  have d2 : ∀ h : 2 < len8S.data.size, len8S.data[2]'h = 2 := fun _ => rfl
  have d3 : ∀ h : 3 < len8S.data.size, len8S.data[3]'h = 2 := fun _ => rfl
  have d4 : ∀ h : 4 < len8S.data.size, len8S.data[4]'h = 3 := fun _ => rfl
  have d5 : ∀ h : 5 < len8S.data.size, len8S.data[5]'h = 3 := fun _ => rfl
  have d6 : ∀ h : 6 < len8S.data.size, len8S.data[6]'h = 3 := fun _ => rfl
  have d7 : ∀ h : 7 < len8S.data.size, len8S.data[7]'h = 3 := fun _ => rfl
  have d8 : ∀ h : 8 < len8S.data.size, len8S.data[8]'h = 4 := fun _ => rfl
  rcases hn with rfl | rfl | rfl | rfl | rfl | rfl | rfl | rfl | rfl <;>
    simp -implicitDefEqProofs [sc_math_bits_Len64, q_ixs8, lenB, w0', w1, w2, w3, w4, w5, w6, w7, w8, x0, x1, x2, x3, x4, hsz, d0, d1, d2, d3, d4, d5, d6, d7, d8, a0, b0, c0, a1, b1, c1, a2, b2, c2, a3, b3, c3, a4, b4, c4, a5, b5, c5, a6, b6, c6, a7, b7, c7, a8, b8, c8]
def sc_math_bits_Len : SC := (.seq (.reg [⟨(some 2), none, (.mov (.c (.int .i64 0)))⟩]) (.seq (.cond (.c (.bool false)) (.seq (.reg [⟨(some 3), none, (.mov (.t 0))⟩, ⟨(some 4), none, (.conv .u32 (.t 3))⟩, ⟨(some 5), none, (.call 92 [(.t 4)])⟩, ⟨(some 2), none, (.mov (.t 5))⟩]) .ret) .skip) (.seq (.reg [⟨(some 6), none, (.mov (.t 0))⟩, ⟨(some 7), none, (.call 93 [(.t 6)])⟩, ⟨(some 2), none, (.mov (.t 7))⟩]) .ret)))
theorem code_math_bits_Len : fnCode Try.prog [] 80 = some (8, sc_math_bits_Len, [(2, none)]) := by kernel_rfl
theorem fn_Len : FnOk Try.prog 80 F_Len64 := by
  have env := (envNil_ok (P := Try.prog)).add fn_Len64
  refine fn_ok code_math_bits_Len mixed env ?_
  intro args r h hb
  obtain ⟨_, n, rfl, h1, h4⟩ := F1_inv h
  cases dU_inv h1
  have hF : F_Len64 [.int .u64 n] = some r := by simpa [F_Len64] using h
  simp only [Option.ite_none_right_eq_some, Option.some.injEq] at h4
  obtain ⟨⟨h0, h8⟩, rfl⟩ := h4
  clear h
  refine ⟨by simp, fun w0 U0 L0 N0 => ?_⟩
  simp -implicitDefEqProofs [sc_math_bits_Len, hF]
end Go.Proofs.Ytkbgmkkboiihnaa
