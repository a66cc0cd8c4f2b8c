import Derived.Test.YtmemomfffehnkaaCoC
import Derived.Test.YtmemomfffehnkaaGbA
namespace Go.Proofs.Ytmemomfffehnkaa
open Go Go.RowKit
set_option maxRecDepth 1000000
set_option linter.unusedSimpArgs false
set_option linter.unusedVariables false
set_option maxHeartbeats 1000000
def sc_s_DrawIsCollapsed : SC := (.seq (.reg [⟨(some 2), none, (.new [(.int .i64 0), .nil])⟩]) (.seq (.reg [⟨(some 8), none, (.mov (.t 0))⟩, ⟨(some 9), none, (.call 128 [(.t 8)])⟩, ⟨(some 3), none, (.mov (.t 9))⟩]) (.seq (.reg [⟨(some 10), none, (.mov (.t 3))⟩, ⟨(some 11), none, (.call 144 [(.t 10)])⟩, ⟨(some 4), none, (.new [(.int .i64 0), .nil])⟩, ⟨none, none, (.st 2 (.t 4) (.t 11))⟩]) (.seq (.reg [⟨(some 13), none, (.ld (some 2) .undef (.t 4))⟩, ⟨(some 14), none, (.call 68 [(.t 13)])⟩, ⟨(some 12), none, (.mov (.t 14))⟩, ⟨(some 15), none, (.ext 0 (.t 12))⟩, ⟨(some 16), none, (.ext 1 (.t 12))⟩, ⟨(some 17), none, (.ext 2 (.t 12))⟩, ⟨(some 5), none, (.new [(.int .i64 0), .nil])⟩, ⟨none, none, (.st 2 (.t 5) (.t 15))⟩, ⟨(some 6), none, (.mov (.t 16))⟩, ⟨(some 7), none, (.mov (.t 17))⟩]) (.seq (.seq (.reg [⟨(some 18), none, (.mov (.t 7))⟩, ⟨(some 19), none, (.mov (.t 18))⟩, ⟨(some 20), (some (19, true)), (.mov (.t 3))⟩, ⟨(some 21), (some (19, true)), (.call 162 [(.t 20), (.c (.int .i64 2))])⟩, ⟨(some 22), none, (.pick (.t 19) (.t 21) (.c (.bool false)))⟩]) (.cond (.t 22) (.seq (.reg [⟨(some 23), none, (.ld (some 2) .undef (.t 5))⟩, ⟨none, none, (.st 2 (.t 2) (.t 23))⟩]) .ret) .skip)) (.seq (.reg [⟨(some 24), none, (.ld (some 2) .undef (.t 4))⟩, ⟨none, none, (.st 2 (.t 2) (.t 24))⟩]) .ret))))))
theorem code_s_DrawIsCollapsed : fnCode Try.prog [144, 129, 162] 70 = some (25, sc_s_DrawIsCollapsed, [(2, (some 2))]) := by kernel_rfl
open Classical in
noncomputable def dicX (n : Int) (l : List Int) (c : Cur) : Int × List Int := if cplx n l ∧ onceN c 2 = true then (caN n l, caL n l) else (n, l)
noncomputable def F_s_DrawIsCollapsed : List V → Option V := F1 dBy fun b => some (.agg [.int .i64 (dicX (bentN (newCur b)).1.1 (bentN (newCur b)).1.2 (bentN (newCur b)).2).1, .own 1 (ints (dicX (bentN (newCur b)).1.1 (bentN (newCur b)).1.2 (bentN (newCur b)).2).2)])
theorem fn_s_DrawIsCollapsed : FnOk Try.prog 70 F_s_DrawIsCollapsed := by
  have env := ((((envNil_ok (P := Try.prog)).add fn_s_l1New).add fn_s_CollapseAll).addl ln_s_l1Once).addl ln_s_l3Bent
  refine fn_ok code_s_DrawIsCollapsed mixed env ?_
  intro args r h hb
  obtain ⟨_, b, rfl, h1, h4⟩ := F1_inv h
  obtain ⟨hw, rfl⟩ := dBy_inv h1
  cases h4
  clear h hb h1
  refine ⟨by simp, fun w0 U0 L0 N0 => ?_⟩
  have hN : F_s_l1New [.list 1 (u8s b)] = some (.opt (curC (newCur b))) := by
    simp only [F_s_l1New, F1_mk, dBy_list hw, Option.bind_some]
  have v0 := newCur_wf hw
  have g0 := G_bent v0
  have v1 := bentN_wf v0
  generalize bentN (newCur b) = x at *
  generalize newCur b = c0 at *
  obtain ⟨⟨n, l⟩, c⟩ := x
  simp only at g0 v1 ⊢
  have hF : F_s_CollapseAll [.agg [.int .i64 n, .list 1 (ints l)]] = some (.tup [.agg [.int .i64 (caN n l), .own 1 (ints (caL n l))], .own 1 (ints (caT n l)), .bool (dec (cplx n l))]) := by
    simp only [F_s_CollapseAll, F1_mk, dC_agg, Option.bind_some]
  have eD1 : cplx n l ∧ onceN c 2 = true → dicX n l c = (caN n l, caL n l) := fun h => if_pos h
  have eD0 : ¬ (cplx n l ∧ onceN c 2 = true) → dicX n l c = (n, l) := fun h => if_neg h
  generalize dicX n l c = D at *
  have g1 := G_once v1 2
  by_cases hc : cplx n l
  · rw [dec_true hc] at hF
    cases ho : onceN c 2 with
    | true =>
      rw [ho] at g1
      rw [eD1 ⟨hc, ho⟩]
      simp -implicitDefEqProofs [sc_s_DrawIsCollapsed, freeOk, ren0, hN, g0, hF, g1]
    | false =>
      have eD := eD0 fun h => by rw [ho] at h; simp at h
      rw [ho] at g1
      rw [eD]
      simp -implicitDefEqProofs [sc_s_DrawIsCollapsed, freeOk, ren0, hN, g0, hF, g1]
  · rw [dec_false hc] at hF
    rw [eD0 fun h => hc h.1]
    simp -implicitDefEqProofs [sc_s_DrawIsCollapsed, freeOk, ren0, hN, g0, hF]
end Go.Proofs.Ytmemomfffehnkaa
