import Derived.Test.YtmemomfffehnkaaDR
namespace Go.Proofs.Ytmemomfffehnkaa
open Go Go.RowKit
set_option maxRecDepth 1000000
set_option linter.unusedSimpArgs false
set_option linter.unusedVariables false
set_option maxHeartbeats 1000000
def sc_s_l1Max : SC := (.seq (.reg [⟨(some 4), none, (.mov (.c (.int .i64 0)))⟩]) (.seq (.seq (.reg [⟨(some 5), none, (.mov (.t 0))⟩, ⟨(some 6), none, (.mov (.t 1))⟩, ⟨(some 7), none, (.bin false .gtr (.t 5) (.t 6))⟩]) (.cond (.t 7) (.seq (.reg [⟨(some 8), none, (.mov (.t 0))⟩, ⟨(some 4), none, (.mov (.t 8))⟩]) .ret) .skip)) (.seq (.reg [⟨(some 9), none, (.mov (.t 1))⟩, ⟨(some 4), none, (.mov (.t 9))⟩]) .ret)))
theorem code_s_l1Max : fnCode Try.prog [] 206 = some (10, sc_s_l1Max, [(4, none)]) := by kernel_rfl
noncomputable def F_s_l1Max : List V → Option V := F2 dI dI fun a b => some (.int .i64 (max a b))
theorem fn_s_l1Max : FnOk Try.prog 206 F_s_l1Max := by
  refine fn_ok code_s_l1Max mixed envNil_ok ?_
  intro args r h hb
  obtain ⟨_, _, a, b, rfl, h1, h2, h4⟩ := F2_inv h
  cases dI_inv h1
  cases dI_inv h2
  cases h4
  clear h
  refine ⟨by simp, fun w0 U0 L0 N0 => ?_⟩
  clear hb
  by_cases hl : b < a
  · rw [show max a b = a by omega]
    simp -implicitDefEqProofs [sc_s_l1Max, hl]
  · rw [show max a b = b by omega]
    simp -implicitDefEqProofs [sc_s_l1Max, hl]
def sc_s_l14Case : SC := (.seq (.reg [⟨(some 2), none, (.new [(.int .i64 0), .nil])⟩, ⟨(some 3), none, (.mov (.c (.int .i64 0)))⟩]) (.seq (.reg [⟨(some 6), none, (.mov (.t 0))⟩, ⟨(some 7), none, (.call 128 [(.t 6)])⟩, ⟨(some 4), none, (.mov (.t 7))⟩]) (.seq (.reg [⟨(some 8), none, (.mov (.t 4))⟩, ⟨(some 9), none, (.call 144 [(.t 8)])⟩, ⟨(some 5), none, (.new [(.int .i64 0), .nil])⟩, ⟨none, none, (.st 2 (.t 5) (.t 9))⟩]) (.seq (.treg (.fst ⟨(some 11), none, (.mov (.t 4))⟩ true (.alt ⟨(some 10), none, (.ld (some 2) .undef (.t 5))⟩ false (.alt ⟨(some 12), none, (.lit 1 [(.int .i64 2), (.int .i64 3), (.int .i64 5), (.int .i64 2), (.int .i64 3), (.int .i64 2), (.int .i64 3), (.int .i64 4)])⟩ true (.alt ⟨(some 13), none, (.call 211 [(.t 11), (.t 12)])⟩ true (.alt ⟨none, none, (.st 2 (.t 2) (.t 10))⟩ true (.fst ⟨(some 3), none, (.mov (.t 13))⟩ false .done) .stop) .stop) .stop) (.alt ⟨(some 12), none, (.lit 1 [(.int .i64 2), (.int .i64 3), (.int .i64 5), (.int .i64 2), (.int .i64 3), (.int .i64 2), (.int .i64 3), (.int .i64 4)])⟩ true (.alt ⟨(some 10), none, (.ld (some 2) .undef (.t 5))⟩ false (.alt ⟨(some 13), none, (.call 211 [(.t 11), (.t 12)])⟩ true (.alt ⟨none, none, (.st 2 (.t 2) (.t 10))⟩ true (.fst ⟨(some 3), none, (.mov (.t 13))⟩ false .done) .stop) .stop) (.alt ⟨(some 13), none, (.call 211 [(.t 11), (.t 12)])⟩ true (.fst ⟨(some 10), none, (.ld (some 2) .undef (.t 5))⟩ false (.alt ⟨none, none, (.st 2 (.t 2) (.t 10))⟩ true (.fst ⟨(some 3), none, (.mov (.t 13))⟩ false .done) .stop)) .stop)) .stop)))) .ret))))
theorem code_s_l14Case : fnCode Try.prog [144, 211] 127 = some (14, sc_s_l14Case, [(2, (some 2)), (3, none)]) := by kernel_rfl
def qLs : List Int := [2, 3, 5, 2, 3, 2, 3, 4]
theorem qLs_rng (c : Cur) : 2 ≤ pickN c qLs ∧ pickN c qLs ≤ 5 := by
  have hr := belowN_rng c (n := (qLs.length : Int)) (by decide)
  have : ∀ k : Nat, k < 8 → 2 ≤ at0 qLs k ∧ at0 qLs k ≤ 5 := by decide
  exact this _ (by have : (qLs.length : Int) = 8 := rfl; omega)
noncomputable def F_s_l14Case : List V → Option V := F1 dBy fun b => some (.tup [.agg [.int .i64 (bentN (newCur b)).1.1, .own 1 (ints (bentN (newCur b)).1.2)], .int .i64 (pickN (bentN (newCur b)).2 qLs)])
theorem fn_s_l14Case : FnOk Try.prog 127 F_s_l14Case := by
  have env := (((envNil_ok (P := Try.prog)).add fn_s_l1New).addl ln_s_l1PickInt).addl ln_s_l3Bent
  refine fn_ok code_s_l14Case mixed env ?_
  intro args r h hb
  obtain ⟨_, b, rfl, h1, h4⟩ := F1_inv h
  obtain ⟨hw, rfl⟩ := dBy_inv h1
  cases h4
  clear h hb h1
  refine ⟨by simp, fun w0 U0 L0 N0 => ?_⟩
  have hN : F_s_l1New [.list 1 (u8s b)] = some (.opt (curC (newCur b))) := by
    simp only [F_s_l1New, F1_mk, dBy_list hw, Option.bind_some]
  have v0 := newCur_wf hw
  have g0 := G_bent v0
  have v1 := bentN_wf v0
  generalize bentN (newCur b) = x at *
  generalize newCur b = c0 at *
  obtain ⟨⟨n, l⟩, c⟩ := x
  simp only at g0 v1 ⊢
  have hp := G_pickI v1 (l := qLs) ⟨by simp [qLs], by simp [qLs]⟩
  have hlit : ints qLs = [(.int .i64 2), (.int .i64 3), (.int .i64 5), (.int .i64 2), (.int .i64 3), (.int .i64 2), (.int .i64 3), (.int .i64 4)] := rfl
  have hl3 : (qLs.length : Int) = 8 := rfl
  rw [hlit, hl3] at hp
  generalize pickN c qLs = p at *
  simp -implicitDefEqProofs [sc_s_l14Case, freeOk, ren0, hN, g0, hp]
def sc_s_DrawHoleCycle : SC := (.seq (.reg [⟨(some 2), none, (.new [(.int .i64 0), .nil])⟩, ⟨(some 3), none, (.mov (.c (.int .i64 0)))⟩, ⟨(some 4), none, (.mov (.c (.int .i64 0)))⟩]) (.seq (.reg [⟨(some 9), none, (.mov (.t 0))⟩, ⟨(some 10), none, (.call 127 [(.t 9)])⟩, ⟨(some 8), none, (.mov (.t 10))⟩, ⟨(some 11), none, (.ext 0 (.t 8))⟩, ⟨(some 12), none, (.ext 1 (.t 8))⟩, ⟨(some 5), none, (.new [(.int .i64 0), .nil])⟩, ⟨none, none, (.st 2 (.t 5) (.t 11))⟩, ⟨(some 6), none, (.mov (.t 12))⟩]) (.seq (.reg [⟨(some 13), none, (.mov (.t 0))⟩, ⟨(some 14), none, (.call 128 [(.t 13)])⟩, ⟨(some 7), none, (.mov (.t 14))⟩]) (.seq (.treg (.fst ⟨(some 16), none, (.mov (.t 7))⟩ false (.fst ⟨(some 18), none, (.mov (.t 6))⟩ true (.alt ⟨(some 15), none, (.ld (some 2) .undef (.t 5))⟩ false (.alt ⟨(some 17), none, (.call 129 [(.t 16), (.c (.int .i64 5))])⟩ true (.alt ⟨none, none, (.st 2 (.t 2) (.t 15))⟩ true (.fst ⟨(some 3), none, (.mov (.t 17))⟩ false (.fst ⟨(some 4), none, (.mov (.t 18))⟩ false .done)) .stop) .stop) (.alt ⟨(some 17), none, (.call 129 [(.t 16), (.c (.int .i64 5))])⟩ true (.fst ⟨(some 15), none, (.ld (some 2) .undef (.t 5))⟩ false (.alt ⟨none, none, (.st 2 (.t 2) (.t 15))⟩ true (.fst ⟨(some 3), none, (.mov (.t 17))⟩ false (.fst ⟨(some 4), none, (.mov (.t 18))⟩ false .done)) .stop)) .stop))))) .ret))))
theorem code_s_DrawHoleCycle : fnCode Try.prog [144, 211, 129, 162] 16 = some (19, sc_s_DrawHoleCycle, [(2, (some 2)), (3, none), (4, none)]) := by kernel_rfl
noncomputable def F_s_DrawHoleCycle : List V → Option V := F1 dBy fun b => some (.tup [.agg [.int .i64 (bentN (newCur b)).1.1, .own 1 (ints (bentN (newCur b)).1.2)], .int .i64 (belowN (newCur b) 5).1, .int .i64 (pickN (bentN (newCur b)).2 qLs)])
theorem fn_s_DrawHoleCycle : FnOk Try.prog 16 F_s_DrawHoleCycle := by
  have env := (((envNil_ok (P := Try.prog)).add fn_s_l1New).add fn_s_l14Case).addl ln_s_l1Below
  refine fn_ok code_s_DrawHoleCycle mixed env ?_
  intro args r h hb
  obtain ⟨_, b, rfl, h1, h4⟩ := F1_inv h
  obtain ⟨hw, rfl⟩ := dBy_inv h1
  cases h4
  clear h hb h1
  refine ⟨by simp, fun w0 U0 L0 N0 => ?_⟩
  have hN : F_s_l1New [.list 1 (u8s b)] = some (.opt (curC (newCur b))) := by
    simp only [F_s_l1New, F1_mk, dBy_list hw, Option.bind_some]
  have hC : F_s_l14Case [.list 1 (u8s b)] = some (.tup [.agg [.int .i64 (bentN (newCur b)).1.1, .own 1 (ints (bentN (newCur b)).1.2)], .int .i64 (pickN (bentN (newCur b)).2 qLs)]) := by
    simp only [F_s_l14Case, F1_mk, dBy_list hw, Option.bind_some]
  have v0 := newCur_wf hw
  have g0 := G_below v0 5
  generalize pickN (bentN (newCur b)).2 qLs = p at *
  generalize bentN (newCur b) = x at *
  generalize belowN (newCur b) 5 = y at *
  generalize newCur b = c0 at *
  simp -implicitDefEqProofs [sc_s_DrawHoleCycle, freeOk, ren0, hN, hC, g0]
end Go.Proofs.Ytmemomfffehnkaa
