import Derived.Test.YtmemomfffehnkaaDR
import Derived.Test.YtmemomfffehnkaaGaF
namespace Go.Proofs.Ytmemomfffehnkaa
open Go Go.RowKit
set_option maxRecDepth 1000000
set_option linter.unusedSimpArgs false
set_option linter.unusedVariables false
set_option maxHeartbeats 1000000
def sc_s_DrawCollapseAll : SC := (.seq (.reg [⟨(some 2), none, (.new [(.int .i64 0), .nil])⟩]) (.seq (.reg [⟨(some 3), none, (.mov (.t 0))⟩, ⟨(some 4), none, (.call 128 [(.t 3)])⟩, ⟨(some 5), none, (.call 144 [(.t 4)])⟩, ⟨none, none, (.st 2 (.t 2) (.t 5))⟩]) .ret))
theorem code_s_DrawCollapseAll : fnCode Try.prog [144, 129, 162] 66 = some (6, sc_s_DrawCollapseAll, [(2, (some 2))]) := by kernel_rfl
noncomputable def F_s_DrawCollapseAll : List V → Option V := F1 dBy fun b => some (.agg [.int .i64 (bentN (newCur b)).1.1, .own 1 (ints (bentN (newCur b)).1.2)])
theorem fn_s_DrawCollapseAll : FnOk Try.prog 66 F_s_DrawCollapseAll := by
  have env := ((envNil_ok (P := Try.prog)).add fn_s_l1New).addl ln_s_l3Bent
  refine fn_ok code_s_DrawCollapseAll mixed env ?_
  intro args r h hb
  obtain ⟨_, b, rfl, h1, h4⟩ := F1_inv h
  obtain ⟨hw, rfl⟩ := dBy_inv h1
  cases h4
  clear h hb h1
  refine ⟨by simp, fun w0 U0 L0 N0 => ?_⟩
  have hN : F_s_l1New [.list 1 (u8s b)] = some (.opt (curC (newCur b))) := by
    simp only [F_s_l1New, F1_mk, dBy_list hw, Option.bind_some]
  have g0 := G_bent (newCur_wf hw)
  generalize bentN (newCur b) = x at *
  generalize newCur b = c0 at *
  simp -implicitDefEqProofs [sc_s_DrawCollapseAll, ren0, hN, g0]
def sc_s_DrawCollapseAt : SC := (.seq (.reg [⟨(some 2), none, (.new [(.int .i64 0), .nil])⟩, ⟨(some 3), none, (.mov (.c (.int .i64 0)))⟩]) (.seq (.reg [⟨(some 7), none, (.mov (.t 0))⟩, ⟨(some 8), none, (.call 128 [(.t 7)])⟩, ⟨(some 4), none, (.mov (.t 8))⟩]) (.seq (.reg [⟨(some 9), none, (.mov (.t 4))⟩, ⟨(some 10), none, (.call 144 [(.t 9)])⟩, ⟨(some 5), none, (.new [(.int .i64 0), .nil])⟩, ⟨none, none, (.st 2 (.t 5) (.t 10))⟩]) (.seq (.reg [⟨(some 11), none, (.ld (some 2) .undef (.t 5))⟩, ⟨(some 12), none, (.call 77 [(.t 11)])⟩, ⟨(some 6), none, (.mov (.t 12))⟩]) (.seq (.seq (.reg [⟨(some 13), none, (.mov (.t 6))⟩, ⟨(some 14), none, (.len (.t 13))⟩, ⟨(some 15), none, (.bin false .gtr (.t 14) (.c (.int .i64 0)))⟩, ⟨(some 16), none, (.mov (.t 15))⟩, ⟨(some 17), (some (16, true)), (.mov (.t 4))⟩, ⟨(some 18), (some (16, true)), (.call 162 [(.t 17), (.c (.int .i64 5))])⟩, ⟨(some 19), (some (16, true)), (.un .not (.t 18))⟩, ⟨(some 20), none, (.pick (.t 16) (.t 19) (.c (.bool false)))⟩]) (.cond (.t 20) (.seq (.treg (.fst ⟨(some 22), none, (.mov (.t 6))⟩ true (.fst ⟨(some 23), none, (.mov (.t 4))⟩ false (.fst ⟨(some 24), none, (.mov (.t 6))⟩ false (.fst ⟨(some 25), none, (.len (.t 24))⟩ false (.alt ⟨(some 21), none, (.ld (some 2) .undef (.t 5))⟩ false (.alt ⟨(some 26), none, (.call 129 [(.t 23), (.t 25)])⟩ true (.fst ⟨(some 27), none, (.idx 1 (.t 22) (.t 26))⟩ true (.alt ⟨(some 28), none, (.ld none (.int .i64 0) (.t 27))⟩ false (.alt ⟨none, none, (.st 2 (.t 2) (.t 21))⟩ true (.fst ⟨(some 3), none, (.mov (.t 28))⟩ false .done) .stop) (.alt ⟨none, none, (.st 2 (.t 2) (.t 21))⟩ true (.fst ⟨(some 28), none, (.ld none (.int .i64 0) (.t 27))⟩ false (.fst ⟨(some 3), none, (.mov (.t 28))⟩ false .done)) .stop))) .stop) (.alt ⟨(some 26), none, (.call 129 [(.t 23), (.t 25)])⟩ true (.fst ⟨(some 21), none, (.ld (some 2) .undef (.t 5))⟩ false (.fst ⟨(some 27), none, (.idx 1 (.t 22) (.t 26))⟩ true (.alt ⟨(some 28), none, (.ld none (.int .i64 0) (.t 27))⟩ false (.alt ⟨none, none, (.st 2 (.t 2) (.t 21))⟩ true (.fst ⟨(some 3), none, (.mov (.t 28))⟩ false .done) .stop) (.alt ⟨none, none, (.st 2 (.t 2) (.t 21))⟩ true (.fst ⟨(some 28), none, (.ld none (.int .i64 0) (.t 27))⟩ false (.fst ⟨(some 3), none, (.mov (.t 28))⟩ false .done)) .stop)))) .stop))))))) .ret) .skip)) (.seq (.treg (.fst ⟨(some 30), none, (.mov (.t 4))⟩ false (.alt ⟨(some 29), none, (.ld (some 2) .undef (.t 5))⟩ false (.alt ⟨(some 31), none, (.call 129 [(.t 30), (.c (.int .i64 65))])⟩ true (.fst ⟨(some 32), none, (.bin false .sub (.t 31) (.c (.int .i64 1)))⟩ true (.alt ⟨none, none, (.st 2 (.t 2) (.t 29))⟩ true (.fst ⟨(some 3), none, (.mov (.t 32))⟩ false .done) .stop)) .stop) (.alt ⟨(some 31), none, (.call 129 [(.t 30), (.c (.int .i64 65))])⟩ true (.fst ⟨(some 29), none, (.ld (some 2) .undef (.t 5))⟩ false (.fst ⟨(some 32), none, (.bin false .sub (.t 31) (.c (.int .i64 1)))⟩ true (.alt ⟨none, none, (.st 2 (.t 2) (.t 29))⟩ true (.fst ⟨(some 3), none, (.mov (.t 32))⟩ false .done) .stop))) .stop)))) .ret))))))
theorem code_s_DrawCollapseAt : fnCode Try.prog [144, 129, 162, 777777] 63 = some (33, sc_s_DrawCollapseAt, [(2, (some 2)), (3, none)]) := by kernel_rfl
open Classical in
/-- The drawn set of a collapse. -/
noncomputable def dcS (n : Int) (l : List Int) (c : Cur) : Int :=
  if 0 < (freeL n l).length then (if onceN c 5 = true then (belowN (belowN c 5).2 65).1 - 1 else at0 (freeL n l) (belowN (belowN c 5).2 (freeL n l).length).1.toNat) else (belowN c 65).1 - 1
noncomputable def F_s_DrawCollapseAt : List V → Option V := F1 dBy fun b => some (.tup [.agg [.int .i64 (bentN (newCur b)).1.1, .own 1 (ints (bentN (newCur b)).1.2)], .int .i64 (dcS (bentN (newCur b)).1.1 (bentN (newCur b)).1.2 (bentN (newCur b)).2)])
theorem dcS_rng {n : Int} {l : List Int} {c : Cur} : -1 ≤ dcS n l c ∧ dcS n l c ≤ 64 := by
  unfold dcS
  split
  · split
    · have := belowN_rng (belowN c 5).2 (n := 65) (by omega)
      omega
    · rename_i h _
      have hr := belowN_rng (belowN c 5).2 (n := ((freeL n l).length : Int)) (by omega)
      have hSf : allS (freeL n l) := allS_setsOf _
      have := allS_at hSf (show (belowN (belowN c 5).2 (freeL n l).length).1.toNat < (freeL n l).length by omega)
      unfold isS at this
      omega
  · have := belowN_rng c (n := 65) (by omega)
    omega
theorem fn_s_DrawCollapseAt : FnOk Try.prog 63 F_s_DrawCollapseAt := by
  have env := (((((envNil_ok (P := Try.prog)).add fn_s_l1New).add fn_s_FreeFaces).addl ln_s_l1Below).addl ln_s_l1Once).addl ln_s_l3Bent
  refine fn_ok code_s_DrawCollapseAt mixed env ?_
  intro args r h hb
  obtain ⟨_, b, rfl, h1, h4⟩ := F1_inv h
  obtain ⟨hw, rfl⟩ := dBy_inv h1
  cases h4
  clear h hb h1
  refine ⟨by simp, fun w0 U0 L0 N0 => ?_⟩
  have hN : F_s_l1New [.list 1 (u8s b)] = some (.opt (curC (newCur b))) := by
    simp only [F_s_l1New, F1_mk, dBy_list hw, Option.bind_some]
  have v0 := newCur_wf hw
  have g0 := G_bent v0
  have v1 := bentN_wf v0
  generalize bentN (newCur b) = x at *
  generalize newCur b = c0 at *
  obtain ⟨⟨n, l⟩, c⟩ := x
  simp only at g0 v1 ⊢
  have hF : F_s_FreeFaces [.agg [.int .i64 n, .list 1 (ints l)]] = some (.own 1 (ints (freeL n l))) := by
    simp only [F_s_FreeFaces, F1_mk, dC_agg, Option.bind_some]
  have hl : (freeL n l).length ≤ 64 := setsOf_len _
  have eD : dcS n l c = if 0 < (freeL n l).length then (if onceN c 5 = true then (belowN (belowN c 5).2 65).1 - 1 else at0 (freeL n l) (belowN (belowN c 5).2 (freeL n l).length).1.toNat) else (belowN c 65).1 - 1 := rfl
  generalize dcS n l c = S at *
  generalize freeL n l = L at *
  have g1 := G_once v1 5
  have v2 := belowN_wf v1 5
  by_cases hL : 0 < L.length
  · have hLi : (0 : Int) < (L.length : Int) := by omega
    rw [if_pos hL] at eD
    cases ho : onceN c 5 with
    | true =>
      rw [ho, if_pos rfl] at eD
      rw [ho] at g1
      have g2 := G_below v2 65
      have r2 := belowN_rng (belowN c 5).2 (n := 65) (by omega)
      generalize (belowN (belowN c 5).2 65) = y at *
      have hwb : IntKind.i64.wrap (y.1 - 1) = y.1 - 1 := wrapI _ (by omega) (by omega)
      rw [eD]
      simp -implicitDefEqProofs [sc_s_DrawCollapseAt, freeOk, ren0, hN, g0, hF, hL, hLi, g1, g2, hwb]
    | false =>
      rw [ho, if_neg (by simp)] at eD
      rw [ho] at g1
      have g2 := G_below v2 (L.length : Int)
      have r2 := belowN_rng (belowN c 5).2 (n := (L.length : Int)) (by omega)
      obtain ⟨j, hj⟩ := Int.eq_ofNat_of_zero_le r2.1
      rw [hj, Int.toNat_natCast] at eD
      rw [hj] at g2 r2
      have hjl : j < L.length := by omega
      rw [eD]
      simp -implicitDefEqProofs [sc_s_DrawCollapseAt, freeOk, ren0, hN, g0, hF, hL, hLi, g1, g2, hjl]
      try omega
  · have hLi : ¬ (0 : Int) < (L.length : Int) := by omega
    rw [if_neg hL] at eD
    have g2 := G_below v1 65
    have r2 := belowN_rng c (n := 65) (by omega)
    generalize belowN c 65 = y at *
    have hwb : IntKind.i64.wrap (y.1 - 1) = y.1 - 1 := wrapI _ (by omega) (by omega)
    rw [eD]
    simp -implicitDefEqProofs [sc_s_DrawCollapseAt, freeOk, ren0, hN, g0, hF, hL, hLi, g2, hwb]
end Go.Proofs.Ytmemomfffehnkaa
