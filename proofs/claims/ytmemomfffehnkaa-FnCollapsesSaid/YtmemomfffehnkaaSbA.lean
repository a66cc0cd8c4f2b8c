import Derived.Test.YtmemomfffehnkaaKG
namespace Go.Proofs.Ytmemomfffehnkaa
open Go Go.RowKit
set_option maxRecDepth 1000000
set_option linter.unusedSimpArgs false
set_option linter.unusedVariables false
set_option maxHeartbeats 1000000
def sc_s_SubsetsOf_L0 : SC := (.seq (.seq (.reg [⟨(some 6), none, (.mov (.t 4))⟩, ⟨(some 7), none, (.bin false .lss (.t 6) (.c (.int .i64 64)))⟩, ⟨(some 8), none, (.mov (.t 7))⟩, ⟨(some 9), (some (8, true)), (.mov (.t 0))⟩, ⟨(some 10), (some (8, true)), (.call 132 [(.t 9), (.c (.int .i64 0)), (.c (.int .i64 63))])⟩, ⟨(some 11), none, (.pick (.t 8) (.t 10) (.c (.bool false)))⟩]) (.cond (.t 11) .skip (.exit 0))) (.seq (.block 1 (.seq (.reg [⟨(some 14), none, (.mov (.t 4))⟩, ⟨(some 15), none, (.mov (.t 0))⟩, ⟨(some 16), none, (.bin false .and (.t 14) (.t 15))⟩, ⟨(some 17), none, (.mov (.t 4))⟩, ⟨(some 18), none, (.bin false .eql (.t 16) (.t 17))⟩]) (.cond (.t 18) (.reg [⟨(some 19), none, (.mov (.t 3))⟩, ⟨(some 20), none, (.mov (.t 4))⟩, ⟨(some 21), none, (.mks 1 1 [(.int .i64 0)] [(0, (1, (.t 20)))])⟩, ⟨(some 22), none, (.app 1 8 (.t 19) (.t 21))⟩, ⟨(some 3), none, (.mov (.t 22))⟩]) .skip))) (.reg [⟨(some 12), none, (.mov (.t 4))⟩, ⟨(some 13), none, (.bin false .add (.t 12) (.c (.int .i64 1)))⟩, ⟨(some 4), none, (.mov (.t 13))⟩])))
def sc_s_SubsetsOf : SC := (.seq (.reg [⟨(some 2), none, (.mov (.c .nil))⟩]) (.seq (.reg [⟨(some 5), none, (.mks 0 1 [] [])⟩, ⟨(some 3), none, (.mov (.t 5))⟩]) (.seq (.seq (.reg [⟨(some 4), none, (.mov (.c (.int .i64 0)))⟩]) (.block 0 (.loop sc_s_SubsetsOf_L0))) (.seq (.reg [⟨(some 23), none, (.mov (.t 3))⟩, ⟨(some 24), none, (.call 159 [(.t 23)])⟩, ⟨(some 2), none, (.mov (.t 24))⟩]) .ret))))
theorem code_s_SubsetsOf : fnCode Try.prog [] 185 = some (25, sc_s_SubsetsOf, [(2, none)]) := by kernel_rfl
open Classical in
noncomputable def F_s_SubsetsOf : List V → Option V := F1 dI fun s => if isS s then some (.own 1 (ints (setsOf fun t => subS t s))) else none
theorem fn_s_SubsetsOf : FnOk Try.prog 185 F_s_SubsetsOf := by
  have env := ((envNil_ok (P := Try.prog)).add fn_s_l1In).add fn_s_l2Order
  refine fn_ok code_s_SubsetsOf mixed env ?_
  intro args r h hb
  obtain ⟨_, s, rfl, h1, h4⟩ := F1_inv h
  cases dI_inv h1
  simp only [Option.ite_none_right_eq_some, Option.some.injEq] at h4
  obtain ⟨hs, rfl⟩ := h4
  refine ⟨by simp, fun w0 U0 L0 N0 => ?_⟩
  have f0 := hs.1
  have f1 : s ≤ 63 := by have := hs.2; omega
  simp -implicitDefEqProofs [sc_s_SubsetsOf]
  refine loopI env mixed (fun k : Nat => [(0, .int .i64 s), (3, .sl 0 1 0 (upS (fun t => subS t s) k).length), (4, .int .i64 (k : Int))]) (fun k => ([(0, ints (upS (fun t => subS t s) k))], 1)) (fun k => k ≤ 64) (fun k => 64 - k) 0 (by simp) (SubI.slots (by simp [upS]) (by simp [upS])) ?_
  intro k hk
  have ub := upS_len (fun t => subS t s) k
  by_cases hlt : k < 64
  · have hlt' : (k : Int) < 64 := by omega
    by_cases hp : subS (k : Int) s
    · have e : upS (fun t => subS t s) (k + 1) = upS (fun t => subS t s) k ++ [(k : Int)] := upS_pos hp
      have hb := (subS_iff (inS k hlt) hs).1 hp
      simp -implicitDefEqProofs [sc_s_SubsetsOf_L0, F_s_l1In, hlt', f0, f1, hb]
      repeat' (first | omega | apply And.intro)
      refine Again.of (k + 1) (by omega) (by omega) (SubI.ren (fun m => if m = 0 then some 2 else none) ?_ ?_ ?_ (by simp) (by simp))
      · simp (disch := omega) [subT, renV, ren1, wrapI, e]
      · simp [subH, e, renL, ren1]
        rw [← ints_app]
        rfl
      · intro m hm
        simp only at hm
        rw [if_neg (by omega)]
    · have e : upS (fun t => subS t s) (k + 1) = upS (fun t => subS t s) k := upS_neg hp
      have hb : ¬ band (k : Int) s = (k : Int) := fun h => hp ((subS_iff (inS k hlt) hs).2 h)
      simp -implicitDefEqProofs [sc_s_SubsetsOf_L0, F_s_l1In, hlt', f0, f1, hb]
      repeat' (first | omega | apply And.intro)
      exact Again.of (k + 1) (by omega) (by omega) (SubI.slots (by simp [e]) (by simp (disch := omega) [wrapI, e]))
  · have : k = 64 := by omega
    subst this
    have e : (setsOf fun x => x ∈ upS (fun t => subS t s) 64) = setsOf fun t => subS t s := setsOf_congr fun x hx => by rw [mem_upS64]; exact ⟨fun h => h.2, fun h => ⟨hx, h⟩⟩
    simp -implicitDefEqProofs [sc_s_SubsetsOf_L0, F_s_l2Order, allS_upS, e]
end Go.Proofs.Ytmemomfffehnkaa
