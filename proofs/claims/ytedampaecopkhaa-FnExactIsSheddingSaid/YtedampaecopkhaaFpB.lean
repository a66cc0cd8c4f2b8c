import Derived.Test.YtedampaecopkhaaFoN
import Derived.Test.YtedampaecopkhaaFnT
namespace Go.Proofs.Ytedampaecopkhaa
open Go Go.RowKit
set_option maxRecDepth 1000000
set_option linter.unusedSimpArgs false
set_option linter.unusedVariables false
set_option maxHeartbeats 1000000
def sc_s_l2Extreme_L2 : SC := (.seq (.seq (.reg [⟨(some 21), none, (.mov (.t 9))⟩, ⟨(some 22), none, (.mov (.t 5))⟩, ⟨(some 23), none, (.len (.t 22))⟩, ⟨(some 24), none, (.bin false .lss (.t 21) (.t 23))⟩]) (.cond (.t 24) .skip (.exit 2))) (.seq (.block 3 (.seq (.reg [⟨(some 27), none, (.mov (.t 5))⟩, ⟨(some 28), none, (.mov (.t 7))⟩, ⟨(some 29), none, (.idx 1 (.t 27) (.t 28))⟩, ⟨(some 30), none, (.ld none (.int .i64 0) (.t 29))⟩, ⟨(some 10), none, (.mov (.t 30))⟩]) (.seq (.reg [⟨(some 31), none, (.mov (.t 5))⟩, ⟨(some 32), none, (.mov (.t 9))⟩, ⟨(some 33), none, (.idx 1 (.t 31) (.t 32))⟩, ⟨(some 34), none, (.ld none (.int .i64 0) (.t 33))⟩, ⟨(some 11), none, (.mov (.t 34))⟩]) (.seq (.reg [⟨(some 35), none, (.mov (.t 10))⟩, ⟨(some 36), none, (.mov (.t 11))⟩, ⟨(some 37), none, (.bin false .neq (.t 35) (.t 36))⟩, ⟨(some 38), none, (.mov (.t 37))⟩, ⟨(some 39), (some (38, true)), (.mov (.t 1))⟩, ⟨(some 40), (some (38, true)), (.mov (.t 39))⟩, ⟨(some 41), (some (40, true)), (.mov (.t 10))⟩, ⟨(some 42), (some (40, true)), (.mov (.t 11))⟩, ⟨(some 43), (some (40, true)), (.bin false .and (.t 41) (.t 42))⟩, ⟨(some 44), (some (40, true)), (.mov (.t 10))⟩, ⟨(some 45), (some (40, true)), (.bin false .eql (.t 43) (.t 44))⟩, ⟨(some 46), (some (38, true)), (.pick (.t 40) (.t 45) (.c (.bool false)))⟩, ⟨(some 47), (some (38, true)), (.mov (.t 46))⟩, ⟨(some 48), (some (47, false)), (.mov (.t 1))⟩, ⟨(some 49), (some (47, false)), (.un .not (.t 48))⟩, ⟨(some 50), (some (47, false)), (.mov (.t 49))⟩, ⟨(some 51), (some (50, true)), (.mov (.t 10))⟩, ⟨(some 52), (some (50, true)), (.mov (.t 11))⟩, ⟨(some 53), (some (50, true)), (.bin false .and (.t 51) (.t 52))⟩, ⟨(some 54), (some (50, true)), (.mov (.t 11))⟩, ⟨(some 55), (some (50, true)), (.bin false .eql (.t 53) (.t 54))⟩, ⟨(some 56), (some (47, false)), (.pick (.t 50) (.t 55) (.c (.bool false)))⟩, ⟨(some 57), (some (38, true)), (.pick (.t 47) (.c (.bool true)) (.t 56))⟩, ⟨(some 58), none, (.pick (.t 38) (.t 57) (.c (.bool false)))⟩]) (.cond (.t 58) (.reg [⟨(some 8), none, (.mov (.c (.bool false)))⟩]) .skip))))) (.reg [⟨(some 25), none, (.mov (.t 9))⟩, ⟨(some 26), none, (.bin false .add (.t 25) (.c (.int .i64 1)))⟩, ⟨(some 9), none, (.mov (.t 26))⟩])))
def sc_s_l2Extreme_L0 : SC := (.seq (.seq (.reg [⟨(some 15), none, (.mov (.t 7))⟩, ⟨(some 16), none, (.mov (.t 5))⟩, ⟨(some 17), none, (.len (.t 16))⟩, ⟨(some 18), none, (.bin false .lss (.t 15) (.t 17))⟩]) (.cond (.t 18) .skip (.exit 0))) (.seq (.block 1 (.seq (.reg [⟨(some 8), none, (.mov (.c (.bool true)))⟩]) (.seq (.seq (.reg [⟨(some 9), none, (.mov (.c (.int .i64 0)))⟩]) (.block 2 (.loop sc_s_l2Extreme_L2))) (.seq (.reg [⟨(some 59), none, (.mov (.t 8))⟩]) (.cond (.t 59) (.reg [⟨(some 60), none, (.mov (.t 6))⟩, ⟨(some 61), none, (.mov (.t 5))⟩, ⟨(some 62), none, (.mov (.t 7))⟩, ⟨(some 63), none, (.idx 1 (.t 61) (.t 62))⟩, ⟨(some 64), none, (.ld none (.int .i64 0) (.t 63))⟩, ⟨(some 65), none, (.mks 1 1 [(.int .i64 0)] [(0, (1, (.t 64)))])⟩, ⟨(some 66), none, (.app 1 8 (.t 60) (.t 65))⟩, ⟨(some 6), none, (.mov (.t 66))⟩]) .skip))))) (.reg [⟨(some 19), none, (.mov (.t 7))⟩, ⟨(some 20), none, (.bin false .add (.t 19) (.c (.int .i64 1)))⟩, ⟨(some 7), none, (.mov (.t 20))⟩])))
def sc_s_l2Extreme : SC := (.seq (.reg [⟨(some 4), none, (.mov (.c .nil))⟩]) (.seq (.reg [⟨(some 12), none, (.mov (.t 0))⟩, ⟨(some 13), none, (.call 105 [(.t 12)])⟩, ⟨(some 5), none, (.mov (.t 13))⟩]) (.seq (.reg [⟨(some 14), none, (.mks 0 1 [] [])⟩, ⟨(some 6), none, (.mov (.t 14))⟩]) (.seq (.seq (.reg [⟨(some 7), none, (.mov (.c (.int .i64 0)))⟩]) (.block 0 (.loop sc_s_l2Extreme_L0))) (.seq (.reg [⟨(some 67), none, (.mov (.t 6))⟩, ⟨(some 4), none, (.mov (.t 67))⟩]) .ret)))))
theorem code_s_l2Extreme : fnCode Try.prog [] 127 = some (68, sc_s_l2Extreme, [(4, none)]) := by kernel_rfl
noncomputable def F_s_l2Extreme : List V → Option V := F2 dL dB fun l g => @ite _ (allS l ∧ g = true) (Classical.propDecidable _) (some (.own 1 (ints (setsOf (maxP fun s => s ∈ l))))) none
theorem fn_s_l2Extreme : FnOk Try.prog 127 F_s_l2Extreme := by
  have env := (envNil_ok (P := Try.prog)).add fn_s_l2Order
  refine fn_ok code_s_l2Extreme mixed env ?_
  intro args r h hb
  obtain ⟨_, _, l, gr, rfl, h1, h2, h4⟩ := F2_inv h
  cases dL_inv h1
  cases dB_inv h2
  clear h
  simp only [Option.ite_none_right_eq_some, Option.some.injEq] at h4
  obtain ⟨⟨hS, rfl⟩, rfl⟩ := h4
  have hF : F_s_l2Order [.list 1 (ints l)] = some (.own 1 (ints (setsOf fun s => s ∈ l))) := by
    simp only [F_s_l2Order, F1_mk, dL_list, Option.bind_some]
    rw [if_pos hS]
  refine ⟨by simp, fun w0 U0 L0 N0 => ?_⟩
  clear hb
  generalize hpp : (fun s => s ∈ l) = p at *
  rw [← filt_max]
  have hmx := fun k => max_iff_all p (k := k)
  have hL := allS_setsOf p
  have hLl := setsOf_len p
  generalize setsOf p = L at *
  generalize hq : (fun s => dec (maxP p s)) = q
  have inner : ∀ (k : Nat) (g : List Int) (Q : Post) (T0 : Tm), k < L.length → subE T0 [(1, .bool true), (5, .sl 0 1 0 L.length), (6, .sl 1 1 0 g.length), (7, .int .i64 (k : Int)), (8, .bool true), (9, .int .i64 0)] →
      (∀ b : Bool, b = q (at0 L k) → Q (.exit 2) [(1, .bool true), (5, .sl 0 1 0 L.length), (6, .sl 1 1 0 g.length), (7, .int .i64 (k : Int)), (8, .bool b)] ([(1, ints g), (0, ints L)], 2)) →
      LoopI ⟨Try.prog, w0, U0, L0, N0, 0, 68⟩ [] sc_s_l2Extreme_L2 Q T0 ([(1, ints g), (0, ints L)], 2) := by
    intro k g Q T0 hk hs q1
    obtain ⟨D, hD⟩ : ∃ D : Nat → Bool, ∀ j, D j = dec (∀ i, i < j → at0 L k ≠ at0 L i → ¬ subS (at0 L k) (at0 L i)) := ⟨_, fun _ => rfl⟩
    have hD0 : D 0 = true := by rw [hD]; exact dec_true (by omega)
    refine loopQ env mixed (fun j : Nat => [(1, .bool true), (5, .sl 0 1 0 L.length), (6, .sl 1 1 0 g.length), (7, .int .i64 (k : Int)), (8, .bool (D j)), (9, .int .i64 (j : Int))]) (fun _ => ([(1, ints g), (0, ints L)], 2))
      (fun j => j ≤ L.length) (fun j => L.length - j) 0 (by simp) (SubI.slots rfl (by simpa [hD0] using hs)) ?_
    intro j hj
    by_cases hlt : j < L.length
    · have hs1 := allS_at hL hk
      have hs2 := allS_at hL hlt
      have same : (at0 L k ≠ at0 L j → ¬ subS (at0 L k) (at0 L j)) → D (j + 1) = D j := fun hh => by
        rw [hD, hD, Bool.eq_iff_iff, dec_iff, dec_iff]
        refine ⟨fun h i hi => h i (by omega), fun h i hi => ?_⟩
        rcases Nat.lt_succ_iff_lt_or_eq.1 hi with h1 | rfl
        · exact h i h1
        · exact hh
      by_cases h1 : at0 L k = at0 L j
      · have e := same fun h => absurd h1 h
        simp -implicitDefEqProofs [sc_s_l2Extreme_L2, hlt, hk, h1]
        repeat' (first | omega | apply And.intro)
        exact Again.of (j + 1) (by omega) (by omega) (SubI.slots rfl (by simp only [subE_cons, subE_nil, e]; simp (disch := omega) [wrapI]))
      · by_cases h2 : band (at0 L k) (at0 L j) = at0 L k
        · have e : D (j + 1) = false := by
            rw [hD]
            exact dec_false fun h => h j (by omega) h1 ((subS_iff hs1 hs2).2 h2)
          simp -implicitDefEqProofs [sc_s_l2Extreme_L2, hlt, hk, h1, h2]
          repeat' (first | omega | apply And.intro)
          exact Again.of (j + 1) (by omega) (by omega) (SubI.slots rfl (by simp only [subE_cons, subE_nil, e]; simp (disch := omega) [wrapI]))
        · have e := same fun _ h => h2 ((subS_iff hs1 hs2).1 h)
          simp -implicitDefEqProofs [sc_s_l2Extreme_L2, hlt, hk, h1, h2]
          repeat' (first | omega | apply And.intro)
          exact Again.of (j + 1) (by omega) (by omega) (SubI.slots rfl (by simp only [subE_cons, subE_nil, e]; simp (disch := omega) [wrapI]))
    · have hj2 : j = L.length := by omega
      subst hj2
      have q2 := q1 (D L.length) (by rw [hD, ← hq, Bool.eq_iff_iff, dec_iff, dec_iff]; exact (hmx k hk).symm)
      simp -implicitDefEqProofs [sc_s_l2Extreme_L2]
      exact SubQ.of (SubI.slots rfl (by simp)) q2
  simp -implicitDefEqProofs [sc_s_l2Extreme, hF]
  refine loopI env mixed (fun k : Nat => [(1, .bool true), (5, .sl 0 1 0 L.length), (6, .sl 1 1 0 ((L.take k).filter q).length), (7, .int .i64 (k : Int))]) (fun k => ([(1, ints ((L.take k).filter q)), (0, ints L)], 2)) (fun k => k ≤ L.length) (fun k => L.length - k) 0 (by simp) (SubI.slots (by simp) (by simp)) ?_
  intro k hk
  have gl := filt_len L k q
  by_cases hlt : k < L.length
  · have hnx : ∀ b : Bool, q (at0 L k) = b → (L.take (k + 1)).filter q = if b = true then (L.take k).filter q ++ [at0 L k] else (L.take k).filter q := fun b hb => by
      cases b with
      | true => exact filt_pos hlt hb
      | false => exact filt_neg hlt hb
    generalize hgg : (L.take k).filter q = g at *
    simp -implicitDefEqProofs [sc_s_l2Extreme_L0, hlt]
    repeat' (first | omega | apply And.intro)
    refine inner k g _ _ hlt (by simp) ?_
    intro b hb
    cases hqk : q (at0 L k) with
    | true =>
      rw [hqk] at hb
      subst hb
      have e := hnx true hqk
      simp only [if_true] at e
      simp -implicitDefEqProofs [hlt]
      repeat' (first | omega | apply And.intro)
      refine Again.of (k + 1) (by omega) (by omega) (SubI.ren (fun m => if m = 0 then some 0 else if m = 1 then some 3 else none) ?_ ?_ ?_ (by simp) (by simp))
      · simp only [e]
        simp (disch := omega) [subT, renV, ren1, wrapI]
      · simp only [e]
        simp [subH, renL, ren1]
        rw [← ints_app]
        rfl
      · intro m hm
        simp only at hm
        rw [if_neg (by omega), if_neg (by omega)]
    | false =>
      rw [hqk] at hb
      subst hb
      have e := hnx false hqk
      simp only [Bool.false_eq_true, if_false] at e
      simp -implicitDefEqProofs
      exact Again.of (k + 1) (by omega) (by omega) (SubI.slots (by simp only [e]) (by simp only [e]; simp (disch := omega) [wrapI]))
  · have : k = L.length := by omega
    subst this
    simp -implicitDefEqProofs [sc_s_l2Extreme_L0]
def sc_s_l3Make : SC := (.seq (.reg [⟨(some 4), none, (.new [(.int .i64 0), .nil])⟩]) (.seq (.reg [⟨(some 5), none, (.mov (.t 0))⟩, ⟨(some 6), none, (.mov (.t 1))⟩, ⟨(some 7), none, (.call 127 [(.t 6), (.c (.bool true))])⟩, ⟨(some 8), none, (.agg [(.int .i64 0), .nil] [(0, (1, (.t 5))), (1, (1, (.t 7)))])⟩, ⟨none, none, (.st 2 (.t 4) (.t 8))⟩]) .ret))
theorem code_s_l3Make : fnCode Try.prog [] 116 = some (9, sc_s_l3Make, [(4, (some 2))]) := by kernel_rfl
noncomputable def F_s_l3Make : List V → Option V := F2 dI dL fun n l => @ite _ (allS l) (Classical.propDecidable _) (some (.agg [.int .i64 n, .own 1 (ints (setsOf (maxP fun s => s ∈ l)))])) none
theorem fn_s_l3Make : FnOk Try.prog 116 F_s_l3Make := by
  have env := (envNil_ok (P := Try.prog)).add fn_s_l2Extreme
  refine fn_ok code_s_l3Make mixed env ?_
  intro args r h hb
  obtain ⟨_, _, n, l, rfl, h1, h2, h4⟩ := F2_inv h
  cases dI_inv h1
  cases dL_inv h2
  clear h
  simp only [Option.ite_none_right_eq_some, Option.some.injEq] at h4
  obtain ⟨hS, rfl⟩ := h4
  refine ⟨by simp, fun w0 U0 L0 N0 => ?_⟩
  simp -implicitDefEqProofs [sc_s_l3Make, F_s_l2Extreme, hS]
end Go.Proofs.Ytedampaecopkhaa
