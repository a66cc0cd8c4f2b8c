import Derived.Test.YtedampaecopkhaaFoN
import Derived.Test.YtedampaecopkhaaFoA
namespace Go.Proofs.Ytedampaecopkhaa
open Go Go.RowKit
set_option maxRecDepth 1000000
set_option linter.unusedSimpArgs false
set_option linter.unusedVariables false
set_option maxHeartbeats 1000000
def sc_i_maximalIn_L2 : SC := (.seq (.reg [⟨(some 25), none, (.bin false .lss (.t 24) (.t 23))⟩]) (.seq (.cond (.t 25) .skip (.exit 2)) (.seq (.block 3 (.seq (.reg [⟨(some 26), none, (.idx 1 (.t 22) (.t 24))⟩, ⟨(some 27), none, (.ld none (.int .i64 0) (.t 26))⟩, ⟨(some 9), none, (.mov (.t 27))⟩]) (.seq (.reg [⟨(some 28), none, (.mov (.t 6))⟩, ⟨(some 29), none, (.mov (.t 9))⟩, ⟨(some 30), none, (.bin false .andNot (.t 28) (.t 29))⟩, ⟨(some 31), none, (.bin false .eql (.t 30) (.c (.int .i64 0)))⟩]) (.cond (.t 31) (.seq (.reg [⟨(some 7), none, (.mov (.c (.bool true)))⟩]) (.exit 2)) .skip)))) (.reg [⟨(some 32), none, (.bin false .add (.t 24) (.c (.int .i64 1)))⟩, ⟨(some 24), none, (.mov (.t 32))⟩]))))
def sc_i_maximalIn_L0 : SC := (.seq (.reg [⟨(some 15), none, (.bin false .lss (.t 14) (.t 13))⟩]) (.seq (.cond (.t 15) .skip (.exit 0)) (.seq (.block 1 (.seq (.reg [⟨(some 16), none, (.mov (.t 14))⟩, ⟨(some 17), none, (.idx 1 (.t 12) (.t 14))⟩, ⟨(some 18), none, (.ld none (.int .i64 0) (.t 17))⟩, ⟨(some 5), none, (.mov (.t 16))⟩, ⟨(some 6), none, (.mov (.t 18))⟩]) (.seq (.reg [⟨(some 7), none, (.mov (.c (.bool false)))⟩]) (.seq (.seq (.reg [⟨(some 19), none, (.mov (.t 3))⟩, ⟨(some 20), none, (.mov (.t 5))⟩, ⟨(some 21), none, (.bin false .add (.t 20) (.c (.int .i64 1)))⟩, ⟨(some 22), none, (.sli 1 (.t 19) (some (.t 21)) none none)⟩, ⟨(some 23), none, (.len (.t 22))⟩, ⟨(some 24), none, (.mov (.c (.int .i64 0)))⟩]) (.block 2 (.loop sc_i_maximalIn_L2))) (.seq (.reg [⟨(some 33), none, (.mov (.t 7))⟩, ⟨(some 34), none, (.un .not (.t 33))⟩]) (.cond (.t 34) (.reg [⟨(some 35), none, (.mov (.t 4))⟩, ⟨(some 36), none, (.mov (.t 6))⟩, ⟨(some 37), none, (.mks 1 1 [(.int .i64 0)] [(0, (1, (.t 36)))])⟩, ⟨(some 38), none, (.app 1 8 (.t 35) (.t 37))⟩, ⟨(some 4), none, (.mov (.t 38))⟩]) .skip)))))) (.reg [⟨(some 39), none, (.bin false .add (.t 14) (.c (.int .i64 1)))⟩, ⟨(some 14), none, (.mov (.t 39))⟩]))))
def sc_i_maximalIn : SC := (.seq (.reg [⟨(some 2), none, (.mov (.c .nil))⟩]) (.seq (.reg [⟨(some 10), none, (.mov (.t 0))⟩, ⟨(some 11), none, (.call 77 [(.t 10)])⟩, ⟨(some 3), none, (.mov (.t 11))⟩]) (.seq (.reg [⟨(some 4), none, (.mov (.c .nil))⟩]) (.seq (.seq (.reg [⟨(some 12), none, (.mov (.t 3))⟩, ⟨(some 13), none, (.len (.t 12))⟩, ⟨(some 14), none, (.mov (.c (.int .i64 0)))⟩]) (.block 0 (.loop sc_i_maximalIn_L0))) (.seq (.reg [⟨(some 40), none, (.mov (.t 4))⟩, ⟨(some 2), none, (.mov (.t 40))⟩]) .ret)))))
theorem code_i_maximalIn : fnCode Try.prog [] 117 = some (41, sc_i_maximalIn, [(2, none)]) := by kernel_rfl
noncomputable def maxG (f : Int) : Option V := @ite _ (0 ≤ f ∧ f < 18446744073709551616) (Classical.propDecidable _) (some (.own 1 (ints (setsOf (maxP (bitP f)))))) none
theorem maxG_fam (p : Int → Prop) : maxG (fam p) = some (.own 1 (ints (setsOf (maxP p)))) := by
  unfold maxG
  rw [if_pos ⟨fam_nn p, fam_lt p⟩, setsOf_congr fun s hs => maxP_congr (fun s hs => bitP_fam hs) hs]
noncomputable def F_i_maximalIn : List V → Option V := F1 dU maxG
theorem fn_i_maximalIn : FnOk Try.prog 117 F_i_maximalIn := by
  have env := (envNil_ok (P := Try.prog)).add fn_i_setsIn
  refine fn_ok code_i_maximalIn mixed env ?_
  intro args r h hb
  obtain ⟨_, f, rfl, h1, h4⟩ := F1_inv h
  cases dU_inv h1
  clear h
  simp only [maxG, Option.ite_none_right_eq_some, Option.some.injEq] at h4
  obtain ⟨⟨hf1, hf2⟩, rfl⟩ := h4
  have hf := fam_bitP hf1 hf2
  generalize bitP f = p at *
  subst hf
  refine ⟨by simp, fun w0 U0 L0 N0 => ?_⟩
  have hs0 := setsG_fam p
  rw [← filt_max]
  have hmx := fun k => max_iff_later p (k := k)
  have hL := allS_setsOf p
  have hLl := setsOf_len p
  generalize setsOf p = L at *
  generalize hq : (fun s => dec (maxP p s)) = q
  have inner : ∀ (k : Nat) (g : List Int) (Q : Post) (T0 : Tm), k < L.length → subE T0 [(3, .sl 0 1 0 L.length), (4, .sl 1 1 0 g.length), (6, .int .i64 (at0 L k)), (7, .bool false), (12, .sl 0 1 0 L.length), (13, .int .i64 (L.length : Int)), (14, .int .i64 (k : Int)), (22, .sl 0 1 (k + 1) (L.length - (k + 1))), (23, .int .i64 ((L.length - (k + 1) : Nat) : Int)), (24, .int .i64 0)] →
      (∀ b : Bool, b = !q (at0 L k) → Q (.exit 2) [(3, .sl 0 1 0 L.length), (4, .sl 1 1 0 g.length), (6, .int .i64 (at0 L k)), (7, .bool b), (12, .sl 0 1 0 L.length), (13, .int .i64 (L.length : Int)), (14, .int .i64 (k : Int))] ([(1, ints g), (0, ints L)], 2)) →
      LoopI ⟨Try.prog, w0, U0, L0, N0, 0, 41⟩ [] sc_i_maximalIn_L2 Q T0 ([(1, ints g), (0, ints L)], 2) := by
    intro k g Q T0 hk hs q1
    refine loopQ env mixed (fun j : Nat => [(3, .sl 0 1 0 L.length), (4, .sl 1 1 0 g.length), (6, .int .i64 (at0 L k)), (7, .bool false), (12, .sl 0 1 0 L.length), (13, .int .i64 (L.length : Int)), (14, .int .i64 (k : Int)), (22, .sl 0 1 (k + 1) (L.length - (k + 1))), (23, .int .i64 ((L.length - (k + 1) : Nat) : Int)), (24, .int .i64 (j : Int))]) (fun _ => ([(1, ints g), (0, ints L)], 2))
      (fun j => j ≤ L.length - (k + 1) ∧ ∀ i, i < j → ¬ subS (at0 L k) (at0 L (k + 1 + i))) (fun j => L.length - (k + 1) - j) 0 (by simp) (SubI.slots rfl (by simpa using hs)) ?_
    rintro j ⟨hj, hn⟩
    by_cases hlt : j < L.length - (k + 1)
    · have hlt2 : k + 1 + j < L.length := by omega
      by_cases hb : bnot (at0 L k) (at0 L (k + 1 + j)) = 0
      · have hq1 : q (at0 L k) = false := by
          rw [← hq]
          exact dec_false fun h => (hmx k hk).1 h (k + 1 + j) (by omega) hlt2 hb
        have q2 := q1 true (by rw [hq1]; rfl)
        simp -implicitDefEqProofs [sc_i_maximalIn_L2, hlt, hlt2, hb]
        repeat' (first | omega | apply And.intro)
        exact SubQ.of (SubI.slots rfl (by simp)) q2
      · simp -implicitDefEqProofs [sc_i_maximalIn_L2, hlt, hlt2, hb]
        repeat' (first | omega | apply And.intro)
        refine Again.of (j + 1) ⟨by omega, fun i hi => ?_⟩ (by omega) (SubI.slots rfl (by simp (disch := omega) [wrapI]))
        rcases Nat.lt_succ_iff_lt_or_eq.1 hi with h1 | rfl
        · exact hn i h1
        · exact hb
    · have hj2 : j = L.length - (k + 1) := by omega
      have hq1 : q (at0 L k) = true := by
        rw [← hq]
        refine dec_true ((hmx k hk).2 fun i h1 h2 => ?_)
        have := hn (i - (k + 1)) (by omega)
        rwa [show k + 1 + (i - (k + 1)) = i by omega] at this
      have q2 := q1 false (by rw [hq1]; rfl)
      subst hj2
      simp -implicitDefEqProofs [sc_i_maximalIn_L2]
      exact SubQ.of (SubI.slots rfl (by simp)) q2
  simp -implicitDefEqProofs [sc_i_maximalIn, F_i_setsIn, hs0]
  refine loopI env mixed (fun k : Nat => [(3, .sl 0 1 0 L.length), (4, .sl 1 1 0 ((L.take k).filter q).length), (12, .sl 0 1 0 L.length), (13, .int .i64 (L.length : Int)), (14, .int .i64 (k : Int))]) (fun k => ([(1, ints ((L.take k).filter q)), (0, ints L)], 2)) (fun k => k ≤ L.length) (fun k => L.length - k) 0 (by simp) (SubI.nilN 4 1 (by simp) (SubI.slots (by simp) (by simp))) ?_
  intro k hk
  have gl := filt_len L k q
  by_cases hlt : k < L.length
  · have hw : IntKind.i64.wrap ((k : Int) + 1) = ((k + 1 : Nat) : Int) := by rw [wrapI _ (by omega) (by omega)]; omega
    have hnx : ∀ b : Bool, q (at0 L k) = b → (L.take (k + 1)).filter q = if b = true then (L.take k).filter q ++ [at0 L k] else (L.take k).filter q := fun b hb => by
      cases b with
      | true => exact filt_pos hlt hb
      | false => exact filt_neg hlt hb
    generalize hgg : (L.take k).filter q = g at *
    simp -implicitDefEqProofs [sc_i_maximalIn_L0, hlt, hw]
    repeat' (first | omega | apply And.intro)
    refine inner k g _ _ hlt ?_ ?_
    · simp
      try omega
    · intro b hb
      cases hqk : q (at0 L k) with
      | true =>
        rw [hqk] at hb
        subst hb
        have e := hnx true hqk
        simp only [if_true] at e
        simp -implicitDefEqProofs
        repeat' (first | omega | apply And.intro)
        refine Again.of (k + 1) (by omega) (by omega) (SubI.ren (fun m => if m = 0 then some 0 else if m = 1 then some 3 else none) ?_ ?_ ?_ (by simp) (by simp))
        · simp only [e]
          simp (disch := omega) [subT, renV, ren1, wrapI]
        · simp only [e]
          simp [subH, renL, ren1]
          rw [← ints_app]
          rfl
        · intro m hm
          simp only at hm
          rw [if_neg (by omega), if_neg (by omega)]
      | false =>
        rw [hqk] at hb
        subst hb
        have e := hnx false hqk
        simp only [Bool.false_eq_true, if_false] at e
        simp -implicitDefEqProofs
        exact Again.of (k + 1) (by omega) (by omega) (SubI.slots (by simp only [e]) (by simp only [e]; simp (disch := omega) [wrapI]))
  · have : k = L.length := by omega
    subst this
    simp -implicitDefEqProofs [sc_i_maximalIn_L0]
end Go.Proofs.Ytedampaecopkhaa
