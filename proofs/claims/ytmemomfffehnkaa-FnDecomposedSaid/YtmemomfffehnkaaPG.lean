import Derived.Test.YtmemomfffehnkaaPE
import Derived.Test.YtmemomfffehnkaaPF
namespace Go.Proofs.Ytmemomfffehnkaa
open Go Go.RowKit
set_option maxRecDepth 1000000
set_option linter.unusedSimpArgs false
set_option linter.unusedVariables false
set_option maxHeartbeats 1000000
def sc_i_setsIn_L2 : SC := (.seq (.seq (.reg [⟨(some 10), none, (.mov (.t 5))⟩, ⟨(some 11), none, (.bin false .lss (.t 10) (.c (.int .i64 64)))⟩]) (.cond (.t 11) .skip (.exit 2))) (.seq (.block 3 (.seq (.reg [⟨(some 14), none, (.mov (.t 0))⟩, ⟨(some 15), none, (.mov (.t 5))⟩, ⟨(some 16), none, (.call 182 [(.t 14), (.t 15)])⟩, ⟨(some 17), none, (.mov (.t 16))⟩, ⟨(some 18), (some (17, true)), (.mov (.t 5))⟩, ⟨(some 19), (some (17, true)), (.call 181 [(.t 18)])⟩, ⟨(some 20), (some (17, true)), (.mov (.t 4))⟩, ⟨(some 21), (some (17, true)), (.bin false .eql (.t 19) (.t 20))⟩, ⟨(some 22), none, (.pick (.t 17) (.t 21) (.c (.bool false)))⟩]) (.cond (.t 22) (.reg [⟨(some 23), none, (.mov (.t 3))⟩, ⟨(some 24), none, (.mov (.t 5))⟩, ⟨(some 25), none, (.mks 1 1 [(.int .i64 0)] [(0, (1, (.t 24)))])⟩, ⟨(some 26), none, (.app 1 8 (.t 23) (.t 25))⟩, ⟨(some 3), none, (.mov (.t 26))⟩]) .skip))) (.reg [⟨(some 12), none, (.mov (.t 5))⟩, ⟨(some 13), none, (.bin false .add (.t 12) (.c (.int .i64 1)))⟩, ⟨(some 5), none, (.mov (.t 13))⟩])))
def sc_i_setsIn_L0 : SC := (.seq (.seq (.reg [⟨(some 6), none, (.mov (.t 4))⟩, ⟨(some 7), none, (.bin false .leq (.t 6) (.c (.int .i64 6)))⟩]) (.cond (.t 7) .skip (.exit 0))) (.seq (.block 1 (.seq (.reg [⟨(some 5), none, (.mov (.c (.int .i64 0)))⟩]) (.block 2 (.loop sc_i_setsIn_L2)))) (.reg [⟨(some 8), none, (.mov (.t 4))⟩, ⟨(some 9), none, (.bin false .add (.t 8) (.c (.int .i64 1)))⟩, ⟨(some 4), none, (.mov (.t 9))⟩])))
def sc_i_setsIn : SC := (.seq (.reg [⟨(some 2), none, (.mov (.c .nil))⟩]) (.seq (.reg [⟨(some 3), none, (.mov (.c .nil))⟩]) (.seq (.seq (.reg [⟨(some 4), none, (.mov (.c (.int .i64 0)))⟩]) (.block 0 (.loop sc_i_setsIn_L0))) (.seq (.reg [⟨(some 27), none, (.mov (.t 3))⟩, ⟨(some 2), none, (.mov (.t 27))⟩]) .ret))))
theorem code_i_setsIn : fnCode Try.prog [] 187 = some (28, sc_i_setsIn, [(2, none)]) := by kernel_rfl
noncomputable def setsG (f : Int) : Option V := @ite _ (0 ≤ f ∧ f < 18446744073709551616) (Classical.propDecidable _) (some (.own 1 (ints (setsOf (bitP f))))) none
theorem setsG_fam (p : Int → Prop) : setsG (fam p) = some (.own 1 (ints (setsOf p))) := by
  unfold setsG
  rw [if_pos ⟨fam_nn p, fam_lt p⟩, setsOf_congr fun s hs => bitP_fam hs]
noncomputable def F_i_setsIn : List V → Option V := F1 dU setsG
theorem fn_i_setsIn : FnOk Try.prog 187 F_i_setsIn := by
  have env := ((envNil_ok (P := Try.prog)).add fn_i_SizeOf).add fn_i_hasSet
  refine fn_ok code_i_setsIn mixed env ?_
  intro args r h hb
  obtain ⟨_, f, rfl, h1, h4⟩ := F1_inv h
  cases dU_inv h1
  clear h
  simp only [setsG, Option.ite_none_right_eq_some, Option.some.injEq] at h4
  obtain ⟨⟨hf1, hf2⟩, rfl⟩ := h4
  have hf := fam_bitP hf1 hf2
  generalize bitP f = p at *
  subst hf
  refine ⟨by simp, fun w0 U0 L0 N0 => ?_⟩
  have inner : ∀ (z : Nat) (Q : Post) (L : Tm), z ≤ 6 → subE L [(0, .int .u64 (fam p)), (3, .sl 0 1 0 (ordS p z).length), (4, .int .i64 (z : Int)), (5, .int .i64 0)] →
      Q (.exit 2) [(0, .int .u64 (fam p)), (3, .sl 0 1 0 (ordS p (z + 1)).length), (4, .int .i64 (z : Int))] ([(0, ints (ordS p (z + 1)))], 1) →
      LoopI ⟨Try.prog, w0, U0, L0, N0, 0, 28⟩ [] sc_i_setsIn_L2 Q L ([(0, ints (ordS p z))], 1) := by
    intro z Q L hz hs q1
    have ob := ordS_len p z
    refine loopQ env mixed (fun k : Nat => [(0, .int .u64 (fam p)), (3, .sl 0 1 0 (ordS p z ++ upS (fun s => p s ∧ sz s = z) k).length), (4, .int .i64 (z : Int)), (5, .int .i64 (k : Int))]) (fun k => ([(0, ints (ordS p z ++ upS (fun s => p s ∧ sz s = z) k))], 1)) (fun k => k ≤ 64) (fun k => 64 - k) 0 (by simp)
      (SubI.slots (by simp [upS]) (by simpa [upS] using hs)) ?_
    intro k hk
    have ub := upS_len (fun s => p s ∧ sz s = z) k
    by_cases hlt : k < 64
    · have hlt' : (k : Int) < 64 := by omega
      have hkS := inS k hlt
      have hg := hasG_fam (p := p) hkS
      have r1 := sizeOf1_set hkS.1 hkS.2
      by_cases hp : p (k : Int)
      · rw [dec_true hp] at hg
        by_cases hsz : sz (k : Int) = (z : Int)
        · have e : upS (fun s => p s ∧ sz s = z) (k + 1) = upS (fun s => p s ∧ sz s = z) k ++ [(k : Int)] := upS_pos ⟨hp, hsz⟩
          have e2 : ordS p z ++ upS (fun s => p s ∧ sz s = z) (k + 1) = (ordS p z ++ upS (fun s => p s ∧ sz s = z) k) ++ [(k : Int)] := by rw [e, List.append_assoc]
          have gl : (ordS p z ++ upS (fun s => p s ∧ sz s = z) k).length ≤ 64 * z + k := by rw [List.length_append]; omega
          generalize hgg : ordS p z ++ upS (fun s => p s ∧ sz s = z) k = g at *
          simp -implicitDefEqProofs [sc_i_setsIn_L2, F_i_hasSet, F_i_SizeOf, hlt', hg, r1, hsz]
          repeat' (first | omega | apply And.intro)
          refine Again.of (k + 1) (by omega) (by omega) (SubI.ren (fun m => if m = 0 then some 2 else none) ?_ ?_ ?_ (by simp) (by simp))
          · have el := congrArg List.length e2
            simp only [List.length_append, List.length_cons, List.length_nil] at el
            simp (disch := omega) [subT, renV, ren1, wrapI, e2]
            omega
          · simp [subH, e2, renL, ren1]
            rw [← ints_app]
            rfl
          · intro m hm
            simp only at hm
            rw [if_neg (by omega)]
        · have e : upS (fun s => p s ∧ sz s = z) (k + 1) = upS (fun s => p s ∧ sz s = z) k := upS_neg fun h => hsz h.2
          simp -implicitDefEqProofs [sc_i_setsIn_L2, F_i_hasSet, F_i_SizeOf, hlt', hg, r1, hsz]
          repeat' (first | omega | apply And.intro)
          exact Again.of (k + 1) (by omega) (by omega) (SubI.slots (by simp [e]) (by simp (disch := omega) [wrapI, e]))
      · rw [dec_false hp] at hg
        have e : upS (fun s => p s ∧ sz s = z) (k + 1) = upS (fun s => p s ∧ sz s = z) k := upS_neg fun h => hp h.1
        simp -implicitDefEqProofs [sc_i_setsIn_L2, F_i_hasSet, hlt', hg]
        repeat' (first | omega | apply And.intro)
        exact Again.of (k + 1) (by omega) (by omega) (SubI.slots (by simp [e]) (by simp (disch := omega) [wrapI, e]))
    · have : k = 64 := by omega
      subst this
      simp -implicitDefEqProofs [sc_i_setsIn_L2]
      exact SubQ.of (SubI.slots (by simp [ordS]) (by simp [ordS])) q1
  simp -implicitDefEqProofs [sc_i_setsIn]
  refine loopI env mixed (fun z : Nat => [(0, .int .u64 (fam p)), (3, .sl 0 1 0 (ordS p z).length), (4, .int .i64 (z : Int))]) (fun z => ([(0, ints (ordS p z))], 1)) (fun z => z ≤ 7) (fun z => 7 - z) 0 (by simp) (SubI.nilN 3 1 (by simp) (SubI.slots (by simp [ordS]) (by simp [ordS]))) ?_
  intro z hz
  by_cases h7 : z < 7
  · have hz6 : (z : Int) ≤ 6 := by omega
    simp -implicitDefEqProofs [sc_i_setsIn_L0, hz6]
    refine inner z _ _ (by omega) (by simp) ?_
    simp -implicitDefEqProofs
    exact Again.of (z + 1) (by omega) (by omega) (SubI.slots (by simp) (by simp (disch := omega) [wrapI]))
  · have : z = 7 := by omega
    subst this
    simp -implicitDefEqProofs [sc_i_setsIn_L0, setsOf_eq]
end Go.Proofs.Ytmemomfffehnkaa
namespace Go.Proofs.Ytmemomfffehnkaa
open Go Go.RowKit
set_option maxRecDepth 1000000
set_option linter.unusedSimpArgs false
set_option linter.unusedVariables false
set_option maxHeartbeats 1000000
def sc_i_maximalIn_L2 : SC := (.seq (.reg [⟨(some 25), none, (.bin false .lss (.t 24) (.t 23))⟩]) (.seq (.cond (.t 25) .skip (.exit 2)) (.seq (.block 3 (.seq (.reg [⟨(some 26), none, (.idx 1 (.t 22) (.t 24))⟩, ⟨(some 27), none, (.ld none (.int .i64 0) (.t 26))⟩, ⟨(some 9), none, (.mov (.t 27))⟩]) (.seq (.reg [⟨(some 28), none, (.mov (.t 6))⟩, ⟨(some 29), none, (.mov (.t 9))⟩, ⟨(some 30), none, (.bin false .andNot (.t 28) (.t 29))⟩, ⟨(some 31), none, (.bin false .eql (.t 30) (.c (.int .i64 0)))⟩]) (.cond (.t 31) (.seq (.reg [⟨(some 7), none, (.mov (.c (.bool true)))⟩]) (.exit 2)) .skip)))) (.reg [⟨(some 32), none, (.bin false .add (.t 24) (.c (.int .i64 1)))⟩, ⟨(some 24), none, (.mov (.t 32))⟩]))))
def sc_i_maximalIn_L0 : SC := (.seq (.reg [⟨(some 15), none, (.bin false .lss (.t 14) (.t 13))⟩]) (.seq (.cond (.t 15) .skip (.exit 0)) (.seq (.block 1 (.seq (.reg [⟨(some 16), none, (.mov (.t 14))⟩, ⟨(some 17), none, (.idx 1 (.t 12) (.t 14))⟩, ⟨(some 18), none, (.ld none (.int .i64 0) (.t 17))⟩, ⟨(some 5), none, (.mov (.t 16))⟩, ⟨(some 6), none, (.mov (.t 18))⟩]) (.seq (.reg [⟨(some 7), none, (.mov (.c (.bool false)))⟩]) (.seq (.seq (.reg [⟨(some 19), none, (.mov (.t 3))⟩, ⟨(some 20), none, (.mov (.t 5))⟩, ⟨(some 21), none, (.bin false .add (.t 20) (.c (.int .i64 1)))⟩, ⟨(some 22), none, (.sli 1 (.t 19) (some (.t 21)) none none)⟩, ⟨(some 23), none, (.len (.t 22))⟩, ⟨(some 24), none, (.mov (.c (.int .i64 0)))⟩]) (.block 2 (.loop sc_i_maximalIn_L2))) (.seq (.reg [⟨(some 33), none, (.mov (.t 7))⟩, ⟨(some 34), none, (.un .not (.t 33))⟩]) (.cond (.t 34) (.reg [⟨(some 35), none, (.mov (.t 4))⟩, ⟨(some 36), none, (.mov (.t 6))⟩, ⟨(some 37), none, (.mks 1 1 [(.int .i64 0)] [(0, (1, (.t 36)))])⟩, ⟨(some 38), none, (.app 1 8 (.t 35) (.t 37))⟩, ⟨(some 4), none, (.mov (.t 38))⟩]) .skip)))))) (.reg [⟨(some 39), none, (.bin false .add (.t 14) (.c (.int .i64 1)))⟩, ⟨(some 14), none, (.mov (.t 39))⟩]))))
def sc_i_maximalIn : SC := (.seq (.reg [⟨(some 2), none, (.mov (.c .nil))⟩]) (.seq (.reg [⟨(some 10), none, (.mov (.t 0))⟩, ⟨(some 11), none, (.call 187 [(.t 10)])⟩, ⟨(some 3), none, (.mov (.t 11))⟩]) (.seq (.reg [⟨(some 4), none, (.mov (.c .nil))⟩]) (.seq (.seq (.reg [⟨(some 12), none, (.mov (.t 3))⟩, ⟨(some 13), none, (.len (.t 12))⟩, ⟨(some 14), none, (.mov (.c (.int .i64 0)))⟩]) (.block 0 (.loop sc_i_maximalIn_L0))) (.seq (.reg [⟨(some 40), none, (.mov (.t 4))⟩, ⟨(some 2), none, (.mov (.t 40))⟩]) .ret)))))
theorem code_i_maximalIn : fnCode Try.prog [] 192 = some (41, sc_i_maximalIn, [(2, none)]) := by kernel_rfl
noncomputable def maxG (f : Int) : Option V := @ite _ (0 ≤ f ∧ f < 18446744073709551616) (Classical.propDecidable _) (some (.own 1 (ints (setsOf (maxP (bitP f)))))) none
theorem maxG_fam (p : Int → Prop) : maxG (fam p) = some (.own 1 (ints (setsOf (maxP p)))) := by
  unfold maxG
  rw [if_pos ⟨fam_nn p, fam_lt p⟩, setsOf_congr fun s hs => maxP_congr (fun s hs => bitP_fam hs) hs]
noncomputable def F_i_maximalIn : List V → Option V := F1 dU maxG
theorem fn_i_maximalIn : FnOk Try.prog 192 F_i_maximalIn := by
  have env := (envNil_ok (P := Try.prog)).add fn_i_setsIn
  refine fn_ok code_i_maximalIn mixed env ?_
  intro args r h hb
  obtain ⟨_, f, rfl, h1, h4⟩ := F1_inv h
  cases dU_inv h1
  clear h
  simp only [maxG, Option.ite_none_right_eq_some, Option.some.injEq] at h4
  obtain ⟨⟨hf1, hf2⟩, rfl⟩ := h4
  have hf := fam_bitP hf1 hf2
  generalize bitP f = p at *
  subst hf
  refine ⟨by simp, fun w0 U0 L0 N0 => ?_⟩
  have hs0 := setsG_fam p
  rw [← filt_max]
  have hmx := fun k => max_iff_later p (k := k)
  have hL := allS_setsOf p
  have hLl := setsOf_len p
  generalize setsOf p = L at *
  generalize hq : (fun s => dec (maxP p s)) = q
  have inner : ∀ (k : Nat) (g : List Int) (Q : Post) (T0 : Tm), k < L.length → subE T0 [(3, .sl 0 1 0 L.length), (4, .sl 1 1 0 g.length), (6, .int .i64 (at0 L k)), (7, .bool false), (12, .sl 0 1 0 L.length), (13, .int .i64 (L.length : Int)), (14, .int .i64 (k : Int)), (22, .sl 0 1 (k + 1) (L.length - (k + 1))), (23, .int .i64 ((L.length - (k + 1) : Nat) : Int)), (24, .int .i64 0)] →
      (∀ b : Bool, b = !q (at0 L k) → Q (.exit 2) [(3, .sl 0 1 0 L.length), (4, .sl 1 1 0 g.length), (6, .int .i64 (at0 L k)), (7, .bool b), (12, .sl 0 1 0 L.length), (13, .int .i64 (L.length : Int)), (14, .int .i64 (k : Int))] ([(1, ints g), (0, ints L)], 2)) →
      LoopI ⟨Try.prog, w0, U0, L0, N0, 0, 41⟩ [] sc_i_maximalIn_L2 Q T0 ([(1, ints g), (0, ints L)], 2) := by
    intro k g Q T0 hk hs q1
    refine loopQ env mixed (fun j : Nat => [(3, .sl 0 1 0 L.length), (4, .sl 1 1 0 g.length), (6, .int .i64 (at0 L k)), (7, .bool false), (12, .sl 0 1 0 L.length), (13, .int .i64 (L.length : Int)), (14, .int .i64 (k : Int)), (22, .sl 0 1 (k + 1) (L.length - (k + 1))), (23, .int .i64 ((L.length - (k + 1) : Nat) : Int)), (24, .int .i64 (j : Int))]) (fun _ => ([(1, ints g), (0, ints L)], 2))
      (fun j => j ≤ L.length - (k + 1) ∧ ∀ i, i < j → ¬ subS (at0 L k) (at0 L (k + 1 + i))) (fun j => L.length - (k + 1) - j) 0 (by simp) (SubI.slots rfl (by simpa using hs)) ?_
    rintro j ⟨hj, hn⟩
    by_cases hlt : j < L.length - (k + 1)
    · have hlt2 : k + 1 + j < L.length := by omega
      by_cases hb : bnot (at0 L k) (at0 L (k + 1 + j)) = 0
      · have hq1 : q (at0 L k) = false := by
          rw [← hq]
          exact dec_false fun h => (hmx k hk).1 h (k + 1 + j) (by omega) hlt2 hb
        have q2 := q1 true (by rw [hq1]; rfl)
        simp -implicitDefEqProofs [sc_i_maximalIn_L2, hlt, hlt2, hb]
        repeat' (first | omega | apply And.intro)
        exact SubQ.of (SubI.slots rfl (by simp)) q2
      · simp -implicitDefEqProofs [sc_i_maximalIn_L2, hlt, hlt2, hb]
        repeat' (first | omega | apply And.intro)
        refine Again.of (j + 1) ⟨by omega, fun i hi => ?_⟩ (by omega) (SubI.slots rfl (by simp (disch := omega) [wrapI]))
        rcases Nat.lt_succ_iff_lt_or_eq.1 hi with h1 | rfl
        · exact hn i h1
        · exact hb
    · have hj2 : j = L.length - (k + 1) := by omega
      have hq1 : q (at0 L k) = true := by
        rw [← hq]
        refine dec_true ((hmx k hk).2 fun i h1 h2 => ?_)
        have := hn (i - (k + 1)) (by omega)
        rwa [show k + 1 + (i - (k + 1)) = i by omega] at this
      have q2 := q1 false (by rw [hq1]; rfl)
      subst hj2
      simp -implicitDefEqProofs [sc_i_maximalIn_L2]
      exact SubQ.of (SubI.slots rfl (by simp)) q2
  simp -implicitDefEqProofs [sc_i_maximalIn, F_i_setsIn, hs0]
  refine loopI env mixed (fun k : Nat => [(3, .sl 0 1 0 L.length), (4, .sl 1 1 0 ((L.take k).filter q).length), (12, .sl 0 1 0 L.length), (13, .int .i64 (L.length : Int)), (14, .int .i64 (k : Int))]) (fun k => ([(1, ints ((L.take k).filter q)), (0, ints L)], 2)) (fun k => k ≤ L.length) (fun k => L.length - k) 0 (by simp) (SubI.nilN 4 1 (by simp) (SubI.slots (by simp) (by simp))) ?_
  intro k hk
  have gl := filt_len L k q
  by_cases hlt : k < L.length
  · have hw : IntKind.i64.wrap ((k : Int) + 1) = ((k + 1 : Nat) : Int) := by rw [wrapI _ (by omega) (by omega)]; omega
    have hnx : ∀ b : Bool, q (at0 L k) = b → (L.take (k + 1)).filter q = if b = true then (L.take k).filter q ++ [at0 L k] else (L.take k).filter q := fun b hb => by
      cases b with
      | true => exact filt_pos hlt hb
      | false => exact filt_neg hlt hb
    generalize hgg : (L.take k).filter q = g at *
    simp -implicitDefEqProofs [sc_i_maximalIn_L0, hlt, hw]
    repeat' (first | omega | apply And.intro)
    refine inner k g _ _ hlt ?_ ?_
    · simp
      try omega
    · intro b hb
      cases hqk : q (at0 L k) with
      | true =>
        rw [hqk] at hb
        subst hb
        have e := hnx true hqk
        simp only [if_true] at e
        simp -implicitDefEqProofs
        repeat' (first | omega | apply And.intro)
        refine Again.of (k + 1) (by omega) (by omega) (SubI.ren (fun m => if m = 0 then some 0 else if m = 1 then some 3 else none) ?_ ?_ ?_ (by simp) (by simp))
        · simp only [e]
          simp (disch := omega) [subT, renV, ren1, wrapI]
        · simp only [e]
          simp [subH, renL, ren1]
          rw [← ints_app]
          rfl
        · intro m hm
          simp only at hm
          rw [if_neg (by omega), if_neg (by omega)]
      | false =>
        rw [hqk] at hb
        subst hb
        have e := hnx false hqk
        simp only [Bool.false_eq_true, if_false] at e
        simp -implicitDefEqProofs
        exact Again.of (k + 1) (by omega) (by omega) (SubI.slots (by simp only [e]) (by simp only [e]; simp (disch := omega) [wrapI]))
  · have : k = L.length := by omega
    subst this
    simp -implicitDefEqProofs [sc_i_maximalIn_L0]
end Go.Proofs.Ytmemomfffehnkaa
namespace Go.Proofs.Ytmemomfffehnkaa
open Go Go.RowKit
set_option maxRecDepth 1000000
set_option linter.unusedSimpArgs false
set_option linter.unusedVariables false
set_option maxHeartbeats 1000000
def sc_s_l2Extreme_L2 : SC := (.seq (.seq (.reg [⟨(some 21), none, (.mov (.t 9))⟩, ⟨(some 22), none, (.mov (.t 5))⟩, ⟨(some 23), none, (.len (.t 22))⟩, ⟨(some 24), none, (.bin false .lss (.t 21) (.t 23))⟩]) (.cond (.t 24) .skip (.exit 2))) (.seq (.block 3 (.seq (.reg [⟨(some 27), none, (.mov (.t 5))⟩, ⟨(some 28), none, (.mov (.t 7))⟩, ⟨(some 29), none, (.idx 1 (.t 27) (.t 28))⟩, ⟨(some 30), none, (.ld none (.int .i64 0) (.t 29))⟩, ⟨(some 10), none, (.mov (.t 30))⟩]) (.seq (.reg [⟨(some 31), none, (.mov (.t 5))⟩, ⟨(some 32), none, (.mov (.t 9))⟩, ⟨(some 33), none, (.idx 1 (.t 31) (.t 32))⟩, ⟨(some 34), none, (.ld none (.int .i64 0) (.t 33))⟩, ⟨(some 11), none, (.mov (.t 34))⟩]) (.seq (.reg [⟨(some 35), none, (.mov (.t 10))⟩, ⟨(some 36), none, (.mov (.t 11))⟩, ⟨(some 37), none, (.bin false .neq (.t 35) (.t 36))⟩, ⟨(some 38), none, (.mov (.t 37))⟩, ⟨(some 39), (some (38, true)), (.mov (.t 1))⟩, ⟨(some 40), (some (38, true)), (.mov (.t 39))⟩, ⟨(some 41), (some (40, true)), (.mov (.t 10))⟩, ⟨(some 42), (some (40, true)), (.mov (.t 11))⟩, ⟨(some 43), (some (40, true)), (.bin false .and (.t 41) (.t 42))⟩, ⟨(some 44), (some (40, true)), (.mov (.t 10))⟩, ⟨(some 45), (some (40, true)), (.bin false .eql (.t 43) (.t 44))⟩, ⟨(some 46), (some (38, true)), (.pick (.t 40) (.t 45) (.c (.bool false)))⟩, ⟨(some 47), (some (38, true)), (.mov (.t 46))⟩, ⟨(some 48), (some (47, false)), (.mov (.t 1))⟩, ⟨(some 49), (some (47, false)), (.un .not (.t 48))⟩, ⟨(some 50), (some (47, false)), (.mov (.t 49))⟩, ⟨(some 51), (some (50, true)), (.mov (.t 10))⟩, ⟨(some 52), (some (50, true)), (.mov (.t 11))⟩, ⟨(some 53), (some (50, true)), (.bin false .and (.t 51) (.t 52))⟩, ⟨(some 54), (some (50, true)), (.mov (.t 11))⟩, ⟨(some 55), (some (50, true)), (.bin false .eql (.t 53) (.t 54))⟩, ⟨(some 56), (some (47, false)), (.pick (.t 50) (.t 55) (.c (.bool false)))⟩, ⟨(some 57), (some (38, true)), (.pick (.t 47) (.c (.bool true)) (.t 56))⟩, ⟨(some 58), none, (.pick (.t 38) (.t 57) (.c (.bool false)))⟩]) (.cond (.t 58) (.reg [⟨(some 8), none, (.mov (.c (.bool false)))⟩]) .skip))))) (.reg [⟨(some 25), none, (.mov (.t 9))⟩, ⟨(some 26), none, (.bin false .add (.t 25) (.c (.int .i64 1)))⟩, ⟨(some 9), none, (.mov (.t 26))⟩])))
def sc_s_l2Extreme_L0 : SC := (.seq (.seq (.reg [⟨(some 15), none, (.mov (.t 7))⟩, ⟨(some 16), none, (.mov (.t 5))⟩, ⟨(some 17), none, (.len (.t 16))⟩, ⟨(some 18), none, (.bin false .lss (.t 15) (.t 17))⟩]) (.cond (.t 18) .skip (.exit 0))) (.seq (.block 1 (.seq (.reg [⟨(some 8), none, (.mov (.c (.bool true)))⟩]) (.seq (.seq (.reg [⟨(some 9), none, (.mov (.c (.int .i64 0)))⟩]) (.block 2 (.loop sc_s_l2Extreme_L2))) (.seq (.reg [⟨(some 59), none, (.mov (.t 8))⟩]) (.cond (.t 59) (.reg [⟨(some 60), none, (.mov (.t 6))⟩, ⟨(some 61), none, (.mov (.t 5))⟩, ⟨(some 62), none, (.mov (.t 7))⟩, ⟨(some 63), none, (.idx 1 (.t 61) (.t 62))⟩, ⟨(some 64), none, (.ld none (.int .i64 0) (.t 63))⟩, ⟨(some 65), none, (.mks 1 1 [(.int .i64 0)] [(0, (1, (.t 64)))])⟩, ⟨(some 66), none, (.app 1 8 (.t 60) (.t 65))⟩, ⟨(some 6), none, (.mov (.t 66))⟩]) .skip))))) (.reg [⟨(some 19), none, (.mov (.t 7))⟩, ⟨(some 20), none, (.bin false .add (.t 19) (.c (.int .i64 1)))⟩, ⟨(some 7), none, (.mov (.t 20))⟩])))
def sc_s_l2Extreme : SC := (.seq (.reg [⟨(some 4), none, (.mov (.c .nil))⟩]) (.seq (.reg [⟨(some 12), none, (.mov (.t 0))⟩, ⟨(some 13), none, (.call 159 [(.t 12)])⟩, ⟨(some 5), none, (.mov (.t 13))⟩]) (.seq (.reg [⟨(some 14), none, (.mks 0 1 [] [])⟩, ⟨(some 6), none, (.mov (.t 14))⟩]) (.seq (.seq (.reg [⟨(some 7), none, (.mov (.c (.int .i64 0)))⟩]) (.block 0 (.loop sc_s_l2Extreme_L0))) (.seq (.reg [⟨(some 67), none, (.mov (.t 6))⟩, ⟨(some 4), none, (.mov (.t 67))⟩]) .ret)))))
theorem code_s_l2Extreme : fnCode Try.prog [] 239 = some (68, sc_s_l2Extreme, [(4, none)]) := by kernel_rfl
noncomputable def F_s_l2Extreme : List V → Option V := F2 dL dB fun l g => @ite _ (allS l ∧ g = true) (Classical.propDecidable _) (some (.own 1 (ints (setsOf (maxP fun s => s ∈ l))))) none
theorem fn_s_l2Extreme : FnOk Try.prog 239 F_s_l2Extreme := by
  have env := (envNil_ok (P := Try.prog)).add fn_s_l2Order
  refine fn_ok code_s_l2Extreme mixed env ?_
  intro args r h hb
  obtain ⟨_, _, l, gr, rfl, h1, h2, h4⟩ := F2_inv h
  cases dL_inv h1
  cases dB_inv h2
  clear h
  simp only [Option.ite_none_right_eq_some, Option.some.injEq] at h4
  obtain ⟨⟨hS, rfl⟩, rfl⟩ := h4
  have hF : F_s_l2Order [.list 1 (ints l)] = some (.own 1 (ints (setsOf fun s => s ∈ l))) := by
    simp only [F_s_l2Order, F1_mk, dL_list, Option.bind_some]
    rw [if_pos hS]
  refine ⟨by simp, fun w0 U0 L0 N0 => ?_⟩
  clear hb
  generalize hpp : (fun s => s ∈ l) = p at *
  rw [← filt_max]
  have hmx := fun k => max_iff_all p (k := k)
  have hL := allS_setsOf p
  have hLl := setsOf_len p
  generalize setsOf p = L at *
  generalize hq : (fun s => dec (maxP p s)) = q
  have inner : ∀ (k : Nat) (g : List Int) (Q : Post) (T0 : Tm), k < L.length → subE T0 [(1, .bool true), (5, .sl 0 1 0 L.length), (6, .sl 1 1 0 g.length), (7, .int .i64 (k : Int)), (8, .bool true), (9, .int .i64 0)] →
      (∀ b : Bool, b = q (at0 L k) → Q (.exit 2) [(1, .bool true), (5, .sl 0 1 0 L.length), (6, .sl 1 1 0 g.length), (7, .int .i64 (k : Int)), (8, .bool b)] ([(1, ints g), (0, ints L)], 2)) →
      LoopI ⟨Try.prog, w0, U0, L0, N0, 0, 68⟩ [] sc_s_l2Extreme_L2 Q T0 ([(1, ints g), (0, ints L)], 2) := by
    intro k g Q T0 hk hs q1
    obtain ⟨D, hD⟩ : ∃ D : Nat → Bool, ∀ j, D j = dec (∀ i, i < j → at0 L k ≠ at0 L i → ¬ subS (at0 L k) (at0 L i)) := ⟨_, fun _ => rfl⟩
    have hD0 : D 0 = true := by rw [hD]; exact dec_true (by omega)
    refine loopQ env mixed (fun j : Nat => [(1, .bool true), (5, .sl 0 1 0 L.length), (6, .sl 1 1 0 g.length), (7, .int .i64 (k : Int)), (8, .bool (D j)), (9, .int .i64 (j : Int))]) (fun _ => ([(1, ints g), (0, ints L)], 2))
      (fun j => j ≤ L.length) (fun j => L.length - j) 0 (by simp) (SubI.slots rfl (by simpa [hD0] using hs)) ?_
    intro j hj
    by_cases hlt : j < L.length
    · have hs1 := allS_at hL hk
      have hs2 := allS_at hL hlt
      have same : (at0 L k ≠ at0 L j → ¬ subS (at0 L k) (at0 L j)) → D (j + 1) = D j := fun hh => by
        rw [hD, hD, Bool.eq_iff_iff, dec_iff, dec_iff]
        refine ⟨fun h i hi => h i (by omega), fun h i hi => ?_⟩
        rcases Nat.lt_succ_iff_lt_or_eq.1 hi with h1 | rfl
        · exact h i h1
        · exact hh
      by_cases h1 : at0 L k = at0 L j
      · have e := same fun h => absurd h1 h
        simp -implicitDefEqProofs [sc_s_l2Extreme_L2, hlt, hk, h1]
        repeat' (first | omega | apply And.intro)
        exact Again.of (j + 1) (by omega) (by omega) (SubI.slots rfl (by simp only [subE_cons, subE_nil, e]; simp (disch := omega) [wrapI]))
      · by_cases h2 : band (at0 L k) (at0 L j) = at0 L k
        · have e : D (j + 1) = false := by
            rw [hD]
            exact dec_false fun h => h j (by omega) h1 ((subS_iff hs1 hs2).2 h2)
          simp -implicitDefEqProofs [sc_s_l2Extreme_L2, hlt, hk, h1, h2]
          repeat' (first | omega | apply And.intro)
          exact Again.of (j + 1) (by omega) (by omega) (SubI.slots rfl (by simp only [subE_cons, subE_nil, e]; simp (disch := omega) [wrapI]))
        · have e := same fun _ h => h2 ((subS_iff hs1 hs2).1 h)
          simp -implicitDefEqProofs [sc_s_l2Extreme_L2, hlt, hk, h1, h2]
          repeat' (first | omega | apply And.intro)
          exact Again.of (j + 1) (by omega) (by omega) (SubI.slots rfl (by simp only [subE_cons, subE_nil, e]; simp (disch := omega) [wrapI]))
    · have hj2 : j = L.length := by omega
      subst hj2
      have q2 := q1 (D L.length) (by rw [hD, ← hq, Bool.eq_iff_iff, dec_iff, dec_iff]; exact (hmx k hk).symm)
      simp -implicitDefEqProofs [sc_s_l2Extreme_L2]
      exact SubQ.of (SubI.slots rfl (by simp)) q2
  simp -implicitDefEqProofs [sc_s_l2Extreme, hF]
  refine loopI env mixed (fun k : Nat => [(1, .bool true), (5, .sl 0 1 0 L.length), (6, .sl 1 1 0 ((L.take k).filter q).length), (7, .int .i64 (k : Int))]) (fun k => ([(1, ints ((L.take k).filter q)), (0, ints L)], 2)) (fun k => k ≤ L.length) (fun k => L.length - k) 0 (by simp) (SubI.slots (by simp) (by simp)) ?_
  intro k hk
  have gl := filt_len L k q
  by_cases hlt : k < L.length
  · have hnx : ∀ b : Bool, q (at0 L k) = b → (L.take (k + 1)).filter q = if b = true then (L.take k).filter q ++ [at0 L k] else (L.take k).filter q := fun b hb => by
      cases b with
      | true => exact filt_pos hlt hb
      | false => exact filt_neg hlt hb
    generalize hgg : (L.take k).filter q = g at *
    simp -implicitDefEqProofs [sc_s_l2Extreme_L0, hlt]
    repeat' (first | omega | apply And.intro)
    refine inner k g _ _ hlt (by simp) ?_
    intro b hb
    cases hqk : q (at0 L k) with
    | true =>
      rw [hqk] at hb
      subst hb
      have e := hnx true hqk
      simp only [if_true] at e
      simp -implicitDefEqProofs [hlt]
      repeat' (first | omega | apply And.intro)
      refine Again.of (k + 1) (by omega) (by omega) (SubI.ren (fun m => if m = 0 then some 0 else if m = 1 then some 3 else none) ?_ ?_ ?_ (by simp) (by simp))
      · simp only [e]
        simp (disch := omega) [subT, renV, ren1, wrapI]
      · simp only [e]
        simp [subH, renL, ren1]
        rw [← ints_app]
        rfl
      · intro m hm
        simp only at hm
        rw [if_neg (by omega), if_neg (by omega)]
    | false =>
      rw [hqk] at hb
      subst hb
      have e := hnx false hqk
      simp only [Bool.false_eq_true, if_false] at e
      simp -implicitDefEqProofs
      exact Again.of (k + 1) (by omega) (by omega) (SubI.slots (by simp only [e]) (by simp only [e]; simp (disch := omega) [wrapI]))
  · have : k = L.length := by omega
    subst this
    simp -implicitDefEqProofs [sc_s_l2Extreme_L0]
def sc_s_l3Make : SC := (.seq (.reg [⟨(some 4), none, (.new [(.int .i64 0), .nil])⟩]) (.seq (.reg [⟨(some 5), none, (.mov (.t 0))⟩, ⟨(some 6), none, (.mov (.t 1))⟩, ⟨(some 7), none, (.call 239 [(.t 6), (.c (.bool true))])⟩, ⟨(some 8), none, (.agg [(.int .i64 0), .nil] [(0, (1, (.t 5))), (1, (1, (.t 7)))])⟩, ⟨none, none, (.st 2 (.t 4) (.t 8))⟩]) .ret))
theorem code_s_l3Make : fnCode Try.prog [] 224 = some (9, sc_s_l3Make, [(4, (some 2))]) := by kernel_rfl
noncomputable def F_s_l3Make : List V → Option V := F2 dI dL fun n l => @ite _ (allS l) (Classical.propDecidable _) (some (.agg [.int .i64 n, .own 1 (ints (setsOf (maxP fun s => s ∈ l)))])) none
theorem fn_s_l3Make : FnOk Try.prog 224 F_s_l3Make := by
  have env := (envNil_ok (P := Try.prog)).add fn_s_l2Extreme
  refine fn_ok code_s_l3Make mixed env ?_
  intro args r h hb
  obtain ⟨_, _, n, l, rfl, h1, h2, h4⟩ := F2_inv h
  cases dI_inv h1
  cases dL_inv h2
  clear h
  simp only [Option.ite_none_right_eq_some, Option.some.injEq] at h4
  obtain ⟨hS, rfl⟩ := h4
  refine ⟨by simp, fun w0 U0 L0 N0 => ?_⟩
  simp -implicitDefEqProofs [sc_s_l3Make, F_s_l2Extreme, hS]
end Go.Proofs.Ytmemomfffehnkaa
namespace Go.Proofs.Ytmemomfffehnkaa
open Go Go.RowKit
set_option maxRecDepth 1000000
set_option linter.unusedSimpArgs false
set_option linter.unusedVariables false
set_option maxHeartbeats 1000000
def sc_i_linkIn_1 : SC := (.seq (.reg [⟨(some 4), none, (.mov (.c (.bool false)))⟩]) (.seq (.reg [⟨(some 5), none, (.mov (.t 0))⟩, ⟨(some 6), none, (.ld none (.int .i64 0) (.t 1))⟩, ⟨(some 7), none, (.bin false .and (.t 5) (.t 6))⟩, ⟨(some 8), none, (.bin false .eql (.t 7) (.c (.int .i64 0)))⟩, ⟨(some 9), none, (.mov (.t 8))⟩, ⟨(some 10), (some (9, true)), (.ld none (.int .u64 0) (.t 2))⟩, ⟨(some 11), (some (9, true)), (.mov (.t 0))⟩, ⟨(some 12), (some (9, true)), (.ld none (.int .i64 0) (.t 1))⟩, ⟨(some 13), (some (9, true)), (.bin false .or (.t 11) (.t 12))⟩, ⟨(some 14), (some (9, true)), (.call 182 [(.t 10), (.t 13)])⟩, ⟨(some 15), none, (.pick (.t 9) (.t 14) (.c (.bool false)))⟩, ⟨(some 4), none, (.mov (.t 15))⟩]) .ret))
theorem code_i_linkIn_1 : fnCode Try.prog [] 242 = some (16, sc_i_linkIn_1, [(4, none)]) := by kernel_rfl
def sc_i_linkIn : SC := (.seq (.reg [⟨(some 2), none, (.box (.t 0))⟩, ⟨(some 3), none, (.box (.t 1))⟩, ⟨(some 4), none, (.mov (.c (.int .u64 0)))⟩]) (.seq (.reg [⟨(some 5), none, (.fn 242 [(.t 3), (.t 2)])⟩, ⟨(some 6), none, (.call 227 [(.c (.int .i64 6)), (.t 5)])⟩, ⟨(some 4), none, (.mov (.t 6))⟩]) .ret))
theorem code_i_linkIn : fnCode Try.prog [] 226 = some (7, sc_i_linkIn, [(4, none)]) := by kernel_rfl
noncomputable def lnkC : List V → Option V
  | [.int .i64 t, .rp [.int .i64 s], .rp [.int .u64 f]] => @ite _ (0 ≤ f ∧ f < 18446744073709551616 ∧ isS t ∧ isS s) (Classical.propDecidable _) (some (.bool (dec (lnkP (bitP f) s t)))) none
  | _ => none
noncomputable def lnkG (f s : Int) : Option V := @ite _ (0 ≤ f ∧ f < 18446744073709551616 ∧ isS s) (Classical.propDecidable _) (some (.int .u64 (fam (lnkP (bitP f) s)))) none
theorem lnkG_fam (p : Int → Prop) {s : Int} (hs : isS s) : lnkG (fam p) s = some (.int .u64 (fam (lnkP p s))) := by
  unfold lnkG
  rw [if_pos ⟨fam_nn p, fam_lt p, hs⟩, fam_congr fun t ht => ?_]
  unfold lnkP
  rw [bitP_fam (isS_bor ht hs)]
noncomputable def F_i_linkIn : List V → Option V := F2 dU dI lnkG
theorem fn_i_linkIn_1 : FnOk Try.prog 242 lnkC := by
  have env := (envNil_ok (P := Try.prog)).add fn_i_hasSet
  refine fn_ok code_i_linkIn_1 mixed env ?_
  intro args r h hb
  unfold lnkC at h
  split at h
  case h_2 => simp at h
  rename_i t s f
  simp only [Option.ite_none_right_eq_some, Option.some.injEq] at h
  obtain ⟨⟨hf1, hf2, ht, hs⟩, rfl⟩ := h
  have hf := fam_bitP hf1 hf2
  generalize bitP f = p at *
  subst hf
  refine ⟨by simp, fun w0 U0 L0 N0 => ?_⟩
  have hg := hasG_fam (p := p) (isS_bor ht hs)
  by_cases h1 : band t s = 0
  · have e : dec (lnkP p s t) = dec (p (bor t s)) := by
      rw [Bool.eq_iff_iff, dec_iff, dec_iff]
      exact ⟨fun h => h.2, fun h => ⟨h1, h⟩⟩
    rw [e]
    simp -implicitDefEqProofs [sc_i_linkIn_1, F_i_hasSet, h1, hg]
  · have e : dec (lnkP p s t) = false := dec_false fun h => h1 h.1
    rw [e]
    simp -implicitDefEqProofs [sc_i_linkIn_1, h1]
theorem fn_i_linkIn : FnOk Try.prog 226 F_i_linkIn := by
  have env := (envNil_ok (P := Try.prog)).add (fn_i_pickSets fn_i_linkIn_1)
  refine fn_ok code_i_linkIn mixed env ?_
  intro args r h hb
  obtain ⟨_, _, f, s, rfl, h1, h2, h4⟩ := F2_inv h
  cases dU_inv h1
  cases dI_inv h2
  clear h
  simp only [lnkG, Option.ite_none_right_eq_some, Option.some.injEq] at h4
  obtain ⟨⟨hf1, hf2, hs⟩, rfl⟩ := h4
  refine ⟨by simp, fun w0 U0 L0 N0 => ?_⟩
  have e0 : ∀ t, isS t → lnkC [.int .i64 t, .rp [.int .i64 s], .rp [.int .u64 f]] = some (.bool (dec (lnkP (bitP f) s t))) := fun t ht => by
    simp only [lnkC]
    rw [if_pos ⟨hf1, hf2, ht, hs⟩]
  have e : F_i_pickSets 242 lnkC [.int .i64 6, .fn 242 [.rp [.int .i64 s], .rp [.int .u64 f]]] = some (.int .u64 (fam (lnkP (bitP f) s))) := by
    simp only [F_i_pickSets]
    rw [if_pos ⟨rfl, by omega, by omega, fun H => by simp, fun t h0 h6 => ⟨_, e0 t ⟨h0, h6⟩⟩⟩]
    congr 2
    refine fam_congr fun t ht => ?_
    have : t < 2 ^ (6 : Int).toNat := ht.2
    rw [e0 t ht]
    simp only [this, true_and, Option.some.injEq, V.bool.injEq]
    exact dec_iff
  generalize fam (lnkP (bitP f) s) = R at *
  simp -implicitDefEqProofs [sc_i_linkIn, e]
def sc_i_deletionIn_1 : SC := (.seq (.reg [⟨(some 4), none, (.mov (.c (.bool false)))⟩]) (.seq (.reg [⟨(some 5), none, (.ld none (.int .u64 0) (.t 1))⟩, ⟨(some 6), none, (.mov (.t 0))⟩, ⟨(some 7), none, (.call 182 [(.t 5), (.t 6)])⟩, ⟨(some 8), none, (.mov (.t 7))⟩, ⟨(some 9), (some (8, true)), (.ld none (.int .i64 0) (.t 2))⟩, ⟨(some 10), (some (8, true)), (.mov (.t 0))⟩, ⟨(some 11), (some (8, true)), (.bin false .andNot (.t 9) (.t 10))⟩, ⟨(some 12), (some (8, true)), (.bin false .neq (.t 11) (.c (.int .i64 0)))⟩, ⟨(some 13), none, (.pick (.t 8) (.t 12) (.c (.bool false)))⟩, ⟨(some 4), none, (.mov (.t 13))⟩]) .ret))
theorem code_i_deletionIn_1 : fnCode Try.prog [] 228 = some (14, sc_i_deletionIn_1, [(4, none)]) := by kernel_rfl
def sc_i_deletionIn : SC := (.seq (.reg [⟨(some 2), none, (.box (.t 0))⟩, ⟨(some 3), none, (.box (.t 1))⟩, ⟨(some 4), none, (.mov (.c (.int .u64 0)))⟩]) (.seq (.reg [⟨(some 5), none, (.fn 228 [(.t 2), (.t 3)])⟩, ⟨(some 6), none, (.call 227 [(.c (.int .i64 6)), (.t 5)])⟩, ⟨(some 4), none, (.mov (.t 6))⟩]) .ret))
theorem code_i_deletionIn : fnCode Try.prog [] 194 = some (7, sc_i_deletionIn, [(4, none)]) := by kernel_rfl
noncomputable def wtoC : List V → Option V
  | [.int .i64 t, .rp [.int .u64 f], .rp [.int .i64 s]] => @ite _ (0 ≤ f ∧ f < 18446744073709551616 ∧ isS t ∧ isS s) (Classical.propDecidable _) (some (.bool (dec (wtoP (bitP f) s t)))) none
  | _ => none
noncomputable def wtoG (f s : Int) : Option V := @ite _ (0 ≤ f ∧ f < 18446744073709551616 ∧ isS s) (Classical.propDecidable _) (some (.int .u64 (fam (wtoP (bitP f) s)))) none
theorem wtoG_fam (p : Int → Prop) {s : Int} (hs : isS s) : wtoG (fam p) s = some (.int .u64 (fam (wtoP p s))) := by
  unfold wtoG
  rw [if_pos ⟨fam_nn p, fam_lt p, hs⟩, fam_congr fun t ht => ?_]
  unfold wtoP
  rw [bitP_fam ht]
noncomputable def F_i_deletionIn : List V → Option V := F2 dU dI wtoG
theorem fn_i_deletionIn_1 : FnOk Try.prog 228 wtoC := by
  have env := (envNil_ok (P := Try.prog)).add fn_i_hasSet
  refine fn_ok code_i_deletionIn_1 mixed env ?_
  intro args r h hb
  unfold wtoC at h
  split at h
  case h_2 => simp at h
  rename_i t f s
  simp only [Option.ite_none_right_eq_some, Option.some.injEq] at h
  obtain ⟨⟨hf1, hf2, ht, hs⟩, rfl⟩ := h
  have hf := fam_bitP hf1 hf2
  generalize bitP f = p at *
  subst hf
  refine ⟨by simp, fun w0 U0 L0 N0 => ?_⟩
  have hg := hasG_fam (p := p) ht
  by_cases h1 : p t
  · rw [dec_true h1] at hg
    by_cases h2 : bnot s t = 0
    · have e : dec (wtoP p s t) = false := dec_false fun h => h.2 h2
      rw [e]
      simp -implicitDefEqProofs [sc_i_deletionIn_1, F_i_hasSet, h2, hg]
    · have e : dec (wtoP p s t) = true := dec_true ⟨h1, h2⟩
      rw [e]
      simp -implicitDefEqProofs [sc_i_deletionIn_1, F_i_hasSet, h2, hg]
  · rw [dec_false h1] at hg
    have e : dec (wtoP p s t) = false := dec_false fun h => h1 h.1
    rw [e]
    simp -implicitDefEqProofs [sc_i_deletionIn_1, F_i_hasSet, hg]
theorem fn_i_deletionIn : FnOk Try.prog 194 F_i_deletionIn := by
  have env := (envNil_ok (P := Try.prog)).add (fn_i_pickSets fn_i_deletionIn_1)
  refine fn_ok code_i_deletionIn mixed env ?_
  intro args r h hb
  obtain ⟨_, _, f, s, rfl, h1, h2, h4⟩ := F2_inv h
  cases dU_inv h1
  cases dI_inv h2
  clear h
  simp only [wtoG, Option.ite_none_right_eq_some, Option.some.injEq] at h4
  obtain ⟨⟨hf1, hf2, hs⟩, rfl⟩ := h4
  refine ⟨by simp, fun w0 U0 L0 N0 => ?_⟩
  have e0 : ∀ t, isS t → wtoC [.int .i64 t, .rp [.int .u64 f], .rp [.int .i64 s]] = some (.bool (dec (wtoP (bitP f) s t))) := fun t ht => by
    simp only [wtoC]
    rw [if_pos ⟨hf1, hf2, ht, hs⟩]
  have e : F_i_pickSets 228 wtoC [.int .i64 6, .fn 228 [.rp [.int .u64 f], .rp [.int .i64 s]]] = some (.int .u64 (fam (wtoP (bitP f) s))) := by
    simp only [F_i_pickSets]
    rw [if_pos ⟨rfl, by omega, by omega, fun H => by simp, fun t h0 h6 => ⟨_, e0 t ⟨h0, h6⟩⟩⟩]
    congr 2
    refine fam_congr fun t ht => ?_
    have : t < 2 ^ (6 : Int).toNat := ht.2
    rw [e0 t ht]
    simp only [this, true_and, Option.some.injEq, V.bool.injEq]
    exact dec_iff
  generalize fam (wtoP (bitP f) s) = R at *
  simp -implicitDefEqProofs [sc_i_deletionIn, e]
end Go.Proofs.Ytmemomfffehnkaa
namespace Go.Proofs.Ytmemomfffehnkaa
open Go Go.RowKit
set_option maxRecDepth 1000000
set_option linter.unusedSimpArgs false
set_option linter.unusedVariables false
set_option maxHeartbeats 1000000
open Classical in
/-- The greatest size of a set below k with a property; -1 if there is none. -/
noncomputable def topF (p : Int → Prop) : Nat → Int
  | 0 => -1
  | k + 1 => if p (k : Int) ∧ topF p k < sz (k : Int) then sz (k : Int) else topF p k
theorem topF_pos {p : Int → Prop} {k : Nat} (h : p (k : Int)) (h2 : topF p k < sz (k : Int)) : topF p (k + 1) = sz (k : Int) := by simp only [topF, if_pos (show p (k : Int) ∧ topF p k < sz (k : Int) from ⟨h, h2⟩)]
theorem topF_neg {p : Int → Prop} {k : Nat} (h : ¬ (p (k : Int) ∧ topF p k < sz (k : Int))) : topF p (k + 1) = topF p k := by simp only [topF, if_neg h]
theorem topF_bnd (p : Int → Prop) : ∀ k, k ≤ 64 → -1 ≤ topF p k ∧ topF p k ≤ 6
  | 0, _ => by simp [topF]
  | k + 1, h => by
    have ih := topF_bnd p k (by omega)
    have := sz_six (inS k (by omega))
    have := sz_nn (k : Int)
    by_cases hc : p (k : Int) ∧ topF p k < sz (k : Int)
    · rw [topF_pos hc.1 hc.2]; omega
    · rw [topF_neg hc]; exact ih
theorem topF_ge {p : Int → Prop} : ∀ {k : Nat} {s : Int}, 0 ≤ s → s < k → p s → sz s ≤ topF p k
  | 0, s, h0, h, _ => by omega
  | k + 1, s, h0, h, hp => by
    by_cases e : s = (k : Int)
    · subst e
      by_cases hc : p (k : Int) ∧ topF p k < sz (k : Int)
      · rw [topF_pos hc.1 hc.2]; omega
      · rw [topF_neg hc]
        have : ¬ (topF p k < sz (k : Int)) := fun h => hc ⟨hp, h⟩
        omega
    · have ih := topF_ge (k := k) h0 (by omega) hp
      by_cases hc : p (k : Int) ∧ topF p k < sz (k : Int)
      · rw [topF_pos hc.1 hc.2]; omega
      · rw [topF_neg hc]; exact ih
theorem topF_hit {p : Int → Prop} : ∀ {k : Nat}, topF p k = -1 ∨ ∃ s : Int, 0 ≤ s ∧ s < k ∧ p s ∧ sz s = topF p k
  | 0 => .inl rfl
  | k + 1 => by
    by_cases hc : p (k : Int) ∧ topF p k < sz (k : Int)
    · rw [topF_pos hc.1 hc.2]
      exact .inr ⟨k, by omega, by omega, hc.1, rfl⟩
    · rw [topF_neg hc]
      rcases topF_hit (p := p) (k := k) with h | ⟨s, a, b, c, d⟩
      · exact .inl h
      · exact .inr ⟨s, a, by omega, c, d⟩
theorem topF_congr {p q : Int → Prop} (h : ∀ s, isS s → (p s ↔ q s)) : ∀ {k : Nat}, k ≤ 64 → topF p k = topF q k
  | 0, _ => rfl
  | k + 1, hk => by
    have ih := topF_congr h (k := k) (by omega)
    have e := h k (inS k (by omega))
    by_cases hc : p (k : Int) ∧ topF p k < sz (k : Int)
    · rw [topF_pos hc.1 hc.2, topF_pos (e.1 hc.1) (by rw [← ih]; exact hc.2)]
    · rw [topF_neg hc, topF_neg fun hq => hc ⟨e.2 hq.1, by rw [ih]; exact hq.2⟩, ih]
theorem topZ_ex (p : Int → Prop) : ∃ m : Int, m = topF p 64 := ⟨_, rfl⟩
noncomputable def topZ (p : Int → Prop) : Int := Classical.choose (topZ_ex p)
theorem topZ_eq (p : Int → Prop) : topZ p = topF p 64 := Classical.choose_spec (topZ_ex p)
theorem topZ_bnd (p : Int → Prop) : -1 ≤ topZ p ∧ topZ p ≤ 6 := by rw [topZ_eq]; exact topF_bnd p 64 (Nat.le_refl _)
theorem topZ_ge {p : Int → Prop} {s : Int} (hs : isS s) (hp : p s) : sz s ≤ topZ p := by rw [topZ_eq]; exact topF_ge hs.1 hs.2 hp
theorem topZ_hit (p : Int → Prop) : topZ p = -1 ∨ ∃ s, isS s ∧ p s ∧ sz s = topZ p := by
  rw [topZ_eq]
  rcases topF_hit (p := p) (k := 64) with h | ⟨s, a, b, c, d⟩
  · exact .inl h
  · exact .inr ⟨s, ⟨a, b⟩, c, d⟩
theorem topZ_congr {p q : Int → Prop} (h : ∀ s, isS s → (p s ↔ q s)) : topZ p = topZ q := by rw [topZ_eq, topZ_eq, topF_congr h (Nat.le_refl _)]
def sc_s_DimOf : SC := (.seq (.reg [⟨(some 1), none, (.box (.t 0))⟩, ⟨(some 2), none, (.mov (.c (.int .i64 0)))⟩]) (.seq (.seq (.reg [⟨(some 3), none, (.ld (some 2) .undef (.t 1))⟩, ⟨(some 4), none, (.call 24 [(.t 3)])⟩, ⟨(some 5), none, (.un .not (.t 4))⟩, ⟨(some 6), none, (.mov (.t 5))⟩, ⟨(some 7), (some (6, false)), (.fad 1 (.t 1))⟩, ⟨(some 8), (some (6, false)), (.ld none .nil (.t 7))⟩, ⟨(some 9), (some (6, false)), (.len (.t 8))⟩, ⟨(some 10), (some (6, false)), (.bin false .eql (.t 9) (.c (.int .i64 0)))⟩, ⟨(some 11), none, (.pick (.t 6) (.c (.bool true)) (.t 10))⟩]) (.cond (.t 11) (.seq (.reg [⟨(some 2), none, (.mov (.c (.int .i64 (-2))))⟩]) .ret) .skip)) (.seq (.reg [⟨(some 12), none, (.fad 1 (.t 1))⟩, ⟨(some 13), none, (.ld none .nil (.t 12))⟩, ⟨(some 14), none, (.fad 1 (.t 1))⟩, ⟨(some 15), none, (.ld none .nil (.t 14))⟩, ⟨(some 16), none, (.len (.t 15))⟩, ⟨(some 17), none, (.bin false .sub (.t 16) (.c (.int .i64 1)))⟩, ⟨(some 18), none, (.idx 1 (.t 13) (.t 17))⟩, ⟨(some 19), none, (.ld none (.int .i64 0) (.t 18))⟩, ⟨(some 20), none, (.call 156 [(.t 19)])⟩, ⟨(some 21), none, (.bin false .sub (.t 20) (.c (.int .i64 1)))⟩, ⟨(some 2), none, (.mov (.t 21))⟩]) .ret)))
theorem code_s_DimOf : fnCode Try.prog [] 155 = some (22, sc_s_DimOf, [(2, none)]) := by kernel_rfl
theorem topZ_facets {n : Int} {l : List Int} (h : cplx n l) (hne : l ≠ []) : topZ (faceS l) = sz (at0 l (l.length - 1)) := by
  have hpos := List.length_pos_iff.2 hne
  have hS := cplx_isS h
  have hl : l.length - 1 < l.length := by omega
  have h1 := topZ_ge (p := faceS l) (allS_at hS hl) ⟨_, getD_mem' hl, subS_refl (allS_at hS hl)⟩
  have h0 := sz_nn (at0 l (l.length - 1))
  rcases topZ_hit (faceS l) with h2 | ⟨s, hs, ⟨f, hf, hsf⟩, e⟩
  · omega
  · have h3 := (sz_sub hs (hS f hf) hsf).1
    obtain ⟨j, hj, rfl⟩ := getD_mem_iff.1 hf
    by_cases ej : j = l.length - 1
    · subst ej; omega
    · have hb := cplx_before h (show j < l.length - 1 by omega) hl
      simp only [before, decide_eq_true_eq] at hb
      omega
theorem topZ_nil : topZ (faceS []) = -1 := by
  rcases topZ_hit (faceS []) with h | ⟨s, _, ⟨f, hf, _⟩, _⟩
  · exact h
  · simp at hf
open Classical in
noncomputable def dimZ (n : Int) (l : List Int) : Int := if cplx n l then topZ (faceS l) - 1 else -2
noncomputable def F_s_DimOf : List V → Option V := F1 dC fun c => some (.int .i64 (dimZ c.1 c.2))
theorem fn_s_DimOf : FnOk Try.prog 155 F_s_DimOf := by
  have env := ((envNil_ok (P := Try.prog)).add fn_s_IsComplex).add fn_s_l2Size
  refine fn_ok code_s_DimOf mixed env ?_
  intro args r h hb
  obtain ⟨_, ⟨n, l⟩, rfl, h1, h4⟩ := F1_inv h
  cases dC_inv h1
  cases h4
  clear h
  have hlen := bnd_eC (hb _ (List.mem_cons_self ..))
  simp only at hlen
  refine ⟨by simp, fun w0 U0 L0 N0 => ?_⟩
  cases e0 : cplxB n l with
  | false =>
    have e : dimZ n l = -2 := by unfold dimZ; rw [if_neg fun h => by simp [cplxB_iff.2 h] at e0]
    simp -implicitDefEqProofs [sc_s_DimOf, F_s_IsComplex, e0, e]
  | true =>
    have hc := cplxB_iff.1 e0
    have hS := cplx_isS hc
    by_cases hne : l = []
    · subst hne
      have e : dimZ n [] = -2 := by unfold dimZ; rw [if_pos hc, topZ_nil]; omega
      simp -implicitDefEqProofs [sc_s_DimOf, F_s_IsComplex, e0, e]
    · have hpos := List.length_pos_iff.2 hne
      have hl : l.length - 1 < l.length := by omega
      have e : dimZ n l = sz (at0 l (l.length - 1)) - 1 := by unfold dimZ; rw [if_pos hc, topZ_facets hc hne]
      have hw : IntKind.i64.wrap ((l.length : Int) - 1) = ((l.length - 1 : Nat) : Int) := by rw [wrapI _ (by omega) (by omega)]; omega
      have hf := allS_at hS hl
      have r1 : at0 l (l.length - 1) < 9223372036854775808 := by have := hf.2; omega
      have h6 := sz_six hf
      have h0 := sz_nn (at0 l (l.length - 1))
      have hw2 : IntKind.i64.wrap (sz (at0 l (l.length - 1)) - 1) = sz (at0 l (l.length - 1)) - 1 := wrapI _ (by omega) (by omega)
      simp -implicitDefEqProofs [sc_s_DimOf, F_s_IsComplex, F_s_l2Size, e0, hne, e, hw, r1, hw2]
      try omega
end Go.Proofs.Ytmemomfffehnkaa
