import Derived.Test.YtedampaecopkhaaFoM
namespace Go.Proofs.Ytedampaecopkhaa
open Go Go.RowKit
set_option maxRecDepth 1000000
set_option linter.unusedSimpArgs false
set_option linter.unusedVariables false
set_option maxHeartbeats 1000000
def sc_i_setsIn_L2 : SC := (.seq (.seq (.reg [⟨(some 10), none, (.mov (.t 5))⟩, ⟨(some 11), none, (.bin false .lss (.t 10) (.c (.int .i64 64)))⟩]) (.cond (.t 11) .skip (.exit 2))) (.seq (.block 3 (.seq (.reg [⟨(some 14), none, (.mov (.t 0))⟩, ⟨(some 15), none, (.mov (.t 5))⟩, ⟨(some 16), none, (.call 78 [(.t 14), (.t 15)])⟩, ⟨(some 17), none, (.mov (.t 16))⟩, ⟨(some 18), (some (17, true)), (.mov (.t 5))⟩, ⟨(some 19), (some (17, true)), (.call 89 [(.t 18)])⟩, ⟨(some 20), (some (17, true)), (.mov (.t 4))⟩, ⟨(some 21), (some (17, true)), (.bin false .eql (.t 19) (.t 20))⟩, ⟨(some 22), none, (.pick (.t 17) (.t 21) (.c (.bool false)))⟩]) (.cond (.t 22) (.reg [⟨(some 23), none, (.mov (.t 3))⟩, ⟨(some 24), none, (.mov (.t 5))⟩, ⟨(some 25), none, (.mks 1 1 [(.int .i64 0)] [(0, (1, (.t 24)))])⟩, ⟨(some 26), none, (.app 1 8 (.t 23) (.t 25))⟩, ⟨(some 3), none, (.mov (.t 26))⟩]) .skip))) (.reg [⟨(some 12), none, (.mov (.t 5))⟩, ⟨(some 13), none, (.bin false .add (.t 12) (.c (.int .i64 1)))⟩, ⟨(some 5), none, (.mov (.t 13))⟩])))
def sc_i_setsIn_L0 : SC := (.seq (.seq (.reg [⟨(some 6), none, (.mov (.t 4))⟩, ⟨(some 7), none, (.bin false .leq (.t 6) (.c (.int .i64 6)))⟩]) (.cond (.t 7) .skip (.exit 0))) (.seq (.block 1 (.seq (.reg [⟨(some 5), none, (.mov (.c (.int .i64 0)))⟩]) (.block 2 (.loop sc_i_setsIn_L2)))) (.reg [⟨(some 8), none, (.mov (.t 4))⟩, ⟨(some 9), none, (.bin false .add (.t 8) (.c (.int .i64 1)))⟩, ⟨(some 4), none, (.mov (.t 9))⟩])))
def sc_i_setsIn : SC := (.seq (.reg [⟨(some 2), none, (.mov (.c .nil))⟩]) (.seq (.reg [⟨(some 3), none, (.mov (.c .nil))⟩]) (.seq (.seq (.reg [⟨(some 4), none, (.mov (.c (.int .i64 0)))⟩]) (.block 0 (.loop sc_i_setsIn_L0))) (.seq (.reg [⟨(some 27), none, (.mov (.t 3))⟩, ⟨(some 2), none, (.mov (.t 27))⟩]) .ret))))
theorem code_i_setsIn : fnCode Try.prog [] 77 = some (28, sc_i_setsIn, [(2, none)]) := by kernel_rfl
noncomputable def setsG (f : Int) : Option V := @ite _ (0 ≤ f ∧ f < 18446744073709551616) (Classical.propDecidable _) (some (.own 1 (ints (setsOf (bitP f))))) none
theorem setsG_fam (p : Int → Prop) : setsG (fam p) = some (.own 1 (ints (setsOf p))) := by
  unfold setsG
  rw [if_pos ⟨fam_nn p, fam_lt p⟩, setsOf_congr fun s hs => bitP_fam hs]
noncomputable def F_i_setsIn : List V → Option V := F1 dU setsG
theorem fn_i_setsIn : FnOk Try.prog 77 F_i_setsIn := by
  have env := ((envNil_ok (P := Try.prog)).add fn_i_SizeOf).add fn_i_hasSet
  refine fn_ok code_i_setsIn mixed env ?_
  intro args r h hb
  obtain ⟨_, f, rfl, h1, h4⟩ := F1_inv h
  cases dU_inv h1
  clear h
  simp only [setsG, Option.ite_none_right_eq_some, Option.some.injEq] at h4
  obtain ⟨⟨hf1, hf2⟩, rfl⟩ := h4
  have hf := fam_bitP hf1 hf2
  generalize bitP f = p at *
  subst hf
  refine ⟨by simp, fun w0 U0 L0 N0 => ?_⟩
  have inner : ∀ (z : Nat) (Q : Post) (L : Tm), z ≤ 6 → subE L [(0, .int .u64 (fam p)), (3, .sl 0 1 0 (ordS p z).length), (4, .int .i64 (z : Int)), (5, .int .i64 0)] →
      Q (.exit 2) [(0, .int .u64 (fam p)), (3, .sl 0 1 0 (ordS p (z + 1)).length), (4, .int .i64 (z : Int))] ([(0, ints (ordS p (z + 1)))], 1) →
      LoopI ⟨Try.prog, w0, U0, L0, N0, 0, 28⟩ [] sc_i_setsIn_L2 Q L ([(0, ints (ordS p z))], 1) := by
    intro z Q L hz hs q1
    have ob := ordS_len p z
    refine loopQ env mixed (fun k : Nat => [(0, .int .u64 (fam p)), (3, .sl 0 1 0 (ordS p z ++ upS (fun s => p s ∧ sz s = z) k).length), (4, .int .i64 (z : Int)), (5, .int .i64 (k : Int))]) (fun k => ([(0, ints (ordS p z ++ upS (fun s => p s ∧ sz s = z) k))], 1)) (fun k => k ≤ 64) (fun k => 64 - k) 0 (by simp)
      (SubI.slots (by simp [upS]) (by simpa [upS] using hs)) ?_
    intro k hk
    have ub := upS_len (fun s => p s ∧ sz s = z) k
    by_cases hlt : k < 64
    · have hlt' : (k : Int) < 64 := by omega
      have hkS := inS k hlt
      have hg := hasG_fam (p := p) hkS
      have r1 := sizeOf1_set hkS.1 hkS.2
      by_cases hp : p (k : Int)
      · rw [dec_true hp] at hg
        by_cases hsz : sz (k : Int) = (z : Int)
        · have e : upS (fun s => p s ∧ sz s = z) (k + 1) = upS (fun s => p s ∧ sz s = z) k ++ [(k : Int)] := upS_pos ⟨hp, hsz⟩
          have e2 : ordS p z ++ upS (fun s => p s ∧ sz s = z) (k + 1) = (ordS p z ++ upS (fun s => p s ∧ sz s = z) k) ++ [(k : Int)] := by rw [e, List.append_assoc]
          have gl : (ordS p z ++ upS (fun s => p s ∧ sz s = z) k).length ≤ 64 * z + k := by rw [List.length_append]; omega
          generalize hgg : ordS p z ++ upS (fun s => p s ∧ sz s = z) k = g at *
          simp -implicitDefEqProofs [sc_i_setsIn_L2, F_i_hasSet, F_i_SizeOf, hlt', hg, r1, hsz]
          repeat' (first | omega | apply And.intro)
          refine Again.of (k + 1) (by omega) (by omega) (SubI.ren (fun m => if m = 0 then some 2 else none) ?_ ?_ ?_ (by simp) (by simp))
          · have el := congrArg List.length e2
            simp only [List.length_append, List.length_cons, List.length_nil] at el
            simp (disch := omega) [subT, renV, ren1, wrapI, e2]
            omega
          · simp [subH, e2, renL, ren1]
            rw [← ints_app]
            rfl
          · intro m hm
            simp only at hm
            rw [if_neg (by omega)]
        · have e : upS (fun s => p s ∧ sz s = z) (k + 1) = upS (fun s => p s ∧ sz s = z) k := upS_neg fun h => hsz h.2
          simp -implicitDefEqProofs [sc_i_setsIn_L2, F_i_hasSet, F_i_SizeOf, hlt', hg, r1, hsz]
          repeat' (first | omega | apply And.intro)
          exact Again.of (k + 1) (by omega) (by omega) (SubI.slots (by simp [e]) (by simp (disch := omega) [wrapI, e]))
      · rw [dec_false hp] at hg
        have e : upS (fun s => p s ∧ sz s = z) (k + 1) = upS (fun s => p s ∧ sz s = z) k := upS_neg fun h => hp h.1
        simp -implicitDefEqProofs [sc_i_setsIn_L2, F_i_hasSet, hlt', hg]
        repeat' (first | omega | apply And.intro)
        exact Again.of (k + 1) (by omega) (by omega) (SubI.slots (by simp [e]) (by simp (disch := omega) [wrapI, e]))
    · have : k = 64 := by omega
      subst this
      simp -implicitDefEqProofs [sc_i_setsIn_L2]
      exact SubQ.of (SubI.slots (by simp [ordS]) (by simp [ordS])) q1
  simp -implicitDefEqProofs [sc_i_setsIn]
  refine loopI env mixed (fun z : Nat => [(0, .int .u64 (fam p)), (3, .sl 0 1 0 (ordS p z).length), (4, .int .i64 (z : Int))]) (fun z => ([(0, ints (ordS p z))], 1)) (fun z => z ≤ 7) (fun z => 7 - z) 0 (by simp) (SubI.nilN 3 1 (by simp) (SubI.slots (by simp [ordS]) (by simp [ordS]))) ?_
  intro z hz
  by_cases h7 : z < 7
  · have hz6 : (z : Int) ≤ 6 := by omega
    simp -implicitDefEqProofs [sc_i_setsIn_L0, hz6]
    refine inner z _ _ (by omega) (by simp) ?_
    simp -implicitDefEqProofs
    exact Again.of (z + 1) (by omega) (by omega) (SubI.slots (by simp) (by simp (disch := omega) [wrapI]))
  · have : z = 7 := by omega
    subst this
    simp -implicitDefEqProofs [sc_i_setsIn_L0, setsOf_eq]
end Go.Proofs.Ytedampaecopkhaa
