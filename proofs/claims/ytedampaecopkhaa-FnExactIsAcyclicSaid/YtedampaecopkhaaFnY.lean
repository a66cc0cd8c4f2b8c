import Derived.Test.YtedampaecopkhaaFnT
import Derived.Test.YtedampaecopkhaaFnS
namespace Go.Proofs.Ytedampaecopkhaa
open Go Go.RowKit
set_option maxRecDepth 1000000
set_option linter.unusedSimpArgs false
set_option linter.unusedVariables false
set_option maxHeartbeats 1000000
def sc_s_FacesOf_L0 : SC := (.seq (.seq (.reg [⟨(some 6), none, (.mov (.t 4))⟩, ⟨(some 7), none, (.bin false .lss (.t 6) (.c (.int .i64 64)))⟩, ⟨(some 8), none, (.mov (.t 7))⟩, ⟨(some 9), (some (8, true)), (.ld (some 2) .undef (.t 1))⟩, ⟨(some 10), (some (8, true)), (.call 56 [(.t 9)])⟩, ⟨(some 11), none, (.pick (.t 8) (.t 10) (.c (.bool false)))⟩]) (.cond (.t 11) .skip (.exit 0))) (.seq (.block 1 (.seq (.reg [⟨(some 14), none, (.ld (some 2) .undef (.t 1))⟩, ⟨(some 15), none, (.mov (.t 4))⟩, ⟨(some 16), none, (.call 75 [(.t 14), (.t 15)])⟩]) (.cond (.t 16) (.reg [⟨(some 17), none, (.mov (.t 3))⟩, ⟨(some 18), none, (.mov (.t 4))⟩, ⟨(some 19), none, (.mks 1 1 [(.int .i64 0)] [(0, (1, (.t 18)))])⟩, ⟨(some 20), none, (.app 1 8 (.t 17) (.t 19))⟩, ⟨(some 3), none, (.mov (.t 20))⟩]) .skip))) (.reg [⟨(some 12), none, (.mov (.t 4))⟩, ⟨(some 13), none, (.bin false .add (.t 12) (.c (.int .i64 1)))⟩, ⟨(some 4), none, (.mov (.t 13))⟩])))
def sc_s_FacesOf : SC := (.seq (.reg [⟨(some 1), none, (.box (.t 0))⟩, ⟨(some 2), none, (.mov (.c .nil))⟩]) (.seq (.reg [⟨(some 5), none, (.mks 0 1 [] [])⟩, ⟨(some 3), none, (.mov (.t 5))⟩]) (.seq (.seq (.reg [⟨(some 4), none, (.mov (.c (.int .i64 0)))⟩]) (.block 0 (.loop sc_s_FacesOf_L0))) (.seq (.reg [⟨(some 21), none, (.mov (.t 3))⟩, ⟨(some 22), none, (.call 105 [(.t 21)])⟩, ⟨(some 2), none, (.mov (.t 22))⟩]) .ret))))
theorem code_s_FacesOf : fnCode Try.prog [] 64 = some (23, sc_s_FacesOf, [(2, none)]) := by kernel_rfl
/-- The faces of a complex, in order. -/
noncomputable def facesL (n : Int) (l : List Int) : List Int := setsOf fun s => cplx n l ∧ faceS l s
theorem facesL_of {n : Int} {l : List Int} (h : cplx n l) : facesL n l = setsOf (faceS l) := setsOf_congr fun s _ => ⟨fun a => a.2, fun a => ⟨h, a⟩⟩
theorem facesL_not {n : Int} {l : List Int} (h : ¬ cplx n l) : facesL n l = [] := by
  rw [← setsOf_none]
  exact setsOf_congr fun s _ => ⟨fun a => h a.1, False.elim⟩
noncomputable def F_s_FacesOf : List V → Option V := F1 dC fun c => some (.own 1 (ints (facesL c.1 c.2)))
theorem fn_s_FacesOf : FnOk Try.prog 64 F_s_FacesOf := by
  have env := (((envNil_ok (P := Try.prog)).add fn_s_l3Has).add fn_s_l2Order).add fn_s_IsComplex
  refine fn_ok code_s_FacesOf mixed env ?_
  intro args r h hb
  obtain ⟨_, ⟨n, l⟩, rfl, h1, h4⟩ := F1_inv h
  cases dC_inv h1
  cases h4
  refine ⟨by simp, fun w0 U0 L0 N0 => ?_⟩
  simp -implicitDefEqProofs [sc_s_FacesOf]
  cases hc : cplxB n l with
  | false =>
    have e : (setsOf fun x => x ∈ ([] : List Int)) = facesL n l := by
      rw [facesL_not fun h => by simp [cplxB_iff.2 h] at hc]
      exact (setsOf_congr (q := fun _ => False) fun s _ => by simp).trans setsOf_none
    refine loopI env mixed (fun _ : Unit => [(1, .pt 0 0), (3, .sl 1 1 0 0), (4, .int .i64 0)]) (fun _ => ([(1, []), (0, [.int .i64 n, .list 1 (ints l)])], 2)) (fun _ => True) (fun _ => 0) () trivial (SubI.slots (by simp) (by simp)) ?_
    intro _ _
    simp at e
    simp -implicitDefEqProofs [sc_s_FacesOf_L0, F_s_IsComplex, hc, F_s_l2Order, allS, e]
  | true =>
    have hcp := cplxB_iff.1 hc
    have hS := cplx_isS hcp
    refine loopI env mixed (fun k : Nat => [(1, .pt 0 0), (3, .sl 1 1 0 (upS (faceS l) k).length), (4, .int .i64 (k : Int))]) (fun k => ([(1, ints (upS (faceS l) k)), (0, [.int .i64 n, .list 1 (ints l)])], 2)) (fun k => k ≤ 64) (fun k => 64 - k) 0 (by simp) (SubI.slots (by simp [upS]) (by simp [upS])) ?_
    intro k hk
    have ub := upS_len (faceS l) k
    by_cases hlt : k < 64
    · have hlt' : (k : Int) < 64 := by omega
      have hkS := inS k hlt
      by_cases hp : faceS l (k : Int)
      · have e : upS (faceS l) (k + 1) = upS (faceS l) k ++ [(k : Int)] := upS_pos hp
        have hpd := dec_true hp
        simp -implicitDefEqProofs [sc_s_FacesOf_L0, F_s_IsComplex, F_s_l3Has, hc, hlt', hS, hkS, hpd]
        repeat' (first | omega | apply And.intro)
        refine Again.of (k + 1) (by omega) (by omega) (SubI.ren (fun m => if m = 0 then some 0 else if m = 1 then some 3 else none) ?_ ?_ ?_ (by simp) (by simp))
        · simp (disch := omega) [subT, renV, ren1, wrapI, e]
        · simp [subH, e, renL, ren1]
          rw [← ints_app]
          rfl
        · intro m hm
          simp only at hm
          rw [if_neg (by omega), if_neg (by omega)]
      · have e : upS (faceS l) (k + 1) = upS (faceS l) k := upS_neg hp
        have hpd := dec_false hp
        simp -implicitDefEqProofs [sc_s_FacesOf_L0, F_s_IsComplex, F_s_l3Has, hc, hlt', hS, hkS, hpd]
        repeat' (first | omega | apply And.intro)
        exact Again.of (k + 1) (by omega) (by omega) (SubI.slots (by simp [e]) (by simp (disch := omega) [wrapI, e]))
    · have : k = 64 := by omega
      subst this
      have e : (setsOf fun x => x ∈ upS (faceS l) 64) = facesL n l := by
        rw [facesL_of hcp]
        exact setsOf_congr fun x hx => by rw [mem_upS64]; exact ⟨fun h => h.2, fun h => ⟨hx, h⟩⟩
      simp -implicitDefEqProofs [sc_s_FacesOf_L0, F_s_l2Order, allS_upS, e]
end Go.Proofs.Ytedampaecopkhaa
