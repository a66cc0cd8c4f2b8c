import Derived.Test.YtkfjacclpjgafaaGbC
import Derived.Test.YtkfjacclpjgafaaKJ
import Derived.Test.YtkfjacclpjgafaaKG
namespace Go.Proofs.Ytkfjacclpjgafaa
open Go Go.RowKit
set_option maxRecDepth 1000000
set_option linter.unusedSimpArgs false
set_option linter.unusedVariables false
set_option maxHeartbeats 1000000
def sc_s_UnpairedFaces_L2 : SC := (.seq (.seq (.reg [⟨(some 38), none, (.mov (.t 9))⟩, ⟨(some 39), none, (.mov (.t 8))⟩, ⟨(some 40), none, (.len (.t 39))⟩, ⟨(some 41), none, (.bin false .lss (.t 38) (.t 40))⟩]) (.cond (.t 41) .skip (.exit 2))) (.seq (.block 3 (.seq (.reg [⟨(some 44), none, (.mov (.t 6))⟩, ⟨(some 45), none, (.mov (.t 8))⟩, ⟨(some 46), none, (.mov (.t 9))⟩, ⟨(some 47), none, (.idx 1 (.t 45) (.t 46))⟩, ⟨(some 48), none, (.ld none (.int .i64 0) (.t 47))⟩, ⟨(some 49), none, (.call 75 [(.t 44), (.t 48)])⟩, ⟨(some 50), none, (.un .not (.t 49))⟩]) (.cond (.t 50) (.reg [⟨(some 51), none, (.mov (.t 5))⟩, ⟨(some 52), none, (.mov (.t 8))⟩, ⟨(some 53), none, (.mov (.t 9))⟩, ⟨(some 54), none, (.idx 1 (.t 52) (.t 53))⟩, ⟨(some 55), none, (.ld none (.int .i64 0) (.t 54))⟩, ⟨(some 56), none, (.mks 1 1 [(.int .i64 0)] [(0, (1, (.t 55)))])⟩, ⟨(some 57), none, (.app 1 8 (.t 51) (.t 56))⟩, ⟨(some 5), none, (.mov (.t 57))⟩]) .skip))) (.reg [⟨(some 42), none, (.mov (.t 9))⟩, ⟨(some 43), none, (.bin false .add (.t 42) (.c (.int .i64 1)))⟩, ⟨(some 9), none, (.mov (.t 43))⟩])))
def sc_s_UnpairedFaces_L0 : SC := (.seq (.seq (.reg [⟨(some 17), none, (.mov (.t 7))⟩, ⟨(some 18), none, (.mov (.t 1))⟩, ⟨(some 19), none, (.len (.t 18))⟩, ⟨(some 20), none, (.bin false .lss (.t 17) (.t 19))⟩]) (.cond (.t 20) .skip (.exit 0))) (.seq (.block 1 (.dreg [⟨⟨(some 23), none, (.mov (.t 6))⟩, false, true⟩, ⟨⟨(some 24), none, (.mov (.t 1))⟩, false, false⟩, ⟨⟨(some 25), none, (.mov (.t 7))⟩, false, false⟩, ⟨⟨(some 26), none, (.idx 2 (.t 24) (.t 25))⟩, false, false⟩, ⟨⟨(some 27), none, (.fad 0 (.t 26))⟩, false, false⟩, ⟨⟨(some 28), none, (.ld none (.int .i64 0) (.t 27))⟩, false, false⟩, ⟨⟨(some 29), none, (.mov (.t 1))⟩, false, false⟩, ⟨⟨(some 30), none, (.mov (.t 7))⟩, false, false⟩, ⟨⟨(some 31), none, (.idx 2 (.t 29) (.t 30))⟩, false, false⟩, ⟨⟨(some 32), none, (.fad 1 (.t 31))⟩, false, false⟩, ⟨⟨(some 33), none, (.ld none (.int .i64 0) (.t 32))⟩, false, false⟩, ⟨⟨(some 34), none, (.mks 2 1 [(.int .i64 0), (.int .i64 0)] [(0, (1, (.t 28))), (1, (1, (.t 33)))])⟩, true, false⟩, ⟨⟨(some 35), none, (.app 1 8 (.t 23) (.t 34))⟩, true, false⟩, ⟨⟨(some 6), none, (.mov (.t 35))⟩, false, false⟩])) (.reg [⟨(some 21), none, (.mov (.t 7))⟩, ⟨(some 22), none, (.bin false .add (.t 21) (.c (.int .i64 1)))⟩, ⟨(some 7), none, (.mov (.t 22))⟩])))
def sc_s_UnpairedFaces : SC := (.seq (.reg [⟨(some 2), none, (.box (.t 0))⟩, ⟨(some 4), none, (.mov (.c .nil))⟩]) (.seq (.reg [⟨(some 10), none, (.mks 0 1 [] [])⟩, ⟨(some 5), none, (.mov (.t 10))⟩]) (.seq (.seq (.reg [⟨(some 11), none, (.ld (some 2) .undef (.t 2))⟩, ⟨(some 12), none, (.mov (.t 1))⟩, ⟨(some 13), none, (.call 99 [(.t 11), (.t 12)])⟩, ⟨(some 14), none, (.un .not (.t 13))⟩]) (.cond (.t 14) (.seq (.reg [⟨(some 15), none, (.mov (.t 5))⟩, ⟨(some 4), none, (.mov (.t 15))⟩]) .ret) .skip)) (.seq (.reg [⟨(some 16), none, (.mks 0 1 [] [])⟩, ⟨(some 6), none, (.mov (.t 16))⟩]) (.seq (.seq (.reg [⟨(some 7), none, (.mov (.c (.int .i64 0)))⟩]) (.block 0 (.loop sc_s_UnpairedFaces_L0))) (.seq (.reg [⟨(some 36), none, (.ld (some 2) .undef (.t 2))⟩, ⟨(some 37), none, (.call 122 [(.t 36)])⟩, ⟨(some 8), none, (.mov (.t 37))⟩]) (.seq (.seq (.reg [⟨(some 9), none, (.mov (.c (.int .i64 0)))⟩]) (.block 2 (.loop sc_s_UnpairedFaces_L2))) (.seq (.reg [⟨(some 58), none, (.mov (.t 5))⟩, ⟨(some 4), none, (.mov (.t 58))⟩]) .ret))))))))
theorem code_s_UnpairedFaces : fnCode Try.prog [] 100 = some (59, sc_s_UnpairedFaces, [(4, none)]) := by kernel_rfl
theorem pair_used {n : Int} {l : List Int} {list : List (Int × Int)} (h : pairP n l list) : ∀ k, k ≤ list.length → (usedI list k).Nodup ∧ allS (usedI list k) := by
  intro k
  induction k with
  | zero => intro _; exact ⟨by simp [usedI], by simp [usedI, allS]⟩
  | succ k ih =>
    intro hk
    obtain ⟨a, b⟩ := ih (by omega)
    obtain ⟨g, c, d⟩ := h.2 k (by omega)
    exact used_step (by omega) a b g c d
theorem usedI_len (list : List (Int × Int)) : ∀ k, k ≤ list.length → (usedI list k).length = 2 * k := by
  intro k
  induction k with
  | zero => intro _; simp [usedI]
  | succ k ih => intro hk; rw [usedI_succ (by omega), List.length_append, ih (by omega)]; simp; omega
open Classical in
/-- The faces that are in no pair. -/
noncomputable def unpL (n : Int) (l : List Int) (list : List (Int × Int)) : List Int := if pairP n l list then setsOf fun s => faceS l s ∧ s ∉ usedI list list.length else []
noncomputable def F_s_UnpairedFaces : List V → Option V := F2 dC dP fun c list => some (.own 1 (ints (unpL c.1 c.2 list)))
theorem fn_s_UnpairedFaces : FnOk Try.prog 100 F_s_UnpairedFaces := by
  have env := (((envNil_ok (P := Try.prog)).add fn_s_FacesOf).add fn_s_l2Has).add fn_s_IsPairing
  refine fn_ok code_s_UnpairedFaces mixed env ?_
  intro args r h hb
  obtain ⟨_, _, ⟨n, l⟩, list, rfl, h1, h2, h4⟩ := F2_inv h
  cases dC_inv h1
  cases dP_inv h2
  cases h4
  have hlen := bnd_prs (hb (.list 2 (prs list)) (by simp))
  refine ⟨by simp, fun w0 U0 L0 N0 => ?_⟩
  clear h hb
  by_cases hP : pairP n l list
  rotate_left
  · have e : unpL n l list = [] := by simp [unpL, hP]
    have hd := dec_false hP
    rw [e]
    simp -implicitDefEqProofs [sc_s_UnpairedFaces, F_s_IsPairing, hd]
  have hd := dec_true hP
  have hU := pair_used hP
  have hFS : allS (facesL n l) := allS_setsOf _
  have hFl : (facesL n l).length ≤ 64 := setsOf_len _
  have hres : unpL n l list = (facesL n l).filter fun s => dec (s ∉ usedI list list.length) := by
    rw [facesL_of hP.1, filt_setsOf]
    simp [unpL, hP]
  rw [hres]
  simp -implicitDefEqProofs [sc_s_UnpairedFaces, F_s_IsPairing, hd]
  refine loopI env mixed (fun k : Nat => [(1, .list 2 (prs list)), (2, .pt 0 0), (5, .sl 1 1 0 0), (6, .sl 2 1 0 (usedI list k).length), (7, .int .i64 (k : Int))]) (fun k => ([(2, ints (usedI list k)), (1, []), (0, [.int .i64 n, .list 1 (ints l)])], 3)) (fun k => k ≤ list.length) (fun k => list.length - k) 0 (by simp) (SubI.slots (by simp [usedI]) (by simp [usedI])) ?_
  intro k hk
  have h64 := nodup_len (hU k hk).1 (hU k hk).2
  by_cases hlt : k < list.length
  · have hda := prs_at hlt
    have hus := usedI_succ hlt
    generalize usedI list k = U at *
    simp -implicitDefEqProofs [sc_s_UnpairedFaces_L0, freeOk, hlt, hda]
    repeat' (first | omega | apply And.intro)
    refine Again.of (k + 1) (by omega) (by omega) (SubI.ren (fun m => if m = 0 then some 0 else if m = 1 then some 1 else if m = 2 then some 4 else none) ?_ ?_ ?_ (by simp) (by simp))
    · simp (disch := omega) [subT, renV, ren1, wrapI, hus]
    · simp [subH, hus, renL, ren1]
      rw [← ints_app]
      rfl
    · intro m hm
      simp only at hm
      rw [if_neg (by omega), if_neg (by omega), if_neg (by omega)]
  · have hkl : k = list.length := by omega
    subst hkl
    simp -implicitDefEqProofs [sc_s_UnpairedFaces_L0, F_s_FacesOf]
    generalize usedI list list.length = U at *
    generalize facesL n l = L at *
    generalize hq : (fun s => dec (s ∉ U)) = q
    refine loopI env mixed (fun k : Nat => [(5, .sl 1 1 0 ((L.take k).filter q).length), (6, .sl 2 1 0 U.length), (8, .sl 3 1 0 L.length), (9, .int .i64 (k : Int))]) (fun k => ([(3, ints L), (2, ints U), (1, ints ((L.take k).filter q)), (0, [.int .i64 n, .list 1 (ints l)])], 4)) (fun k => k ≤ L.length) (fun k => L.length - k) 0 (by simp) (SubI.slots (by simp) (by simp)) ?_
    intro k hk
    have gl := filt_len L k q
    by_cases hlt : k < L.length
    · by_cases hm : at0 L k ∈ U
      · have e := filt_neg hlt (q := q) (by rw [← hq]; exact dec_false fun h => h hm)
        generalize (L.take k).filter q = g at *
        simp -implicitDefEqProofs [sc_s_UnpairedFaces_L2, F_s_l2Has, hlt, hm]
        repeat' (first | omega | apply And.intro)
        exact Again.of (k + 1) (by omega) (by omega) (SubI.slots (by simp only [e]) (by simp (disch := omega) [wrapI, e]))
      · have e := filt_pos hlt (q := q) (by rw [← hq]; exact dec_true hm)
        generalize (L.take k).filter q = g at *
        simp -implicitDefEqProofs [sc_s_UnpairedFaces_L2, F_s_l2Has, hlt, hm]
        repeat' (first | omega | apply And.intro)
        refine Again.of (k + 1) (by omega) (by omega) (SubI.ren (fun m => if m = 0 then some 0 else if m = 1 then some 5 else if m = 2 then some 2 else if m = 3 then some 3 else none) ?_ ?_ ?_ (by simp) (by simp))
        · simp only [e]
          simp (disch := omega) [subT, renV, ren1, wrapI]
        · simp only [e]
          simp [subH, renL, ren1]
          rw [← ints_app]
          rfl
        · intro m hm
          simp only at hm
          rw [if_neg (by omega), if_neg (by omega), if_neg (by omega), if_neg (by omega)]
    · have : k = L.length := by omega
      subst this
      simp -implicitDefEqProofs [sc_s_UnpairedFaces_L2]
end Go.Proofs.Ytkfjacclpjgafaa
