import Derived.Test.YtmemomfffehnkaaGaB
import Derived.Test.YtmemomfffehnkaaKG
namespace Go.Proofs.Ytmemomfffehnkaa
open Go Go.RowKit
set_option maxRecDepth 1000000
set_option linter.unusedSimpArgs false
set_option linter.unusedVariables false
set_option maxHeartbeats 1000000
/-- The free faces of a complex, in order. -/
noncomputable def freeL (n : Int) (l : List Int) : List Int := setsOf fun s => cplx n l ∧ faceS l s ∧ ∃ t, freeOf (faceS l) s t
theorem freeL_of {n : Int} {l : List Int} (h : cplx n l) : freeL n l = setsOf fun s => faceS l s ∧ ∃ t, freeOf (faceS l) s t := setsOf_congr fun s _ => ⟨fun a => a.2, fun a => ⟨h, a⟩⟩
theorem freeL_not {n : Int} {l : List Int} (h : ¬ cplx n l) : freeL n l = [] := setsOf_nil.2 fun _ _ a => h a.1
noncomputable def F_s_FreeFaces : List V → Option V := F1 dC fun c => some (.own 1 (ints (freeL c.1 c.2)))
def sc_s_l17Above_L0 : SC := (.seq (.seq (.reg [⟨(some 8), none, (.mov (.t 6))⟩, ⟨(some 9), none, (.mov (.t 0))⟩, ⟨(some 10), none, (.len (.t 9))⟩, ⟨(some 11), none, (.bin false .lss (.t 8) (.t 10))⟩]) (.cond (.t 11) .skip (.exit 0))) (.seq (.block 1 (.seq (.reg [⟨(some 14), none, (.mov (.t 0))⟩, ⟨(some 15), none, (.mov (.t 6))⟩, ⟨(some 16), none, (.idx 1 (.t 14) (.t 15))⟩, ⟨(some 17), none, (.ld none (.int .i64 0) (.t 16))⟩, ⟨(some 18), none, (.mov (.t 1))⟩, ⟨(some 19), none, (.bin false .and (.t 17) (.t 18))⟩, ⟨(some 20), none, (.mov (.t 1))⟩, ⟨(some 21), none, (.bin false .eql (.t 19) (.t 20))⟩, ⟨(some 22), none, (.mov (.t 21))⟩, ⟨(some 23), (some (22, true)), (.mov (.t 0))⟩, ⟨(some 24), (some (22, true)), (.mov (.t 6))⟩, ⟨(some 25), (some (22, true)), (.idx 1 (.t 23) (.t 24))⟩, ⟨(some 26), (some (22, true)), (.ld none (.int .i64 0) (.t 25))⟩, ⟨(some 27), (some (22, true)), (.mov (.t 1))⟩, ⟨(some 28), (some (22, true)), (.bin false .neq (.t 26) (.t 27))⟩, ⟨(some 29), none, (.pick (.t 22) (.t 28) (.c (.bool false)))⟩]) (.cond (.t 29) (.reg [⟨(some 30), none, (.mov (.t 5))⟩, ⟨(some 31), none, (.mov (.t 0))⟩, ⟨(some 32), none, (.mov (.t 6))⟩, ⟨(some 33), none, (.idx 1 (.t 31) (.t 32))⟩, ⟨(some 34), none, (.ld none (.int .i64 0) (.t 33))⟩, ⟨(some 35), none, (.mks 1 1 [(.int .i64 0)] [(0, (1, (.t 34)))])⟩, ⟨(some 36), none, (.app 1 8 (.t 30) (.t 35))⟩, ⟨(some 5), none, (.mov (.t 36))⟩]) .skip))) (.reg [⟨(some 12), none, (.mov (.t 6))⟩, ⟨(some 13), none, (.bin false .add (.t 12) (.c (.int .i64 1)))⟩, ⟨(some 6), none, (.mov (.t 13))⟩])))
def sc_s_l17Above : SC := (.seq (.reg [⟨(some 4), none, (.mov (.c .nil))⟩]) (.seq (.reg [⟨(some 7), none, (.mks 0 1 [] [])⟩, ⟨(some 5), none, (.mov (.t 7))⟩]) (.seq (.seq (.reg [⟨(some 6), none, (.mov (.c (.int .i64 0)))⟩]) (.block 0 (.loop sc_s_l17Above_L0))) (.seq (.reg [⟨(some 37), none, (.mov (.t 5))⟩, ⟨(some 4), none, (.mov (.t 37))⟩]) .ret))))
theorem code_s_l17Above : fnCode Try.prog [] 179 = some (38, sc_s_l17Above, [(4, none)]) := by kernel_rfl
noncomputable def F_s_l17Above : List V → Option V := F2 dL dI fun l s => @ite _ (allS l ∧ l.length ≤ 64 ∧ isS s) (Classical.propDecidable _) (some (.own 1 (ints (l.filter fun t => dec (subS s t ∧ t ≠ s))))) none
theorem fn_s_l17Above : FnOk Try.prog 179 F_s_l17Above := by
  refine fn_ok code_s_l17Above mixed envNil_ok ?_
  intro args r h hb
  obtain ⟨_, _, l, s, rfl, h1, h2, h4⟩ := F2_inv h
  cases dL_inv h1
  cases dI_inv h2
  simp only [Option.ite_none_right_eq_some, Option.some.injEq] at h4
  obtain ⟨⟨hS, hl, hs⟩, rfl⟩ := h4
  refine ⟨by simp, fun w0 U0 L0 N0 => ?_⟩
  clear h
  simp -implicitDefEqProofs [sc_s_l17Above]
  refine loopI envNil_ok mixed (fun k : Nat => [(0, .list 1 (ints l)), (1, .int .i64 s), (5, .sl 0 1 0 ((l.take k).filter fun t => dec (subS s t ∧ t ≠ s)).length), (6, .int .i64 (k : Int))]) (fun k => ([(0, ints ((l.take k).filter fun t => dec (subS s t ∧ t ≠ s)))], 1)) (fun k => k ≤ l.length) (fun k => l.length - k) 0 (by simp) (SubI.slots (by simp) (by simp)) ?_
  intro k hk
  have gl := filt_len l k fun t => dec (subS s t ∧ t ≠ s)
  by_cases hlt : k < l.length
  · have hf := allS_at hS hlt
    by_cases h1 : band (at0 l k) s = s
    · by_cases h2 : at0 l k = s
      · have e := filt_neg hlt (q := fun t => dec (subS s t ∧ t ≠ s)) (dec_false fun h => h.2 h2)
        generalize hg : (l.take k).filter (fun t => dec (subS s t ∧ t ≠ s)) = g at *
        have h3 : band s s = s := h2 ▸ h1
        simp -implicitDefEqProofs [sc_s_l17Above_L0, hlt, h2, h3]
        repeat' (first | omega | apply And.intro)
        exact Again.of (k + 1) (by omega) (by omega) (SubI.slots (by simp only [e]) (by simp (disch := omega) only [subE_cons, subE_nil, e]; simp (disch := omega) [wrapI]))
      · have e := filt_pos hlt (q := fun t => dec (subS s t ∧ t ≠ s)) (dec_true ⟨(subS_iff' hs hf).2 h1, h2⟩)
        generalize hg : (l.take k).filter (fun t => dec (subS s t ∧ t ≠ s)) = g at *
        simp -implicitDefEqProofs [sc_s_l17Above_L0, hlt, h1, h2]
        repeat' (first | omega | apply And.intro)
        refine Again.of (k + 1) (by omega) (by omega) (SubI.ren (fun m => if m = 0 then some 2 else none) ?_ ?_ ?_ (by simp) (by simp))
        · simp only [e]
          simp (disch := omega) [subT, renV, ren1, wrapI]
        · simp only [e]
          simp [subH, renL, ren1]
          rw [← ints_app]
          rfl
        · intro m hm
          simp only at hm
          rw [if_neg (by omega)]
    · have e := filt_neg hlt (q := fun t => dec (subS s t ∧ t ≠ s)) (dec_false fun h => h1 ((subS_iff' hs hf).1 h.1))
      generalize hg : (l.take k).filter (fun t => dec (subS s t ∧ t ≠ s)) = g at *
      simp -implicitDefEqProofs [sc_s_l17Above_L0, hlt, h1]
      repeat' (first | omega | apply And.intro)
      exact Again.of (k + 1) (by omega) (by omega) (SubI.slots (by simp only [e]) (by simp (disch := omega) only [subE_cons, subE_nil, e]; simp (disch := omega) [wrapI]))
  · have : k = l.length := by omega
    subst this
    rw [List.take_length]
    generalize l.filter (fun t => dec (subS s t ∧ t ≠ s)) = g at *
    simp -implicitDefEqProofs [sc_s_l17Above_L0]
def sc_s_FreeFaces_L0 : SC := (.seq (.seq (.reg [⟨(some 9), none, (.mov (.t 5))⟩, ⟨(some 10), none, (.mov (.t 4))⟩, ⟨(some 11), none, (.len (.t 10))⟩, ⟨(some 12), none, (.bin false .lss (.t 9) (.t 11))⟩]) (.cond (.t 12) .skip (.exit 0))) (.seq (.block 1 (.seq (.reg [⟨(some 15), none, (.mov (.t 4))⟩, ⟨(some 16), none, (.mov (.t 4))⟩, ⟨(some 17), none, (.mov (.t 5))⟩, ⟨(some 18), none, (.idx 1 (.t 16) (.t 17))⟩, ⟨(some 19), none, (.ld none (.int .i64 0) (.t 18))⟩, ⟨(some 20), none, (.call 179 [(.t 15), (.t 19)])⟩, ⟨(some 21), none, (.len (.t 20))⟩, ⟨(some 22), none, (.bin false .eql (.t 21) (.c (.int .i64 1)))⟩]) (.cond (.t 22) (.reg [⟨(some 23), none, (.mov (.t 3))⟩, ⟨(some 24), none, (.mov (.t 4))⟩, ⟨(some 25), none, (.mov (.t 5))⟩, ⟨(some 26), none, (.idx 1 (.t 24) (.t 25))⟩, ⟨(some 27), none, (.ld none (.int .i64 0) (.t 26))⟩, ⟨(some 28), none, (.mks 1 1 [(.int .i64 0)] [(0, (1, (.t 27)))])⟩, ⟨(some 29), none, (.app 1 8 (.t 23) (.t 28))⟩, ⟨(some 3), none, (.mov (.t 29))⟩]) .skip))) (.reg [⟨(some 13), none, (.mov (.t 5))⟩, ⟨(some 14), none, (.bin false .add (.t 13) (.c (.int .i64 1)))⟩, ⟨(some 5), none, (.mov (.t 14))⟩])))
def sc_s_FreeFaces : SC := (.seq (.reg [⟨(some 1), none, (.box (.t 0))⟩, ⟨(some 2), none, (.mov (.c .nil))⟩]) (.seq (.reg [⟨(some 6), none, (.mks 0 1 [] [])⟩, ⟨(some 3), none, (.mov (.t 6))⟩]) (.seq (.reg [⟨(some 7), none, (.ld (some 2) .undef (.t 1))⟩, ⟨(some 8), none, (.call 43 [(.t 7)])⟩, ⟨(some 4), none, (.mov (.t 8))⟩]) (.seq (.seq (.reg [⟨(some 5), none, (.mov (.c (.int .i64 0)))⟩]) (.block 0 (.loop sc_s_FreeFaces_L0))) (.seq (.reg [⟨(some 30), none, (.mov (.t 3))⟩, ⟨(some 2), none, (.mov (.t 30))⟩]) .ret)))))
theorem code_s_FreeFaces : fnCode Try.prog [] 77 = some (31, sc_s_FreeFaces, [(2, none)]) := by kernel_rfl
theorem fn_s_FreeFaces : FnOk Try.prog 77 F_s_FreeFaces := by
  have env := ((envNil_ok (P := Try.prog)).add fn_s_l17Above).add fn_s_FacesOf
  refine fn_ok code_s_FreeFaces mixed env ?_
  intro args r h hb
  obtain ⟨_, ⟨n, l⟩, rfl, h1, h4⟩ := F1_inv h
  cases dC_inv h1
  cases h4
  clear h
  refine ⟨by simp, fun w0 U0 L0 N0 => ?_⟩
  simp -implicitDefEqProofs [sc_s_FreeFaces, F_s_FacesOf]
  have hL : allS (facesL n l) := allS_setsOf _
  have hLl : (facesL n l).length ≤ 64 := setsOf_len _
  have hres : freeL n l = (facesL n l).filter fun s => dec (((facesL n l).filter fun t => dec (subS s t ∧ t ≠ s)).length = 1) := by
    by_cases hc : cplx n l
    · rw [facesL_of hc, freeL_of hc, filt_setsOf]
      exact setsOf_congr fun s _ => by rw [above_len1]
    · rw [facesL_not hc, freeL_not hc]
      rfl
  rw [hres]
  generalize facesL n l = L at *
  generalize hq : (fun s => dec ((L.filter fun t => dec (subS s t ∧ t ≠ s)).length = 1)) = q
  refine loopI env mixed (fun k : Nat => [(3, .sl 1 1 0 ((L.take k).filter q).length), (4, .sl 2 1 0 L.length), (5, .int .i64 (k : Int))]) (fun k => ([(2, ints L), (1, ints ((L.take k).filter q)), (0, [.int .i64 n, .list 1 (ints l)])], 3)) (fun k => k ≤ L.length) (fun k => L.length - k) 0 (by simp) (SubI.slots (by simp) (by simp)) ?_
  intro k hk
  have gl := filt_len L k q
  by_cases hlt : k < L.length
  · have hf := allS_at hL hlt
    obtain ⟨A, hA⟩ : ∃ A, A = L.filter fun t => dec (subS (at0 L k) t ∧ t ≠ at0 L k) := ⟨_, rfl⟩
    have hF : F_s_l17Above [.list 1 (ints L), .int .i64 (at0 L k)] = some (.own 1 (ints A)) := by
      rw [hA]
      simp only [F_s_l17Above, F2_mk, dL_list, dI_int, Option.bind_some]
      rw [if_pos ⟨hL, hLl, hf⟩]
    by_cases h1 : A.length = 1
    · have e := filt_pos hlt (q := q) (by rw [← hq]; exact dec_true (hA ▸ h1))
      clear hA
      generalize (L.take k).filter q = g at *
      simp -implicitDefEqProofs [sc_s_FreeFaces_L0, hF, hlt, h1]
      repeat' (first | omega | apply And.intro)
      refine Again.of (k + 1) (by omega) (by omega) (SubI.ren (fun m => if m = 0 then some 0 else if m = 1 then some 5 else if m = 2 then some 2 else none) ?_ ?_ ?_ (by simp) (by simp))
      · simp only [e]
        simp (disch := omega) [subT, renV, ren1, wrapI]
      · simp only [e]
        simp [subH, renL, ren1]
        rw [← ints_app]
        rfl
      · intro m hm
        simp only at hm
        rw [if_neg (by omega), if_neg (by omega), if_neg (by omega)]
    · have e := filt_neg hlt (q := q) (by rw [← hq]; exact dec_false fun h => h1 (hA ▸ h))
      clear hA
      generalize (L.take k).filter q = g at *
      have h1' : ¬ ((A.length : Int) = 1) := by omega
      simp -implicitDefEqProofs [sc_s_FreeFaces_L0, hF, hlt, h1, h1']
      repeat' (first | omega | apply And.intro)
      refine Again.of (k + 1) (by omega) (by omega) (SubI.ren (fun m => if m = 0 then some 0 else if m = 1 then some 1 else if m = 2 then some 2 else none) ?_ ?_ ?_ (by simp) (by simp))
      · simp only [e]
        simp (disch := omega) [subT, renV, ren1, wrapI]
      · simp only [e]
        simp [subH, renL, ren1]
      · intro m hm
        simp only at hm
        rw [if_neg (by omega), if_neg (by omega), if_neg (by omega)]
  · have : k = L.length := by omega
    subst this
    simp -implicitDefEqProofs [sc_s_FreeFaces_L0]
end Go.Proofs.Ytmemomfffehnkaa
