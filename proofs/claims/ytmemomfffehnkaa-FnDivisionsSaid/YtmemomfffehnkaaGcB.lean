import Derived.Test.YtmemomfffehnkaaKG
namespace Go.Proofs.Ytmemomfffehnkaa
open Go Go.RowKit
set_option maxRecDepth 1000000
set_option linter.unusedSimpArgs false
set_option linter.unusedVariables false
set_option maxHeartbeats 1000000
def sc_s_FacesOfSize_L0 : SC := (.seq (.seq (.reg [⟨(some 11), none, (.mov (.t 7))⟩, ⟨(some 12), none, (.mov (.t 6))⟩, ⟨(some 13), none, (.len (.t 12))⟩, ⟨(some 14), none, (.bin false .lss (.t 11) (.t 13))⟩]) (.cond (.t 14) .skip (.exit 0))) (.seq (.block 1 (.seq (.reg [⟨(some 17), none, (.mov (.t 6))⟩, ⟨(some 18), none, (.mov (.t 7))⟩, ⟨(some 19), none, (.idx 1 (.t 17) (.t 18))⟩, ⟨(some 20), none, (.ld none (.int .i64 0) (.t 19))⟩, ⟨(some 21), none, (.call 156 [(.t 20)])⟩, ⟨(some 22), none, (.mov (.t 1))⟩, ⟨(some 23), none, (.bin false .eql (.t 21) (.t 22))⟩]) (.cond (.t 23) (.reg [⟨(some 24), none, (.mov (.t 5))⟩, ⟨(some 25), none, (.mov (.t 6))⟩, ⟨(some 26), none, (.mov (.t 7))⟩, ⟨(some 27), none, (.idx 1 (.t 25) (.t 26))⟩, ⟨(some 28), none, (.ld none (.int .i64 0) (.t 27))⟩, ⟨(some 29), none, (.mks 1 1 [(.int .i64 0)] [(0, (1, (.t 28)))])⟩, ⟨(some 30), none, (.app 1 8 (.t 24) (.t 29))⟩, ⟨(some 5), none, (.mov (.t 30))⟩]) .skip))) (.reg [⟨(some 15), none, (.mov (.t 7))⟩, ⟨(some 16), none, (.bin false .add (.t 15) (.c (.int .i64 1)))⟩, ⟨(some 7), none, (.mov (.t 16))⟩])))
def sc_s_FacesOfSize : SC := (.seq (.reg [⟨(some 2), none, (.box (.t 0))⟩, ⟨(some 4), none, (.mov (.c .nil))⟩]) (.seq (.reg [⟨(some 8), none, (.mks 0 1 [] [])⟩, ⟨(some 5), none, (.mov (.t 8))⟩]) (.seq (.reg [⟨(some 9), none, (.ld (some 2) .undef (.t 2))⟩, ⟨(some 10), none, (.call 43 [(.t 9)])⟩, ⟨(some 6), none, (.mov (.t 10))⟩]) (.seq (.seq (.reg [⟨(some 7), none, (.mov (.c (.int .i64 0)))⟩]) (.block 0 (.loop sc_s_FacesOfSize_L0))) (.seq (.reg [⟨(some 31), none, (.mov (.t 5))⟩, ⟨(some 4), none, (.mov (.t 31))⟩]) .ret)))))
theorem code_s_FacesOfSize : fnCode Try.prog [] 124 = some (32, sc_s_FacesOfSize, [(4, none)]) := by kernel_rfl
theorem cplx_len64 {n : Int} {l : List Int} (h : cplx n l) : l.length ≤ 64 := nodup_len (cplx_nodup h) (cplx_isS h)
/-- The faces of one size, in order. -/
noncomputable def fosL (n : Int) (l : List Int) (k : Int) : List Int := setsOf fun s => cplx n l ∧ faceS l s ∧ sz s = k
theorem fosL_not {n : Int} {l : List Int} {k : Int} (h : ¬ cplx n l) : fosL n l k = [] := setsOf_nil.2 fun _ _ a => h a.1
theorem fosL_of {n : Int} {l : List Int} {k : Int} (h : cplx n l) : fosL n l k = setsOf fun s => faceS l s ∧ sz s = k := setsOf_congr fun s _ => ⟨fun a => a.2, fun a => ⟨h, a⟩⟩
theorem fosL_filt (n : Int) (l : List Int) (k : Int) : fosL n l k = (facesL n l).filter fun s => dec (sz s = k) := by
  by_cases hc : cplx n l
  · rw [facesL_of hc, fosL_of hc, filt_setsOf]
  · rw [facesL_not hc, fosL_not hc]
    rfl
noncomputable def F_s_FacesOfSize : List V → Option V := F2 dC dI fun c k => some (.own 1 (ints (fosL c.1 c.2 k)))
theorem fn_s_FacesOfSize : FnOk Try.prog 124 F_s_FacesOfSize := by
  have env := ((envNil_ok (P := Try.prog)).add fn_s_l2Size).add fn_s_FacesOf
  refine fn_ok code_s_FacesOfSize mixed env ?_
  intro args r h hb
  obtain ⟨_, _, ⟨n, l⟩, z, rfl, h1, h2, h4⟩ := F2_inv h
  cases dC_inv h1
  cases dI_inv h2
  cases h4
  clear h
  refine ⟨by simp, fun w0 U0 L0 N0 => ?_⟩
  clear hb
  simp -implicitDefEqProofs [sc_s_FacesOfSize, F_s_FacesOf]
  have hL : allS (facesL n l) := allS_setsOf _
  have hLl : (facesL n l).length ≤ 64 := setsOf_len _
  rw [fosL_filt]
  generalize facesL n l = L at *
  generalize hq : (fun s => dec (sz s = z)) = q
  refine loopI env mixed (fun k : Nat => [(1, .int .i64 z), (5, .sl 1 1 0 ((L.take k).filter q).length), (6, .sl 2 1 0 L.length), (7, .int .i64 (k : Int))]) (fun k => ([(2, ints L), (1, ints ((L.take k).filter q)), (0, [.int .i64 n, .list 1 (ints l)])], 3)) (fun k => k ≤ L.length) (fun k => L.length - k) 0 (by simp) (SubI.slots (by simp) (by simp)) ?_
  intro k hk
  have gl := filt_len L k q
  by_cases hlt : k < L.length
  · have hf := allS_at hL hlt
    have r1 : at0 L k < 9223372036854775808 := by have := hf.2; omega
    by_cases h1 : sz (at0 L k) = z
    · have e := filt_pos hlt (q := q) (by rw [← hq]; exact dec_true h1)
      generalize (L.take k).filter q = g at *
      simp -implicitDefEqProofs [sc_s_FacesOfSize_L0, F_s_l2Size, hlt, r1, h1]
      repeat' (first | omega | apply And.intro)
      refine Again.of (k + 1) (by omega) (by omega) (SubI.ren (fun m => if m = 0 then some 0 else if m = 1 then some 4 else if m = 2 then some 2 else none) ?_ ?_ ?_ (by simp) (by simp))
      · simp only [e]
        simp (disch := omega) [subT, renV, ren1, wrapI]
      · simp only [e]
        simp [subH, renL, ren1]
        rw [← ints_app]
        rfl
      · intro m hm
        simp only at hm
        rw [if_neg (by omega), if_neg (by omega), if_neg (by omega)]
    · have e := filt_neg hlt (q := q) (by rw [← hq]; exact dec_false h1)
      generalize (L.take k).filter q = g at *
      simp -implicitDefEqProofs [sc_s_FacesOfSize_L0, F_s_l2Size, hlt, r1, h1]
      repeat' (first | omega | apply And.intro)
      exact Again.of (k + 1) (by omega) (by omega) (SubI.slots (by simp only [e]) (by simp only [e]; simp (disch := omega) [wrapI]))
  · have : k = L.length := by omega
    subst this
    simp -implicitDefEqProofs [sc_s_FacesOfSize_L0]
end Go.Proofs.Ytmemomfffehnkaa
