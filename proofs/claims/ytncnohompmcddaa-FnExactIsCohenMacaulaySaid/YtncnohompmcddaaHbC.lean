import Derived.Test.YtncnohompmcddaaHbA
namespace Go.Proofs.Ytncnohompmcddaa
open Go Go.RowKit
set_option maxRecDepth 1000000
set_option linter.unusedSimpArgs false
set_option linter.unusedVariables false
set_option maxHeartbeats 1000000
def sc_s_DepthOf_L2 : SC := (.seq (.seq (.reg [⟨(some 31), none, (.mov (.t 9))⟩, ⟨(some 32), none, (.mov (.t 8))⟩, ⟨(some 33), none, (.len (.t 32))⟩, ⟨(some 34), none, (.bin false .lss (.t 31) (.t 33))⟩]) (.cond (.t 34) .skip (.exit 2))) (.seq (.block 3 (.seq (.reg [⟨(some 37), none, (.mov (.t 6))⟩, ⟨(some 38), none, (.mov (.t 7))⟩, ⟨(some 39), none, (.idx 1 (.t 37) (.t 38))⟩, ⟨(some 40), none, (.ld none (.int .i64 0) (.t 39))⟩, ⟨(some 41), none, (.call 36 [(.t 40)])⟩, ⟨(some 42), none, (.mov (.t 9))⟩, ⟨(some 43), none, (.bin false .add (.t 41) (.t 42))⟩, ⟨(some 10), none, (.mov (.t 43))⟩]) (.seq (.reg [⟨(some 44), none, (.mov (.t 8))⟩, ⟨(some 45), none, (.mov (.t 9))⟩, ⟨(some 46), none, (.idx 1 (.t 44) (.t 45))⟩, ⟨(some 47), none, (.ld none (.int .i64 0) (.t 46))⟩, ⟨(some 48), none, (.bin false .neq (.t 47) (.c (.int .i64 0)))⟩, ⟨(some 49), none, (.mov (.t 48))⟩, ⟨(some 50), (some (49, true)), (.mov (.t 5))⟩, ⟨(some 51), (some (49, true)), (.bin false .lss (.t 50) (.c (.int .i64 0)))⟩, ⟨(some 52), (some (49, true)), (.mov (.t 51))⟩, ⟨(some 53), (some (52, false)), (.mov (.t 10))⟩, ⟨(some 54), (some (52, false)), (.mov (.t 5))⟩, ⟨(some 55), (some (52, false)), (.bin false .lss (.t 53) (.t 54))⟩, ⟨(some 56), (some (49, true)), (.pick (.t 52) (.c (.bool true)) (.t 55))⟩, ⟨(some 57), none, (.pick (.t 49) (.t 56) (.c (.bool false)))⟩]) (.cond (.t 57) (.reg [⟨(some 58), none, (.mov (.t 10))⟩, ⟨(some 5), none, (.mov (.t 58))⟩]) .skip)))) (.reg [⟨(some 35), none, (.mov (.t 9))⟩, ⟨(some 36), none, (.bin false .add (.t 35) (.c (.int .i64 1)))⟩, ⟨(some 9), none, (.mov (.t 36))⟩])))
def sc_s_DepthOf_L0 : SC := (.seq (.seq (.reg [⟨(some 13), none, (.mov (.t 7))⟩, ⟨(some 14), none, (.mov (.t 6))⟩, ⟨(some 15), none, (.len (.t 14))⟩, ⟨(some 16), none, (.bin false .lss (.t 13) (.t 15))⟩, ⟨(some 17), none, (.mov (.t 16))⟩, ⟨(some 18), (some (17, true)), (.mov (.t 1))⟩, ⟨(some 19), (some (17, true)), (.call 33 [(.t 18)])⟩, ⟨(some 20), none, (.pick (.t 17) (.t 19) (.c (.bool false)))⟩]) (.cond (.t 20) .skip (.exit 0))) (.seq (.block 1 (.seq (.dreg [⟨⟨(some 23), none, (.ld (some 2) .undef (.t 2))⟩, false, false⟩, ⟨⟨(some 24), none, (.mov (.t 6))⟩, false, false⟩, ⟨⟨(some 25), none, (.mov (.t 7))⟩, false, false⟩, ⟨⟨(some 26), none, (.idx 1 (.t 24) (.t 25))⟩, false, false⟩, ⟨⟨(some 27), none, (.ld none (.int .i64 0) (.t 26))⟩, false, false⟩, ⟨⟨(some 28), none, (.call 35 [(.t 23), (.t 27)])⟩, false, false⟩, ⟨⟨(some 29), none, (.mov (.t 1))⟩, false, false⟩, ⟨⟨(some 30), none, (.call 34 [(.t 28), (.t 29)])⟩, false, false⟩, ⟨⟨(some 8), none, (.mov (.t 30))⟩, false, false⟩]) (.seq (.reg [⟨(some 9), none, (.mov (.c (.int .i64 0)))⟩]) (.block 2 (.loop sc_s_DepthOf_L2))))) (.reg [⟨(some 21), none, (.mov (.t 7))⟩, ⟨(some 22), none, (.bin false .add (.t 21) (.c (.int .i64 1)))⟩, ⟨(some 7), none, (.mov (.t 22))⟩])))
def sc_s_DepthOf : SC := (.seq (.reg [⟨(some 2), none, (.box (.t 0))⟩, ⟨(some 4), none, (.mov (.c (.int .i64 0)))⟩]) (.seq (.reg [⟨(some 5), none, (.mov (.c (.int .i64 (-1))))⟩]) (.seq (.reg [⟨(some 11), none, (.ld (some 2) .undef (.t 2))⟩, ⟨(some 12), none, (.call 32 [(.t 11)])⟩, ⟨(some 6), none, (.mov (.t 12))⟩]) (.seq (.seq (.reg [⟨(some 7), none, (.mov (.c (.int .i64 0)))⟩]) (.block 0 (.loop sc_s_DepthOf_L0))) (.seq (.reg [⟨(some 59), none, (.mov (.t 5))⟩, ⟨(some 4), none, (.mov (.t 59))⟩]) .ret)))))
theorem code_s_DepthOf : fnCode Try.prog [] 11 = some (60, sc_s_DepthOf, [(4, none)]) := by kernel_rfl
open Classical in
noncomputable def dpF (n : Int) (l : List Int) (p : Int) : Int := if cplx n l ∧ fpP p then dpZ p (faceS l) else -1
noncomputable def F_s_DepthOf : List V → Option V := F2 dC dI fun c p => some (.int .i64 (dpF c.1 c.2 p))
theorem fn_s_DepthOf : FnOk Try.prog 11 F_s_DepthOf := by
  have env := (((((envNil_ok (P := Try.prog)).add fn_s_FacesOf).add fn_s_IsFieldPrime).add fn_s_l5Link).add fn_s_HolesMod).add fn_s_l2Size
  refine fn_ok code_s_DepthOf mixed env ?_
  intro args r h hb
  obtain ⟨_, _, ⟨n, l⟩, p, rfl, h1, h2, h4⟩ := F2_inv h
  cases dC_inv h1
  cases dI_inv h2
  cases h4
  clear h
  refine ⟨by simp, fun w0 U0 L0 N0 => ?_⟩
  clear hb
  simp only
  have hFF : F_s_FacesOf [.agg [.int .i64 n, .list 1 (ints l)]] = some (.own 1 (ints (facesL n l))) := by simp [F_s_FacesOf]
  by_cases hcp : cplx n l ∧ fpP p
  rotate_left
  · have e : dpF n l p = -1 := if_neg hcp
    rw [e]
    have hLp : facesL n l = [] ∨ ¬ fpP p := by
      by_cases hc : cplx n l
      · exact .inr fun hp => hcp ⟨hc, hp⟩
      · exact .inl (facesL_not hc)
    generalize facesL n l = L at *
    simp -implicitDefEqProofs [sc_s_DepthOf, hFF]
    refine loopI env mixed (fun _ : Unit => [(1, .int .i64 p), (5, .int .i64 (-1)), (6, .sl 1 1 0 L.length), (7, .int .i64 0)]) (fun _ => ([(1, ints L), (0, [.int .i64 n, .list 1 (ints l)])], 2)) (fun _ => True) (fun _ => 0) () trivial (SubI.slots (by simp) (by simp)) ?_
    intro _ _
    rcases hLp with e0 | hp
    · subst e0
      simp -implicitDefEqProofs [sc_s_DepthOf_L0]
    · have hd := dec_false hp
      by_cases h0 : 0 < L.length
      · have h0' : (0 : Int) < L.length := by omega
        simp -implicitDefEqProofs [sc_s_DepthOf_L0, F_s_IsFieldPrime, hd, h0, h0']
      · have h0' : ¬ ((0 : Int) < L.length) := by omega
        simp -implicitDefEqProofs [sc_s_DepthOf_L0, h0, h0']
  obtain ⟨hc, hp⟩ := hcp
  have hd := dec_true hp
  have hS := cplx_isS hc
  have hl64 := cplx_len64 hc
  have hL : allS (facesL n l) := allS_setsOf _
  have hLl : (facesL n l).length ≤ 64 := setsOf_len _
  have hX : ∀ d, lsR (dpI p (faceS l) (facesL n l) (facesL n l).length 0) d → d = dpF n l p := fun d h => by
    rw [show dpF n l p = dpZ p (faceS l) from if_pos ⟨hc, hp⟩]
    rw [facesL_of hc] at h
    exact ls_dp h dpI_full
  generalize dpF n l p = X at *
  have h00 : lsR (dpI p (faceS l) (facesL n l) 0 0) (-1) := .inl ⟨rfl, fun u hu => dpI_zero u hu⟩
  generalize facesL n l = L at *
  simp -implicitDefEqProofs [sc_s_DepthOf, hFF]
  refine loopI env mixed (fun x : Nat × Int => [(1, .int .i64 p), (2, .pt 0 0), (5, .int .i64 x.2), (6, .sl 1 1 0 L.length), (7, .int .i64 (x.1 : Int))]) (fun _ => ([(1, ints L), (0, [.int .i64 n, .list 1 (ints l)])], 2)) (fun x => x.1 ≤ L.length ∧ lsR (dpI p (faceS l) L x.1 0) x.2) (fun x => L.length - x.1) (0, -1) ⟨by simp, h00⟩ (SubI.slots (by simp) (by simp)) ?_
  rintro ⟨i, d⟩ ⟨hi, hI⟩
  simp only at hi hI ⊢
  by_cases hlt : i < L.length
  rotate_left
  · have : i = L.length := by omega
    subst this
    have e := hX d hI
    subst e
    simp -implicitDefEqProofs [sc_s_DepthOf_L0]
  have hs := allS_at hL hlt
  have h6 := sz_six hs
  have h0 := sz_nn (at0 L i)
  have hFK : F_s_l5Link [.agg [.int .i64 n, .list 1 (ints l)], .int .i64 (at0 L i)] = some (.agg [.int .i64 n, .own 1 (ints (lkS l (at0 L i)))]) := by
    simp only [F_s_l5Link, F2_mk, dC_agg, dI_int, Option.bind_some]
    rw [if_pos ⟨hS, hl64, hs⟩]
    rfl
  have hFH : F_s_HolesMod [.agg [.int .i64 n, .list 1 (ints (lkS l (at0 L i)))], .int .i64 p] = some (.own 1 (ints (holL p (lnkP (faceS l) (at0 L i))))) := by
    rw [← hm_link hc hs hp]
    simp [F_s_HolesMod]
  have hF2 : F_s_l2Size [.int .i64 (at0 L i)] = some (.int .i64 (sz (at0 L i))) := by
    simp only [F_s_l2Size, F1_mk, dI_int, Option.bind_some]
    rw [if_pos (by have := hs.2; omega)]
  have hHl := (holL_len p (lnkP (faceS l) (at0 L i))).2
  have hA := fun k h u => dpI_skip (p := p) (q := faceS l) (L := L) (i := i) (k := k) h u
  have hB := fun k h1 h2 u => dpI_new (p := p) (q := faceS l) (k := k) hlt h1 h2 u
  have hC := fun n h u => dpI_end (p := p) (q := faceS l) (L := L) (i := i) (n := n) h u
  generalize holL p (lnkP (faceS l) (at0 L i)) = H at *
  generalize lkS l (at0 L i) = R at *
  simp -implicitDefEqProofs [sc_s_DepthOf_L0, F_s_IsFieldPrime, hlt, hd, hFK, hFH]
  repeat' (first | omega | apply And.intro)
  refine loopI env mixed (fun x : Nat × Int => [(1, .int .i64 p), (2, .pt 0 0), (5, .int .i64 x.2), (6, .sl 1 1 0 L.length), (7, .int .i64 (i : Int)), (8, .list 1 (ints H)), (9, .int .i64 (x.1 : Int))]) (fun _ => ([(1, ints L), (0, [.int .i64 n, .list 1 (ints l)])], 2)) (fun x => x.1 ≤ H.length ∧ lsR (dpI p (faceS l) L i x.1) x.2) (fun x => H.length - x.1) (0, d) ⟨by simp, hI⟩ (SubI.slots (by simp) (by simp)) ?_
  rintro ⟨k, d2⟩ ⟨hk, hI2⟩
  simp only at hk hI2 ⊢
  by_cases hkl : k < H.length
  rotate_left
  · have hn := ls_congr hI2 (hC k (by omega))
    simp -implicitDefEqProofs [sc_s_DepthOf_L2, hkl]
    repeat' (first | omega | apply And.intro)
    exact Again.of (i + 1, d2) ⟨by simp only; omega, hn⟩ (by simp only; omega) (SubI.slots (by simp) (by simp (disch := omega) [wrapI]))
  have hw : IntKind.i64.wrap (sz (at0 L i) + (k : Int)) = sz (at0 L i) + (k : Int) := wrapI _ (by omega) (by omega)
  by_cases hk0 : at0 H k = 0
  · simp -implicitDefEqProofs [sc_s_DepthOf_L2, hkl, hlt, hF2, hw, hk0]
    repeat' (first | omega | apply And.intro)
    exact Again.of (k + 1, d2) ⟨by simp only; omega, ls_congr hI2 (hA k hk0)⟩ (by simp only; omega) (SubI.slots (by simp) (by simp (disch := omega) [wrapI]))
  by_cases hdn : d2 < 0
  · simp -implicitDefEqProofs [sc_s_DepthOf_L2, hkl, hlt, hF2, hw, hk0, hdn]
    repeat' (first | omega | apply And.intro)
    exact Again.of (k + 1, sz (at0 L i) + (k : Int)) ⟨by simp only; omega, ls_new hI2 (fun u hu => dpI_nn hu) (hB k hkl hk0) (.inl hdn)⟩ (by simp only; omega) (SubI.slots (by simp) (by simp (disch := omega) [wrapI]))
  by_cases hdl : sz (at0 L i) + (k : Int) < d2
  · simp -implicitDefEqProofs [sc_s_DepthOf_L2, hkl, hlt, hF2, hw, hk0, hdn, hdl]
    repeat' (first | omega | apply And.intro)
    exact Again.of (k + 1, sz (at0 L i) + (k : Int)) ⟨by simp only; omega, ls_new hI2 (fun u hu => dpI_nn hu) (hB k hkl hk0) (.inr hdl)⟩ (by simp only; omega) (SubI.slots (by simp) (by simp (disch := omega) [wrapI]))
  · simp -implicitDefEqProofs [sc_s_DepthOf_L2, hkl, hlt, hF2, hw, hk0, hdn, hdl]
    repeat' (first | omega | apply And.intro)
    exact Again.of (k + 1, d2) ⟨by simp only; omega, ls_old hI2 (hB k hkl hk0) (by omega)⟩ (by simp only; omega) (SubI.slots (by simp) (by simp (disch := omega) [wrapI]))
end Go.Proofs.Ytncnohompmcddaa
