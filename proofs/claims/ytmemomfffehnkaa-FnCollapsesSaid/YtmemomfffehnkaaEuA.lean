import Derived.Test.YtmemomfffehnkaaKU
import Derived.Test.YtmemomfffehnkaaKG
namespace Go.Proofs.Ytmemomfffehnkaa
open Go Go.RowKit
set_option maxRecDepth 1000000
set_option linter.unusedSimpArgs false
set_option linter.unusedVariables false
set_option maxHeartbeats 1000000
def sc_s_EulerOf_L0 : SC := (.seq (.seq (.reg [⟨(some 8), none, (.mov (.t 5))⟩, ⟨(some 9), none, (.mov (.t 4))⟩, ⟨(some 10), none, (.len (.t 9))⟩, ⟨(some 11), none, (.bin false .lss (.t 8) (.t 10))⟩]) (.cond (.t 11) .skip (.exit 0))) (.seq (.block 1 (.reg [⟨(some 14), none, (.mov (.t 3))⟩, ⟨(some 15), none, (.mov (.t 4))⟩, ⟨(some 16), none, (.mov (.t 5))⟩, ⟨(some 17), none, (.idx 1 (.t 15) (.t 16))⟩, ⟨(some 18), none, (.ld none (.int .i64 0) (.t 17))⟩, ⟨(some 19), none, (.call 156 [(.t 18)])⟩, ⟨(some 20), none, (.bin false .rem (.t 19) (.c (.int .i64 2)))⟩, ⟨(some 21), none, (.bin false .mul (.c (.int .i64 2)) (.t 20))⟩, ⟨(some 22), none, (.bin false .add (.t 14) (.t 21))⟩, ⟨(some 23), none, (.bin false .sub (.t 22) (.c (.int .i64 1)))⟩, ⟨(some 3), none, (.mov (.t 23))⟩])) (.reg [⟨(some 12), none, (.mov (.t 5))⟩, ⟨(some 13), none, (.bin false .add (.t 12) (.c (.int .i64 1)))⟩, ⟨(some 5), none, (.mov (.t 13))⟩])))
def sc_s_EulerOf : SC := (.seq (.reg [⟨(some 1), none, (.box (.t 0))⟩, ⟨(some 2), none, (.mov (.c (.int .i64 0)))⟩]) (.seq (.reg [⟨(some 3), none, (.mov (.c (.int .i64 0)))⟩]) (.seq (.reg [⟨(some 6), none, (.ld (some 2) .undef (.t 1))⟩, ⟨(some 7), none, (.call 43 [(.t 6)])⟩, ⟨(some 4), none, (.mov (.t 7))⟩]) (.seq (.seq (.reg [⟨(some 5), none, (.mov (.c (.int .i64 0)))⟩]) (.block 0 (.loop sc_s_EulerOf_L0))) (.seq (.reg [⟨(some 24), none, (.mov (.t 3))⟩, ⟨(some 2), none, (.mov (.t 24))⟩]) .ret)))))
theorem code_s_EulerOf : fnCode Try.prog [] 78 = some (25, sc_s_EulerOf, [(2, none)]) := by kernel_rfl
noncomputable def eulZ (n : Int) (l : List Int) : Int := sumL (facesL n l) sgE
noncomputable def F_s_EulerOf : List V → Option V := F1 dC fun c => some (.int .i64 (eulZ c.1 c.2))
theorem sgE_rng (s : Int) : sgE s = 1 ∨ sgE s = -1 := by unfold sgE; omega
theorem sgE_bnd (l : List Int) : ∀ m : Nat, -(m : Int) ≤ (sumN m fun k => sgE (at0 l k)) ∧ (sumN m fun k => sgE (at0 l k)) ≤ m
  | 0 => by simp [sumN]
  | m + 1 => by
    have h1 := sgE_bnd l m
    have h2 := sgE_rng (at0 l m)
    rw [sumN]
    omega
theorem eulZ_bnd (n : Int) (l : List Int) : -64 ≤ eulZ n l ∧ eulZ n l ≤ 64 := by
  have h1 := sgE_bnd (facesL n l) (facesL n l).length
  have h2 : (facesL n l).length ≤ 64 := setsOf_len _
  unfold eulZ sumL
  omega
theorem fn_s_EulerOf : FnOk Try.prog 78 F_s_EulerOf := by
  have env := ((envNil_ok (P := Try.prog)).add fn_s_FacesOf).add fn_s_l2Size
  refine fn_ok code_s_EulerOf mixed env ?_
  intro args r h hb
  obtain ⟨_, ⟨n, l⟩, rfl, h1, h4⟩ := F1_inv h
  cases dC_inv h1
  cases h4
  clear h
  refine ⟨by simp, fun w0 U0 L0 N0 => ?_⟩
  clear hb
  have hF : F_s_FacesOf [.agg [.int .i64 n, .list 1 (ints l)]] = some (.own 1 (ints (facesL n l))) := by
    simp only [F_s_FacesOf, F1_mk, dC_agg, Option.bind_some]
  have hFl : (facesL n l).length ≤ 64 := setsOf_len _
  have hFS : allS (facesL n l) := allS_setsOf _
  have e : eulZ n l = sumN (facesL n l).length fun k => sgE (at0 (facesL n l) k) := rfl
  rw [e]
  clear e
  generalize facesL n l = L at *
  simp -implicitDefEqProofs [sc_s_EulerOf, hF]
  refine loopI env mixed (fun k : Nat => [(3, .int .i64 (sumN k fun j => sgE (at0 L j))), (4, .sl 1 1 0 L.length), (5, .int .i64 (k : Int))]) (fun _ => ([(1, ints L), (0, [.int .i64 n, .list 1 (ints l)])], 2)) (fun k => k ≤ L.length) (fun k => L.length - k) 0 (by simp) (SubI.slots rfl (by simp [sumN])) ?_
  intro k hk
  by_cases hlt : k < L.length
  · have hs1 := allS_at hFS hlt
    have h6 := sz_six hs1
    have h0 := sz_nn (at0 L k)
    have r1 : at0 L k < 9223372036854775808 := by have := hs1.2; omega
    have hb1 := sgE_bnd L k
    have hb2 := sgE_bnd L (k + 1)
    have hs : (sumN (k + 1) fun j => sgE (at0 L j)) = (sumN k fun j => sgE (at0 L j)) + sgE (at0 L k) := rfl
    have hsg : sgE (at0 L k) = 2 * (sz (at0 L k) % 2) - 1 := rfl
    have hm : (sz (at0 L k)).tmod 2 = sz (at0 L k) % 2 := Int.tmod_eq_emod_of_nonneg h0
    have w1 : IntKind.i64.wrap (2 * (sz (at0 L k) % 2)) = 2 * (sz (at0 L k) % 2) := wrapI _ (by omega) (by omega)
    have w2 : IntKind.i64.wrap ((sumN k fun j => sgE (at0 L j)) + 2 * (sz (at0 L k) % 2)) = (sumN k fun j => sgE (at0 L j)) + 2 * (sz (at0 L k) % 2) := wrapI _ (by omega) (by omega)
    have w3 : IntKind.i64.wrap ((sumN k fun j => sgE (at0 L j)) + 2 * (sz (at0 L k) % 2) - 1) = sumN (k + 1) fun j => sgE (at0 L j) := by
      rw [hs, hsg, ← Int.add_sub_assoc]
      exact wrapI _ (by omega) (by omega)
    have hz : F_s_l2Size [.int .i64 (at0 L k)] = some (.int .i64 (sz (at0 L k))) := by
      simp only [F_s_l2Size, F1_mk, dI_int, Option.bind_some]
      rw [if_pos r1]
    generalize (sumN k fun j => sgE (at0 L j)) = s1 at *
    generalize he2 : (sumN (k + 1) fun j => sgE (at0 L j)) = s2 at *
    simp -implicitDefEqProofs [sc_s_EulerOf_L0, hlt, hz, hm, w1, w2, w3]
    repeat' (first | omega | apply And.intro)
    exact Again.of (k + 1) (by omega) (by omega) (SubI.slots rfl (by simp (disch := omega) [wrapI, he2]))
  · have hka : k = L.length := by omega
    subst hka
    simp -implicitDefEqProofs [sc_s_EulerOf_L0]
end Go.Proofs.Ytmemomfffehnkaa
