import Derived.Test.YtmemomfffehnkaaKT
import Derived.Test.YtmemomfffehnkaaEuA
import Derived.Test.YtmemomfffehnkaaLnG
import Derived.Test.YtmemomfffehnkaaJbA
namespace Go.Proofs.Ytmemomfffehnkaa
open Go Go.RowKit
set_option maxRecDepth 1000000
set_option linter.unusedSimpArgs false
set_option linter.unusedVariables false
set_option maxHeartbeats 1000000
def sc_s_CountHoles_L0 : SC := (.seq (.seq (.reg [⟨(some 11), none, (.mov (.t 7))⟩, ⟨(some 12), none, (.mov (.t 6))⟩, ⟨(some 13), none, (.len (.t 12))⟩, ⟨(some 14), none, (.bin false .lss (.t 11) (.t 13))⟩]) (.cond (.t 14) .skip (.exit 0))) (.seq (.block 1 (.reg [⟨(some 17), none, (.mov (.t 5))⟩, ⟨(some 18), none, (.mov (.t 6))⟩, ⟨(some 19), none, (.mov (.t 7))⟩, ⟨(some 20), none, (.idx 1 (.t 18) (.t 19))⟩, ⟨(some 21), none, (.ld none (.int .i64 0) (.t 20))⟩, ⟨(some 22), none, (.bin false .add (.t 17) (.t 21))⟩, ⟨(some 5), none, (.mov (.t 22))⟩])) (.reg [⟨(some 15), none, (.mov (.t 7))⟩, ⟨(some 16), none, (.bin false .add (.t 15) (.c (.int .i64 1)))⟩, ⟨(some 7), none, (.mov (.t 16))⟩])))
def sc_s_CountHoles : SC := (.seq (.reg [⟨(some 2), none, (.box (.t 0))⟩, ⟨(some 4), none, (.mov (.c (.int .i64 0)))⟩]) (.seq (.reg [⟨(some 5), none, (.mov (.c (.int .i64 0)))⟩]) (.seq (.reg [⟨(some 8), none, (.ld (some 2) .undef (.t 2))⟩, ⟨(some 9), none, (.mov (.t 1))⟩, ⟨(some 10), none, (.call 27 [(.t 8), (.t 9)])⟩, ⟨(some 6), none, (.mov (.t 10))⟩]) (.seq (.seq (.reg [⟨(some 7), none, (.mov (.c (.int .i64 0)))⟩]) (.block 0 (.loop sc_s_CountHoles_L0))) (.seq (.reg [⟨(some 23), none, (.mov (.t 5))⟩, ⟨(some 4), none, (.mov (.t 23))⟩]) .ret)))))
theorem code_s_CountHoles : fnCode Try.prog [] 79 = some (24, sc_s_CountHoles, [(4, none)]) := by kernel_rfl
noncomputable def F_s_CountHoles : List V → Option V := F2 dC dI fun c p => some (.int .i64 (choZ c.1 c.2 p))
theorem hmL_rng {n : Int} {l : List Int} {p : Int} : (hmL n l p).length ≤ 7 ∧ ∀ x ∈ hmL n l p, -128 ≤ x ∧ x ≤ 64 := by
  unfold hmL
  split
  · rename_i h
    refine ⟨(holL_len p (faceS l)).2, fun x hx => ?_⟩
    obtain ⟨k, hk, rfl⟩ := getD_mem_iff.1 hx
    unfold holL
    unfold holL at hk
    rw [rowF_len] at hk
    rw [rowF_at hk]
    exact holV_bnd h.2 _ _
  · exact ⟨by simp, by simp⟩
theorem sum_bnd2 {l : List Int} (h : ∀ x ∈ l, -128 ≤ x ∧ x ≤ 64) : -(128 * (l.length : Int)) ≤ l.sum ∧ l.sum ≤ 64 * l.length := by
  induction l with
  | nil => simp
  | cons x l ih =>
    have h1 := h x (by simp)
    have h2 := ih fun y hy => h y (by simp [hy])
    simp only [List.sum_cons, List.length_cons]
    omega
theorem fn_s_CountHoles : FnOk Try.prog 79 F_s_CountHoles := by
  have env := (envNil_ok (P := Try.prog)).add fn_s_HolesMod
  refine fn_ok code_s_CountHoles mixed env ?_
  intro args r h hb
  obtain ⟨_, _, ⟨n, l⟩, p, rfl, h1, h2, h4⟩ := F2_inv h
  cases dC_inv h1
  cases dI_inv h2
  cases h4
  clear h
  refine ⟨by simp, fun w0 U0 L0 N0 => ?_⟩
  clear hb
  have hF : F_s_HolesMod [.agg [.int .i64 n, .list 1 (ints l)], .int .i64 p] = some (.own 1 (ints (hmL n l p))) := by
    simp only [F_s_HolesMod, F2_mk, dC_agg, dI_int, Option.bind_some]
  obtain ⟨hl, hx⟩ := hmL_rng (n := n) (l := l) (p := p)
  have e : choZ n l p = (hmL n l p).sum := rfl
  simp only
  rw [e]
  clear e
  generalize hmL n l p = H at *
  simp -implicitDefEqProofs [sc_s_CountHoles, hF]
  refine loopI env mixed (fun k : Nat => [(5, .int .i64 (H.take k).sum), (6, .sl 1 1 0 H.length), (7, .int .i64 (k : Int))]) (fun _ => ([(1, ints H), (0, [.int .i64 n, .list 1 (ints l)])], 2)) (fun k => k ≤ H.length) (fun k => H.length - k) 0 (by simp) (SubI.slots rfl (by simp)) ?_
  intro k hk
  by_cases hlt : k < H.length
  · have hs := sum_take hlt
    have hb1 := sum_bnd2 (l := H.take (k + 1)) fun x h => hx x (List.mem_of_mem_take h)
    have hb2 : (H.take (k + 1)).length ≤ 7 := by rw [List.length_take]; omega
    have hw : IntKind.i64.wrap ((H.take k).sum + at0 H k) = (H.take (k + 1)).sum := by rw [← hs]; exact wrapI _ (by omega) (by omega)
    generalize he2 : (H.take (k + 1)).sum = s2 at *
    generalize (H.take k).sum = s1 at *
    simp -implicitDefEqProofs [sc_s_CountHoles_L0, hlt, hw]
    repeat' (first | omega | apply And.intro)
    exact Again.of (k + 1) (by omega) (by omega) (SubI.slots rfl (by simp (disch := omega) [wrapI, he2]))
  · have hka : k = H.length := by omega
    subst hka
    rw [List.take_length]
    simp -implicitDefEqProofs [sc_s_CountHoles_L0]
end Go.Proofs.Ytmemomfffehnkaa
