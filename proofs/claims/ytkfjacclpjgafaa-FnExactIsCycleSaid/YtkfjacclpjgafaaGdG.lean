import Derived.Test.YtkfjacclpjgafaaGdE
import Derived.Test.YtkfjacclpjgafaaGdD
namespace Go.Proofs.Ytkfjacclpjgafaa
open Go Go.RowKit
set_option maxRecDepth 1000000
set_option linter.unusedSimpArgs false
set_option linter.unusedVariables false
set_option maxHeartbeats 1000000
def sc_s_BorderOfChain : SC := (.seq (.reg [⟨(some 4), none, (.box (.t 0))⟩, ⟨(some 8), none, (.mov (.c .nil))⟩, ⟨(some 9), none, (.mov (.c (.bool false)))⟩]) (.seq (.seq (.reg [⟨(some 10), none, (.ld (some 2) .undef (.t 4))⟩, ⟨(some 11), none, (.mov (.t 1))⟩, ⟨(some 12), none, (.mov (.t 2))⟩, ⟨(some 13), none, (.mov (.t 3))⟩, ⟨(some 14), none, (.call 18 [(.t 10), (.t 11), (.t 12), (.t 13)])⟩, ⟨(some 15), none, (.un .not (.t 14))⟩]) (.cond (.t 15) (.seq (.reg [⟨(some 16), none, (.mks 0 1 [] [])⟩, ⟨(some 8), none, (.mov (.t 16))⟩, ⟨(some 9), none, (.mov (.c (.bool false)))⟩]) .ret) .skip)) (.seq (.reg [⟨(some 17), none, (.ld (some 2) .undef (.t 4))⟩, ⟨(some 18), none, (.mov (.t 1))⟩, ⟨(some 19), none, (.call 96 [(.t 17), (.t 18)])⟩, ⟨(some 20), none, (.mov (.t 3))⟩, ⟨(some 21), none, (.mov (.t 2))⟩, ⟨(some 22), none, (.call 95 [(.t 19), (.t 20), (.t 21)])⟩, ⟨(some 8), none, (.mov (.t 22))⟩, ⟨(some 9), none, (.mov (.c (.bool true)))⟩]) .ret)))
theorem code_s_BorderOfChain : fnCode Try.prog [] 42 = some (23, sc_s_BorderOfChain, [(8, none), (9, none)]) := by kernel_rfl
open Classical in
/-- The border of a chain. -/
noncomputable def bochL (n : Int) (l : List Int) (k p : Int) (x : List Int) : List Int := if chnP n l k p x then bocL (borM n l k) x p else []
theorem bor_mat {n : Int} {l : List Int} {k p : Int} {x : List Int} (h : chnP n l k p x) : matP (borM n l k) x p ∧ (borM n l k).length ≤ 64 ∧ x.length ≤ 64 := by
  obtain ⟨_, _, _, hp, hl, hx⟩ := h
  obtain ⟨_, hRl, hCl⟩ := borM_ok (n := n) (l := l) (k := k)
  refine ⟨⟨hp, hx, fun i hi => ?_⟩, by unfold borM; rw [sgnM_len]; exact hRl, by omega⟩
  unfold borM at hi ⊢
  rw [sgnM_len] at hi
  rw [sgnM_at hi]
  refine ⟨by simp [hl], fun j hj => ?_⟩
  rw [← rowF_map, rowF_at (by omega)]
  exact sgnZ_bnd _ _
noncomputable def F_s_BorderOfChain : List V → Option V := F4 dC dI dI dL fun c k p x => some (.tup [.own 1 (ints (bochL c.1 c.2 k p x)), .bool (dec (chnP c.1 c.2 k p x))])
theorem fn_s_BorderOfChain : FnOk Try.prog 42 F_s_BorderOfChain := by
  have env := (((envNil_ok (P := Try.prog)).add fn_s_IsChain).add fn_s_l13Border).add fn_s_l16Times
  refine fn_ok code_s_BorderOfChain mixed env ?_
  intro args r h hb
  obtain ⟨_, _, _, _, ⟨n, l⟩, k, p, x, rfl, h1, h2, h3, h5, h4⟩ := F4_inv h
  cases dC_inv h1
  cases dI_inv h2
  cases dI_inv h3
  cases dL_inv h5
  cases h4
  clear h
  refine ⟨by simp, fun w0 U0 L0 N0 => ?_⟩
  clear hb
  by_cases hP : chnP n l k p x
  rotate_left
  · have e : bochL n l k p x = [] := if_neg hP
    have hd := dec_false hP
    simp only
    rw [e, hd]
    simp -implicitDefEqProofs [sc_s_BorderOfChain, F_s_IsChain, hd]
  have e : bochL n l k p x = bocL (borM n l k) x p := if_pos hP
  have hd := dec_true hP
  simp only
  rw [e, hd]
  have hF1 : F_i_BorderMatrix [.agg [.int .i64 n, .list 1 (ints l)], .int .i64 k] = some (.own 1 (rowsV (borM n l k))) := by
    simp only [F_i_BorderMatrix, F2_mk, dC_agg, dI_int, Option.bind_some]
    rw [if_pos ⟨hP.1, hP.2.1, hP.2.2.1⟩]
  have hF2 : F_s_l16Times [.list 1 (rowsL (borM n l k)), .list 1 (ints x), .int .i64 p] = some (.own 1 (ints (bocL (borM n l k) x p))) := by
    simp only [F_s_l16Times, F3_mk, dLL_list, dL_list, dI_int, Option.bind_some]
    rw [if_pos (bor_mat hP)]
  generalize bocL (borM n l k) x p = O at *
  generalize borM n l k = M at *
  simp -implicitDefEqProofs [sc_s_BorderOfChain, F_s_IsChain, hd, hF1, hF2]
end Go.Proofs.Ytkfjacclpjgafaa
