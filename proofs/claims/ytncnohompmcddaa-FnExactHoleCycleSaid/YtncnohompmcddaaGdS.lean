import Derived.Test.YtncnohompmcddaaGdR
import Derived.Test.YtncnohompmcddaaGcG
import Derived.Test.YtncnohompmcddaaGdE
namespace Go.Proofs.Ytncnohompmcddaa
open Go Go.RowKit
set_option maxRecDepth 1000000
set_option linter.unusedSimpArgs false
set_option linter.unusedVariables false
set_option maxHeartbeats 1000000
def sc_s_FillChain : SC := (.seq (.reg [⟨(some 4), none, (.box (.t 0))⟩, ⟨(some 8), none, (.mov (.c .nil))⟩, ⟨(some 9), none, (.mov (.c (.bool false)))⟩]) (.seq (.seq (.reg [⟨(some 12), none, (.ld (some 2) .undef (.t 4))⟩, ⟨(some 13), none, (.mov (.t 1))⟩, ⟨(some 14), none, (.mov (.t 2))⟩, ⟨(some 15), none, (.mov (.t 3))⟩, ⟨(some 16), none, (.call 89 [(.t 12), (.t 13), (.t 14), (.t 15)])⟩, ⟨(some 17), none, (.un .not (.t 16))⟩, ⟨(some 18), none, (.mov (.t 17))⟩, ⟨(some 19), (some (18, false)), (.mov (.t 1))⟩, ⟨(some 20), (some (18, false)), (.bin false .eql (.t 19) (.c (.int .i64 6)))⟩, ⟨(some 21), none, (.pick (.t 18) (.c (.bool true)) (.t 20))⟩]) (.cond (.t 21) (.seq (.reg [⟨(some 22), none, (.mks 0 1 [] [])⟩, ⟨(some 8), none, (.mov (.t 22))⟩, ⟨(some 9), none, (.mov (.c (.bool false)))⟩]) .ret) .skip)) (.seq (.dreg [⟨⟨(some 24), none, (.ld (some 2) .undef (.t 4))⟩, false, false⟩, ⟨⟨(some 25), none, (.mov (.t 1))⟩, false, false⟩, ⟨⟨(some 26), none, (.bin false .add (.t 25) (.c (.int .i64 1)))⟩, false, false⟩, ⟨⟨(some 27), none, (.call 53 [(.t 24), (.t 26)])⟩, false, false⟩, ⟨⟨(some 28), none, (.ld (some 2) .undef (.t 4))⟩, false, false⟩, ⟨⟨(some 29), none, (.mov (.t 1))⟩, false, false⟩, ⟨⟨(some 30), none, (.bin false .add (.t 29) (.c (.int .i64 1)))⟩, false, false⟩, ⟨⟨(some 31), none, (.call 51 [(.t 28), (.t 30)])⟩, false, false⟩, ⟨⟨(some 32), none, (.len (.t 31))⟩, false, false⟩, ⟨⟨(some 33), none, (.mov (.t 3))⟩, false, false⟩, ⟨⟨(some 34), none, (.mov (.t 2))⟩, false, false⟩, ⟨⟨(some 35), none, (.call 90 [(.t 27), (.t 32), (.t 33), (.t 34)])⟩, true, false⟩, ⟨⟨(some 23), none, (.mov (.t 35))⟩, false, false⟩, ⟨⟨(some 36), none, (.ext 0 (.t 23))⟩, false, false⟩, ⟨⟨(some 37), none, (.ext 1 (.t 23))⟩, false, false⟩, ⟨⟨(some 10), none, (.mov (.t 36))⟩, false, false⟩, ⟨⟨(some 11), none, (.mov (.t 37))⟩, false, false⟩]) (.seq (.reg [⟨(some 38), none, (.mov (.t 10))⟩, ⟨(some 39), none, (.mov (.t 11))⟩, ⟨(some 8), none, (.mov (.t 38))⟩, ⟨(some 9), none, (.mov (.t 39))⟩]) .ret))))
theorem code_s_FillChain : fnCode Try.prog [90] 56 = some (40, sc_s_FillChain, [(8, none), (9, none)]) := by kernel_rfl
def fcP (n : Int) (l : List Int) (k p : Int) (x : List Int) : Prop := chnP n l k p x ∧ k ≠ 6
noncomputable def fcW (n : Int) (l : List Int) (k : Int) : Nat := (fosL n l (k + 1)).length
noncomputable def fcR (n : Int) (l : List Int) (k p : Int) (x : List Int) : List (List Int) × List Int := flR p (borM n l (k + 1)) x (fcW n l k)
def fchP (n : Int) (l : List Int) (k p : Int) (x : List Int) : Prop := fcP n l k p x ∧ filO (fcR n l k p x).1 (fcR n l k p x).2 (fcW n l k)
open Classical in
noncomputable def fchL (n : Int) (l : List Int) (k p : Int) (x : List Int) : List Int := if fcP n l k p x then filL (fcR n l k p x).1 (fcR n l k p x).2 (fcW n l k) else []
noncomputable def F_s_FillChain : List V → Option V := F4 dC dI dI dL fun c k p x => some (.tup [.own 1 (ints (fchL c.1 c.2 k p x)), .bool (dec (fchP c.1 c.2 k p x))])
theorem fchain_ok {n : Int} {l : List Int} {k p : Int} {x : List Int} (h : fcP n l k p x) : filP (borM n l (k + 1)) (fcW n l k) x p ∧ cplx n l ∧ 1 ≤ k + 1 ∧ k + 1 ≤ 6 := by
  obtain ⟨⟨hc, hk1, hk6, hp, hl, hx⟩, hk⟩ := h
  obtain ⟨_, hRl, hCl⟩ := borM_ok (n := n) (l := l) (k := k + 1)
  rw [Int.add_sub_cancel] at hRl
  have hbl : (borM n l (k + 1)).length = (fosL n l k).length := by unfold borM; rw [sgnM_len, Int.add_sub_cancel]
  refine ⟨⟨hp, hx, by omega, by omega, by omega, by unfold fcW; omega, fun i hi => ?_⟩, hc, by omega, by omega⟩
  rw [hbl] at hi
  unfold borM fcW
  rw [Int.add_sub_cancel, sgnM_at hi]
  simp
theorem fn_s_FillChain : FnOk Try.prog 56 F_s_FillChain := by
  have env := ((((envNil_ok (P := Try.prog)).add fn_s_IsChain).add fn_s_l13Border).add fn_s_FacesOfSize).add fn_s_l16Fill
  refine fn_ok code_s_FillChain mixed env ?_
  intro args r h hb
  obtain ⟨_, _, _, _, ⟨n, l⟩, k, p, x, rfl, h1, h2, h3, h5, h4⟩ := F4_inv h
  cases dC_inv h1
  cases dI_inv h2
  cases dI_inv h3
  cases dL_inv h5
  cases h4
  clear h
  refine ⟨by simp, fun w0 U0 L0 N0 => ?_⟩
  clear hb
  simp only
  by_cases hP : chnP n l k p x
  rotate_left
  · have hf : ¬ fcP n l k p x := fun h => hP h.1
    have e : fchL n l k p x = [] := if_neg hf
    have hd : dec (fchP n l k p x) = false := dec_false fun h => hf h.1
    rw [e, hd]
    have hd2 := dec_false hP
    simp -implicitDefEqProofs [sc_s_FillChain, F_s_IsChain, hd2]
  have hd2 := dec_true hP
  by_cases hk : k = 6
  · have hf : ¬ fcP n l k p x := fun h => h.2 hk
    have e : fchL n l k p x = [] := if_neg hf
    have hd : dec (fchP n l k p x) = false := dec_false fun h => hf h.1
    rw [e, hd]
    simp -implicitDefEqProofs [sc_s_FillChain, F_s_IsChain, hd2, hk]
  have hf : fcP n l k p x := ⟨hP, hk⟩
  have e : fchL n l k p x = filL (fcR n l k p x).1 (fcR n l k p x).2 (fcW n l k) := if_pos hf
  have hd : dec (fchP n l k p x) = dec (filO (fcR n l k p x).1 (fcR n l k p x).2 (fcW n l k)) := by
    rw [Bool.eq_iff_iff, dec_iff, dec_iff]
    exact ⟨fun h => h.2, fun h => ⟨hf, h⟩⟩
  obtain ⟨hfil, hc, hk1, hk6⟩ := fchain_ok hf
  have hF1 : F_i_BorderMatrix [.agg [.int .i64 n, .list 1 (ints l)], .int .i64 (k + 1)] = some (.own 1 (rowsV (borM n l (k + 1)))) := by
    simp only [F_i_BorderMatrix, F2_mk, dC_agg, dI_int, Option.bind_some]
    rw [if_pos ⟨hc, hk1, hk6⟩]
  have hF2 : F_s_FacesOfSize [.agg [.int .i64 n, .list 1 (ints l)], .int .i64 (k + 1)] = some (.own 1 (ints (fosL n l (k + 1)))) := by simp [F_s_FacesOfSize]
  have hF3 : F_s_l16Fill [.list 1 (rowsL (borM n l (k + 1))), .int .i64 ((fosL n l (k + 1)).length : Nat), .list 1 (ints x), .int .i64 p] = some (.tup [.own 1 (ints (filL (fcR n l k p x).1 (fcR n l k p x).2 (fcW n l k))), .bool (dec (filO (fcR n l k p x).1 (fcR n l k p x).2 (fcW n l k)))]) := by
    simp only [F_s_l16Fill, F4_mk, dLL_list, dL_list, dI_int, Option.bind_some]
    have hfil2 : filP (borM n l (k + 1)) ((fosL n l (k + 1)).length : Nat) x p := hfil
    rw [if_pos hfil2, Int.toNat_natCast]
    rfl
  rw [e, hd]
  have hw : IntKind.i64.wrap (k + 1) = k + 1 := wrapI _ (by omega) (by omega)
  generalize filL (fcR n l k p x).1 (fcR n l k p x).2 (fcW n l k) = L at *
  generalize dec (filO (fcR n l k p x).1 (fcR n l k p x).2 (fcW n l k)) = b at *
  simp -implicitDefEqProofs [sc_s_FillChain, F_s_IsChain, hd2, hk, hw, hF1, hF2, hF3]
end Go.Proofs.Ytncnohompmcddaa
