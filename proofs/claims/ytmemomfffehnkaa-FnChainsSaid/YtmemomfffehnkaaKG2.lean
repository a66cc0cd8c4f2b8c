import Derived.Test.YtmemomfffehnkaaKR
import Derived.Test.YtmemomfffehnkaaKQ
import Derived.Test.YtmemomfffehnkaaKS2
namespace Go.Proofs.Ytmemomfffehnkaa
open Go Go.RowKit
set_option maxRecDepth 1000000
set_option linter.unusedSimpArgs false
set_option linter.unusedVariables false
set_option maxHeartbeats 1000000
def sc_i_IsChain : SC := (.seq (.reg [⟨(some 4), none, (.box (.t 0))⟩, ⟨(some 8), none, (.mov (.c (.bool false)))⟩]) (.seq (.seq (.reg [⟨(some 9), none, (.ld (some 2) .undef (.t 4))⟩, ⟨(some 10), none, (.call 130 [(.t 9)])⟩, ⟨(some 11), none, (.un .not (.t 10))⟩, ⟨(some 12), none, (.mov (.t 11))⟩, ⟨(some 13), (some (12, false)), (.mov (.t 1))⟩, ⟨(some 14), (some (12, false)), (.bin false .lss (.t 13) (.c (.int .i64 1)))⟩, ⟨(some 15), none, (.pick (.t 12) (.c (.bool true)) (.t 14))⟩, ⟨(some 16), none, (.mov (.t 15))⟩, ⟨(some 17), (some (16, false)), (.mov (.t 1))⟩, ⟨(some 18), (some (16, false)), (.bin false .gtr (.t 17) (.c (.int .i64 6)))⟩, ⟨(some 19), none, (.pick (.t 16) (.c (.bool true)) (.t 18))⟩, ⟨(some 20), none, (.mov (.t 19))⟩, ⟨(some 21), (some (20, false)), (.mov (.t 2))⟩, ⟨(some 22), (some (20, false)), (.call 131 [(.t 21)])⟩, ⟨(some 23), (some (20, false)), (.un .not (.t 22))⟩, ⟨(some 24), none, (.pick (.t 20) (.c (.bool true)) (.t 23))⟩]) (.cond (.t 24) (.seq (.reg [⟨(some 8), none, (.mov (.c (.bool false)))⟩]) .ret) .skip)) (.seq (.reg [⟨(some 25), none, (.ld (some 2) .undef (.t 4))⟩, ⟨(some 26), none, (.mov (.t 1))⟩, ⟨(some 27), none, (.call 118 [(.t 25), (.t 26)])⟩, ⟨(some 28), none, (.len (.t 27))⟩, ⟨(some 29), none, (.mov (.t 2))⟩, ⟨(some 30), none, (.mov (.t 3))⟩, ⟨(some 31), none, (.call 136 [(.t 28), (.t 29), (.t 30)])⟩, ⟨(some 8), none, (.mov (.t 31))⟩]) .ret)))
theorem code_i_IsChain : fnCode Try.prog [] 20 = some (32, sc_i_IsChain, [(8, none)]) := by kernel_rfl
theorem fn_i_IsChain : FnOk Try.prog 20 F_s_IsChain := by
  have env := ((((envNil_ok (P := Try.prog)).add fn_i_IsComplex).add fn_i_IsFieldPrime).add fn_i_FacesOfSize).add fn_i_isChainOf
  refine fn_ok code_i_IsChain mixed env ?_
  intro args r h hb
  obtain ⟨_, _, _, _, ⟨n, l⟩, k, p, x, rfl, h1, h2, h3, h5, h4⟩ := F4_inv h
  cases dC_inv h1
  cases dI_inv h2
  cases dI_inv h3
  cases dL_inv h5
  cases h4
  clear h
  refine ⟨by simp, fun w0 U0 L0 N0 => ?_⟩
  clear hb
  generalize hv : dec (chnP n l k p x) = v
  have hfl : (fosL n l k).length ≤ 64 := setsOf_len _
  unfold chnP at hv
  cases e0 : cplxB n l with
  | false =>
    have hv1 : v = false := hv ▸ dec_false fun h => by simp [cplxB_iff.2 h.1] at e0
    simp -implicitDefEqProofs [sc_i_IsChain, F_s_IsComplex, e0, hv1]
  | true =>
  by_cases g1 : k < 1
  · have hv1 : v = false := hv ▸ dec_false fun h => by have := h.2.1; omega
    simp -implicitDefEqProofs [sc_i_IsChain, F_s_IsComplex, e0, g1, hv1]
  by_cases g2 : 6 < k
  · have hv1 : v = false := hv ▸ dec_false fun h => by have := h.2.2.1; omega
    simp -implicitDefEqProofs [sc_i_IsChain, F_s_IsComplex, e0, g1, g2, hv1]
  by_cases g3 : fpP p
  rotate_left
  · have hv1 : v = false := hv ▸ dec_false fun h => g3 h.2.2.2.1
    have g4 := dec_false g3
    simp -implicitDefEqProofs [sc_i_IsChain, F_s_IsComplex, F_s_IsFieldPrime, e0, g1, g2, g4, hv1]
  have g4 := dec_true g3
  have hv1 : dec ((x.length : Int) = ((fosL n l k).length : Nat) ∧ inP p x) = v := by
    rw [← hv, Bool.eq_iff_iff, dec_iff, dec_iff]
    exact ⟨fun h => ⟨cplxB_iff.1 e0, by omega, by omega, g3, by have := h.1; omega, h.2⟩, fun h => ⟨by have := h.2.2.2.2.1; omega, h.2.2.2.2.2⟩⟩
  simp -implicitDefEqProofs [sc_i_IsChain, F_s_IsComplex, F_s_IsFieldPrime, F_s_FacesOfSize, F_i_isChainOf, e0, g1, g2, g4, hv1]
end Go.Proofs.Ytmemomfffehnkaa
namespace Go.Proofs.Ytmemomfffehnkaa
open Go Go.RowKit
set_option maxRecDepth 1000000
set_option linter.unusedSimpArgs false
set_option linter.unusedVariables false
set_option maxHeartbeats 1000000
def sc_s_BorderOfChain : SC := (.seq (.reg [⟨(some 4), none, (.box (.t 0))⟩, ⟨(some 8), none, (.mov (.c .nil))⟩, ⟨(some 9), none, (.mov (.c (.bool false)))⟩]) (.seq (.seq (.reg [⟨(some 10), none, (.ld (some 2) .undef (.t 4))⟩, ⟨(some 11), none, (.mov (.t 1))⟩, ⟨(some 12), none, (.mov (.t 2))⟩, ⟨(some 13), none, (.mov (.t 3))⟩, ⟨(some 14), none, (.call 21 [(.t 10), (.t 11), (.t 12), (.t 13)])⟩, ⟨(some 15), none, (.un .not (.t 14))⟩]) (.cond (.t 15) (.seq (.reg [⟨(some 16), none, (.mks 0 1 [] [])⟩, ⟨(some 8), none, (.mov (.t 16))⟩, ⟨(some 9), none, (.mov (.c (.bool false)))⟩]) .ret) .skip)) (.seq (.reg [⟨(some 17), none, (.ld (some 2) .undef (.t 4))⟩, ⟨(some 18), none, (.mov (.t 1))⟩, ⟨(some 19), none, (.call 123 [(.t 17), (.t 18)])⟩, ⟨(some 20), none, (.mov (.t 3))⟩, ⟨(some 21), none, (.mov (.t 2))⟩, ⟨(some 22), none, (.call 126 [(.t 19), (.t 20), (.t 21)])⟩, ⟨(some 8), none, (.mov (.t 22))⟩, ⟨(some 9), none, (.mov (.c (.bool true)))⟩]) .ret)))
theorem code_s_BorderOfChain : fnCode Try.prog [] 15 = some (23, sc_s_BorderOfChain, [(8, none), (9, none)]) := by kernel_rfl
open Classical in
/-- The border of a chain. -/
noncomputable def bochL (n : Int) (l : List Int) (k p : Int) (x : List Int) : List Int := if chnP n l k p x then bocL (borM n l k) x p else []
theorem bor_mat {n : Int} {l : List Int} {k p : Int} {x : List Int} (h : chnP n l k p x) : matP (borM n l k) x p ∧ (borM n l k).length ≤ 64 ∧ x.length ≤ 64 := by
  obtain ⟨_, _, _, hp, hl, hx⟩ := h
  obtain ⟨_, hRl, hCl⟩ := borM_ok (n := n) (l := l) (k := k)
  refine ⟨⟨hp, hx, fun i hi => ?_⟩, by unfold borM; rw [sgnM_len]; exact hRl, by omega⟩
  unfold borM at hi ⊢
  rw [sgnM_len] at hi
  rw [sgnM_at hi]
  refine ⟨by simp [hl], fun j hj => ?_⟩
  rw [← rowF_map, rowF_at (by omega)]
  exact sgnZ_bnd _ _
noncomputable def F_s_BorderOfChain : List V → Option V := F4 dC dI dI dL fun c k p x => some (.tup [.own 1 (ints (bochL c.1 c.2 k p x)), .bool (dec (chnP c.1 c.2 k p x))])
theorem fn_s_BorderOfChain : FnOk Try.prog 15 F_s_BorderOfChain := by
  have env := (((envNil_ok (P := Try.prog)).add fn_s_IsChain).add fn_s_l13Border).add fn_s_l16Times
  refine fn_ok code_s_BorderOfChain mixed env ?_
  intro args r h hb
  obtain ⟨_, _, _, _, ⟨n, l⟩, k, p, x, rfl, h1, h2, h3, h5, h4⟩ := F4_inv h
  cases dC_inv h1
  cases dI_inv h2
  cases dI_inv h3
  cases dL_inv h5
  cases h4
  clear h
  refine ⟨by simp, fun w0 U0 L0 N0 => ?_⟩
  clear hb
  by_cases hP : chnP n l k p x
  rotate_left
  · have e : bochL n l k p x = [] := if_neg hP
    have hd := dec_false hP
    simp only
    rw [e, hd]
    simp -implicitDefEqProofs [sc_s_BorderOfChain, F_s_IsChain, hd]
  have e : bochL n l k p x = bocL (borM n l k) x p := if_pos hP
  have hd := dec_true hP
  simp only
  rw [e, hd]
  have hF1 : F_i_BorderMatrix [.agg [.int .i64 n, .list 1 (ints l)], .int .i64 k] = some (.own 1 (rowsV (borM n l k))) := by
    simp only [F_i_BorderMatrix, F2_mk, dC_agg, dI_int, Option.bind_some]
    rw [if_pos ⟨hP.1, hP.2.1, hP.2.2.1⟩]
  have hF2 : F_s_l16Times [.list 1 (rowsL (borM n l k)), .list 1 (ints x), .int .i64 p] = some (.own 1 (ints (bocL (borM n l k) x p))) := by
    simp only [F_s_l16Times, F3_mk, dLL_list, dL_list, dI_int, Option.bind_some]
    rw [if_pos (bor_mat hP)]
  generalize bocL (borM n l k) x p = O at *
  generalize borM n l k = M at *
  simp -implicitDefEqProofs [sc_s_BorderOfChain, F_s_IsChain, hd, hF1, hF2]
end Go.Proofs.Ytmemomfffehnkaa
namespace Go.Proofs.Ytmemomfffehnkaa
open Go Go.RowKit
set_option maxRecDepth 1000000
set_option linter.unusedSimpArgs false
set_option linter.unusedVariables false
set_option maxHeartbeats 1000000
def sc_i_BorderOfChain_L2 : SC := (.seq (.reg [⟨(some 33), none, (.bin false .lss (.t 32) (.t 31))⟩]) (.seq (.cond (.t 33) .skip (.exit 2)) (.seq (.block 3 (.seq (.reg [⟨(some 34), none, (.mov (.t 32))⟩, ⟨(some 35), none, (.idx 1 (.t 30) (.t 32))⟩, ⟨(some 36), none, (.ld none (.int .i64 0) (.t 35))⟩, ⟨(some 14), none, (.mov (.t 34))⟩, ⟨(some 15), none, (.mov (.t 36))⟩]) (.reg [⟨(some 37), none, (.mov (.t 13))⟩, ⟨(some 38), none, (.mov (.t 12))⟩, ⟨(some 39), none, (.mov (.t 14))⟩, ⟨(some 40), none, (.idx 1 (.t 38) (.t 39))⟩, ⟨(some 41), none, (.ld none (.int .i64 0) (.t 40))⟩, ⟨(some 42), none, (.mov (.t 15))⟩, ⟨(some 43), none, (.bin false .mul (.t 41) (.t 42))⟩, ⟨(some 44), none, (.bin false .add (.t 37) (.t 43))⟩, ⟨(some 13), none, (.mov (.t 44))⟩]))) (.reg [⟨(some 45), none, (.bin false .add (.t 32) (.c (.int .i64 1)))⟩, ⟨(some 32), none, (.mov (.t 45))⟩]))))
def sc_i_BorderOfChain_L0 : SC := (.seq (.reg [⟨(some 27), none, (.bin false .lss (.t 26) (.t 25))⟩]) (.seq (.cond (.t 27) .skip (.exit 0)) (.seq (.block 1 (.seq (.reg [⟨(some 28), none, (.idx 1 (.t 24) (.t 26))⟩, ⟨(some 29), none, (.ld none .nil (.t 28))⟩, ⟨(some 12), none, (.mov (.t 29))⟩]) (.seq (.reg [⟨(some 13), none, (.mov (.c (.int .i64 0)))⟩]) (.seq (.seq (.reg [⟨(some 30), none, (.mov (.t 3))⟩, ⟨(some 31), none, (.len (.t 30))⟩, ⟨(some 32), none, (.mov (.c (.int .i64 0)))⟩]) (.block 2 (.loop sc_i_BorderOfChain_L2))) (.reg [⟨(some 46), none, (.mov (.t 10))⟩, ⟨(some 47), none, (.mov (.t 13))⟩, ⟨(some 48), none, (.mov (.t 2))⟩, ⟨(some 49), none, (.call 125 [(.t 47), (.t 48)])⟩, ⟨(some 50), none, (.mks 1 1 [(.int .i64 0)] [(0, (1, (.t 49)))])⟩, ⟨(some 51), none, (.app 1 8 (.t 46) (.t 50))⟩, ⟨(some 10), none, (.mov (.t 51))⟩]))))) (.reg [⟨(some 52), none, (.bin false .add (.t 26) (.c (.int .i64 1)))⟩, ⟨(some 26), none, (.mov (.t 52))⟩]))))
def sc_i_BorderOfChain : SC := (.seq (.reg [⟨(some 4), none, (.box (.t 0))⟩, ⟨(some 8), none, (.mov (.c .nil))⟩, ⟨(some 9), none, (.mov (.c (.bool false)))⟩]) (.seq (.seq (.reg [⟨(some 16), none, (.ld (some 2) .undef (.t 4))⟩, ⟨(some 17), none, (.mov (.t 1))⟩, ⟨(some 18), none, (.mov (.t 2))⟩, ⟨(some 19), none, (.mov (.t 3))⟩, ⟨(some 20), none, (.call 20 [(.t 16), (.t 17), (.t 18), (.t 19)])⟩, ⟨(some 21), none, (.un .not (.t 20))⟩]) (.cond (.t 21) (.seq (.reg [⟨(some 8), none, (.mov (.c .nil))⟩, ⟨(some 9), none, (.mov (.c (.bool false)))⟩]) .ret) .skip)) (.seq (.reg [⟨(some 10), none, (.mov (.c .nil))⟩]) (.seq (.seq (.reg [⟨(some 22), none, (.ld (some 2) .undef (.t 4))⟩, ⟨(some 23), none, (.mov (.t 1))⟩, ⟨(some 24), none, (.call 120 [(.t 22), (.t 23)])⟩, ⟨(some 25), none, (.len (.t 24))⟩, ⟨(some 26), none, (.mov (.c (.int .i64 0)))⟩]) (.block 0 (.loop sc_i_BorderOfChain_L0))) (.seq (.reg [⟨(some 53), none, (.mov (.t 10))⟩, ⟨(some 8), none, (.mov (.t 53))⟩, ⟨(some 9), none, (.mov (.c (.bool true)))⟩]) .ret)))))
theorem code_i_BorderOfChain : fnCode Try.prog [] 14 = some (54, sc_i_BorderOfChain, [(8, none), (9, none)]) := by kernel_rfl
theorem fn_i_BorderOfChain : FnOk Try.prog 14 F_s_BorderOfChain := by
  have env := (((envNil_ok (P := Try.prog)).add fn_i_IsChain).add fn_i_BorderMatrix).add fn_i_restMod
  refine fn_ok code_i_BorderOfChain mixed env ?_
  intro args r h hb
  obtain ⟨_, _, _, _, ⟨n, l⟩, k, p, x, rfl, h1, h2, h3, h5, h4⟩ := F4_inv h
  cases dC_inv h1
  cases dI_inv h2
  cases dI_inv h3
  cases dL_inv h5
  cases h4
  clear h
  refine ⟨by simp, fun w0 U0 L0 N0 => ?_⟩
  clear hb
  by_cases hP : chnP n l k p x
  rotate_left
  · have e : bochL n l k p x = [] := if_neg hP
    have hd := dec_false hP
    simp only
    rw [e, hd]
    simp -implicitDefEqProofs [sc_i_BorderOfChain, F_s_IsChain, hd]
  have e : bochL n l k p x = bocL (borM n l k) x p := if_pos hP
  have hd := dec_true hP
  simp only
  rw [e, hd]
  have hF1 : F_i_BorderMatrix [.agg [.int .i64 n, .list 1 (ints l)], .int .i64 k] = some (.own 1 (rowsV (borM n l k))) := by
    simp only [F_i_BorderMatrix, F2_mk, dC_agg, dI_int, Option.bind_some]
    rw [if_pos ⟨hP.1, hP.2.1, hP.2.2.1⟩]
  obtain ⟨⟨hp, hx, hM⟩, hMl, hxl⟩ := bor_mat hP
  obtain ⟨p1, p2, p3⟩ := fpP_bnd hp
  have hFm : ∀ a, F_i_restMod [.int .i64 a, .int .i64 p] = some (.int .i64 (a % p)) := fun a => by
    simp only [F_i_restMod, F2_mk, dI_int, Option.bind_some]
    rw [if_pos hp]
  have hol := bocL_len (borM n l k) x p
  have hoa := fun (i : Nat) (hi : i < (borM n l k).length) => bocL_at hi x p
  generalize bocL (borM n l k) x p = O at *
  generalize borM n l k = M at *
  simp -implicitDefEqProofs [sc_i_BorderOfChain, F_s_IsChain, hd, hF1]
  have inner : ∀ (i : Nat) (Q : Post) (T0 : Tm), i < M.length → subE T0 [(2, .int .i64 p), (3, .list 1 (ints x)), (10, .sl 2 1 0 i), (12, .sl 3 1 0 x.length), (13, .int .i64 0), (24, .sl 1 1 0 M.length), (25, .int .i64 (M.length : Int)), (26, .int .i64 (i : Int)), (30, .list 1 (ints x)), (31, .int .i64 (x.length : Int)), (32, .int .i64 0)] →
      Q (.exit 2) [(2, .int .i64 p), (3, .list 1 (ints x)), (10, .sl 2 1 0 i), (13, .int .i64 (dotK (atR M i) x x.length)), (24, .sl 1 1 0 M.length), (25, .int .i64 (M.length : Int)), (26, .int .i64 (i : Int))] ([(2, ints (O.take i)), (1, rowsV M), (0, [.int .i64 n, .list 1 (ints l)])], 4) →
      LoopI ⟨Try.prog, w0, U0, L0, N0, 0, 54⟩ [] sc_i_BorderOfChain_L2 Q T0 ([(3, ints (atR M i)), (2, ints (O.take i)), (1, (rowsV M).set i (.sl 3 1 0 x.length)), (0, [.int .i64 n, .list 1 (ints l)])], 4) := by
    intro i Q T0 hi hsub q1
    obtain ⟨hrl, hre⟩ := hM i hi
    have hself := rowsV_self hi
    refine loopQ env mixed (fun j : Nat => [(2, .int .i64 p), (3, .list 1 (ints x)), (10, .sl 2 1 0 i), (12, .sl 3 1 0 x.length), (13, .int .i64 (dotK (atR M i) x j)), (24, .sl 1 1 0 M.length), (25, .int .i64 (M.length : Int)), (26, .int .i64 (i : Int)), (30, .list 1 (ints x)), (31, .int .i64 (x.length : Int)), (32, .int .i64 (j : Int))]) (fun _ => ([(3, ints (atR M i)), (2, ints (O.take i)), (1, (rowsV M).set i (.sl 3 1 0 x.length)), (0, [.int .i64 n, .list 1 (ints l)])], 4)) (fun j => j ≤ x.length) (fun j => x.length - j) 0 (by simp) (SubI.slots rfl (by simpa [dotK] using hsub)) ?_
    intro j hj
    obtain ⟨b1, b2, b3⟩ := dotK_bnd p2 hre hx j hj
    by_cases hlt : j < x.length
    · have hlt2 : j < (atR M i).length := by omega
      have b4 := b3 hlt
      have e : dotK (atR M i) x (j + 1) = dotK (atR M i) x j + at0 (atR M i) j * at0 x j := rfl
      generalize dotK (atR M i) x j = t at *
      have hw1 : IntKind.i64.wrap (at0 (atR M i) j * at0 x j) = at0 (atR M i) j * at0 x j := wrapI _ (by omega) (by omega)
      have hw2 : IntKind.i64.wrap (t + at0 (atR M i) j * at0 x j) = t + at0 (atR M i) j * at0 x j := wrapI _ (by omega) (by omega)
      simp -implicitDefEqProofs [sc_i_BorderOfChain_L2, hlt, hlt2, hi, hrl, hw1, hw2]
      repeat' (first | omega | apply And.intro)
      exact Again.of (j + 1) (by omega) (by omega) (SubI.slots (by simp) (by simp (disch := omega) [wrapI, e]))
    · have : j = x.length := by omega
      subst this
      simp -implicitDefEqProofs [sc_i_BorderOfChain_L2]
      refine SubQ.of ?_ q1
      refine SubI.fold 1 3 i 1 x.length (cn := ints (atR M i)) (co := (rowsV M).set i (.sl 3 1 0 x.length)) (by simp) (by simp) (by simp [hi]) (by simp [hrl]) ?_
      refine SubI.slots ?_ ?_
      · simp [hself]
      · simp
  refine loopI env mixed (fun i : Nat => [(2, .int .i64 p), (3, .list 1 (ints x)), (10, .sl 2 1 0 i), (24, .sl 1 1 0 M.length), (25, .int .i64 (M.length : Int)), (26, .int .i64 (i : Int))]) (fun i => ([(2, ints (O.take i)), (1, rowsV M), (0, [.int .i64 n, .list 1 (ints l)])], 3)) (fun i => i ≤ M.length) (fun i => M.length - i) 0 (by simp) (SubI.nilN 10 1 (by simp) (SubI.slots (by simp) (by simp))) ?_
  intro i hi
  by_cases hlt : i < M.length
  · have hin := inner i
    obtain ⟨hrl, hre⟩ := hM i hlt
    have e : O.take (i + 1) = O.take i ++ [dotK (atR M i) x x.length % p] := by rw [take_at (by omega), hoa i hlt]
    have gl : (O.take i).length = i := by simp; omega
    generalize O.take i = g at *
    simp -implicitDefEqProofs [sc_i_BorderOfChain_L0, hlt, hrl]
    refine hin _ _ hlt (by simp) ?_
    simp -implicitDefEqProofs [hFm, gl]
    repeat' (first | omega | apply And.intro)
    refine Again.of (i + 1) (by omega) (by omega) (SubI.ren (fun m => if m = 0 then some 0 else if m = 1 then some 1 else if m = 2 then some 5 else none) ?_ ?_ ?_ (by simp) (by simp))
    · simp (disch := omega) [subT, renV, ren1, wrapI]
    · have ht : g.take i = g := List.take_of_length_le (by omega)
      simp [subH, e, renL, ren1, ht]
      rw [← ints_app]
      rfl
    · intro m hm
      simp only at hm
      rw [if_neg (by omega), if_neg (by omega), if_neg (by omega)]
  · have : i = M.length := by omega
    subst this
    have ht : O.take M.length = O := List.take_of_length_le (by omega)
    simp -implicitDefEqProofs [sc_i_BorderOfChain_L0, ht]
    try omega
end Go.Proofs.Ytmemomfffehnkaa
namespace Go.Proofs.Ytmemomfffehnkaa
open Go Go.RowKit
set_option maxRecDepth 1000000
set_option linter.unusedSimpArgs false
set_option linter.unusedVariables false
set_option maxHeartbeats 1000000
def sc_s_l16Zero_L0 : SC := (.seq (.seq (.reg [⟨(some 4), none, (.mov (.t 3))⟩, ⟨(some 5), none, (.mov (.t 0))⟩, ⟨(some 6), none, (.len (.t 5))⟩, ⟨(some 7), none, (.bin false .lss (.t 4) (.t 6))⟩]) (.cond (.t 7) .skip (.exit 0))) (.seq (.block 1 (.seq (.reg [⟨(some 10), none, (.mov (.t 0))⟩, ⟨(some 11), none, (.mov (.t 3))⟩, ⟨(some 12), none, (.idx 1 (.t 10) (.t 11))⟩, ⟨(some 13), none, (.ld none (.int .i64 0) (.t 12))⟩, ⟨(some 14), none, (.bin false .neq (.t 13) (.c (.int .i64 0)))⟩]) (.cond (.t 14) (.seq (.reg [⟨(some 2), none, (.mov (.c (.bool false)))⟩]) .ret) .skip))) (.reg [⟨(some 8), none, (.mov (.t 3))⟩, ⟨(some 9), none, (.bin false .add (.t 8) (.c (.int .i64 1)))⟩, ⟨(some 3), none, (.mov (.t 9))⟩])))
def sc_s_l16Zero : SC := (.seq (.reg [⟨(some 2), none, (.mov (.c (.bool false)))⟩]) (.seq (.seq (.reg [⟨(some 3), none, (.mov (.c (.int .i64 0)))⟩]) (.block 0 (.loop sc_s_l16Zero_L0))) (.seq (.reg [⟨(some 2), none, (.mov (.c (.bool true)))⟩]) .ret)))
theorem code_s_l16Zero : fnCode Try.prog [] 138 = some (15, sc_s_l16Zero, [(2, none)]) := by kernel_rfl
def zerP (x : List Int) : Prop := ∀ j, j < x.length → at0 x j = 0
noncomputable def F_s_l16Zero : List V → Option V := F1 dL fun x => some (.bool (dec (zerP x)))
theorem fn_s_l16Zero : FnOk Try.prog 138 F_s_l16Zero := by
  refine fn_ok code_s_l16Zero mixed envNil_ok ?_
  intro args r h hb
  obtain ⟨_, x, rfl, h1, h4⟩ := F1_inv h
  cases dL_inv h1
  cases h4
  clear h
  have hlen := bnd_ints (hb (.list 1 (ints x)) (by simp))
  refine ⟨by simp, fun w0 U0 L0 N0 => ?_⟩
  clear hb
  generalize hv : dec (zerP x) = v
  simp -implicitDefEqProofs [sc_s_l16Zero]
  refine loopI envNil_ok mixed (fun k : Nat => [(0, .list 1 (ints x)), (3, .int .i64 (k : Int))]) (fun _ => ([], 0)) (fun k => k ≤ x.length ∧ ∀ j, j < k → at0 x j = 0) (fun k => x.length - k) 0 (by simp) (SubI.slots (by simp) (by simp)) ?_
  rintro k ⟨hk, hI⟩
  by_cases hlt : k < x.length
  · by_cases h1 : at0 x k = 0
    · simp -implicitDefEqProofs [sc_s_l16Zero_L0, hlt, h1]
      repeat' (first | omega | apply And.intro)
      refine Again.of (k + 1) ⟨by omega, fun j hj => ?_⟩ (by omega) (SubI.slots rfl (by simp (disch := omega) [wrapI]))
      rcases Nat.lt_succ_iff_lt_or_eq.1 hj with h | rfl
      · exact hI j h
      · exact h1
    · have hv1 : v = false := hv ▸ dec_false fun h => h1 (h k hlt)
      simp -implicitDefEqProofs [sc_s_l16Zero_L0, hlt, h1, hv1]
      try omega
  · have : k = x.length := by omega
    subst this
    have hv1 : v = true := hv ▸ dec_true hI
    simp -implicitDefEqProofs [sc_s_l16Zero_L0, hv1]
def sc_i_isZeroList_L0 : SC := (.seq (.reg [⟨(some 8), none, (.bin false .lss (.t 7) (.t 6))⟩]) (.seq (.cond (.t 8) .skip (.exit 0)) (.seq (.block 1 (.seq (.reg [⟨(some 9), none, (.idx 1 (.t 5) (.t 7))⟩, ⟨(some 10), none, (.ld none (.int .i64 0) (.t 9))⟩, ⟨(some 4), none, (.mov (.t 10))⟩]) (.seq (.reg [⟨(some 11), none, (.mov (.t 4))⟩, ⟨(some 12), none, (.bin false .neq (.t 11) (.c (.int .i64 0)))⟩]) (.cond (.t 12) (.seq (.reg [⟨(some 2), none, (.mov (.c (.bool false)))⟩]) .ret) .skip)))) (.reg [⟨(some 13), none, (.bin false .add (.t 7) (.c (.int .i64 1)))⟩, ⟨(some 7), none, (.mov (.t 13))⟩]))))
def sc_i_isZeroList : SC := (.seq (.reg [⟨(some 2), none, (.mov (.c (.bool false)))⟩]) (.seq (.seq (.reg [⟨(some 5), none, (.mov (.t 0))⟩, ⟨(some 6), none, (.len (.t 5))⟩, ⟨(some 7), none, (.mov (.c (.int .i64 0)))⟩]) (.block 0 (.loop sc_i_isZeroList_L0))) (.seq (.reg [⟨(some 2), none, (.mov (.c (.bool true)))⟩]) .ret)))
theorem code_i_isZeroList : fnCode Try.prog [] 137 = some (14, sc_i_isZeroList, [(2, none)]) := by kernel_rfl
theorem fn_i_isZeroList : FnOk Try.prog 137 F_s_l16Zero := by
  refine fn_ok code_i_isZeroList mixed envNil_ok ?_
  intro args r h hb
  obtain ⟨_, x, rfl, h1, h4⟩ := F1_inv h
  cases dL_inv h1
  cases h4
  clear h
  have hlen := bnd_ints (hb (.list 1 (ints x)) (by simp))
  refine ⟨by simp, fun w0 U0 L0 N0 => ?_⟩
  clear hb
  generalize hv : dec (zerP x) = v
  simp -implicitDefEqProofs [sc_i_isZeroList]
  refine loopI envNil_ok mixed (fun k : Nat => [(5, .list 1 (ints x)), (6, .int .i64 (x.length : Int)), (7, .int .i64 (k : Int))]) (fun _ => ([], 0)) (fun k => k ≤ x.length ∧ ∀ j, j < k → at0 x j = 0) (fun k => x.length - k) 0 (by simp) (SubI.slots (by simp) (by simp)) ?_
  rintro k ⟨hk, hI⟩
  by_cases hlt : k < x.length
  · by_cases h1 : at0 x k = 0
    · simp -implicitDefEqProofs [sc_i_isZeroList_L0, hlt, h1]
      repeat' (first | omega | apply And.intro)
      refine Again.of (k + 1) ⟨by omega, fun j hj => ?_⟩ (by omega) (SubI.slots rfl (by simp (disch := omega) [wrapI]))
      rcases Nat.lt_succ_iff_lt_or_eq.1 hj with h | rfl
      · exact hI j h
      · exact h1
    · have hv1 : v = false := hv ▸ dec_false fun h => h1 (h k hlt)
      simp -implicitDefEqProofs [sc_i_isZeroList_L0, hlt, h1, hv1]
      try omega
  · have : k = x.length := by omega
    subst this
    have hv1 : v = true := hv ▸ dec_true hI
    simp -implicitDefEqProofs [sc_i_isZeroList_L0, hv1]
end Go.Proofs.Ytmemomfffehnkaa
namespace Go.Proofs.Ytmemomfffehnkaa
open Go Go.RowKit
set_option maxRecDepth 1000000
set_option linter.unusedSimpArgs false
set_option linter.unusedVariables false
set_option maxHeartbeats 1000000
def sc_s_IsCycle : SC := (.seq (.reg [⟨(some 4), none, (.box (.t 0))⟩, ⟨(some 8), none, (.mov (.c (.bool false)))⟩]) (.seq (.reg [⟨(some 12), none, (.ld (some 2) .undef (.t 4))⟩, ⟨(some 13), none, (.mov (.t 1))⟩, ⟨(some 14), none, (.mov (.t 2))⟩, ⟨(some 15), none, (.mov (.t 3))⟩, ⟨(some 16), none, (.call 15 [(.t 12), (.t 13), (.t 14), (.t 15)])⟩, ⟨(some 11), none, (.mov (.t 16))⟩, ⟨(some 17), none, (.ext 0 (.t 11))⟩, ⟨(some 18), none, (.ext 1 (.t 11))⟩, ⟨(some 9), none, (.mov (.t 17))⟩, ⟨(some 10), none, (.mov (.t 18))⟩]) (.seq (.reg [⟨(some 19), none, (.mov (.t 10))⟩, ⟨(some 20), none, (.mov (.t 19))⟩, ⟨(some 21), (some (20, true)), (.mov (.t 9))⟩, ⟨(some 22), (some (20, true)), (.call 138 [(.t 21)])⟩, ⟨(some 23), none, (.pick (.t 20) (.t 22) (.c (.bool false)))⟩, ⟨(some 8), none, (.mov (.t 23))⟩]) .ret)))
theorem code_s_IsCycle : fnCode Try.prog [] 23 = some (24, sc_s_IsCycle, [(8, none)]) := by kernel_rfl
def cycP (n : Int) (l : List Int) (k p : Int) (x : List Int) : Prop := chnP n l k p x ∧ zerP (bochL n l k p x)
noncomputable def F_s_IsCycle : List V → Option V := F4 dC dI dI dL fun c k p x => some (.bool (dec (cycP c.1 c.2 k p x)))
theorem fn_s_IsCycle : FnOk Try.prog 23 F_s_IsCycle := by
  have env := ((envNil_ok (P := Try.prog)).add fn_s_BorderOfChain).add fn_s_l16Zero
  refine fn_ok code_s_IsCycle mixed env ?_
  intro args r h hb
  obtain ⟨_, _, _, _, ⟨n, l⟩, k, p, x, rfl, h1, h2, h3, h5, h4⟩ := F4_inv h
  cases dC_inv h1
  cases dI_inv h2
  cases dI_inv h3
  cases dL_inv h5
  cases h4
  clear h
  refine ⟨by simp, fun w0 U0 L0 N0 => ?_⟩
  clear hb
  generalize hv : dec (cycP n l k p x) = v
  have hFB : F_s_BorderOfChain [.agg [.int .i64 n, .list 1 (ints l)], .int .i64 k, .int .i64 p, .list 1 (ints x)] = some (.tup [.own 1 (ints (bochL n l k p x)), .bool (dec (chnP n l k p x))]) := by simp [F_s_BorderOfChain]
  unfold cycP at hv
  generalize bochL n l k p x = O at *
  by_cases hP : chnP n l k p x
  rotate_left
  · have hv1 : v = false := hv ▸ dec_false fun h => hP h.1
    rw [dec_false hP] at hFB
    simp -implicitDefEqProofs [sc_s_IsCycle, hFB, hv1]
  rw [dec_true hP] at hFB
  have hv1 : dec (zerP O) = v := by
    rw [← hv, Bool.eq_iff_iff, dec_iff, dec_iff]
    exact ⟨fun h => ⟨hP, h⟩, fun h => h.2⟩
  simp -implicitDefEqProofs [sc_s_IsCycle, hFB, F_s_l16Zero, hv1]
def sc_i_IsCycle : SC := (.seq (.reg [⟨(some 4), none, (.box (.t 0))⟩, ⟨(some 8), none, (.mov (.c (.bool false)))⟩]) (.seq (.reg [⟨(some 12), none, (.ld (some 2) .undef (.t 4))⟩, ⟨(some 13), none, (.mov (.t 1))⟩, ⟨(some 14), none, (.mov (.t 2))⟩, ⟨(some 15), none, (.mov (.t 3))⟩, ⟨(some 16), none, (.call 14 [(.t 12), (.t 13), (.t 14), (.t 15)])⟩, ⟨(some 11), none, (.mov (.t 16))⟩, ⟨(some 17), none, (.ext 0 (.t 11))⟩, ⟨(some 18), none, (.ext 1 (.t 11))⟩, ⟨(some 9), none, (.mov (.t 17))⟩, ⟨(some 10), none, (.mov (.t 18))⟩]) (.seq (.reg [⟨(some 19), none, (.mov (.t 10))⟩, ⟨(some 20), none, (.mov (.t 19))⟩, ⟨(some 21), (some (20, true)), (.mov (.t 9))⟩, ⟨(some 22), (some (20, true)), (.call 137 [(.t 21)])⟩, ⟨(some 23), none, (.pick (.t 20) (.t 22) (.c (.bool false)))⟩, ⟨(some 8), none, (.mov (.t 23))⟩]) .ret)))
theorem code_i_IsCycle : fnCode Try.prog [] 22 = some (24, sc_i_IsCycle, [(8, none)]) := by kernel_rfl
theorem fn_i_IsCycle : FnOk Try.prog 22 F_s_IsCycle := by
  have env := ((envNil_ok (P := Try.prog)).add fn_i_BorderOfChain).add fn_i_isZeroList
  refine fn_ok code_i_IsCycle mixed env ?_
  intro args r h hb
  obtain ⟨_, _, _, _, ⟨n, l⟩, k, p, x, rfl, h1, h2, h3, h5, h4⟩ := F4_inv h
  cases dC_inv h1
  cases dI_inv h2
  cases dI_inv h3
  cases dL_inv h5
  cases h4
  clear h
  refine ⟨by simp, fun w0 U0 L0 N0 => ?_⟩
  clear hb
  generalize hv : dec (cycP n l k p x) = v
  have hFB : F_s_BorderOfChain [.agg [.int .i64 n, .list 1 (ints l)], .int .i64 k, .int .i64 p, .list 1 (ints x)] = some (.tup [.own 1 (ints (bochL n l k p x)), .bool (dec (chnP n l k p x))]) := by simp [F_s_BorderOfChain]
  unfold cycP at hv
  generalize bochL n l k p x = O at *
  by_cases hP : chnP n l k p x
  rotate_left
  · have hv1 : v = false := hv ▸ dec_false fun h => hP h.1
    rw [dec_false hP] at hFB
    simp -implicitDefEqProofs [sc_i_IsCycle, hFB, hv1]
  rw [dec_true hP] at hFB
  have hv1 : dec (zerP O) = v := by
    rw [← hv, Bool.eq_iff_iff, dec_iff, dec_iff]
    exact ⟨fun h => ⟨hP, h⟩, fun h => h.2⟩
  simp -implicitDefEqProofs [sc_i_IsCycle, hFB, F_s_l16Zero, hv1]
end Go.Proofs.Ytmemomfffehnkaa
