import Derived.Test.YtkfjacclpjgafaaGdG
import Derived.Test.YtkfjacclpjgafaaGcG
namespace Go.Proofs.Ytkfjacclpjgafaa
open Go Go.RowKit
set_option maxRecDepth 1000000
set_option linter.unusedSimpArgs false
set_option linter.unusedVariables false
set_option maxHeartbeats 1000000
def sc_i_BorderOfChain_L2 : SC := (.seq (.reg [⟨(some 33), none, (.bin false .lss (.t 32) (.t 31))⟩]) (.seq (.cond (.t 33) .skip (.exit 2)) (.seq (.block 3 (.seq (.reg [⟨(some 34), none, (.mov (.t 32))⟩, ⟨(some 35), none, (.idx 1 (.t 30) (.t 32))⟩, ⟨(some 36), none, (.ld none (.int .i64 0) (.t 35))⟩, ⟨(some 14), none, (.mov (.t 34))⟩, ⟨(some 15), none, (.mov (.t 36))⟩]) (.reg [⟨(some 37), none, (.mov (.t 13))⟩, ⟨(some 38), none, (.mov (.t 12))⟩, ⟨(some 39), none, (.mov (.t 14))⟩, ⟨(some 40), none, (.idx 1 (.t 38) (.t 39))⟩, ⟨(some 41), none, (.ld none (.int .i64 0) (.t 40))⟩, ⟨(some 42), none, (.mov (.t 15))⟩, ⟨(some 43), none, (.bin false .mul (.t 41) (.t 42))⟩, ⟨(some 44), none, (.bin false .add (.t 37) (.t 43))⟩, ⟨(some 13), none, (.mov (.t 44))⟩]))) (.reg [⟨(some 45), none, (.bin false .add (.t 32) (.c (.int .i64 1)))⟩, ⟨(some 32), none, (.mov (.t 45))⟩]))))
def sc_i_BorderOfChain_L0 : SC := (.seq (.reg [⟨(some 27), none, (.bin false .lss (.t 26) (.t 25))⟩]) (.seq (.cond (.t 27) .skip (.exit 0)) (.seq (.block 1 (.seq (.reg [⟨(some 28), none, (.idx 1 (.t 24) (.t 26))⟩, ⟨(some 29), none, (.ld none .nil (.t 28))⟩, ⟨(some 12), none, (.mov (.t 29))⟩]) (.seq (.reg [⟨(some 13), none, (.mov (.c (.int .i64 0)))⟩]) (.seq (.seq (.reg [⟨(some 30), none, (.mov (.t 3))⟩, ⟨(some 31), none, (.len (.t 30))⟩, ⟨(some 32), none, (.mov (.c (.int .i64 0)))⟩]) (.block 2 (.loop sc_i_BorderOfChain_L2))) (.reg [⟨(some 46), none, (.mov (.t 10))⟩, ⟨(some 47), none, (.mov (.t 13))⟩, ⟨(some 48), none, (.mov (.t 2))⟩, ⟨(some 49), none, (.call 98 [(.t 47), (.t 48)])⟩, ⟨(some 50), none, (.mks 1 1 [(.int .i64 0)] [(0, (1, (.t 49)))])⟩, ⟨(some 51), none, (.app 1 8 (.t 46) (.t 50))⟩, ⟨(some 10), none, (.mov (.t 51))⟩]))))) (.reg [⟨(some 52), none, (.bin false .add (.t 26) (.c (.int .i64 1)))⟩, ⟨(some 26), none, (.mov (.t 52))⟩]))))
def sc_i_BorderOfChain : SC := (.seq (.reg [⟨(some 4), none, (.box (.t 0))⟩, ⟨(some 8), none, (.mov (.c .nil))⟩, ⟨(some 9), none, (.mov (.c (.bool false)))⟩]) (.seq (.seq (.reg [⟨(some 16), none, (.ld (some 2) .undef (.t 4))⟩, ⟨(some 17), none, (.mov (.t 1))⟩, ⟨(some 18), none, (.mov (.t 2))⟩, ⟨(some 19), none, (.mov (.t 3))⟩, ⟨(some 20), none, (.call 21 [(.t 16), (.t 17), (.t 18), (.t 19)])⟩, ⟨(some 21), none, (.un .not (.t 20))⟩]) (.cond (.t 21) (.seq (.reg [⟨(some 8), none, (.mov (.c .nil))⟩, ⟨(some 9), none, (.mov (.c (.bool false)))⟩]) .ret) .skip)) (.seq (.reg [⟨(some 10), none, (.mov (.c .nil))⟩]) (.seq (.seq (.reg [⟨(some 22), none, (.ld (some 2) .undef (.t 4))⟩, ⟨(some 23), none, (.mov (.t 1))⟩, ⟨(some 24), none, (.call 97 [(.t 22), (.t 23)])⟩, ⟨(some 25), none, (.len (.t 24))⟩, ⟨(some 26), none, (.mov (.c (.int .i64 0)))⟩]) (.block 0 (.loop sc_i_BorderOfChain_L0))) (.seq (.reg [⟨(some 53), none, (.mov (.t 10))⟩, ⟨(some 8), none, (.mov (.t 53))⟩, ⟨(some 9), none, (.mov (.c (.bool true)))⟩]) .ret)))))
theorem code_i_BorderOfChain : fnCode Try.prog [] 43 = some (54, sc_i_BorderOfChain, [(8, none), (9, none)]) := by kernel_rfl
theorem fn_i_BorderOfChain : FnOk Try.prog 43 F_s_BorderOfChain := by
  have env := (((envNil_ok (P := Try.prog)).add fn_i_IsChain).add fn_i_BorderMatrix).add fn_i_restMod
  refine fn_ok code_i_BorderOfChain mixed env ?_
  intro args r h hb
  obtain ⟨_, _, _, _, ⟨n, l⟩, k, p, x, rfl, h1, h2, h3, h5, h4⟩ := F4_inv h
  cases dC_inv h1
  cases dI_inv h2
  cases dI_inv h3
  cases dL_inv h5
  cases h4
  clear h
  refine ⟨by simp, fun w0 U0 L0 N0 => ?_⟩
  clear hb
  by_cases hP : chnP n l k p x
  rotate_left
  · have e : bochL n l k p x = [] := if_neg hP
    have hd := dec_false hP
    simp only
    rw [e, hd]
    simp -implicitDefEqProofs [sc_i_BorderOfChain, F_s_IsChain, hd]
  have e : bochL n l k p x = bocL (borM n l k) x p := if_pos hP
  have hd := dec_true hP
  simp only
  rw [e, hd]
  have hF1 : F_i_BorderMatrix [.agg [.int .i64 n, .list 1 (ints l)], .int .i64 k] = some (.own 1 (rowsV (borM n l k))) := by
    simp only [F_i_BorderMatrix, F2_mk, dC_agg, dI_int, Option.bind_some]
    rw [if_pos ⟨hP.1, hP.2.1, hP.2.2.1⟩]
  obtain ⟨⟨hp, hx, hM⟩, hMl, hxl⟩ := bor_mat hP
  obtain ⟨p1, p2, p3⟩ := fpP_bnd hp
  have hFm : ∀ a, F_i_restMod [.int .i64 a, .int .i64 p] = some (.int .i64 (a % p)) := fun a => by
    simp only [F_i_restMod, F2_mk, dI_int, Option.bind_some]
    rw [if_pos hp]
  have hol := bocL_len (borM n l k) x p
  have hoa := fun (i : Nat) (hi : i < (borM n l k).length) => bocL_at hi x p
  generalize bocL (borM n l k) x p = O at *
  generalize borM n l k = M at *
  simp -implicitDefEqProofs [sc_i_BorderOfChain, F_s_IsChain, hd, hF1]
  have inner : ∀ (i : Nat) (Q : Post) (T0 : Tm), i < M.length → subE T0 [(2, .int .i64 p), (3, .list 1 (ints x)), (10, .sl 2 1 0 i), (12, .sl 3 1 0 x.length), (13, .int .i64 0), (24, .sl 1 1 0 M.length), (25, .int .i64 (M.length : Int)), (26, .int .i64 (i : Int)), (30, .list 1 (ints x)), (31, .int .i64 (x.length : Int)), (32, .int .i64 0)] →
      Q (.exit 2) [(2, .int .i64 p), (3, .list 1 (ints x)), (10, .sl 2 1 0 i), (13, .int .i64 (dotK (atR M i) x x.length)), (24, .sl 1 1 0 M.length), (25, .int .i64 (M.length : Int)), (26, .int .i64 (i : Int))] ([(2, ints (O.take i)), (1, rowsV M), (0, [.int .i64 n, .list 1 (ints l)])], 4) →
      LoopI ⟨Try.prog, w0, U0, L0, N0, 0, 54⟩ [] sc_i_BorderOfChain_L2 Q T0 ([(3, ints (atR M i)), (2, ints (O.take i)), (1, (rowsV M).set i (.sl 3 1 0 x.length)), (0, [.int .i64 n, .list 1 (ints l)])], 4) := by
    intro i Q T0 hi hsub q1
    obtain ⟨hrl, hre⟩ := hM i hi
    have hself := rowsV_self hi
    refine loopQ env mixed (fun j : Nat => [(2, .int .i64 p), (3, .list 1 (ints x)), (10, .sl 2 1 0 i), (12, .sl 3 1 0 x.length), (13, .int .i64 (dotK (atR M i) x j)), (24, .sl 1 1 0 M.length), (25, .int .i64 (M.length : Int)), (26, .int .i64 (i : Int)), (30, .list 1 (ints x)), (31, .int .i64 (x.length : Int)), (32, .int .i64 (j : Int))]) (fun _ => ([(3, ints (atR M i)), (2, ints (O.take i)), (1, (rowsV M).set i (.sl 3 1 0 x.length)), (0, [.int .i64 n, .list 1 (ints l)])], 4)) (fun j => j ≤ x.length) (fun j => x.length - j) 0 (by simp) (SubI.slots rfl (by simpa [dotK] using hsub)) ?_
    intro j hj
    obtain ⟨b1, b2, b3⟩ := dotK_bnd p2 hre hx j hj
    by_cases hlt : j < x.length
    · have hlt2 : j < (atR M i).length := by omega
      have b4 := b3 hlt
      have e : dotK (atR M i) x (j + 1) = dotK (atR M i) x j + at0 (atR M i) j * at0 x j := rfl
      generalize dotK (atR M i) x j = t at *
      have hw1 : IntKind.i64.wrap (at0 (atR M i) j * at0 x j) = at0 (atR M i) j * at0 x j := wrapI _ (by omega) (by omega)
      have hw2 : IntKind.i64.wrap (t + at0 (atR M i) j * at0 x j) = t + at0 (atR M i) j * at0 x j := wrapI _ (by omega) (by omega)
      simp -implicitDefEqProofs [sc_i_BorderOfChain_L2, hlt, hlt2, hi, hrl, hw1, hw2]
      repeat' (first | omega | apply And.intro)
      exact Again.of (j + 1) (by omega) (by omega) (SubI.slots (by simp) (by simp (disch := omega) [wrapI, e]))
    · have : j = x.length := by omega
      subst this
      simp -implicitDefEqProofs [sc_i_BorderOfChain_L2]
      refine SubQ.of ?_ q1
      refine SubI.fold 1 3 i 1 x.length (cn := ints (atR M i)) (co := (rowsV M).set i (.sl 3 1 0 x.length)) (by simp) (by simp) (by simp [hi]) (by simp [hrl]) ?_
      refine SubI.slots ?_ ?_
      · simp [hself]
      · simp
  refine loopI env mixed (fun i : Nat => [(2, .int .i64 p), (3, .list 1 (ints x)), (10, .sl 2 1 0 i), (24, .sl 1 1 0 M.length), (25, .int .i64 (M.length : Int)), (26, .int .i64 (i : Int))]) (fun i => ([(2, ints (O.take i)), (1, rowsV M), (0, [.int .i64 n, .list 1 (ints l)])], 3)) (fun i => i ≤ M.length) (fun i => M.length - i) 0 (by simp) (SubI.nilN 10 1 (by simp) (SubI.slots (by simp) (by simp))) ?_
  intro i hi
  by_cases hlt : i < M.length
  · have hin := inner i
    obtain ⟨hrl, hre⟩ := hM i hlt
    have e : O.take (i + 1) = O.take i ++ [dotK (atR M i) x x.length % p] := by rw [take_at (by omega), hoa i hlt]
    have gl : (O.take i).length = i := by simp; omega
    generalize O.take i = g at *
    simp -implicitDefEqProofs [sc_i_BorderOfChain_L0, hlt, hrl]
    refine hin _ _ hlt (by simp) ?_
    simp -implicitDefEqProofs [hFm, gl]
    repeat' (first | omega | apply And.intro)
    refine Again.of (i + 1) (by omega) (by omega) (SubI.ren (fun m => if m = 0 then some 0 else if m = 1 then some 1 else if m = 2 then some 5 else none) ?_ ?_ ?_ (by simp) (by simp))
    · simp (disch := omega) [subT, renV, ren1, wrapI]
    · have ht : g.take i = g := List.take_of_length_le (by omega)
      simp [subH, e, renL, ren1, ht]
      rw [← ints_app]
      rfl
    · intro m hm
      simp only at hm
      rw [if_neg (by omega), if_neg (by omega), if_neg (by omega)]
  · have : i = M.length := by omega
    subst this
    have ht : O.take M.length = O := List.take_of_length_le (by omega)
    simp -implicitDefEqProofs [sc_i_BorderOfChain_L0, ht]
    try omega
end Go.Proofs.Ytkfjacclpjgafaa
