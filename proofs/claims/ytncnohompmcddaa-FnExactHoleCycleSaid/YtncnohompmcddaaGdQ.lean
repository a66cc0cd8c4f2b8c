import Derived.Test.YtncnohompmcddaaGdM
import Derived.Test.YtncnohompmcddaaGdD
namespace Go.Proofs.Ytncnohompmcddaa
open Go Go.RowKit
set_option maxRecDepth 1000000
set_option linter.unusedSimpArgs false
set_option linter.unusedVariables false
set_option maxHeartbeats 1000000
def sc_s_l13Reduce_L6 : SC := (.seq (.seq (.reg [⟨(some 72), none, (.mov (.t 13))⟩, ⟨(some 73), none, (.mov (.t 6))⟩, ⟨(some 74), none, (.len (.t 73))⟩, ⟨(some 75), none, (.bin false .lss (.t 72) (.t 74))⟩, ⟨(some 76), none, (.mov (.t 75))⟩, ⟨(some 77), (some (76, true)), (.mov (.t 6))⟩, ⟨(some 78), (some (76, true)), (.mov (.t 13))⟩, ⟨(some 79), (some (76, true)), (.idx 1 (.t 77) (.t 78))⟩, ⟨(some 80), (some (76, true)), (.ld none .nil (.t 79))⟩, ⟨(some 81), (some (76, true)), (.mov (.t 11))⟩, ⟨(some 82), (some (76, true)), (.idx 1 (.t 80) (.t 81))⟩, ⟨(some 83), (some (76, true)), (.ld none (.int .i64 0) (.t 82))⟩, ⟨(some 84), (some (76, true)), (.bin false .eql (.t 83) (.c (.int .i64 0)))⟩, ⟨(some 85), none, (.pick (.t 76) (.t 84) (.c (.bool false)))⟩]) (.cond (.t 85) .skip (.exit 6))) (.block 7 (.reg [⟨(some 86), none, (.mov (.t 13))⟩, ⟨(some 87), none, (.bin false .add (.t 86) (.c (.int .i64 1)))⟩, ⟨(some 13), none, (.mov (.t 87))⟩])))
def sc_s_l13Reduce_L4 : SC := (.seq (.seq (.reg [⟨(some 49), none, (.mov (.t 6))⟩, ⟨(some 50), none, (.len (.t 49))⟩, ⟨(some 51), none, (.bin false .gtr (.t 50) (.c (.int .i64 0)))⟩, ⟨(some 52), none, (.mov (.t 51))⟩, ⟨(some 53), (some (52, true)), (.mov (.t 11))⟩, ⟨(some 54), (some (52, true)), (.mov (.t 6))⟩, ⟨(some 55), (some (52, true)), (.idx 1 (.t 54) (.c (.int .i64 0)))⟩, ⟨(some 56), (some (52, true)), (.ld none .nil (.t 55))⟩, ⟨(some 57), (some (52, true)), (.len (.t 56))⟩, ⟨(some 58), (some (52, true)), (.bin false .lss (.t 53) (.t 57))⟩, ⟨(some 59), none, (.pick (.t 52) (.t 58) (.c (.bool false)))⟩, ⟨(some 60), none, (.mov (.t 59))⟩, ⟨(some 61), (some (60, true)), (.mov (.t 10))⟩, ⟨(some 62), (some (60, true)), (.len (.t 61))⟩, ⟨(some 63), (some (60, true)), (.mov (.t 6))⟩, ⟨(some 64), (some (60, true)), (.len (.t 63))⟩, ⟨(some 65), (some (60, true)), (.bin false .lss (.t 62) (.t 64))⟩, ⟨(some 66), none, (.pick (.t 60) (.t 65) (.c (.bool false)))⟩]) (.cond (.t 66) .skip (.exit 4))) (.seq (.block 5 (.seq (.reg [⟨(some 69), none, (.mov (.t 10))⟩, ⟨(some 70), none, (.len (.t 69))⟩, ⟨(some 12), none, (.mov (.t 70))⟩]) (.seq (.reg [⟨(some 71), none, (.mov (.t 12))⟩, ⟨(some 13), none, (.mov (.t 71))⟩]) (.seq (.block 6 (.loop sc_s_l13Reduce_L6)) (.seq (.seq (.reg [⟨(some 88), none, (.mov (.t 13))⟩, ⟨(some 89), none, (.mov (.t 6))⟩, ⟨(some 90), none, (.len (.t 89))⟩, ⟨(some 91), none, (.bin false .eql (.t 88) (.t 90))⟩]) (.cond (.t 91) (.exit 5) .skip)) (.seq (.reg [⟨(some 92), none, (.mov (.t 6))⟩, ⟨(some 93), none, (.mov (.t 13))⟩, ⟨(some 94), none, (.idx 1 (.t 92) (.t 93))⟩, ⟨(some 95), none, (.ld none .nil (.t 94))⟩, ⟨(some 14), none, (.mov (.t 95))⟩]) (.seq (.reg [⟨(some 96), none, (.mov (.t 6))⟩, ⟨(some 97), none, (.mov (.t 13))⟩, ⟨(some 98), none, (.mov (.t 6))⟩, ⟨(some 99), none, (.mov (.t 12))⟩, ⟨(some 100), none, (.idx 1 (.t 98) (.t 99))⟩, ⟨(some 101), none, (.ld none .nil (.t 100))⟩, ⟨(some 102), none, (.idx 1 (.t 96) (.t 97))⟩, ⟨none, none, (.st 1 (.t 102) (.t 101))⟩]) (.cut (.reg [⟨(some 103), none, (.mov (.t 6))⟩, ⟨(some 104), none, (.mov (.t 12))⟩, ⟨(some 105), none, (.mov (.t 14))⟩, ⟨(some 106), none, (.idx 1 (.t 103) (.t 104))⟩, ⟨none, none, (.st 1 (.t 106) (.t 105))⟩]) (.seq (.reg [⟨(some 107), none, (.mov (.t 6))⟩, ⟨(some 108), none, (.mov (.t 12))⟩, ⟨(some 109), none, (.mov (.t 11))⟩, ⟨(some 110), none, (.mov (.t 1))⟩, ⟨(some 111), none, (.call 87 [(.t 107), (.t 108), (.t 109), (.t 110)])⟩, ⟨(some 6), none, (.mov (.t 111))⟩]) (.reg [⟨(some 112), none, (.mov (.t 10))⟩, ⟨(some 113), none, (.mov (.t 11))⟩, ⟨(some 114), none, (.mks 1 1 [(.int .i64 0)] [(0, (1, (.t 113)))])⟩, ⟨(some 115), none, (.app 1 8 (.t 112) (.t 114))⟩, ⟨(some 10), none, (.mov (.t 115))⟩])))))))))) (.reg [⟨(some 67), none, (.mov (.t 11))⟩, ⟨(some 68), none, (.bin false .add (.t 67) (.c (.int .i64 1)))⟩, ⟨(some 11), none, (.mov (.t 68))⟩])))
def sc_s_l13Reduce_L2 : SC := (.seq (.seq (.reg [⟨(some 23), none, (.mov (.t 9))⟩, ⟨(some 24), none, (.mov (.t 0))⟩, ⟨(some 25), none, (.mov (.t 7))⟩, ⟨(some 26), none, (.idx 1 (.t 24) (.t 25))⟩, ⟨(some 27), none, (.ld none .nil (.t 26))⟩, ⟨(some 28), none, (.len (.t 27))⟩, ⟨(some 29), none, (.bin false .lss (.t 23) (.t 28))⟩]) (.cond (.t 29) .skip (.exit 2))) (.seq (.block 3 (.reg [⟨(some 32), none, (.mov (.t 8))⟩, ⟨(some 33), none, (.mov (.t 0))⟩, ⟨(some 34), none, (.mov (.t 7))⟩, ⟨(some 35), none, (.idx 1 (.t 33) (.t 34))⟩, ⟨(some 36), none, (.ld none .nil (.t 35))⟩, ⟨(some 37), none, (.mov (.t 9))⟩, ⟨(some 38), none, (.idx 1 (.t 36) (.t 37))⟩, ⟨(some 39), none, (.ld none (.int .i64 0) (.t 38))⟩, ⟨(some 40), none, (.mov (.t 1))⟩, ⟨(some 41), none, (.call 55 [(.t 39), (.t 40)])⟩, ⟨(some 42), none, (.mks 1 1 [(.int .i64 0)] [(0, (1, (.t 41)))])⟩, ⟨(some 43), none, (.app 1 8 (.t 32) (.t 42))⟩, ⟨(some 8), none, (.mov (.t 43))⟩])) (.reg [⟨(some 30), none, (.mov (.t 9))⟩, ⟨(some 31), none, (.bin false .add (.t 30) (.c (.int .i64 1)))⟩, ⟨(some 9), none, (.mov (.t 31))⟩])))
def sc_s_l13Reduce_L0 : SC := (.seq (.seq (.reg [⟨(some 16), none, (.mov (.t 7))⟩, ⟨(some 17), none, (.mov (.t 0))⟩, ⟨(some 18), none, (.len (.t 17))⟩, ⟨(some 19), none, (.bin false .lss (.t 16) (.t 18))⟩]) (.cond (.t 19) .skip (.exit 0))) (.seq (.block 1 (.seq (.reg [⟨(some 22), none, (.mks 0 1 [] [])⟩, ⟨(some 8), none, (.mov (.t 22))⟩]) (.seq (.seq (.reg [⟨(some 9), none, (.mov (.c (.int .i64 0)))⟩]) (.block 2 (.loop sc_s_l13Reduce_L2))) (.reg [⟨(some 44), none, (.mov (.t 6))⟩, ⟨(some 45), none, (.mov (.t 8))⟩, ⟨(some 46), none, (.mks 1 1 [.nil] [(0, (1, (.t 45)))])⟩, ⟨(some 47), none, (.app 1 24 (.t 44) (.t 46))⟩, ⟨(some 6), none, (.mov (.t 47))⟩])))) (.reg [⟨(some 20), none, (.mov (.t 7))⟩, ⟨(some 21), none, (.bin false .add (.t 20) (.c (.int .i64 1)))⟩, ⟨(some 7), none, (.mov (.t 21))⟩])))
def sc_s_l13Reduce : SC := (.seq (.reg [⟨(some 4), none, (.mov (.c .nil))⟩, ⟨(some 5), none, (.mov (.c .nil))⟩]) (.seq (.reg [⟨(some 15), none, (.mks 0 1 [] [])⟩, ⟨(some 6), none, (.mov (.t 15))⟩]) (.seq (.seq (.reg [⟨(some 7), none, (.mov (.c (.int .i64 0)))⟩]) (.block 0 (.loop sc_s_l13Reduce_L0))) (.seq (.reg [⟨(some 48), none, (.mks 0 1 [] [])⟩, ⟨(some 10), none, (.mov (.t 48))⟩]) (.seq (.seq (.reg [⟨(some 11), none, (.mov (.c (.int .i64 0)))⟩]) (.block 4 (.loop sc_s_l13Reduce_L4))) (.seq (.reg [⟨(some 116), none, (.mov (.t 6))⟩, ⟨(some 117), none, (.mov (.t 10))⟩, ⟨(some 4), none, (.mov (.t 116))⟩, ⟨(some 5), none, (.mov (.t 117))⟩]) .ret))))))
theorem code_s_l13Reduce : fnCode Try.prog [87, 888888] 52 = some (118, sc_s_l13Reduce, [(4, none), (5, none)]) := by kernel_rfl
def recM (M : List (List Int)) : Prop := lowM M ∧ ∀ i, i < M.length → (atR M i).length = (atR M 0).length
noncomputable def F_s_l13Reduce : List V → Option V := F2 dLL dI fun M p => @ite _ (fpP p ∧ recM M) (Classical.propDecidable _) (some (.tup [.own 1 (rowsV (redS p (modM p M) (atR M 0).length).1), .own 1 (ints (redS p (modM p M) (atR M 0).length).2)])) none
theorem swp_same {M : List (List Int)} {d : Nat} (h : d < M.length) : swp M d d = M := atR_ext (by simp) fun k hk => by
  rw [swp_len] at hk
  rw [swp_at h h hk]
  split
  · rename_i e; rw [e]
  · rfl
theorem swp_cells2 {M : List (List Int)} {d a : Nat} (hda : d ≠ a) (x y : V) : ((((((rowsV M).set a x).set d y).set a y).set d x).set a (.own 1 (ints (atR M d)))).set d (.own 1 (ints (atR M a))) = rowsV (swp M d a) := by
  unfold swp
  rw [← rowsV_set, ← rowsV_set]
  apply List.ext_getElem (by simp)
  intro k h1 h2
  simp only [List.getElem_set]
  by_cases e1 : a = k
  · have e2 : ¬ d = k := fun e => hda (e.trans e1.symm)
    simp [e1, e2]
  · by_cases e2 : d = k
    · simp [e1, e2]
    · simp [e1, e2]
theorem fn_s_l13Reduce : FnOk Try.prog 52 F_s_l13Reduce := by
  have env := ((envNil_ok (P := Try.prog)).add fn_s_l13Mod).addl ln_s_l13Clear
  refine fn_ok code_s_l13Reduce mixed env ?_
  intro args r h hb
  obtain ⟨_, _, M0, p, rfl, h1, h2, h4⟩ := F2_inv h
  cases dLL_inv h1
  cases dI_inv h2
  simp only [Option.ite_none_right_eq_some, Option.some.injEq] at h4
  obtain ⟨⟨hp, ⟨hml, hrl⟩, heq⟩, rfl⟩ := h4
  clear h
  refine ⟨by simp, fun w0 U0 L0 N0 => ?_⟩
  clear hb
  have hFm := fn_restMod_at hp
  obtain ⟨p1, p2, p3⟩ := fpP_bnd hp
  have hol := modM_len p M0
  have hoa := fun (i : Nat) (hi : i < M0.length) => modM_at (p := p) hi
  have hok := okM_mod (p := p) hp heq
  generalize hO : modM p M0 = O at *
  clear hO
  simp -implicitDefEqProofs [sc_s_l13Reduce]
  have inner : ∀ (i : Nat) (Q : Post) (T0 : Tm), i < M0.length → subE T0 [(0, .list 1 (rowsL M0)), (1, .int .i64 p), (6, .sl 0 1 0 i), (7, .int .i64 (i : Int)), (8, .sl 1 1 0 0), (9, .int .i64 0)] →
      Q (.exit 2) [(0, .list 1 (rowsL M0)), (1, .int .i64 p), (6, .sl 0 1 0 i), (7, .int .i64 (i : Int)), (8, .sl 1 1 0 (atR M0 i).length)] ([(1, ints (atR O i)), (0, rowsV (O.take i))], 2) →
      LoopI ⟨Try.prog, w0, U0, L0, N0, 0, 118⟩ [87, 888888] sc_s_l13Reduce_L2 Q T0 ([(1, []), (0, rowsV (O.take i))], 2) := by
    intro i Q T0 hi hsub q1
    have hri := hrl i hi
    have hd0 := rowsL_drop0 hi .nil
    have hal : (atR O i).length = (atR M0 i).length := by rw [hoa i hi]; simp
    have hae : ∀ j, j < (atR M0 i).length → at0 (atR O i) j = at0 (atR M0 i) j % p := fun j hj => by rw [hoa i hi, rowF_at hj]
    generalize atR O i = A at *
    generalize atR M0 i = B at *
    refine loopQ env mixed (fun j : Nat => [(0, .list 1 (rowsL M0)), (1, .int .i64 p), (6, .sl 0 1 0 i), (7, .int .i64 (i : Int)), (8, .sl 1 1 0 j), (9, .int .i64 (j : Int))]) (fun j => ([(1, ints (A.take j)), (0, rowsV (O.take i))], 2)) (fun j => j ≤ B.length) (fun j => B.length - j) 0 (by simp) (SubI.slots (by simp) (by simpa using hsub)) ?_
    intro j hj
    by_cases hlt : j < B.length
    · have e : A.take (j + 1) = A.take j ++ [at0 B j % p] := by rw [take_at (by omega), hae j hlt]
      have gl : (A.take j).length = j := by simp; omega
      generalize A.take j = g at *
      simp -implicitDefEqProofs [sc_s_l13Reduce_L2, hFm, hlt, hi, hd0, gl]
      repeat' (first | omega | apply And.intro)
      refine Again.of (j + 1) (by omega) (by omega) (SubI.ren (fun m => if m = 0 then some 0 else if m = 1 then some 3 else none) ?_ ?_ ?_ (by simp) (by simp))
      · simp (disch := omega) [subT, renV, ren1, wrapI]
      · have ht : g.take j = g := List.take_of_length_le (by omega)
        simp [subH, e, renL, ren1, ht]
        rw [← ints_app]
        rfl
      · intro m hm
        simp only at hm
        rw [if_neg (by omega), if_neg (by omega)]
    · have : j = B.length := by omega
      subst this
      have ht : A.take B.length = A := List.take_of_length_le (by omega)
      rw [ht]
      simp -implicitDefEqProofs [sc_s_l13Reduce_L2, hi, hd0]
      exact ⟨by omega, SubQ.of (SubI.slots rfl (by simp)) q1⟩
  refine loopI env mixed (fun i : Nat => [(0, .list 1 (rowsL M0)), (1, .int .i64 p), (6, .sl 0 1 0 i), (7, .int .i64 (i : Int))]) (fun i => ([(0, rowsV (O.take i))], 1)) (fun i => i ≤ M0.length) (fun i => M0.length - i) 0 (by simp) (SubI.slots (by simp) (by simp)) ?_
  intro i hi
  by_cases hlt : i < M0.length
  · have hin := inner i
    have hiO : i < O.length := by omega
    have hal : (atR O i).length = (atR M0 i).length := by rw [hoa i hlt]; simp
    have hsn := rowsV_snoc hiO (.sl 1 1 0 (atR M0 i).length)
    have gl : (rowsV (O.take i)).length = i := by simp; omega
    simp -implicitDefEqProofs [sc_s_l13Reduce_L0, hlt]
    refine hin _ _ hlt (by simp) ?_
    simp -implicitDefEqProofs [gl]
    have htt : (O.take i).take i = O.take i := List.take_of_length_le (by simp; omega)
    rw [htt]
    refine ⟨by omega, Again.of (i + 1) (by omega) (by omega) ?_⟩
    refine SubI.fold 3 1 i 1 (atR M0 i).length (cn := ints (atR O i)) (co := rowsV (O.take i) ++ [.sl 1 1 0 (atR M0 i).length]) rfl rfl (by rw [List.getElem?_append_right (by omega), gl, Nat.sub_self]; rfl) (by simp [hal]) ?_
    rw [hsn]
    refine SubI.ren (fun m => if m = 0 then some 3 else none) ?_ ?_ ?_ (by simp) (by simp)
    · simp (disch := omega) [subT, renV, ren1, wrapI]
    · simp [subH, renL, ren1]
    · intro m hm
      simp only at hm
      rw [if_neg (by omega)]
  · have : i = M0.length := by omega
    subst this
    have ht : O.take M0.length = O := List.take_of_length_le (by omega)
    rw [ht]
    simp -implicitDefEqProofs [sc_s_l13Reduce_L0]
    clear inner hoa ht
    generalize hWd : (atR M0 0).length = W at *
    have hW : W ≤ 128 := by
      by_cases h0 : 0 < M0.length
      · rw [← hWd]; exact hrl 0 h0
      · have : M0 = [] := List.length_eq_zero_iff.1 (by omega)
        rw [← hWd, this]; simp [atR]
    generalize hm : M0.length = m at *
    clear heq hrl hm
    have inv := fun (j : Nat) => redI_all hp hok j
    refine loopQ env mixed (fun j : Nat => [(1, .int .i64 p), (6, .sl 0 1 0 m), (10, .sl 1 1 0 (redS p O j).2.length), (11, .int .i64 (j : Int))]) (fun j => ([(1, ints (redS p O j).2), (0, rowsV (redS p O j).1)], 2)) (fun j => j ≤ W) (fun j => W - j) 0 (by simp) (SubI.slots (by simp [redS]) (by simp [redS])) ?_
    intro j hj
    obtain ⟨hokj, hlj, hpj, _, hsj⟩ := inv j
    have hlm : (redS p O j).1.length = m := by rw [hlj, hol]
    have hstep : redS p O (j + 1) = redC p j (redS p O j) := rfl
    have hstop := fun h => redS_stop (p := p) (M := O) (j := j) h (W - j)
    rw [show j + (W - j) = W by omega] at hstop
    by_cases hm0 : m = 0
    · have e := hstop (by omega)
      rw [e]
      generalize redS p O j = x at *
      obtain ⟨Mj, P⟩ := x
      simp only at hokj hlj hpj hsj hlm
      have hP0 : P = [] := List.length_eq_zero_iff.1 (by omega)
      have hM0 : Mj = [] := List.length_eq_zero_iff.1 (by omega)
      subst hm0 hP0 hM0
      simp -implicitDefEqProofs [sc_s_l13Reduce_L4]
      refine SubQ.of (l1 := [(6, .sl 0 1 0 0), (10, .sl 1 1 0 0)]) (SubI.slots rfl (by simp)) ?_
      simp -implicitDefEqProofs
    have hmp : 0 < m := by omega
    obtain ⟨h0l, h0e⟩ := hokj 0 (by omega)
    have hself0 := rowsV_self (M := (redS p O j).1) (i := 0) (by omega)
    by_cases hjW : j < W
    rotate_left
    · have : j = W := by omega
      subst this
      generalize redS p O j = x at *
      obtain ⟨Mj, P⟩ := x
      simp only at hokj hlj hpj hsj hlm h0l hself0
      simp -implicitDefEqProofs [sc_s_l13Reduce_L4, hmp, hlm, h0l]
      refine SubQ.of (l1 := [(6, .sl 0 1 0 m), (10, .sl 1 1 0 P.length)]) (s1 := ([(1, ints P), (0, rowsV Mj)], 3)) ?_ ?_
      · refine SubI.fold 0 2 0 1 j (cn := ints (atR Mj 0)) (co := (rowsV Mj).set 0 (.sl 2 1 0 j)) rfl rfl (by simp [hlm, hmp]) (by simp [h0l]) ?_
        exact SubI.slots (by simp [hself0]) (by simp)
      · have htk : Mj.take m = Mj := List.take_of_length_le (by omega)
        simp -implicitDefEqProofs [htk]
        try omega
    by_cases hfull : (redS p O j).2.length = m
    · have e := hstop (by rw [hfull, hlm])
      rw [e]
      generalize redS p O j = x at *
      obtain ⟨Mj, P⟩ := x
      simp only at hokj hlj hpj hsj hlm hfull h0l hself0
      simp -implicitDefEqProofs [sc_s_l13Reduce_L4, hmp, hlm, h0l, hjW, hfull]
      refine SubQ.of (l1 := [(6, .sl 0 1 0 m), (10, .sl 1 1 0 m)]) (s1 := ([(1, ints P), (0, rowsV Mj)], 3)) ?_ ?_
      · refine SubI.fold 0 2 0 1 W (cn := ints (atR Mj 0)) (co := (rowsV Mj).set 0 (.sl 2 1 0 W)) rfl rfl (by simp [hlm, hmp]) (by simp [h0l]) ?_
        exact SubI.slots (by simp [hself0]) (by simp)
      · have htk : Mj.take m = Mj := List.take_of_length_le (by omega)
        have htk2 : P.take m = P := List.take_of_length_le (by omega)
        simp -implicitDefEqProofs [htk, htk2]
        try omega
    generalize redS p O j = x at *
    obtain ⟨Mj, P⟩ := x
    simp only at hokj hlj hpj hsj hlm hfull h0l hself0
    have hPm : P.length < m := by omega
    have hfb := fndZ_bnd Mj j (m - P.length) P.length
    have hyes := fun (a : Nat) h1 h2 h3 => redC_yes (p := p) (j := j) (M := Mj) (P := P) (a := a) h1 h2 h3
    have hno := redC_no (p := p) (j := j) (M := Mj) (P := P)
    rw [hlm] at hno
    simp only [hlm] at hyes
    simp -implicitDefEqProofs [sc_s_l13Reduce_L4, hmp, hlm, h0l, hjW, hPm]
    generalize ha : fndZ Mj j (m - P.length) P.length = a at *
    refine loopQ env mixed (fun i : Nat => [(1, .int .i64 p), (6, .sl 0 1 0 m), (10, .sl 1 1 0 P.length), (11, .int .i64 (j : Int)), (12, .int .i64 (P.length : Int)), (13, .int .i64 (i : Int))]) (fun _ => ([(1, ints P), (0, rowsV Mj)], 2)) (fun i => P.length ≤ i ∧ i ≤ m ∧ fndZ Mj j (m - i) i = a) (fun i => m - i) P.length ⟨by omega, by omega, ha⟩ ?_ ?_
    · refine SubI.fold 0 2 0 1 W (cn := ints (atR Mj 0)) (co := (rowsV Mj).set 0 (.sl 2 1 0 W)) rfl rfl (by simp [hlm, hmp]) (by simp [h0l]) ?_
      refine SubI.ren (fun m => if m = 0 then some 0 else if m = 1 then some 1 else none) ?_ ?_ ?_ (by simp) (by simp)
      · simp (disch := omega) [subT, renV, ren1, wrapI]
      · simp [subH, renL, ren1, hself0]
      · intro m hm
        simp only at hm
        rw [if_neg (by omega), if_neg (by omega)]
    rintro i ⟨i1, i2, i3⟩
    by_cases him : i < m
    · obtain ⟨hil, hie⟩ := hokj i (by omega)
      by_cases hz : at0 (atR Mj i) j = 0
      · simp -implicitDefEqProofs [sc_s_l13Reduce_L6, him, hlm, hjW, hil, hz]
        repeat' (first | omega | apply And.intro)
        refine Again.of (i + 1) ⟨by omega, by omega, by rw [← i3, show m - i = (m - (i + 1)) + 1 by omega, fndZ_yes hz]⟩ (by omega) ?_
        refine SubI.fold 0 2 i 1 W (cn := ints (atR Mj i)) (co := (rowsV Mj).set i (.sl 2 1 0 W)) rfl rfl (by simp [hlm, him]) (by simp [hil]) ?_
        have hself := rowsV_self (M := Mj) (i := i) (by omega)
        refine SubI.ren (fun m => if m = 0 then some 0 else if m = 1 then some 1 else none) ?_ ?_ ?_ (by simp) (by simp)
        · simp (disch := omega) [subT, renV, ren1, wrapI]
        · simp [subH, renL, ren1, hself]
        · intro m hm
          simp only at hm
          rw [if_neg (by omega), if_neg (by omega)]
      · have hai : a = i := by rw [← i3, show m - i = (m - (i + 1)) + 1 by omega, fndZ_no hz]
        subst hai
        have hred : redS p O (j + 1) = (pivM p Mj P.length a j, P ++ [(j : Int)]) := by rw [hstep, hyes a rfl hPm him]
        have hne : ¬ ((a : Int) = (m : Int)) := by omega
        have hG : G_s_l13Clear [.sl 0 1 0 m, .int .i64 (P.length : Int), .int .i64 (j : Int), .int .i64 p] (rowsV (swp Mj P.length a)) = some (.sl 0 1 0 m, rowsV (pivM p Mj P.length a j)) := by
          simp only [G_s_l13Clear, dRowsV_rowsV, Option.bind_some]
          rw [if_pos ⟨W, ⟨hp, by simp [hlm], okM_swp hokj (by omega) (by omega), hW, hml⟩, by omega, by omega, by omega, by omega⟩, Int.toNat_natCast, Int.toNat_natCast]
          rfl
        have hpl := pivM_len p Mj P.length a j
        have fin : ∀ (T1 : Tm), True := fun _ => trivial
        simp -implicitDefEqProofs [sc_s_l13Reduce_L6, him, hlm, hjW, hil, hz]
        refine SubQ.of (l1 := [(1, .int .i64 p), (6, .sl 0 1 0 m), (10, .sl 1 1 0 P.length), (11, .int .i64 (j : Int)), (12, .int .i64 (P.length : Int)), (13, .int .i64 (a : Int))]) (SubI.slots rfl (by simp)) ?_
        by_cases had : a = P.length
        · rw [had] at hG hred hil hz hne ⊢
          rw [swp_same (by omega)] at hG
          simp -implicitDefEqProofs [hPm, hlm, hjW, hil, hne]
          have hself := rowsV_self (M := Mj) (i := P.length) (by omega)
          refine ⟨by omega, CutI.of (l' := [(1, .int .i64 p), (6, .sl 0 1 0 m), (10, .sl 1 1 0 P.length), (11, .int .i64 (j : Int)), (12, .int .i64 (P.length : Int))]) (s' := ([(1, ints P), (0, rowsV Mj)], 3)) ?_ ?_⟩
          · refine SubI.fold 0 2 P.length 1 W (cn := ints (atR Mj P.length)) (co := (rowsV Mj).set P.length (.sl 2 1 0 W)) rfl rfl (by simp [hlm, hPm]) (by simp [hil]) ?_
            exact SubI.slots (by simp [hself]) (by simp)
          simp -implicitDefEqProofs [ren0, hG]
          refine ⟨rfl, by omega, ?_⟩
          refine Again.of (j + 1) (by omega) (by omega) (SubI.ren (fun m => if m = 0 then some 0 else if m = 1 then some 4 else none) ?_ ?_ ?_ (by simp) (by simp))
          · rw [hred]
            simp (disch := omega) [subT, renV, ren1, wrapI]
          · rw [hred]
            simp [subH, renL, ren1]
            rw [← ints_app]
            rfl
          · intro m hm
            simp only at hm
            rw [if_neg (by omega), if_neg (by omega)]
        · have hda : P.length ≠ a := fun e => had e.symm
          obtain ⟨hdl, hde⟩ := hokj P.length (by omega)
          simp -implicitDefEqProofs [hPm, him, hlm, hjW, hil, hdl, hne, hda, had]
          refine ⟨by omega, by omega, CutI.of (l' := [(1, .int .i64 p), (6, .sl 0 1 0 m), (10, .sl 1 1 0 P.length), (11, .int .i64 (j : Int)), (12, .int .i64 (P.length : Int))]) (s' := ([(1, ints P), (0, rowsV (swp Mj P.length a))], 4)) ?_ ?_⟩
          · refine SubI.fold 0 3 a 1 W (cn := ints (atR Mj P.length)) (co := ((((rowsV Mj).set a (.sl 2 1 0 W)).set P.length (.sl 3 1 0 W)).set a (.sl 3 1 0 W)).set P.length (.sl 2 1 0 W)) rfl rfl (by simp [hlm, him, hda, had]) (by simp [hdl]) ?_
            refine SubI.fold 0 2 P.length 1 W (cn := ints (atR Mj a)) (co := (((((rowsV Mj).set a (.sl 2 1 0 W)).set P.length (.sl 3 1 0 W)).set a (.sl 3 1 0 W)).set P.length (.sl 2 1 0 W)).set a (.own 1 (ints (atR Mj P.length)))) rfl rfl (by simp [hlm, hPm, hda, had]) (by simp [hil]) ?_
            have hsc := swp_cells2 (M := Mj) hda (.sl 2 1 0 W) (.sl 3 1 0 W)
            exact SubI.slots (by simp [← hsc]) (by simp)
          simp -implicitDefEqProofs [ren0, hG]
          refine ⟨rfl, by omega, ?_⟩
          refine Again.of (j + 1) (by omega) (by omega) (SubI.ren (fun m => if m = 0 then some 0 else if m = 1 then some 5 else none) ?_ ?_ ?_ (by simp) (by simp))
          · rw [hred]
            simp (disch := omega) [subT, renV, ren1, wrapI]
          · rw [hred]
            simp [subH, renL, ren1]
            rw [← ints_app]
            rfl
          · intro m hm
            simp only at hm
            rw [if_neg (by omega), if_neg (by omega)]
    · have hai : a = m := by
        have : i = m := by omega
        rw [← i3, this, Nat.sub_self]
        rfl
      have hred : redS p O (j + 1) = (Mj, P) := by rw [hstep, hno fun h => by omega]
      have : i = m := by omega
      subst this
      simp -implicitDefEqProofs [sc_s_l13Reduce_L6, hlm]
      refine SubQ.of (l1 := [(1, .int .i64 p), (6, .sl 0 1 0 i), (10, .sl 1 1 0 P.length), (11, .int .i64 (j : Int)), (13, .int .i64 (i : Int))]) (SubI.slots rfl (by simp)) ?_
      simp -implicitDefEqProofs
      exact Again.of (j + 1) (by omega) (by omega) (SubI.slots (by simp [hred]) (by simp (disch := omega) [wrapI, hred]))
end Go.Proofs.Ytncnohompmcddaa
