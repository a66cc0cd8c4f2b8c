import Derived.Test.YtncnohompmcddaaGdA
namespace Go.Proofs.Ytncnohompmcddaa
open Go Go.RowKit
set_option maxRecDepth 1000000
set_option linter.unusedSimpArgs false
set_option linter.unusedVariables false
set_option maxHeartbeats 1000000
def sc_i_borderOf_L2 : SC := (.seq (.reg [⟨(some 29), none, (.bin false .lss (.t 28) (.t 27))⟩]) (.seq (.cond (.t 29) .skip (.exit 2)) (.seq (.block 3 (.seq (.reg [⟨(some 30), none, (.mov (.t 28))⟩, ⟨(some 31), none, (.idx 1 (.t 26) (.t 28))⟩, ⟨(some 32), none, (.ld none (.int .i64 0) (.t 31))⟩, ⟨(some 8), none, (.mov (.t 30))⟩, ⟨(some 9), none, (.mov (.t 32))⟩]) (.dreg [⟨⟨(some 33), none, (.mov (.t 5))⟩, false, false⟩, ⟨⟨(some 34), none, (.mov (.t 6))⟩, false, false⟩, ⟨⟨(some 35), none, (.idx 1 (.t 33) (.t 34))⟩, false, false⟩, ⟨⟨(some 36), none, (.ld none .nil (.t 35))⟩, false, false⟩, ⟨⟨(some 37), none, (.mov (.t 8))⟩, false, false⟩, ⟨⟨(some 38), none, (.mov (.t 7))⟩, false, false⟩, ⟨⟨(some 39), none, (.mov (.t 9))⟩, false, false⟩, ⟨⟨(some 40), none, (.call 104 [(.t 38), (.t 39)])⟩, false, false⟩, ⟨⟨(some 41), none, (.idx 1 (.t 36) (.t 37))⟩, false, false⟩, ⟨⟨none, none, (.st 1 (.t 41) (.t 40))⟩, true, false⟩]))) (.reg [⟨(some 42), none, (.bin false .add (.t 28) (.c (.int .i64 1)))⟩, ⟨(some 28), none, (.mov (.t 42))⟩]))))
def sc_i_borderOf_L0 : SC := (.seq (.reg [⟨(some 16), none, (.bin false .lss (.t 15) (.t 14))⟩]) (.seq (.cond (.t 16) .skip (.exit 0)) (.seq (.block 1 (.seq (.reg [⟨(some 17), none, (.mov (.t 15))⟩, ⟨(some 18), none, (.idx 1 (.t 13) (.t 15))⟩, ⟨(some 19), none, (.ld none (.int .i64 0) (.t 18))⟩, ⟨(some 6), none, (.mov (.t 17))⟩, ⟨(some 7), none, (.mov (.t 19))⟩]) (.seq (.reg [⟨(some 20), none, (.mov (.t 5))⟩, ⟨(some 21), none, (.mov (.t 6))⟩, ⟨(some 22), none, (.mov (.t 1))⟩, ⟨(some 23), none, (.len (.t 22))⟩, ⟨(some 24), none, (.mk 1 8 [(.int .i64 0)] (.t 23) (.t 23))⟩, ⟨(some 25), none, (.idx 1 (.t 20) (.t 21))⟩, ⟨none, none, (.st 1 (.t 25) (.t 24))⟩]) (.seq (.reg [⟨(some 26), none, (.mov (.t 1))⟩, ⟨(some 27), none, (.len (.t 26))⟩, ⟨(some 28), none, (.mov (.c (.int .i64 0)))⟩]) (.block 2 (.loop sc_i_borderOf_L2)))))) (.reg [⟨(some 43), none, (.bin false .add (.t 15) (.c (.int .i64 1)))⟩, ⟨(some 15), none, (.mov (.t 43))⟩]))))
def sc_i_borderOf : SC := (.seq (.reg [⟨(some 4), none, (.mov (.c .nil))⟩]) (.seq (.reg [⟨(some 10), none, (.mov (.t 0))⟩, ⟨(some 11), none, (.len (.t 10))⟩, ⟨(some 12), none, (.mk 1 24 [.nil] (.t 11) (.t 11))⟩, ⟨(some 5), none, (.mov (.t 12))⟩]) (.seq (.seq (.reg [⟨(some 13), none, (.mov (.t 0))⟩, ⟨(some 14), none, (.len (.t 13))⟩, ⟨(some 15), none, (.mov (.c (.int .i64 0)))⟩]) (.block 0 (.loop sc_i_borderOf_L0))) (.seq (.reg [⟨(some 44), none, (.mov (.t 5))⟩, ⟨(some 4), none, (.mov (.t 44))⟩]) .ret))))
theorem code_i_borderOf : fnCode Try.prog [] 80 = some (45, sc_i_borderOf, [(4, none)]) := by kernel_rfl
noncomputable def F_i_borderOf : List V → Option V := F2 dL dL fun R C => @ite _ ((∀ r ∈ R, ∀ s ∈ C, isS r ∧ isS s ∧ sz s = sz r + 1) ∧ R.length ≤ 64 ∧ C.length ≤ 64) (Classical.propDecidable _) (some (.own 1 (rowsV (sgnM R C)))) none
theorem fn_i_borderOf : FnOk Try.prog 80 F_i_borderOf := by
  have env := (envNil_ok (P := Try.prog)).add fn_i_borderSign
  refine fn_ok code_i_borderOf mixed env ?_
  intro args r h hb
  obtain ⟨_, _, R, C, rfl, h1, h2, h4⟩ := F2_inv h
  cases dL_inv h1
  cases dL_inv h2
  simp only [Option.ite_none_right_eq_some, Option.some.injEq] at h4
  obtain ⟨⟨hRC, hRl, hCl⟩, rfl⟩ := h4
  clear h
  refine ⟨by simp, fun w0 U0 L0 N0 => ?_⟩
  clear hb
  have hml := sgnM_len R C
  have hma := fun (i : Nat) (hi : i < R.length) => sgnM_at (C := C) hi
  generalize sgnM R C = M at *
  simp -implicitDefEqProofs [sc_i_borderOf]
  repeat' (first | omega | apply And.intro)
  have inner : ∀ (i : Nat) (Q : Post) (T0 : Tm), i < R.length → subE T0 [(1, .list 1 (ints C)), (5, .sl 0 1 0 R.length), (6, .int .i64 (i : Int)), (7, .int .i64 (at0 R i)), (13, .list 1 (ints R)), (14, .int .i64 (R.length : Int)), (15, .int .i64 (i : Int)), (26, .list 1 (ints C)), (27, .int .i64 (C.length : Int)), (28, .int .i64 0)] →
      Q (.exit 2) [(1, .list 1 (ints C)), (5, .sl 0 1 0 R.length), (13, .list 1 (ints R)), (14, .int .i64 (R.length : Int)), (15, .int .i64 (i : Int))] ([(0, rowsV (padR M (i + 1)))], 1) →
      LoopI ⟨Try.prog, w0, U0, L0, N0, 0, 45⟩ [] sc_i_borderOf_L2 Q T0 ([(1, ints (sgR (at0 R i) C 0)), (0, (rowsV (padR M i)).set i (.sl 1 1 0 C.length))], 2) := by
    intro i Q T0 hi hsub q1
    have hiM : i < M.length := by omega
    refine loopQ env mixed (fun j : Nat => [(1, .list 1 (ints C)), (5, .sl 0 1 0 R.length), (6, .int .i64 (i : Int)), (7, .int .i64 (at0 R i)), (13, .list 1 (ints R)), (14, .int .i64 (R.length : Int)), (15, .int .i64 (i : Int)), (26, .list 1 (ints C)), (27, .int .i64 (C.length : Int)), (28, .int .i64 (j : Int))]) (fun j => ([(1, ints (sgR (at0 R i) C j)), (0, (rowsV (padR M i)).set i (.sl 1 1 0 C.length))], 2)) (fun j => j ≤ C.length) (fun j => C.length - j) 0 (by simp) (SubI.slots rfl (by simpa using hsub)) ?_
    intro j hj
    by_cases hlt : j < C.length
    · obtain ⟨c1, c2, c3⟩ := hRC _ (getD_mem' hi) _ (getD_mem' hlt)
      have hF : F_s_l13Sign [.int .i64 (at0 R i), .int .i64 (at0 C j)] = some (.int .i64 (sgnZ (at0 R i) (at0 C j))) := by
        simp only [F_s_l13Sign, F2_mk, dI_int, Option.bind_some]
        rw [if_pos ⟨c1, c2, c3⟩]
      have hset := sgR_set (r := at0 R i) hlt
      have hgl := sgR_len (at0 R i) C j
      generalize sgR (at0 R i) C j = g at *
      simp -implicitDefEqProofs [sc_i_borderOf_L2, hF, hlt, hi, hml, hgl, hset]
      repeat' (first | omega | apply And.intro)
      exact Again.of (j + 1) (by omega) (by omega) (SubI.slots (by simp) (by simp (disch := omega) [wrapI]))
    · have : j = C.length := by omega
      subst this
      have hfu := sgR_full (at0 R i) C
      rw [← hma i hi] at hfu
      have hps := padR_set hiM
      have hal : (atR M i).length = C.length := by rw [hma i hi]; simp
      rw [hfu]
      simp -implicitDefEqProofs [sc_i_borderOf_L2]
      refine SubQ.of ?_ q1
      refine SubI.fold 0 1 i 1 C.length (cn := ints (atR M i)) (co := (rowsV (padR M i)).set i (.sl 1 1 0 C.length)) (by simp) (by simp) (by simp [hiM]) (by simp [hal]) ?_
      refine SubI.ren (fun m => if m = 0 then some 0 else none) ?_ ?_ ?_ (by simp) (by simp)
      · simp [subT, renV, ren1]
      · simp [subH, hps]
      · intro m hm
        simp only at hm
        rw [if_neg (by omega)]
  refine loopI env mixed (fun i : Nat => [(1, .list 1 (ints C)), (5, .sl 0 1 0 R.length), (13, .list 1 (ints R)), (14, .int .i64 (R.length : Int)), (15, .int .i64 (i : Int))]) (fun i => ([(0, rowsV (padR M i))], 1)) (fun i => i ≤ R.length) (fun i => R.length - i) 0 (by simp) (SubI.nilAll 0 1 (by simp; rfl) (by simp) (SubI.slots (by simp [padR_zero, rowsV, hml]) (by simp))) ?_
  intro i hi
  by_cases hlt : i < R.length
  · have hin := inner i
    have hz := sgR_zero (at0 R i) C
    simp -implicitDefEqProofs [sc_i_borderOf_L0, hlt, hml]
    rw [← hz]
    refine ⟨by omega, ⟨by omega, by omega⟩, by omega, ?_⟩
    refine hin _ _ hlt (by simp) ?_
    simp -implicitDefEqProofs
    exact Again.of (i + 1) (by omega) (by omega) (SubI.slots (by simp) (by simp (disch := omega) [wrapI]))
  · have : i = R.length := by omega
    subst this
    have hpf : padR M R.length = M := by rw [← hml, padR_full]
    have ht : M.take R.length = M := List.take_of_length_le (by omega)
    simp -implicitDefEqProofs [sc_i_borderOf_L0, hpf, ht]
    try omega
end Go.Proofs.Ytncnohompmcddaa
