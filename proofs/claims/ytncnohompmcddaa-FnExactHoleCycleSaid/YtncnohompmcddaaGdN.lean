import Derived.Test.YtncnohompmcddaaGdM
import Derived.Test.YtncnohompmcddaaGdD
namespace Go.Proofs.Ytncnohompmcddaa
open Go Go.RowKit
set_option maxRecDepth 1000000
set_option linter.unusedSimpArgs false
set_option linter.unusedVariables false
set_option maxHeartbeats 1000000
def sc_i_modMatrix_L2 : SC := (.seq (.reg [⟨(some 29), none, (.bin false .lss (.t 28) (.t 27))⟩]) (.seq (.cond (.t 29) .skip (.exit 2)) (.seq (.block 3 (.seq (.reg [⟨(some 30), none, (.mov (.t 28))⟩, ⟨(some 31), none, (.idx 1 (.t 26) (.t 28))⟩, ⟨(some 32), none, (.ld none (.int .i64 0) (.t 31))⟩, ⟨(some 8), none, (.mov (.t 30))⟩, ⟨(some 9), none, (.mov (.t 32))⟩]) (.dreg [⟨⟨(some 33), none, (.mov (.t 5))⟩, false, false⟩, ⟨⟨(some 34), none, (.mov (.t 6))⟩, false, false⟩, ⟨⟨(some 35), none, (.idx 1 (.t 33) (.t 34))⟩, false, false⟩, ⟨⟨(some 36), none, (.ld none .nil (.t 35))⟩, false, false⟩, ⟨⟨(some 37), none, (.mov (.t 8))⟩, false, false⟩, ⟨⟨(some 38), none, (.mov (.t 9))⟩, false, false⟩, ⟨⟨(some 39), none, (.mov (.t 1))⟩, false, false⟩, ⟨⟨(some 40), none, (.call 61 [(.t 38), (.t 39)])⟩, false, false⟩, ⟨⟨(some 41), none, (.idx 1 (.t 36) (.t 37))⟩, false, false⟩, ⟨⟨none, none, (.st 1 (.t 41) (.t 40))⟩, true, false⟩]))) (.reg [⟨(some 42), none, (.bin false .add (.t 28) (.c (.int .i64 1)))⟩, ⟨(some 28), none, (.mov (.t 42))⟩]))))
def sc_i_modMatrix_L0 : SC := (.seq (.reg [⟨(some 16), none, (.bin false .lss (.t 15) (.t 14))⟩]) (.seq (.cond (.t 16) .skip (.exit 0)) (.seq (.block 1 (.seq (.reg [⟨(some 17), none, (.mov (.t 15))⟩, ⟨(some 18), none, (.idx 1 (.t 13) (.t 15))⟩, ⟨(some 19), none, (.ld none .nil (.t 18))⟩, ⟨(some 6), none, (.mov (.t 17))⟩, ⟨(some 7), none, (.mov (.t 19))⟩]) (.seq (.reg [⟨(some 20), none, (.mov (.t 5))⟩, ⟨(some 21), none, (.mov (.t 6))⟩, ⟨(some 22), none, (.mov (.t 7))⟩, ⟨(some 23), none, (.len (.t 22))⟩, ⟨(some 24), none, (.mk 1 8 [(.int .i64 0)] (.t 23) (.t 23))⟩, ⟨(some 25), none, (.idx 1 (.t 20) (.t 21))⟩, ⟨none, none, (.st 1 (.t 25) (.t 24))⟩]) (.seq (.reg [⟨(some 26), none, (.mov (.t 7))⟩, ⟨(some 27), none, (.len (.t 26))⟩, ⟨(some 28), none, (.mov (.c (.int .i64 0)))⟩]) (.block 2 (.loop sc_i_modMatrix_L2)))))) (.reg [⟨(some 43), none, (.bin false .add (.t 15) (.c (.int .i64 1)))⟩, ⟨(some 15), none, (.mov (.t 43))⟩]))))
def sc_i_modMatrix : SC := (.seq (.reg [⟨(some 4), none, (.mov (.c .nil))⟩]) (.seq (.reg [⟨(some 10), none, (.mov (.t 0))⟩, ⟨(some 11), none, (.len (.t 10))⟩, ⟨(some 12), none, (.mk 1 24 [.nil] (.t 11) (.t 11))⟩, ⟨(some 5), none, (.mov (.t 12))⟩]) (.seq (.seq (.reg [⟨(some 13), none, (.mov (.t 0))⟩, ⟨(some 14), none, (.len (.t 13))⟩, ⟨(some 15), none, (.mov (.c (.int .i64 0)))⟩]) (.block 0 (.loop sc_i_modMatrix_L0))) (.seq (.reg [⟨(some 44), none, (.mov (.t 5))⟩, ⟨(some 4), none, (.mov (.t 44))⟩]) .ret))))
theorem code_i_modMatrix : fnCode Try.prog [] 58 = some (45, sc_i_modMatrix, [(4, none)]) := by kernel_rfl
theorem fn_i_modMatrix : FnOk Try.prog 58 F_i_modMatrix := by
  have env := (envNil_ok (P := Try.prog)).add fn_i_restMod
  refine fn_ok code_i_modMatrix mixed env ?_
  intro args r h hb
  obtain ⟨_, _, M, p, rfl, h1, h2, h4⟩ := F2_inv h
  cases dLL_inv h1
  cases dI_inv h2
  simp only [Option.ite_none_right_eq_some, Option.some.injEq] at h4
  obtain ⟨⟨hp, hml, hrl⟩, rfl⟩ := h4
  clear h
  refine ⟨by simp, fun w0 U0 L0 N0 => ?_⟩
  clear hb
  have hFm := fn_restMod_at hp
  have hol := modM_len p M
  have hoa := fun (i : Nat) (hi : i < M.length) => modM_at (p := p) hi
  generalize modM p M = O at *
  simp -implicitDefEqProofs [sc_i_modMatrix]
  repeat' (first | omega | apply And.intro)
  have inner : ∀ (i : Nat) (Q : Post) (T0 : Tm), i < M.length → subE T0 [(1, .int .i64 p), (5, .sl 0 1 0 M.length), (6, .int .i64 (i : Int)), (13, .list 1 (rowsL M)), (14, .int .i64 (M.length : Int)), (15, .int .i64 (i : Int)), (26, .list 1 (ints (atR M i))), (27, .int .i64 ((atR M i).length : Int)), (28, .int .i64 0)] →
      Q (.exit 2) [(1, .int .i64 p), (5, .sl 0 1 0 M.length), (13, .list 1 (rowsL M)), (14, .int .i64 (M.length : Int)), (15, .int .i64 (i : Int))] ([(0, rowsV (padR O (i + 1)))], 1) →
      LoopI ⟨Try.prog, w0, U0, L0, N0, 0, 45⟩ [] sc_i_modMatrix_L2 Q T0 ([(1, ints (zK (atR M i).length (fun j => at0 (atR M i) j % p) 0)), (0, (rowsV (padR O i)).set i (.sl 1 1 0 (atR M i).length))], 2) := by
    intro i Q T0 hi hsub q1
    have hiO : i < O.length := by omega
    have hri := hrl i hi
    refine loopQ env mixed (fun j : Nat => [(1, .int .i64 p), (5, .sl 0 1 0 M.length), (6, .int .i64 (i : Int)), (13, .list 1 (rowsL M)), (14, .int .i64 (M.length : Int)), (15, .int .i64 (i : Int)), (26, .list 1 (ints (atR M i))), (27, .int .i64 ((atR M i).length : Int)), (28, .int .i64 (j : Int))]) (fun j => ([(1, ints (zK (atR M i).length (fun j => at0 (atR M i) j % p) j)), (0, (rowsV (padR O i)).set i (.sl 1 1 0 (atR M i).length))], 2)) (fun j => j ≤ (atR M i).length) (fun j => (atR M i).length - j) 0 (by simp) (SubI.slots rfl (by simpa using hsub)) ?_
    intro j hj
    by_cases hlt : j < (atR M i).length
    · have hset : (zK (atR M i).length (fun j => at0 (atR M i) j % p) j).set j (at0 (atR M i) j % p) = zK (atR M i).length (fun j => at0 (atR M i) j % p) (j + 1) := zK_set (g := fun j => at0 (atR M i) j % p) hlt
      have hgl := zK_len (atR M i).length (fun j => at0 (atR M i) j % p) j
      generalize zK (atR M i).length (fun j => at0 (atR M i) j % p) j = g at *
      simp -implicitDefEqProofs [sc_i_modMatrix_L2, hFm, hlt, hi, hol, hgl, hset]
      repeat' (first | omega | apply And.intro)
      exact Again.of (j + 1) (by omega) (by omega) (SubI.slots (by simp) (by simp (disch := omega) [wrapI]))
    · have : j = (atR M i).length := by omega
      subst this
      have hfu := zK_full (atR M i).length (fun j => at0 (atR M i) j % p)
      rw [← hoa i hi] at hfu
      have hps := padR_set hiO
      have hal : (atR O i).length = (atR M i).length := by rw [hoa i hi]; simp
      rw [hfu]
      simp -implicitDefEqProofs [sc_i_modMatrix_L2]
      refine SubQ.of ?_ q1
      refine SubI.fold 0 1 i 1 (atR M i).length (cn := ints (atR O i)) (co := (rowsV (padR O i)).set i (.sl 1 1 0 (atR M i).length)) (by simp) (by simp) (by simp [hiO]) (by simp [hal]) ?_
      refine SubI.ren (fun m => if m = 0 then some 0 else none) ?_ ?_ ?_ (by simp) (by simp)
      · simp [subT, renV, ren1]
      · simp [subH, hps]
      · intro m hm
        simp only at hm
        rw [if_neg (by omega)]
  refine loopI env mixed (fun i : Nat => [(1, .int .i64 p), (5, .sl 0 1 0 M.length), (13, .list 1 (rowsL M)), (14, .int .i64 (M.length : Int)), (15, .int .i64 (i : Int))]) (fun i => ([(0, rowsV (padR O i))], 1)) (fun i => i ≤ M.length) (fun i => M.length - i) 0 (by simp) (SubI.nilAll 0 1 (by simp; rfl) (by simp) (SubI.slots (by simp [padR_zero, rowsV, hol]) (by simp))) ?_
  intro i hi
  by_cases hlt : i < M.length
  · have hin := inner i
    have hri := hrl i hlt
    have hd0 := rowsL_drop0 hlt .nil
    have hz := zK_zero (atR M i).length (fun j => at0 (atR M i) j % p)
    simp -implicitDefEqProofs [sc_i_modMatrix_L0, hlt, hol, hd0]
    rw [← hz]
    repeat' (first | omega | apply And.intro)
    refine hin _ _ hlt (by simp) ?_
    simp -implicitDefEqProofs
    exact Again.of (i + 1) (by omega) (by omega) (SubI.slots (by simp) (by simp (disch := omega) [wrapI]))
  · have : i = M.length := by omega
    subst this
    have hpf : padR O M.length = O := by rw [← hol, padR_full]
    have ht : O.take M.length = O := List.take_of_length_le (by omega)
    simp -implicitDefEqProofs [sc_i_modMatrix_L0, hpf, ht]
    try omega
end Go.Proofs.Ytncnohompmcddaa
