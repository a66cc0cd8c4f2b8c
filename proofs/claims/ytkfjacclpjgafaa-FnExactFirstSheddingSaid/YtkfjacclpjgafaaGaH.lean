import Derived.Test.YtkfjacclpjgafaaGaE
import Derived.Test.YtkfjacclpjgafaaGaG
namespace Go.Proofs.Ytkfjacclpjgafaa
open Go Go.RowKit
set_option maxRecDepth 1000000
set_option linter.unusedSimpArgs false
set_option linter.unusedVariables false
set_option maxHeartbeats 1000000
def sc_i_FirstShedding_L0 : SC := (.seq (.seq (.reg [⟨(some 4), none, (.mov (.t 3))⟩, ⟨(some 5), none, (.bin false .lss (.t 4) (.c (.int .i64 6)))⟩]) (.cond (.t 5) .skip (.exit 0))) (.seq (.block 1 (.seq (.reg [⟨(some 8), none, (.ld (some 2) .undef (.t 1))⟩, ⟨(some 9), none, (.mov (.t 3))⟩, ⟨(some 10), none, (.call 89 [(.t 8), (.t 9)])⟩]) (.cond (.t 10) (.seq (.reg [⟨(some 11), none, (.mov (.t 3))⟩, ⟨(some 2), none, (.mov (.t 11))⟩]) .ret) .skip))) (.reg [⟨(some 6), none, (.mov (.t 3))⟩, ⟨(some 7), none, (.bin false .add (.t 6) (.c (.int .i64 1)))⟩, ⟨(some 3), none, (.mov (.t 7))⟩])))
def sc_i_FirstShedding : SC := (.seq (.reg [⟨(some 1), none, (.box (.t 0))⟩, ⟨(some 2), none, (.mov (.c (.int .i64 0)))⟩]) (.seq (.seq (.reg [⟨(some 3), none, (.mov (.c (.int .i64 0)))⟩]) (.block 0 (.loop sc_i_FirstShedding_L0))) (.seq (.reg [⟨(some 2), none, (.mov (.c (.int .i64 (-1))))⟩]) .ret)))
theorem code_i_FirstShedding : fnCode Try.prog [] 37 = some (12, sc_i_FirstShedding, [(2, none)]) := by kernel_rfl
theorem fn_i_FirstShedding : FnOk Try.prog 37 F_s_FirstShedding := by
  have env := (envNil_ok (P := Try.prog)).add fn_i_IsShedding
  refine fn_ok code_i_FirstShedding mixed env ?_
  intro args r h hb
  obtain ⟨_, ⟨n, l⟩, rfl, h1, h4⟩ := F1_inv h
  cases dC_inv h1
  cases h4
  clear h
  refine ⟨by simp, fun w0 U0 L0 N0 => ?_⟩
  clear hb
  have hhit := fun (m : Nat) hm h1 h2 => fsZ_hit (n := n) (l := l) (m := m) hm h1 h2
  have hnone := fsZ_none (n := n) (l := l)
  generalize fsZ n l = z at *
  simp -implicitDefEqProofs [sc_i_FirstShedding]
  refine loopI env mixed (fun k : Nat => [(1, .pt 0 0), (3, .int .i64 (k : Int))]) (fun _ => ([(0, [.int .i64 n, .list 1 (ints l)])], 1)) (fun k => k ≤ 6 ∧ ∀ i : Nat, i < k → ¬ shdP n l i) (fun k => 6 - k) 0 (by simp) (SubI.slots rfl (by simp)) ?_
  rintro k ⟨hk, hno⟩
  by_cases hlt : k < 6
  · have hlt' : (k : Int) < 6 := by omega
    have hr : inR (k : Int) := ⟨by omega, by omega⟩
    by_cases hs : shdP n l k
    · have hz := hhit k hlt hs hno
      rw [hz]
      have hd := dec_true hs
      simp -implicitDefEqProofs [sc_i_FirstShedding_L0, F_s_IsShedding, hlt', hr, hd]
    · have hd := dec_false hs
      simp -implicitDefEqProofs [sc_i_FirstShedding_L0, F_s_IsShedding, hlt', hr, hd]
      repeat' (first | omega | apply And.intro)
      refine Again.of (k + 1) ⟨by omega, fun i hi => ?_⟩ (by omega) (SubI.slots rfl (by simp (disch := omega) [wrapI]))
      rcases Nat.lt_succ_iff_lt_or_eq.1 hi with h1 | rfl
      · exact hno i h1
      · exact hs
  · have hlt' : ¬ ((k : Int) < 6) := by omega
    have hz := hnone fun i hi h => hno i (by omega) h
    simp -implicitDefEqProofs [sc_i_FirstShedding_L0, hlt', hz]
end Go.Proofs.Ytkfjacclpjgafaa
