import Derived.Test.YtncnohompmcddaaGdA
namespace Go.Proofs.Ytncnohompmcddaa
open Go Go.RowKit
set_option maxRecDepth 1000000
set_option linter.unusedSimpArgs false
set_option linter.unusedVariables false
set_option maxHeartbeats 1000000
def sc_s_l16Times_L2 : SC := (.seq (.seq (.reg [⟨(some 18), none, (.mov (.t 10))⟩, ⟨(some 19), none, (.mov (.t 1))⟩, ⟨(some 20), none, (.len (.t 19))⟩, ⟨(some 21), none, (.bin false .lss (.t 18) (.t 20))⟩, ⟨(some 22), none, (.mov (.t 21))⟩, ⟨(some 23), (some (22, true)), (.mov (.t 10))⟩, ⟨(some 24), (some (22, true)), (.mov (.t 0))⟩, ⟨(some 25), (some (22, true)), (.mov (.t 8))⟩, ⟨(some 26), (some (22, true)), (.idx 1 (.t 24) (.t 25))⟩, ⟨(some 27), (some (22, true)), (.ld none .nil (.t 26))⟩, ⟨(some 28), (some (22, true)), (.len (.t 27))⟩, ⟨(some 29), (some (22, true)), (.bin false .lss (.t 23) (.t 28))⟩, ⟨(some 30), none, (.pick (.t 22) (.t 29) (.c (.bool false)))⟩]) (.cond (.t 30) .skip (.exit 2))) (.seq (.block 3 (.dreg [⟨⟨(some 33), none, (.mov (.t 9))⟩, false, false⟩, ⟨⟨(some 34), none, (.mov (.t 0))⟩, false, false⟩, ⟨⟨(some 35), none, (.mov (.t 8))⟩, false, false⟩, ⟨⟨(some 36), none, (.idx 1 (.t 34) (.t 35))⟩, false, false⟩, ⟨⟨(some 37), none, (.ld none .nil (.t 36))⟩, false, false⟩, ⟨⟨(some 38), none, (.mov (.t 10))⟩, false, false⟩, ⟨⟨(some 39), none, (.idx 1 (.t 37) (.t 38))⟩, false, false⟩, ⟨⟨(some 40), none, (.ld none (.int .i64 0) (.t 39))⟩, false, false⟩, ⟨⟨(some 41), none, (.mov (.t 1))⟩, false, false⟩, ⟨⟨(some 42), none, (.mov (.t 10))⟩, false, false⟩, ⟨⟨(some 43), none, (.idx 1 (.t 41) (.t 42))⟩, false, false⟩, ⟨⟨(some 44), none, (.ld none (.int .i64 0) (.t 43))⟩, false, false⟩, ⟨⟨(some 45), none, (.bin false .mul (.t 40) (.t 44))⟩, false, false⟩, ⟨⟨(some 46), none, (.bin false .add (.t 33) (.t 45))⟩, false, false⟩, ⟨⟨(some 9), none, (.mov (.t 46))⟩, false, false⟩])) (.reg [⟨(some 31), none, (.mov (.t 10))⟩, ⟨(some 32), none, (.bin false .add (.t 31) (.c (.int .i64 1)))⟩, ⟨(some 10), none, (.mov (.t 32))⟩])))
def sc_s_l16Times_L0 : SC := (.seq (.seq (.reg [⟨(some 12), none, (.mov (.t 8))⟩, ⟨(some 13), none, (.mov (.t 0))⟩, ⟨(some 14), none, (.len (.t 13))⟩, ⟨(some 15), none, (.bin false .lss (.t 12) (.t 14))⟩]) (.cond (.t 15) .skip (.exit 0))) (.seq (.block 1 (.seq (.reg [⟨(some 9), none, (.mov (.c (.int .i64 0)))⟩]) (.seq (.seq (.reg [⟨(some 10), none, (.mov (.c (.int .i64 0)))⟩]) (.block 2 (.loop sc_s_l16Times_L2))) (.reg [⟨(some 47), none, (.mov (.t 7))⟩, ⟨(some 48), none, (.mov (.t 9))⟩, ⟨(some 49), none, (.mov (.t 2))⟩, ⟨(some 50), none, (.call 55 [(.t 48), (.t 49)])⟩, ⟨(some 51), none, (.mks 1 1 [(.int .i64 0)] [(0, (1, (.t 50)))])⟩, ⟨(some 52), none, (.app 1 8 (.t 47) (.t 51))⟩, ⟨(some 7), none, (.mov (.t 52))⟩])))) (.reg [⟨(some 16), none, (.mov (.t 8))⟩, ⟨(some 17), none, (.bin false .add (.t 16) (.c (.int .i64 1)))⟩, ⟨(some 8), none, (.mov (.t 17))⟩])))
def sc_s_l16Times : SC := (.seq (.reg [⟨(some 6), none, (.mov (.c .nil))⟩]) (.seq (.reg [⟨(some 11), none, (.mks 0 1 [] [])⟩, ⟨(some 7), none, (.mov (.t 11))⟩]) (.seq (.seq (.reg [⟨(some 8), none, (.mov (.c (.int .i64 0)))⟩]) (.block 0 (.loop sc_s_l16Times_L0))) (.seq (.reg [⟨(some 53), none, (.mov (.t 7))⟩, ⟨(some 6), none, (.mov (.t 53))⟩]) .ret))))
theorem rowsL_drop0 {M : List (List Int)} {i : Nat} (h : i < M.length) (d : V) : (rowsL (M.drop i))[0]?.getD d = .list 1 (ints (atR M i)) := by
  rw [rowsL, List.getElem?_map, List.getElem?_drop, Nat.add_zero, List.getElem?_eq_getElem h, atR_eq h]
  rfl
/-- A matrix times a list, modulo p. -/
def bocL (M : List (List Int)) (x : List Int) (p : Int) : List Int := M.map fun r => dotK r x x.length % p
@[simp] theorem bocL_len (M : List (List Int)) (x : List Int) (p : Int) : (bocL M x p).length = M.length := by simp [bocL]
theorem bocL_at {M : List (List Int)} {i : Nat} (h : i < M.length) (x : List Int) (p : Int) : at0 (bocL M x p) i = dotK (atR M i) x x.length % p := by
  rw [at0_eq (by simpa using h), atR_eq h]
  simp [bocL]
def matP (M : List (List Int)) (x : List Int) (p : Int) : Prop := fpP p ∧ inP p x ∧ ∀ i, i < M.length → (atR M i).length = x.length ∧ ∀ j, j < x.length → -1 ≤ at0 (atR M i) j ∧ at0 (atR M i) j ≤ 1
noncomputable def F_s_l16Times : List V → Option V := F3 dLL dL dI fun M x p => @ite _ (matP M x p ∧ M.length ≤ 64 ∧ x.length ≤ 64) (Classical.propDecidable _) (some (.own 1 (ints (bocL M x p)))) none
end Go.Proofs.Ytncnohompmcddaa
