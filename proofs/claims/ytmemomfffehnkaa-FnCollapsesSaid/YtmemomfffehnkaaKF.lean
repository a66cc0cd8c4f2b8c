import Derived.Test.YtmemomfffehnkaaKD
import Derived.Test.YtmemomfffehnkaaKC
namespace Go.Proofs.Ytmemomfffehnkaa
open Go Go.RowKit
set_option maxRecDepth 1000000
set_option linter.unusedSimpArgs false
set_option linter.unusedVariables false
set_option maxHeartbeats 1000000
def sc_l_szIntS : SC := (.seq (.reg [⟨(some 4), none, (.mov (.c (.int .i64 0)))⟩]) (.seq (.reg [⟨(some 5), none, (.mov (.t 1))⟩, ⟨(some 6), none, (.mov (.t 0))⟩, ⟨(some 7), none, (.len (.t 6))⟩, ⟨(some 8), none, (.bin false .sub (.t 5) (.t 7))⟩, ⟨(some 1), none, (.mov (.t 8))⟩]) (.seq (.seq (.reg [⟨(some 9), none, (.mov (.t 1))⟩, ⟨(some 10), none, (.bin false .lss (.t 9) (.c (.int .i64 0)))⟩]) (.cond (.t 10) (.seq (.reg [⟨(some 4), none, (.mov (.c (.int .i64 (-1))))⟩]) .ret) .skip)) (.seq (.reg [⟨(some 11), none, (.mov (.t 1))⟩, ⟨(some 4), none, (.mov (.t 11))⟩]) .ret))))
/-- What is left of a bound. -/
def leftOf (len : Nat) (left : Int) : Int := if left < len then -1 else left - len
def F_l_szIntS : List V → Option V := F2 dL dI fun l n => if 0 ≤ n ∧ n ≤ 1048576 then some (.int .i64 (leftOf l.length n)) else none
def F_l_szComplex : List V → Option V := F2 dC dI fun c n => if 0 ≤ n ∧ n ≤ 1048576 then some (.int .i64 (leftOf c.2.length n)) else none
def sc_l_toIntS_L0 : SC := (.seq (.seq (.reg [⟨(some 8), none, (.mov (.t 4))⟩, ⟨(some 9), none, (.mov (.t 0))⟩, ⟨(some 10), none, (.len (.t 9))⟩, ⟨(some 11), none, (.bin false .lss (.t 8) (.t 10))⟩]) (.cond (.t 11) .skip (.exit 0))) (.seq (.block 1 (.reg [⟨(some 14), none, (.mov (.t 3))⟩, ⟨(some 15), none, (.mov (.t 4))⟩, ⟨(some 16), none, (.mov (.t 0))⟩, ⟨(some 17), none, (.mov (.t 4))⟩, ⟨(some 18), none, (.idx 1 (.t 16) (.t 17))⟩, ⟨(some 19), none, (.ld none (.int .i64 0) (.t 18))⟩, ⟨(some 20), none, (.idx 1 (.t 14) (.t 15))⟩, ⟨none, none, (.st 1 (.t 20) (.t 19))⟩])) (.reg [⟨(some 12), none, (.mov (.t 4))⟩, ⟨(some 13), none, (.bin false .add (.t 12) (.c (.int .i64 1)))⟩, ⟨(some 4), none, (.mov (.t 13))⟩])))
def sc_l_toIntS : SC := (.seq (.reg [⟨(some 2), none, (.mov (.c .nil))⟩]) (.seq (.reg [⟨(some 5), none, (.mov (.t 0))⟩, ⟨(some 6), none, (.len (.t 5))⟩, ⟨(some 7), none, (.mk 1 8 [(.int .i64 0)] (.t 6) (.t 6))⟩, ⟨(some 3), none, (.mov (.t 7))⟩]) (.seq (.seq (.reg [⟨(some 4), none, (.mov (.c (.int .i64 0)))⟩]) (.block 0 (.loop sc_l_toIntS_L0))) (.seq (.reg [⟨(some 21), none, (.mov (.t 3))⟩, ⟨(some 2), none, (.mov (.t 21))⟩]) .ret))))
def F_l_toIntS : List V → Option V := F1 dL fun l => if l.length ≤ 1048576 then some (.own 1 (ints l)) else none
def F_l_toComplex : List V → Option V := F1 dC fun c => if c.2.length ≤ 1048576 then some (.agg [.int .i64 c.1, .own 1 (ints c.2)]) else none
def sc_l_eqIntS_L0 : SC := (.seq (.seq (.reg [⟨(some 11), none, (.mov (.t 5))⟩, ⟨(some 12), none, (.mov (.t 0))⟩, ⟨(some 13), none, (.len (.t 12))⟩, ⟨(some 14), none, (.bin false .lss (.t 11) (.t 13))⟩]) (.cond (.t 14) .skip (.exit 0))) (.seq (.block 1 (.seq (.dreg [⟨⟨(some 17), none, (.mov (.t 0))⟩, false, false⟩, ⟨⟨(some 18), none, (.mov (.t 5))⟩, false, false⟩, ⟨⟨(some 19), none, (.idx 1 (.t 17) (.t 18))⟩, false, false⟩, ⟨⟨(some 20), none, (.ld none (.int .i64 0) (.t 19))⟩, false, false⟩, ⟨⟨(some 21), none, (.mov (.t 1))⟩, false, false⟩, ⟨⟨(some 22), none, (.mov (.t 5))⟩, false, false⟩, ⟨⟨(some 23), none, (.idx 1 (.t 21) (.t 22))⟩, false, false⟩, ⟨⟨(some 24), none, (.ld none (.int .i64 0) (.t 23))⟩, false, false⟩, ⟨⟨(some 25), none, (.bin false .neq (.t 20) (.t 24))⟩, false, false⟩]) (.cond (.t 25) (.seq (.reg [⟨(some 4), none, (.mov (.c (.bool false)))⟩]) .ret) .skip))) (.reg [⟨(some 15), none, (.mov (.t 5))⟩, ⟨(some 16), none, (.bin false .add (.t 15) (.c (.int .i64 1)))⟩, ⟨(some 5), none, (.mov (.t 16))⟩])))
def sc_l_eqIntS : SC := (.seq (.reg [⟨(some 4), none, (.mov (.c (.bool false)))⟩]) (.seq (.seq (.reg [⟨(some 6), none, (.mov (.t 0))⟩, ⟨(some 7), none, (.len (.t 6))⟩, ⟨(some 8), none, (.mov (.t 1))⟩, ⟨(some 9), none, (.len (.t 8))⟩, ⟨(some 10), none, (.bin false .neq (.t 7) (.t 9))⟩]) (.cond (.t 10) (.seq (.reg [⟨(some 4), none, (.mov (.c (.bool false)))⟩]) .ret) .skip)) (.seq (.seq (.reg [⟨(some 5), none, (.mov (.c (.int .i64 0)))⟩]) (.block 0 (.loop sc_l_eqIntS_L0))) (.seq (.reg [⟨(some 4), none, (.mov (.c (.bool true)))⟩]) .ret))))
def F_l_eqIntS : List V → Option V := F2 dL dL fun a b => some (.bool (decide (a = b)))
def F_l_eqComplex : List V → Option V := F2 dC dC fun a b => some (.bool (decide (a = b)))
end Go.Proofs.Ytmemomfffehnkaa
namespace Go.Proofs.Ytmemomfffehnkaa
open Go Go.RowKit
set_option maxRecDepth 1000000
set_option linter.unusedSimpArgs false
set_option linter.unusedVariables false
set_option maxHeartbeats 1000000
def sc_l_markIntS_L0 : SC := (.seq (.seq (.reg [⟨(some 6), none, (.mov (.t 5))⟩, ⟨(some 7), none, (.mov (.t 0))⟩, ⟨(some 8), none, (.len (.t 7))⟩, ⟨(some 9), none, (.bin false .lss (.t 6) (.t 8))⟩]) (.cond (.t 9) .skip (.exit 0))) (.seq (.block 1 (.seq (.reg [⟨(some 12), none, (.mov (.t 0))⟩, ⟨(some 13), none, (.mov (.t 5))⟩, ⟨(some 14), none, (.mov (.t 1))⟩, ⟨(some 15), none, (.idx 1 (.t 12) (.t 13))⟩, ⟨none, none, (.st 1 (.t 15) (.t 14))⟩]) (.reg [⟨(some 16), none, (.mov (.t 1))⟩, ⟨(some 17), none, (.bin false .add (.t 16) (.c (.int .i64 1)))⟩, ⟨(some 1), none, (.mov (.t 17))⟩]))) (.reg [⟨(some 10), none, (.mov (.t 5))⟩, ⟨(some 11), none, (.bin false .add (.t 10) (.c (.int .i64 1)))⟩, ⟨(some 5), none, (.mov (.t 11))⟩])))
def sc_l_markIntS : SC := (.seq (.reg [⟨(some 4), none, (.mov (.c (.int .i64 0)))⟩]) (.seq (.seq (.reg [⟨(some 5), none, (.mov (.c (.int .i64 0)))⟩]) (.block 0 (.loop sc_l_markIntS_L0))) (.seq (.reg [⟨(some 18), none, (.mov (.t 1))⟩, ⟨(some 4), none, (.mov (.t 18))⟩]) .ret)))
/-- The numbers from k on. -/
def marks (k : Int) (n : Nat) : List Int := (List.range n).map fun (i : Nat) => k + (i : Int)
@[simp] theorem marks_len (k : Int) (n : Nat) : (marks k n).length = n := by simp [marks]
@[simp] theorem marks_take (k : Int) (n : Nat) : (marks k n).take n = marks k n := List.take_of_length_le (by simp)
theorem at0_marks {k : Int} {n j : Nat} (h : j < n) : at0 (marks k n) j = k + j := by simp [marks, at0, h]
theorem marks_step {k : Int} {l : List Int} {i : Nat} (h : i < l.length) : (marks k i ++ l.drop i).set i (k + i) = marks k (i + 1) ++ l.drop (i + 1) := by
  apply at0_ext
  · simp; omega
  · intro j hj
    simp only [List.length_set, List.length_append, marks_len, List.length_drop] at hj
    rw [at0_set, at0_app, at0_app]
    simp only [marks_len, List.length_append, List.length_drop]
    by_cases e : i = j
    · subst e
      rw [if_pos ⟨rfl, by omega⟩, if_pos (by omega), at0_marks (by omega)]
    · rw [if_neg (by omega)]
      by_cases h1 : j < i
      · rw [if_pos h1, if_pos (by omega), at0_marks h1, at0_marks (by omega)]
      · rw [if_neg h1, if_neg (by omega), at0_drop, at0_drop]
        congr 1
        omega
noncomputable def markG (len : Nat) (k : Int) (cells : List V) : Option (V × List V) := (dInts cells).bind fun l => @ite _ (l.length = len ∧ 0 ≤ k ∧ k + len < 4611686018427387904) (Classical.propDecidable _) (some (.int .i64 (k + len), ints (marks k len))) none
theorem markG_of {l : List Int} {len : Nat} {k : Int} (h1 : l.length = len) (h2 : 0 ≤ k) (h3 : k + len < 4611686018427387904) : markG len k (ints l) = some (.int .i64 (k + len), ints (marks k len)) := by
  unfold markG
  rw [dInts_ints, Option.bind_some, if_pos ⟨h1, h2, h3⟩]
noncomputable def G_l_markIntS : List V → List V → Option (V × List V)
  | [.sl 0 1 0 len, .int .i64 k], cells => markG len k cells
  | _, _ => none
def sc_l_heldIntS_L0 : SC := (.seq (.seq (.reg [⟨(some 6), none, (.mov (.t 5))⟩, ⟨(some 7), none, (.mov (.t 0))⟩, ⟨(some 8), none, (.len (.t 7))⟩, ⟨(some 9), none, (.bin false .lss (.t 6) (.t 8))⟩]) (.cond (.t 9) .skip (.exit 0))) (.seq (.block 1 (.seq (.seq (.reg [⟨(some 12), none, (.mov (.t 0))⟩, ⟨(some 13), none, (.mov (.t 5))⟩, ⟨(some 14), none, (.idx 1 (.t 12) (.t 13))⟩, ⟨(some 15), none, (.ld none (.int .i64 0) (.t 14))⟩, ⟨(some 16), none, (.mov (.t 1))⟩, ⟨(some 17), none, (.bin false .neq (.t 15) (.t 16))⟩]) (.cond (.t 17) (.seq (.reg [⟨(some 4), none, (.mov (.c (.int .i64 (-1))))⟩]) .ret) .skip)) (.reg [⟨(some 18), none, (.mov (.t 1))⟩, ⟨(some 19), none, (.bin false .add (.t 18) (.c (.int .i64 1)))⟩, ⟨(some 1), none, (.mov (.t 19))⟩]))) (.reg [⟨(some 10), none, (.mov (.t 5))⟩, ⟨(some 11), none, (.bin false .add (.t 10) (.c (.int .i64 1)))⟩, ⟨(some 5), none, (.mov (.t 11))⟩])))
def sc_l_heldIntS : SC := (.seq (.reg [⟨(some 4), none, (.mov (.c (.int .i64 0)))⟩]) (.seq (.seq (.reg [⟨(some 5), none, (.mov (.c (.int .i64 0)))⟩]) (.block 0 (.loop sc_l_heldIntS_L0))) (.seq (.reg [⟨(some 20), none, (.mov (.t 1))⟩, ⟨(some 4), none, (.mov (.t 20))⟩]) .ret)))
/-- For the numbers that a mark left. -/
noncomputable def heldG (l : List Int) (k : Int) : Option V := @ite _ (0 ≤ k ∧ k + l.length < 4611686018427387904 ∧ l = marks k l.length) (Classical.propDecidable _) (some (.int .i64 (k + l.length))) none
theorem heldG_of {k : Int} {n : Nat} (h1 : 0 ≤ k) (h2 : k + n < 4611686018427387904) : heldG (marks k n) k = some (.int .i64 (k + n)) := by
  unfold heldG
  rw [marks_len, if_pos ⟨h1, h2, rfl⟩]
noncomputable def F_l_heldIntS : List V → Option V := F2 dL dI heldG
noncomputable def G_l_markComplex : List V → List V → Option (V × List V)
  | [.agg [.int .i64 _, .sl 0 1 0 len], .int .i64 k], cells => markG len k cells
  | _, _ => none
end Go.Proofs.Ytmemomfffehnkaa
