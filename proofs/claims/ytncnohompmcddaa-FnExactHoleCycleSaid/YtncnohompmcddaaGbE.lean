import Derived.Test.YtncnohompmcddaaKP
import Derived.Test.YtncnohompmcddaaKG
namespace Go.Proofs.Ytncnohompmcddaa
open Go Go.RowKit
set_option maxRecDepth 1000000
set_option linter.unusedSimpArgs false
set_option linter.unusedVariables false
set_option maxHeartbeats 1000000
def sc_i_sizesUpTo_L0 : SC := (.seq (.reg [⟨(some 14), none, (.bin false .lss (.t 13) (.t 12))⟩]) (.seq (.cond (.t 14) .skip (.exit 0)) (.seq (.block 1 (.seq (.reg [⟨(some 15), none, (.idx 1 (.t 11) (.t 13))⟩, ⟨(some 16), none, (.ld none (.int .i64 0) (.t 15))⟩, ⟨(some 7), none, (.mov (.t 16))⟩]) (.reg [⟨(some 17), none, (.mov (.t 5))⟩, ⟨(some 18), none, (.mov (.t 7))⟩, ⟨(some 19), none, (.call 47 [(.t 18)])⟩, ⟨(some 20), none, (.idx 1 (.t 17) (.t 19))⟩, ⟨(some 21), none, (.ld none (.int .i64 0) (.t 20))⟩, ⟨(some 22), none, (.bin false .add (.t 21) (.c (.int .i64 1)))⟩, ⟨(some 23), none, (.idx 1 (.t 17) (.t 19))⟩, ⟨none, none, (.st 1 (.t 23) (.t 22))⟩]))) (.reg [⟨(some 24), none, (.bin false .add (.t 13) (.c (.int .i64 1)))⟩, ⟨(some 13), none, (.mov (.t 24))⟩]))))
def sc_i_sizesUpTo : SC := (.seq (.reg [⟨(some 4), none, (.mov (.c .nil))⟩]) (.seq (.reg [⟨(some 8), none, (.mov (.t 0))⟩, ⟨(some 9), none, (.bin false .add (.t 8) (.c (.int .i64 1)))⟩, ⟨(some 10), none, (.mk 1 8 [(.int .i64 0)] (.t 9) (.t 9))⟩, ⟨(some 5), none, (.mov (.t 10))⟩]) (.seq (.seq (.reg [⟨(some 11), none, (.mov (.t 1))⟩, ⟨(some 12), none, (.len (.t 11))⟩, ⟨(some 13), none, (.mov (.c (.int .i64 0)))⟩]) (.block 0 (.loop sc_i_sizesUpTo_L0))) (.seq (.reg [⟨(some 25), none, (.mov (.t 5))⟩, ⟨(some 4), none, (.mov (.t 25))⟩]) .ret))))
/-- How many of the sets have z points. -/
noncomputable def cntZ (l : List Int) (z : Nat) : Int := ((l.filter fun s => dec (sz s = (z : Int))).length : Nat)
/-- For each number below m how many sets have so many points. -/
noncomputable def szRow (m : Nat) (l : List Int) : List Int := (List.range m).map fun z => cntZ l z
@[simp] theorem szRow_take (m : Nat) (l : List Int) : (szRow m l).take m = szRow m l := List.take_of_length_le (by simp [szRow])
@[simp] theorem szRow_len (m : Nat) (l : List Int) : (szRow m l).length = m := by simp [szRow]
theorem at0_szRow {m z : Nat} (l : List Int) (h : z < m) : at0 (szRow m l) z = cntZ l z := by simp [szRow, at0, h]
theorem cntZ_bnd (l : List Int) (k z : Nat) : 0 ≤ cntZ (l.take k) z ∧ cntZ (l.take k) z ≤ k := by
  unfold cntZ
  have h2 : (l.take k).length ≤ k := by simp; omega
  have h3 := List.length_filter_le (fun s => dec (sz s = (z : Int))) (l.take k)
  omega
theorem szRow_step {m : Nat} {l : List Int} {k z : Nat} (h : k < l.length) (hz : sz (at0 l k) = (z : Int)) (hm : z < m) : (szRow m (l.take k)).set z (cntZ (l.take k) z + 1) = szRow m (l.take (k + 1)) := by
  apply at0_ext (by simp)
  intro j hj
  simp only [List.length_set, szRow_len] at hj
  rw [at0_set, at0_szRow _ hj, at0_szRow _ hj]
  by_cases e : z = j
  · subst e
    rw [if_pos ⟨rfl, by simpa using hj⟩]
    unfold cntZ
    rw [filt_pos h (dec_true hz), List.length_append]
    simp
  · rw [if_neg fun h => e h.1]
    unfold cntZ
    rw [filt_neg h (dec_false fun h2 => e (by omega))]
theorem szRow_none (m : Nat) : szRow m [] = List.replicate m 0 := by
  apply at0_ext (by simp)
  intro j hj
  simp only [szRow_len] at hj
  rw [at0_szRow _ hj]
  simp [cntZ, at0, hj]
noncomputable def F_i_sizesUpTo : List V → Option V := F2 dI dL fun t l => @ite _ (-1 ≤ t ∧ t ≤ 6 ∧ allS l ∧ ∀ s ∈ l, sz s ≤ t) (Classical.propDecidable _) (some (.own 1 (ints (szRow (t + 1).toNat l)))) none
end Go.Proofs.Ytncnohompmcddaa
