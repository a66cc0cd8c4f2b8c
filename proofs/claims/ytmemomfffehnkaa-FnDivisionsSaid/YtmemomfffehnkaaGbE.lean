import Derived.Test.YtmemomfffehnkaaKP
import Derived.Test.YtmemomfffehnkaaKG
namespace Go.Proofs.Ytmemomfffehnkaa
open Go Go.RowKit
set_option maxRecDepth 1000000
set_option linter.unusedSimpArgs false
set_option linter.unusedVariables false
set_option maxHeartbeats 1000000
def sc_i_sizesUpTo_L0 : SC := (.seq (.reg [⟨(some 14), none, (.bin false .lss (.t 13) (.t 12))⟩]) (.seq (.cond (.t 14) .skip (.exit 0)) (.seq (.block 1 (.seq (.reg [⟨(some 15), none, (.idx 1 (.t 11) (.t 13))⟩, ⟨(some 16), none, (.ld none (.int .i64 0) (.t 15))⟩, ⟨(some 7), none, (.mov (.t 16))⟩]) (.reg [⟨(some 17), none, (.mov (.t 5))⟩, ⟨(some 18), none, (.mov (.t 7))⟩, ⟨(some 19), none, (.call 181 [(.t 18)])⟩, ⟨(some 20), none, (.idx 1 (.t 17) (.t 19))⟩, ⟨(some 21), none, (.ld none (.int .i64 0) (.t 20))⟩, ⟨(some 22), none, (.bin false .add (.t 21) (.c (.int .i64 1)))⟩, ⟨(some 23), none, (.idx 1 (.t 17) (.t 19))⟩, ⟨none, none, (.st 1 (.t 23) (.t 22))⟩]))) (.reg [⟨(some 24), none, (.bin false .add (.t 13) (.c (.int .i64 1)))⟩, ⟨(some 13), none, (.mov (.t 24))⟩]))))
def sc_i_sizesUpTo : SC := (.seq (.reg [⟨(some 4), none, (.mov (.c .nil))⟩]) (.seq (.reg [⟨(some 8), none, (.mov (.t 0))⟩, ⟨(some 9), none, (.bin false .add (.t 8) (.c (.int .i64 1)))⟩, ⟨(some 10), none, (.mk 1 8 [(.int .i64 0)] (.t 9) (.t 9))⟩, ⟨(some 5), none, (.mov (.t 10))⟩]) (.seq (.seq (.reg [⟨(some 11), none, (.mov (.t 1))⟩, ⟨(some 12), none, (.len (.t 11))⟩, ⟨(some 13), none, (.mov (.c (.int .i64 0)))⟩]) (.block 0 (.loop sc_i_sizesUpTo_L0))) (.seq (.reg [⟨(some 25), none, (.mov (.t 5))⟩, ⟨(some 4), none, (.mov (.t 25))⟩]) .ret))))
theorem code_i_sizesUpTo : fnCode Try.prog [] 149 = some (26, sc_i_sizesUpTo, [(4, none)]) := by kernel_rfl
/-- How many of the sets have z points. -/
noncomputable def cntZ (l : List Int) (z : Nat) : Int := ((l.filter fun s => dec (sz s = (z : Int))).length : Nat)
/-- For each number below m how many sets have so many points. -/
noncomputable def szRow (m : Nat) (l : List Int) : List Int := (List.range m).map fun z => cntZ l z
@[simp] theorem szRow_take (m : Nat) (l : List Int) : (szRow m l).take m = szRow m l := List.take_of_length_le (by simp [szRow])
@[simp] theorem szRow_len (m : Nat) (l : List Int) : (szRow m l).length = m := by simp [szRow]
theorem at0_szRow {m z : Nat} (l : List Int) (h : z < m) : at0 (szRow m l) z = cntZ l z := by simp [szRow, at0, h]
theorem cntZ_bnd (l : List Int) (k z : Nat) : 0 ≤ cntZ (l.take k) z ∧ cntZ (l.take k) z ≤ k := by
  unfold cntZ
  have h2 : (l.take k).length ≤ k := by simp; omega
  have h3 := List.length_filter_le (fun s => dec (sz s = (z : Int))) (l.take k)
  omega
theorem szRow_step {m : Nat} {l : List Int} {k z : Nat} (h : k < l.length) (hz : sz (at0 l k) = (z : Int)) (hm : z < m) : (szRow m (l.take k)).set z (cntZ (l.take k) z + 1) = szRow m (l.take (k + 1)) := by
  apply at0_ext (by simp)
  intro j hj
  simp only [List.length_set, szRow_len] at hj
  rw [at0_set, at0_szRow _ hj, at0_szRow _ hj]
  by_cases e : z = j
  · subst e
    rw [if_pos ⟨rfl, by simpa using hj⟩]
    unfold cntZ
    rw [filt_pos h (dec_true hz), List.length_append]
    simp
  · rw [if_neg fun h => e h.1]
    unfold cntZ
    rw [filt_neg h (dec_false fun h2 => e (by omega))]
theorem szRow_none (m : Nat) : szRow m [] = List.replicate m 0 := by
  apply at0_ext (by simp)
  intro j hj
  simp only [szRow_len] at hj
  rw [at0_szRow _ hj]
  simp [cntZ, at0, hj]
noncomputable def F_i_sizesUpTo : List V → Option V := F2 dI dL fun t l => @ite _ (-1 ≤ t ∧ t ≤ 6 ∧ allS l ∧ ∀ s ∈ l, sz s ≤ t) (Classical.propDecidable _) (some (.own 1 (ints (szRow (t + 1).toNat l)))) none
theorem fn_i_sizesUpTo : FnOk Try.prog 149 F_i_sizesUpTo := by
  have env := (envNil_ok (P := Try.prog)).add fn_i_SizeOf
  refine fn_ok code_i_sizesUpTo mixed env ?_
  intro args r h hb
  obtain ⟨_, _, t, l, rfl, h1, h2, h4⟩ := F2_inv h
  cases dI_inv h1
  cases dL_inv h2
  clear h
  simp only [Option.ite_none_right_eq_some, Option.some.injEq] at h4
  obtain ⟨⟨ht1, ht2, hS, hle⟩, rfl⟩ := h4
  have hlen := bnd_ints (hb (.list 1 (ints l)) (by simp))
  refine ⟨by simp, fun w0 U0 L0 N0 => ?_⟩
  clear hb
  obtain ⟨m, hm⟩ : ∃ m : Nat, t + 1 = m := ⟨(t + 1).toNat, by omega⟩
  have hw : IntKind.i64.wrap (t + 1) = m := by rw [wrapI _ (by omega) (by omega), hm]
  have hm2 : (t + 1).toNat = m := by omega
  rw [hm2]
  simp -implicitDefEqProofs [sc_i_sizesUpTo, hw]
  repeat' (first | omega | apply And.intro)
  refine loopI env mixed (fun k : Nat => [(5, .sl 0 1 0 m), (11, .list 1 (ints l)), (12, .int .i64 (l.length : Int)), (13, .int .i64 (k : Int))]) (fun k => ([(0, ints (szRow m (l.take k)))], 1)) (fun k => k ≤ l.length) (fun k => l.length - k) 0 (by simp) (SubI.slots (by simp [szRow_none]) (by simp)) ?_
  intro k hk
  by_cases hlt : k < l.length
  · have hf := allS_at hS hlt
    have r1 := sizeOf1_set hf.1 hf.2
    have hle2 := hle _ (getD_mem' hlt)
    obtain ⟨z, hz⟩ : ∃ z : Nat, sz (at0 l k) = z := ⟨(sz (at0 l k)).toNat, by have := sz_nn (at0 l k); omega⟩
    have hzm : z < m := by omega
    have hcb := cntZ_bnd l k z
    have hw2 : IntKind.i64.wrap (cntZ (l.take k) z + 1) = cntZ (l.take k) z + 1 := wrapI _ (by omega) (by omega)
    have hst := szRow_step hlt hz hzm
    have ha := at0_szRow (l.take k) hzm
    rw [hz] at r1
    simp -implicitDefEqProofs [sc_i_sizesUpTo_L0, F_i_SizeOf, hlt, r1, hzm, ha, hw2, hst]
    repeat' (first | omega | apply And.intro)
    exact Again.of (k + 1) (by omega) (by omega) (SubI.slots (by simp) (by simp (disch := omega) [wrapI]))
  · have : k = l.length := by omega
    subst this
    simp -implicitDefEqProofs [sc_i_sizesUpTo_L0]
end Go.Proofs.Ytmemomfffehnkaa
