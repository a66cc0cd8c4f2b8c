import Derived.Test.YtkfjacclpjgafaaGbD
import Derived.Test.YtkfjacclpjgafaaKJ
import Derived.Test.YtkfjacclpjgafaaGbE
namespace Go.Proofs.Ytkfjacclpjgafaa
open Go Go.RowKit
set_option maxRecDepth 1000000
set_option linter.unusedSimpArgs false
set_option linter.unusedVariables false
set_option maxHeartbeats 1000000
def sc_s_UnpairedCounts_L0 : SC := (.seq (.seq (.reg [⟨(some 26), none, (.mov (.t 7))⟩, ⟨(some 27), none, (.mov (.t 6))⟩, ⟨(some 28), none, (.len (.t 27))⟩, ⟨(some 29), none, (.bin false .lss (.t 26) (.t 28))⟩]) (.cond (.t 29) .skip (.exit 0))) (.seq (.block 1 (.dreg [⟨⟨(some 32), none, (.mov (.t 5))⟩, false, false⟩, ⟨⟨(some 33), none, (.mov (.t 6))⟩, false, false⟩, ⟨⟨(some 34), none, (.mov (.t 7))⟩, false, false⟩, ⟨⟨(some 35), none, (.idx 1 (.t 33) (.t 34))⟩, false, false⟩, ⟨⟨(some 36), none, (.ld none (.int .i64 0) (.t 35))⟩, false, false⟩, ⟨⟨(some 37), none, (.call 70 [(.t 36)])⟩, false, false⟩, ⟨⟨(some 38), none, (.mov (.t 5))⟩, false, false⟩, ⟨⟨(some 39), none, (.mov (.t 6))⟩, false, false⟩, ⟨⟨(some 40), none, (.mov (.t 7))⟩, false, false⟩, ⟨⟨(some 41), none, (.idx 1 (.t 39) (.t 40))⟩, false, false⟩, ⟨⟨(some 42), none, (.ld none (.int .i64 0) (.t 41))⟩, false, false⟩, ⟨⟨(some 43), none, (.call 70 [(.t 42)])⟩, false, false⟩, ⟨⟨(some 44), none, (.idx 1 (.t 38) (.t 43))⟩, false, false⟩, ⟨⟨(some 45), none, (.ld none (.int .i64 0) (.t 44))⟩, false, false⟩, ⟨⟨(some 46), none, (.bin false .add (.t 45) (.c (.int .i64 1)))⟩, false, false⟩, ⟨⟨(some 47), none, (.idx 1 (.t 32) (.t 37))⟩, false, false⟩, ⟨⟨none, none, (.st 1 (.t 47) (.t 46))⟩, true, false⟩])) (.reg [⟨(some 30), none, (.mov (.t 7))⟩, ⟨(some 31), none, (.bin false .add (.t 30) (.c (.int .i64 1)))⟩, ⟨(some 7), none, (.mov (.t 31))⟩])))
def sc_s_UnpairedCounts : SC := (.seq (.reg [⟨(some 2), none, (.box (.t 0))⟩, ⟨(some 4), none, (.mov (.c .nil))⟩]) (.seq (.seq (.reg [⟨(some 8), none, (.ld (some 2) .undef (.t 2))⟩, ⟨(some 9), none, (.mov (.t 1))⟩, ⟨(some 10), none, (.call 99 [(.t 8), (.t 9)])⟩, ⟨(some 11), none, (.un .not (.t 10))⟩, ⟨(some 12), none, (.mov (.t 11))⟩, ⟨(some 13), (some (12, false)), (.fad 1 (.t 2))⟩, ⟨(some 14), (some (12, false)), (.ld none .nil (.t 13))⟩, ⟨(some 15), (some (12, false)), (.len (.t 14))⟩, ⟨(some 16), (some (12, false)), (.bin false .eql (.t 15) (.c (.int .i64 0)))⟩, ⟨(some 17), none, (.pick (.t 12) (.c (.bool true)) (.t 16))⟩]) (.cond (.t 17) (.seq (.reg [⟨(some 18), none, (.mks 0 1 [] [])⟩, ⟨(some 4), none, (.mov (.t 18))⟩]) .ret) .skip)) (.seq (.reg [⟨(some 19), none, (.ld (some 2) .undef (.t 2))⟩, ⟨(some 20), none, (.call 67 [(.t 19)])⟩, ⟨(some 21), none, (.bin false .add (.t 20) (.c (.int .i64 2)))⟩, ⟨(some 22), none, (.mk 1 8 [(.int .i64 0)] (.t 21) (.t 21))⟩, ⟨(some 5), none, (.mov (.t 22))⟩]) (.seq (.reg [⟨(some 23), none, (.ld (some 2) .undef (.t 2))⟩, ⟨(some 24), none, (.mov (.t 1))⟩, ⟨(some 25), none, (.call 100 [(.t 23), (.t 24)])⟩, ⟨(some 6), none, (.mov (.t 25))⟩]) (.seq (.seq (.reg [⟨(some 7), none, (.mov (.c (.int .i64 0)))⟩]) (.block 0 (.loop sc_s_UnpairedCounts_L0))) (.seq (.reg [⟨(some 48), none, (.mov (.t 5))⟩, ⟨(some 4), none, (.mov (.t 48))⟩]) .ret))))))
theorem code_s_UnpairedCounts : fnCode Try.prog [] 45 = some (49, sc_s_UnpairedCounts, [(4, none)]) := by kernel_rfl
open Classical in
noncomputable def upcL (n : Int) (l : List Int) (list : List (Int × Int)) : List Int := if pairP n l list then szRow (topZ (faceS l) + 1).toNat (unpL n l list) else []
theorem unpL_ok {n : Int} {l : List Int} {list : List (Int × Int)} : allS (unpL n l list) ∧ (unpL n l list).length ≤ 64 ∧ ∀ s ∈ unpL n l list, sz s ≤ topZ (faceS l) := by
  unfold unpL
  split
  · refine ⟨allS_setsOf _, setsOf_len _, fun s hs => ?_⟩
    obtain ⟨a, b⟩ := mem_setsOf.1 hs
    exact topZ_ge a b.1
  · exact ⟨by simp [allS], by simp, by simp⟩
noncomputable def F_s_UnpairedCounts : List V → Option V := F2 dC dP fun c list => some (.own 1 (ints (upcL c.1 c.2 list)))
theorem fn_s_UnpairedCounts : FnOk Try.prog 45 F_s_UnpairedCounts := by
  have env := ((((envNil_ok (P := Try.prog)).add fn_s_IsPairing).add fn_s_DimOf).add fn_s_l2Size).add fn_s_UnpairedFaces
  refine fn_ok code_s_UnpairedCounts mixed env ?_
  intro args r h hb
  obtain ⟨_, _, ⟨n, l⟩, list, rfl, h1, h2, h4⟩ := F2_inv h
  cases dC_inv h1
  cases dP_inv h2
  cases h4
  clear h
  refine ⟨by simp, fun w0 U0 L0 N0 => ?_⟩
  clear hb
  by_cases hP : pairP n l list
  rotate_left
  · have hd := dec_false hP
    have e : upcL n l list = [] := by unfold upcL; rw [if_neg hP]
    rw [e]
    simp -implicitDefEqProofs [sc_s_UnpairedCounts, F_s_IsPairing, hd]
  have hd := dec_true hP
  have e : upcL n l list = szRow (topZ (faceS l) + 1).toNat (unpL n l list) := by unfold upcL; rw [if_pos hP]
  rw [e]
  obtain ⟨hS, hNl, hle⟩ := unpL_ok (n := n) (l := l) (list := list)
  have hc := hP.1
  have hdim : dimZ n l = topZ (faceS l) - 1 := by unfold dimZ; rw [if_pos hc]
  have htb := topZ_bnd (faceS l)
  obtain ⟨m, hm⟩ : ∃ m : Nat, topZ (faceS l) + 1 = m := ⟨(topZ (faceS l) + 1).toNat, by omega⟩
  have hm2 : (topZ (faceS l) + 1).toNat = m := by omega
  rw [hm2]
  have hw : IntKind.i64.wrap (dimZ n l + 2) = m := by rw [wrapI _ (by omega) (by omega)]; omega
  by_cases h0 : l = []
  · subst h0
    have hm0 : m = 0 := by
      rw [topZ_nil] at hm
      omega
    subst hm0
    simp -implicitDefEqProofs [sc_s_UnpairedCounts, F_s_IsPairing, hd, szRow]
  have hpos := List.length_pos_iff.2 h0
  generalize hN : unpL n l list = N at *
  simp -implicitDefEqProofs [sc_s_UnpairedCounts, F_s_IsPairing, F_s_DimOf, F_s_UnpairedFaces, hd, h0, hw, hN]
  repeat' (first | omega | apply And.intro)
  refine loopI env mixed (fun k : Nat => [(5, .sl 1 1 0 m), (6, .sl 2 1 0 N.length), (7, .int .i64 (k : Int))]) (fun k => ([(2, ints N), (1, ints (szRow m (N.take k))), (0, [.int .i64 n, .list 1 (ints l)])], 3)) (fun k => k ≤ N.length) (fun k => N.length - k) 0 (by simp) (SubI.slots (by simp [szRow_none]) (by simp)) ?_
  intro k hk
  by_cases hlt : k < N.length
  · have hf := allS_at hS hlt
    have hle2 := hle _ (getD_mem' hlt)
    have r1 : at0 N k < 9223372036854775808 := by have := hf.2; omega
    obtain ⟨z, hz⟩ : ∃ z : Nat, sz (at0 N k) = z := ⟨(sz (at0 N k)).toNat, by have := sz_nn (at0 N k); omega⟩
    have hzm : z < m := by omega
    have hcb := cntZ_bnd N k z
    have hw2 : IntKind.i64.wrap (cntZ (N.take k) z + 1) = cntZ (N.take k) z + 1 := wrapI _ (by omega) (by omega)
    have hst := szRow_step hlt hz hzm
    have ha := at0_szRow (N.take k) hzm
    simp -implicitDefEqProofs [sc_s_UnpairedCounts_L0, F_s_l2Size, hlt, r1, hz, hzm, ha, hw2, hst]
    repeat' (first | omega | apply And.intro)
    exact Again.of (k + 1) (by omega) (by omega) (SubI.slots (by simp) (by simp (disch := omega) [wrapI]))
  · have : k = N.length := by omega
    subst this
    simp -implicitDefEqProofs [sc_s_UnpairedCounts_L0]
def sc_i_UnpairedCounts_L0 : SC := (.seq (.reg [⟨(some 31), none, (.bin false .lss (.t 30) (.t 29))⟩]) (.seq (.cond (.t 31) .skip (.exit 0)) (.seq (.block 1 (.seq (.reg [⟨(some 32), none, (.idx 1 (.t 28) (.t 30))⟩, ⟨(some 33), none, (.ld none (.int .i64 0) (.t 32))⟩, ⟨(some 10), none, (.mov (.t 33))⟩]) (.reg [⟨(some 34), none, (.mov (.t 8))⟩, ⟨(some 35), none, (.mov (.t 10))⟩, ⟨(some 36), none, (.call 104 [(.t 35)])⟩, ⟨(some 37), none, (.idx 1 (.t 34) (.t 36))⟩, ⟨(some 38), none, (.ld none (.int .i64 0) (.t 37))⟩, ⟨(some 39), none, (.bin false .add (.t 38) (.c (.int .i64 1)))⟩, ⟨(some 40), none, (.idx 1 (.t 34) (.t 36))⟩, ⟨none, none, (.st 1 (.t 40) (.t 39))⟩]))) (.reg [⟨(some 41), none, (.bin false .add (.t 30) (.c (.int .i64 1)))⟩, ⟨(some 30), none, (.mov (.t 41))⟩]))))
def sc_i_UnpairedCounts : SC := (.seq (.reg [⟨(some 2), none, (.box (.t 0))⟩, ⟨(some 4), none, (.mov (.c .nil))⟩]) (.seq (.reg [⟨(some 12), none, (.ld (some 2) .undef (.t 2))⟩, ⟨(some 13), none, (.mov (.t 1))⟩, ⟨(some 14), none, (.call 102 [(.t 12), (.t 13)])⟩, ⟨(some 11), none, (.mov (.t 14))⟩, ⟨(some 15), none, (.ext 0 (.t 11))⟩, ⟨(some 16), none, (.ext 1 (.t 11))⟩, ⟨(some 5), none, (.mov (.t 15))⟩, ⟨(some 6), none, (.mov (.t 16))⟩]) (.seq (.seq (.reg [⟨(some 17), none, (.mov (.t 6))⟩, ⟨(some 18), none, (.un .not (.t 17))⟩]) (.cond (.t 18) (.seq (.reg [⟨(some 4), none, (.mov (.c .nil))⟩]) .ret) .skip)) (.seq (.reg [⟨(some 19), none, (.ld (some 2) .undef (.t 2))⟩, ⟨(some 20), none, (.call 79 [(.t 19)])⟩, ⟨(some 7), none, (.mov (.t 20))⟩]) (.seq (.reg [⟨(some 21), none, (.mov (.t 7))⟩, ⟨(some 22), none, (.call 86 [(.t 21)])⟩, ⟨(some 23), none, (.bin false .add (.t 22) (.c (.int .i64 1)))⟩, ⟨(some 24), none, (.mk 1 8 [(.int .i64 0)] (.t 23) (.t 23))⟩, ⟨(some 8), none, (.mov (.t 24))⟩]) (.seq (.seq (.reg [⟨(some 25), none, (.mov (.t 7))⟩, ⟨(some 26), none, (.mov (.t 5))⟩, ⟨(some 27), none, (.bin false .andNot (.t 25) (.t 26))⟩, ⟨(some 28), none, (.call 103 [(.t 27)])⟩, ⟨(some 29), none, (.len (.t 28))⟩, ⟨(some 30), none, (.mov (.c (.int .i64 0)))⟩]) (.block 0 (.loop sc_i_UnpairedCounts_L0))) (.seq (.reg [⟨(some 42), none, (.mov (.t 8))⟩, ⟨(some 4), none, (.mov (.t 42))⟩]) .ret)))))))
theorem code_i_UnpairedCounts : fnCode Try.prog [] 47 = some (43, sc_i_UnpairedCounts, [(4, none)]) := by kernel_rfl
theorem fn_i_UnpairedCounts : FnOk Try.prog 47 F_s_UnpairedCounts := by
  have env := (((((envNil_ok (P := Try.prog)).add fn_i_pairedIn).add fn_i_facesIn).add fn_i_topSize).add fn_i_setsIn).add fn_i_SizeOf
  refine fn_ok code_i_UnpairedCounts mixed env ?_
  intro args r h hb
  obtain ⟨_, _, ⟨n, l⟩, list, rfl, h1, h2, h4⟩ := F2_inv h
  cases dC_inv h1
  cases dP_inv h2
  cases h4
  clear h
  refine ⟨by simp, fun w0 U0 L0 N0 => ?_⟩
  clear hb
  by_cases hP : pairP n l list
  rotate_left
  · have hd := dec_false hP
    have e : upcL n l list = [] := by unfold upcL; rw [if_neg hP]
    rw [e]
    simp -implicitDefEqProofs [sc_i_UnpairedCounts, F_i_pairedIn, hd]
  have hd := dec_true hP
  have e : upcL n l list = szRow (topZ (faceS l) + 1).toNat (unpL n l list) := by unfold upcL; rw [if_pos hP]
  rw [e]
  obtain ⟨hS, hNl, hle⟩ := unpL_ok (n := n) (l := l) (list := list)
  have hc := hP.1
  have hSl := cplx_isS hc
  have hu : usedF n l list = fam fun x => x ∈ usedI list list.length := by rw [usedF, if_pos hP]
  have hs := setsG_fam fun s => faceS l s ∧ ¬ s ∈ usedI list list.length
  have e2 : unpL n l list = setsOf fun s => faceS l s ∧ ¬ s ∈ usedI list list.length := by simp only [unpL, if_pos hP]
  rw [← e2] at hs
  have htb := topZ_bnd (faceS l)
  have hg := topG_fam (faceS l)
  obtain ⟨m, hm⟩ : ∃ m : Nat, topZ (faceS l) + 1 = m := ⟨(topZ (faceS l) + 1).toNat, by omega⟩
  have hm2 : (topZ (faceS l) + 1).toNat = m := by omega
  rw [hm2]
  have hw : IntKind.i64.wrap (topZ (faceS l) + 1) = m := by rw [wrapI _ (by omega) (by omega), hm]
  clear e2
  generalize unpL n l list = N at *
  simp -implicitDefEqProofs [sc_i_UnpairedCounts, F_i_pairedIn, F_i_facesIn, F_i_topSize, F_i_setsIn, hd, hSl, hu, hg, hw, hs]
  repeat' (first | omega | apply And.intro)
  refine loopI env mixed (fun k : Nat => [(8, .sl 1 1 0 m), (28, .sl 2 1 0 N.length), (29, .int .i64 (N.length : Int)), (30, .int .i64 (k : Int))]) (fun k => ([(2, ints N), (1, ints (szRow m (N.take k))), (0, [.int .i64 n, .list 1 (ints l)])], 3)) (fun k => k ≤ N.length) (fun k => N.length - k) 0 (by simp) (SubI.slots (by simp [szRow_none]) (by simp)) ?_
  intro k hk
  by_cases hlt : k < N.length
  · have hf := allS_at hS hlt
    have r1 := sizeOf1_set hf.1 hf.2
    have hle2 := hle _ (getD_mem' hlt)
    obtain ⟨z, hz⟩ : ∃ z : Nat, sz (at0 N k) = z := ⟨(sz (at0 N k)).toNat, by have := sz_nn (at0 N k); omega⟩
    have hzm : z < m := by omega
    have hcb := cntZ_bnd N k z
    have hw2 : IntKind.i64.wrap (cntZ (N.take k) z + 1) = cntZ (N.take k) z + 1 := wrapI _ (by omega) (by omega)
    have hst := szRow_step hlt hz hzm
    have ha := at0_szRow (N.take k) hzm
    rw [hz] at r1
    simp -implicitDefEqProofs [sc_i_UnpairedCounts_L0, F_i_SizeOf, hlt, r1, hzm, ha, hw2, hst]
    repeat' (first | omega | apply And.intro)
    exact Again.of (k + 1) (by omega) (by omega) (SubI.slots (by simp) (by simp (disch := omega) [wrapI]))
  · have : k = N.length := by omega
    subst this
    simp -implicitDefEqProofs [sc_i_UnpairedCounts_L0]
end Go.Proofs.Ytkfjacclpjgafaa
