import Derived.Test.YtmemomfffehnkaaKJ
import Derived.Test.YtmemomfffehnkaaGbE
import Derived.Test.YtmemomfffehnkaaFmC
namespace Go.Proofs.Ytmemomfffehnkaa
open Go Go.RowKit
set_option maxRecDepth 1000000
set_option linter.unusedSimpArgs false
set_option linter.unusedVariables false
set_option maxHeartbeats 1000000
def sc_s_DivisionCounts_L0 : SC := (.seq (.seq (.reg [⟨(some 21), none, (.mov (.t 6))⟩, ⟨(some 22), none, (.mov (.t 1))⟩, ⟨(some 23), none, (.len (.t 22))⟩, ⟨(some 24), none, (.bin false .lss (.t 21) (.t 23))⟩]) (.cond (.t 24) .skip (.exit 0))) (.seq (.block 1 (.dreg [⟨⟨(some 27), none, (.mov (.t 5))⟩, false, false⟩, ⟨⟨(some 28), none, (.mov (.t 1))⟩, false, false⟩, ⟨⟨(some 29), none, (.mov (.t 6))⟩, false, false⟩, ⟨⟨(some 30), none, (.idx 1 (.t 28) (.t 29))⟩, false, false⟩, ⟨⟨(some 31), none, (.ld none (.int .i64 0) (.t 30))⟩, false, false⟩, ⟨⟨(some 32), none, (.call 156 [(.t 31)])⟩, false, false⟩, ⟨⟨(some 33), none, (.mov (.t 5))⟩, false, false⟩, ⟨⟨(some 34), none, (.mov (.t 1))⟩, false, false⟩, ⟨⟨(some 35), none, (.mov (.t 6))⟩, false, false⟩, ⟨⟨(some 36), none, (.idx 1 (.t 34) (.t 35))⟩, false, false⟩, ⟨⟨(some 37), none, (.ld none (.int .i64 0) (.t 36))⟩, false, false⟩, ⟨⟨(some 38), none, (.call 156 [(.t 37)])⟩, false, false⟩, ⟨⟨(some 39), none, (.idx 1 (.t 33) (.t 38))⟩, false, false⟩, ⟨⟨(some 40), none, (.ld none (.int .i64 0) (.t 39))⟩, false, false⟩, ⟨⟨(some 41), none, (.bin false .add (.t 40) (.c (.int .i64 1)))⟩, false, false⟩, ⟨⟨(some 42), none, (.idx 1 (.t 27) (.t 32))⟩, false, false⟩, ⟨⟨none, none, (.st 1 (.t 42) (.t 41))⟩, true, false⟩])) (.reg [⟨(some 25), none, (.mov (.t 6))⟩, ⟨(some 26), none, (.bin false .add (.t 25) (.c (.int .i64 1)))⟩, ⟨(some 6), none, (.mov (.t 26))⟩])))
def sc_s_DivisionCounts : SC := (.seq (.reg [⟨(some 2), none, (.box (.t 0))⟩, ⟨(some 4), none, (.mov (.c .nil))⟩]) (.seq (.seq (.reg [⟨(some 7), none, (.ld (some 2) .undef (.t 2))⟩, ⟨(some 8), none, (.mov (.t 1))⟩, ⟨(some 9), none, (.call 115 [(.t 7), (.t 8)])⟩, ⟨(some 10), none, (.un .not (.t 9))⟩, ⟨(some 11), none, (.mov (.t 10))⟩, ⟨(some 12), (some (11, false)), (.mov (.t 1))⟩, ⟨(some 13), (some (11, false)), (.len (.t 12))⟩, ⟨(some 14), (some (11, false)), (.bin false .eql (.t 13) (.c (.int .i64 0)))⟩, ⟨(some 15), none, (.pick (.t 11) (.c (.bool true)) (.t 14))⟩]) (.cond (.t 15) (.seq (.reg [⟨(some 16), none, (.mks 0 1 [] [])⟩, ⟨(some 4), none, (.mov (.t 16))⟩]) .ret) .skip)) (.seq (.reg [⟨(some 17), none, (.ld (some 2) .undef (.t 2))⟩, ⟨(some 18), none, (.call 155 [(.t 17)])⟩, ⟨(some 19), none, (.bin false .add (.t 18) (.c (.int .i64 2)))⟩, ⟨(some 20), none, (.mk 1 8 [(.int .i64 0)] (.t 19) (.t 19))⟩, ⟨(some 5), none, (.mov (.t 20))⟩]) (.seq (.seq (.reg [⟨(some 6), none, (.mov (.c (.int .i64 0)))⟩]) (.block 0 (.loop sc_s_DivisionCounts_L0))) (.seq (.reg [⟨(some 43), none, (.mov (.t 5))⟩, ⟨(some 4), none, (.mov (.t 43))⟩]) .ret)))))
theorem code_s_DivisionCounts : fnCode Try.prog [] 116 = some (44, sc_s_DivisionCounts, [(4, none)]) := by kernel_rfl
def sc_i_DivisionCounts : SC := (.seq (.reg [⟨(some 2), none, (.box (.t 0))⟩, ⟨(some 4), none, (.mov (.c .nil))⟩]) (.seq (.seq (.reg [⟨(some 5), none, (.ld (some 2) .undef (.t 2))⟩, ⟨(some 6), none, (.mov (.t 1))⟩, ⟨(some 7), none, (.call 114 [(.t 5), (.t 6)])⟩, ⟨(some 8), none, (.un .not (.t 7))⟩]) (.cond (.t 8) (.seq (.reg [⟨(some 4), none, (.mov (.c .nil))⟩]) .ret) .skip)) (.seq (.reg [⟨(some 9), none, (.ld (some 2) .undef (.t 2))⟩, ⟨(some 10), none, (.call 151 [(.t 9)])⟩, ⟨(some 11), none, (.call 150 [(.t 10)])⟩, ⟨(some 12), none, (.mov (.t 1))⟩, ⟨(some 13), none, (.call 149 [(.t 11), (.t 12)])⟩, ⟨(some 4), none, (.mov (.t 13))⟩]) .ret)))
theorem code_i_DivisionCounts : fnCode Try.prog [] 113 = some (14, sc_i_DivisionCounts, [(4, none)]) := by kernel_rfl
open Classical in
noncomputable def divcL (n : Int) (l lows : List Int) : List Int := if divP n l lows then szRow (topZ (faceS l) + 1).toNat lows else []
theorem div_lows {n : Int} {l lows : List Int} (h : divP n l lows) : allS lows ∧ ∀ s ∈ lows, sz s ≤ topZ (faceS l) := by
  have hS := cplx_isS h.1
  constructor
  · intro x hx
    obtain ⟨j, hj, e⟩ := getD_mem_iff.1 hx
    rw [← e]
    exact (h.2.2.1 j hj).1
  · intro x hx
    obtain ⟨j, hj, e⟩ := getD_mem_iff.1 hx
    have hjl : j < l.length := by rw [← h.2.1]; exact hj
    obtain ⟨a, b⟩ := h.2.2.1 j hj
    rw [← e]
    have h1 := (sz_sub a (allS_at hS hjl) b).1
    have h2 := topZ_ge (p := faceS l) (allS_at hS hjl) ⟨_, getD_mem' hjl, subS_refl (allS_at hS hjl)⟩
    omega
noncomputable def F_s_DivisionCounts : List V → Option V := F2 dC dL fun c lows => some (.own 1 (ints (divcL c.1 c.2 lows)))
theorem fn_s_DivisionCounts : FnOk Try.prog 116 F_s_DivisionCounts := by
  have env := (((envNil_ok (P := Try.prog)).add fn_s_IsDivision).add fn_s_DimOf).add fn_s_l2Size
  refine fn_ok code_s_DivisionCounts mixed env ?_
  intro args r h hb
  obtain ⟨_, _, ⟨n, l⟩, lows, rfl, h1, h2, h4⟩ := F2_inv h
  cases dC_inv h1
  cases dL_inv h2
  cases h4
  clear h
  have hlen := bnd_ints (hb (.list 1 (ints lows)) (by simp))
  refine ⟨by simp, fun w0 U0 L0 N0 => ?_⟩
  clear hb
  by_cases hP : divP n l lows
  rotate_left
  · have hd := dec_false hP
    have e : divcL n l lows = [] := by unfold divcL; rw [if_neg hP]
    rw [e]
    simp -implicitDefEqProofs [sc_s_DivisionCounts, F_s_IsDivision, hd]
  have hd := dec_true hP
  have e : divcL n l lows = szRow (topZ (faceS l) + 1).toNat lows := by unfold divcL; rw [if_pos hP]
  rw [e]
  obtain ⟨hS, hle⟩ := div_lows hP
  have hdim : dimZ n l = topZ (faceS l) - 1 := by unfold dimZ; rw [if_pos hP.1]
  have htb := topZ_bnd (faceS l)
  obtain ⟨m, hm⟩ : ∃ m : Nat, topZ (faceS l) + 1 = m := ⟨(topZ (faceS l) + 1).toNat, by omega⟩
  have hm2 : (topZ (faceS l) + 1).toNat = m := by omega
  rw [hm2]
  have hw : IntKind.i64.wrap (dimZ n l + 2) = m := by rw [wrapI _ (by omega) (by omega)]; omega
  by_cases h0 : lows = []
  · subst h0
    have hl0 : l = [] := by
      have := hP.2.1
      simp at this
      exact List.length_eq_zero_iff.1 this.symm
    have hm0 : m = 0 := by
      rw [hl0, topZ_nil] at hm
      omega
    subst hm0
    simp -implicitDefEqProofs [sc_s_DivisionCounts, F_s_IsDivision, hd, szRow]
  have hpos := List.length_pos_iff.2 h0
  simp -implicitDefEqProofs [sc_s_DivisionCounts, F_s_IsDivision, F_s_DimOf, hd, h0, hw]
  repeat' (first | omega | apply And.intro)
  refine loopI env mixed (fun k : Nat => [(1, .list 1 (ints lows)), (5, .sl 1 1 0 m), (6, .int .i64 (k : Int))]) (fun k => ([(1, ints (szRow m (lows.take k))), (0, [.int .i64 n, .list 1 (ints l)])], 2)) (fun k => k ≤ lows.length) (fun k => lows.length - k) 0 (by simp) (SubI.slots (by simp [szRow_none]) (by simp)) ?_
  intro k hk
  by_cases hlt : k < lows.length
  · have hf := allS_at hS hlt
    have hle2 := hle _ (getD_mem' hlt)
    have r1 : at0 lows k < 9223372036854775808 := by have := hf.2; omega
    obtain ⟨z, hz⟩ : ∃ z : Nat, sz (at0 lows k) = z := ⟨(sz (at0 lows k)).toNat, by have := sz_nn (at0 lows k); omega⟩
    have hzm : z < m := by omega
    have hcb := cntZ_bnd lows k z
    have hw2 : IntKind.i64.wrap (cntZ (lows.take k) z + 1) = cntZ (lows.take k) z + 1 := wrapI _ (by omega) (by omega)
    have hst := szRow_step hlt hz hzm
    have ha := at0_szRow (lows.take k) hzm
    simp -implicitDefEqProofs [sc_s_DivisionCounts_L0, F_s_l2Size, hlt, r1, hz, hzm, ha, hw2, hst]
    repeat' (first | omega | apply And.intro)
    exact Again.of (k + 1) (by omega) (by omega) (SubI.slots (by simp) (by simp (disch := omega) [wrapI]))
  · have : k = lows.length := by omega
    subst this
    simp -implicitDefEqProofs [sc_s_DivisionCounts_L0]
theorem fn_i_DivisionCounts : FnOk Try.prog 113 F_s_DivisionCounts := by
  have env := ((((envNil_ok (P := Try.prog)).add fn_i_IsDivision).add fn_i_facesIn).add fn_i_topSize).add fn_i_sizesUpTo
  refine fn_ok code_i_DivisionCounts mixed env ?_
  intro args r h hb
  obtain ⟨_, _, ⟨n, l⟩, lows, rfl, h1, h2, h4⟩ := F2_inv h
  cases dC_inv h1
  cases dL_inv h2
  cases h4
  clear h
  refine ⟨by simp, fun w0 U0 L0 N0 => ?_⟩
  clear hb
  by_cases hP : divP n l lows
  rotate_left
  · have hd := dec_false hP
    have e : divcL n l lows = [] := by unfold divcL; rw [if_neg hP]
    rw [e]
    simp -implicitDefEqProofs [sc_i_DivisionCounts, F_s_IsDivision, hd]
  have hd := dec_true hP
  have e : divcL n l lows = szRow (topZ (faceS l) + 1).toNat lows := by unfold divcL; rw [if_pos hP]
  rw [e]
  obtain ⟨hS, hle⟩ := div_lows hP
  have htb := topZ_bnd (faceS l)
  have hg := topG_fam (faceS l)
  have hSl := cplx_isS hP.1
  have hF : F_i_sizesUpTo [.int .i64 (topZ (faceS l)), .list 1 (ints lows)] = some (.own 1 (ints (szRow (topZ (faceS l) + 1).toNat lows))) := by
    simp only [F_i_sizesUpTo, F2_mk, dL_list, dI_int, Option.bind_some]
    rw [if_pos ⟨htb.1, htb.2, hS, hle⟩]
  generalize szRow (topZ (faceS l) + 1).toNat lows = R at *
  simp -implicitDefEqProofs [sc_i_DivisionCounts, F_s_IsDivision, F_i_facesIn, F_i_topSize, hd, hSl, hg, hF]
end Go.Proofs.Ytmemomfffehnkaa
