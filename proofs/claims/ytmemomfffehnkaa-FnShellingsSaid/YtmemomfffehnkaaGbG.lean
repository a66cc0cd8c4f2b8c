import Derived.Test.YtmemomfffehnkaaFoH
import Derived.Test.YtmemomfffehnkaaGbE
import Derived.Test.YtmemomfffehnkaaKJ
namespace Go.Proofs.Ytmemomfffehnkaa
open Go Go.RowKit
set_option maxRecDepth 1000000
set_option linter.unusedSimpArgs false
set_option linter.unusedVariables false
set_option maxHeartbeats 1000000
def sc_s_ShellingCounts_L0 : SC := (.seq (.seq (.reg [⟨(some 25), none, (.mov (.t 7))⟩, ⟨(some 26), none, (.mov (.t 6))⟩, ⟨(some 27), none, (.len (.t 26))⟩, ⟨(some 28), none, (.bin false .lss (.t 25) (.t 27))⟩]) (.cond (.t 28) .skip (.exit 0))) (.seq (.block 1 (.dreg [⟨⟨(some 31), none, (.mov (.t 5))⟩, false, false⟩, ⟨⟨(some 32), none, (.mov (.t 6))⟩, false, false⟩, ⟨⟨(some 33), none, (.mov (.t 7))⟩, false, false⟩, ⟨⟨(some 34), none, (.idx 1 (.t 32) (.t 33))⟩, false, false⟩, ⟨⟨(some 35), none, (.ld none (.int .i64 0) (.t 34))⟩, false, false⟩, ⟨⟨(some 36), none, (.call 156 [(.t 35)])⟩, false, false⟩, ⟨⟨(some 37), none, (.mov (.t 5))⟩, false, false⟩, ⟨⟨(some 38), none, (.mov (.t 6))⟩, false, false⟩, ⟨⟨(some 39), none, (.mov (.t 7))⟩, false, false⟩, ⟨⟨(some 40), none, (.idx 1 (.t 38) (.t 39))⟩, false, false⟩, ⟨⟨(some 41), none, (.ld none (.int .i64 0) (.t 40))⟩, false, false⟩, ⟨⟨(some 42), none, (.call 156 [(.t 41)])⟩, false, false⟩, ⟨⟨(some 43), none, (.idx 1 (.t 37) (.t 42))⟩, false, false⟩, ⟨⟨(some 44), none, (.ld none (.int .i64 0) (.t 43))⟩, false, false⟩, ⟨⟨(some 45), none, (.bin false .add (.t 44) (.c (.int .i64 1)))⟩, false, false⟩, ⟨⟨(some 46), none, (.idx 1 (.t 31) (.t 36))⟩, false, false⟩, ⟨⟨none, none, (.st 1 (.t 46) (.t 45))⟩, true, false⟩])) (.reg [⟨(some 29), none, (.mov (.t 7))⟩, ⟨(some 30), none, (.bin false .add (.t 29) (.c (.int .i64 1)))⟩, ⟨(some 7), none, (.mov (.t 30))⟩])))
def sc_s_ShellingCounts : SC := (.seq (.reg [⟨(some 2), none, (.box (.t 0))⟩, ⟨(some 4), none, (.mov (.c .nil))⟩]) (.seq (.seq (.reg [⟨(some 8), none, (.ld (some 2) .undef (.t 2))⟩, ⟨(some 9), none, (.mov (.t 1))⟩, ⟨(some 10), none, (.call 37 [(.t 8), (.t 9)])⟩, ⟨(some 11), none, (.un .not (.t 10))⟩, ⟨(some 12), none, (.mov (.t 11))⟩, ⟨(some 13), (some (12, false)), (.mov (.t 1))⟩, ⟨(some 14), (some (12, false)), (.len (.t 13))⟩, ⟨(some 15), (some (12, false)), (.bin false .eql (.t 14) (.c (.int .i64 0)))⟩, ⟨(some 16), none, (.pick (.t 12) (.c (.bool true)) (.t 15))⟩]) (.cond (.t 16) (.seq (.reg [⟨(some 17), none, (.mks 0 1 [] [])⟩, ⟨(some 4), none, (.mov (.t 17))⟩]) .ret) .skip)) (.seq (.reg [⟨(some 18), none, (.ld (some 2) .undef (.t 2))⟩, ⟨(some 19), none, (.call 155 [(.t 18)])⟩, ⟨(some 20), none, (.bin false .add (.t 19) (.c (.int .i64 2)))⟩, ⟨(some 21), none, (.mk 1 8 [(.int .i64 0)] (.t 20) (.t 20))⟩, ⟨(some 5), none, (.mov (.t 21))⟩]) (.seq (.reg [⟨(some 22), none, (.ld (some 2) .undef (.t 2))⟩, ⟨(some 23), none, (.mov (.t 1))⟩, ⟨(some 24), none, (.call 38 [(.t 22), (.t 23)])⟩, ⟨(some 6), none, (.mov (.t 24))⟩]) (.seq (.seq (.reg [⟨(some 7), none, (.mov (.c (.int .i64 0)))⟩]) (.block 0 (.loop sc_s_ShellingCounts_L0))) (.seq (.reg [⟨(some 47), none, (.mov (.t 5))⟩, ⟨(some 4), none, (.mov (.t 47))⟩]) .ret))))))
theorem code_s_ShellingCounts : fnCode Try.prog [] 39 = some (48, sc_s_ShellingCounts, [(4, none)]) := by kernel_rfl
theorem partI_all {l : List Int} (hl : allS l) {s : Int} (hs : isS s) : isS (partI l s) := by
  have := partI_isS hl hs l.length (Nat.le_refl _)
  rwa [List.take_length] at this
theorem newfP_ok {n : Int} {l list : List Int} (h : shellB n l list = true) : allS (newfP list list.length) ∧ ∀ s ∈ newfP list list.length, sz s ≤ topZ (faceS l) := by
  obtain ⟨hc, _, hin, hS⟩ := order_parts (shell_order h)
  have key : ∀ s ∈ newfP list list.length, ∃ j, j < list.length ∧ s = partI (list.take j) (at0 list j) := fun s hs => by
    obtain ⟨j, hj, e⟩ := List.mem_map.1 hs
    exact ⟨j, List.mem_range.1 hj, e.symm⟩
  constructor
  · intro s hs
    obtain ⟨j, hj, rfl⟩ := key s hs
    exact partI_all (allS_take hS j) (allS_at hS hj)
  · intro s hs
    obtain ⟨j, hj, rfl⟩ := key s hs
    have hf := allS_at hS hj
    have hp := partI_all (allS_take hS j) hf
    have hsub : subS (partI (list.take j) (at0 list j)) (at0 list j) := (subS_tb hp hf).2 fun i hi h => part_sub (allS_take hS j) hf hi h
    have h1 := (sz_sub hp hf hsub).1
    have h2 := topZ_ge (p := faceS l) hf ⟨_, hin _ (getD_mem' hj), subS_refl hf⟩
    omega
open Classical in
noncomputable def shcL (n : Int) (l list : List Int) : List Int := if shellB n l list = true then szRow (topZ (faceS l) + 1).toNat (newfP list list.length) else []
noncomputable def F_s_ShellingCounts : List V → Option V := F2 dC dL fun c list => some (.own 1 (ints (shcL c.1 c.2 list)))
theorem fn_s_ShellingCounts : FnOk Try.prog 39 F_s_ShellingCounts := by
  have env := ((((envNil_ok (P := Try.prog)).add fn_s_IsShelling).add fn_s_DimOf).add fn_s_l2Size).add fn_s_NewFaces
  refine fn_ok code_s_ShellingCounts mixed env ?_
  intro args r h hb
  obtain ⟨_, _, ⟨n, l⟩, list, rfl, h1, h2, h4⟩ := F2_inv h
  cases dC_inv h1
  cases dL_inv h2
  cases h4
  clear h
  refine ⟨by simp, fun w0 U0 L0 N0 => ?_⟩
  clear hb
  cases hP : shellB n l list with
  | false =>
    have e : shcL n l list = [] := by unfold shcL; rw [if_neg (by simp [hP])]
    rw [e]
    simp -implicitDefEqProofs [sc_s_ShellingCounts, F_s_IsShelling, hP]
  | true =>
  have e : shcL n l list = szRow (topZ (faceS l) + 1).toNat (newfP list list.length) := by unfold shcL; rw [if_pos hP]
  rw [e]
  obtain ⟨hS, hle⟩ := newfP_ok hP
  have ho := shell_order hP
  have h64 := order_len ho
  obtain ⟨hc, _⟩ := order_parts ho
  have hnf : newfL n l list = newfP list list.length := by simp [newfL, hP]
  have hdim : dimZ n l = topZ (faceS l) - 1 := by unfold dimZ; rw [if_pos hc]
  have htb := topZ_bnd (faceS l)
  obtain ⟨m, hm⟩ : ∃ m : Nat, topZ (faceS l) + 1 = m := ⟨(topZ (faceS l) + 1).toNat, by omega⟩
  have hm2 : (topZ (faceS l) + 1).toNat = m := by omega
  rw [hm2]
  have hw : IntKind.i64.wrap (dimZ n l + 2) = m := by rw [wrapI _ (by omega) (by omega)]; omega
  by_cases h0 : list = []
  · subst h0
    have hl0 : l = [] := by
      simp only [orderB, Bool.and_eq_true, decide_eq_true_eq] at ho
      have := ho.2.1
      simp at this
      exact List.length_eq_zero_iff.1 this.symm
    have hm0 : m = 0 := by
      rw [hl0, topZ_nil] at hm
      omega
    subst hm0
    simp -implicitDefEqProofs [sc_s_ShellingCounts, F_s_IsShelling, hP, szRow]
  have hpos := List.length_pos_iff.2 h0
  have hNl : (newfP list list.length).length ≤ 64 := by rw [newfP_len]; exact h64
  generalize hN : newfP list list.length = N at *
  simp -implicitDefEqProofs [sc_s_ShellingCounts, F_s_IsShelling, F_s_DimOf, F_s_NewFaces, hP, h0, hw, hnf]
  repeat' (first | omega | apply And.intro)
  refine loopI env mixed (fun k : Nat => [(5, .sl 1 1 0 m), (6, .sl 2 1 0 N.length), (7, .int .i64 (k : Int))]) (fun k => ([(2, ints N), (1, ints (szRow m (N.take k))), (0, [.int .i64 n, .list 1 (ints l)])], 3)) (fun k => k ≤ N.length) (fun k => N.length - k) 0 (by simp) (SubI.slots (by simp [szRow_none]) (by simp)) ?_
  intro k hk
  by_cases hlt : k < N.length
  · have hf := allS_at hS hlt
    have hle2 := hle _ (getD_mem' hlt)
    have r1 : at0 N k < 9223372036854775808 := by have := hf.2; omega
    obtain ⟨z, hz⟩ : ∃ z : Nat, sz (at0 N k) = z := ⟨(sz (at0 N k)).toNat, by have := sz_nn (at0 N k); omega⟩
    have hzm : z < m := by omega
    have hcb := cntZ_bnd N k z
    have hw2 : IntKind.i64.wrap (cntZ (N.take k) z + 1) = cntZ (N.take k) z + 1 := wrapI _ (by omega) (by omega)
    have hst := szRow_step hlt hz hzm
    have ha := at0_szRow (N.take k) hzm
    simp -implicitDefEqProofs [sc_s_ShellingCounts_L0, F_s_l2Size, hlt, r1, hz, hzm, ha, hw2, hst]
    repeat' (first | omega | apply And.intro)
    exact Again.of (k + 1) (by omega) (by omega) (SubI.slots (by simp) (by simp (disch := omega) [wrapI]))
  · have : k = N.length := by omega
    subst this
    simp -implicitDefEqProofs [sc_s_ShellingCounts_L0]
def sc_i_ShellingCounts : SC := (.seq (.reg [⟨(some 2), none, (.box (.t 0))⟩, ⟨(some 4), none, (.mov (.c .nil))⟩]) (.seq (.seq (.reg [⟨(some 5), none, (.ld (some 2) .undef (.t 2))⟩, ⟨(some 6), none, (.mov (.t 1))⟩, ⟨(some 7), none, (.call 36 [(.t 5), (.t 6)])⟩, ⟨(some 8), none, (.un .not (.t 7))⟩]) (.cond (.t 8) (.seq (.reg [⟨(some 4), none, (.mov (.c .nil))⟩]) .ret) .skip)) (.seq (.dreg [⟨⟨(some 9), none, (.ld (some 2) .undef (.t 2))⟩, false, false⟩, ⟨⟨(some 10), none, (.call 151 [(.t 9)])⟩, false, false⟩, ⟨⟨(some 11), none, (.call 150 [(.t 10)])⟩, false, false⟩, ⟨⟨(some 12), none, (.ld (some 2) .undef (.t 2))⟩, false, false⟩, ⟨⟨(some 13), none, (.mov (.t 1))⟩, false, false⟩, ⟨⟨(some 14), none, (.call 32 [(.t 12), (.t 13)])⟩, false, false⟩, ⟨⟨(some 15), none, (.call 149 [(.t 11), (.t 14)])⟩, true, false⟩, ⟨⟨(some 4), none, (.mov (.t 15))⟩, false, false⟩]) .ret)))
theorem code_i_ShellingCounts : fnCode Try.prog [149] 33 = some (16, sc_i_ShellingCounts, [(4, none)]) := by kernel_rfl
theorem fn_i_ShellingCounts : FnOk Try.prog 33 F_s_ShellingCounts := by
  have env := (((((envNil_ok (P := Try.prog)).add fn_i_IsShelling).add fn_i_facesIn).add fn_i_topSize).add fn_i_NewFaces).add fn_i_sizesUpTo
  refine fn_ok code_i_ShellingCounts mixed env ?_
  intro args r h hb
  obtain ⟨_, _, ⟨n, l⟩, list, rfl, h1, h2, h4⟩ := F2_inv h
  cases dC_inv h1
  cases dL_inv h2
  cases h4
  clear h
  refine ⟨by simp, fun w0 U0 L0 N0 => ?_⟩
  clear hb
  cases hP : shellB n l list with
  | false =>
    have e : shcL n l list = [] := by unfold shcL; rw [if_neg (by simp [hP])]
    rw [e]
    simp -implicitDefEqProofs [sc_i_ShellingCounts, F_s_IsShelling, hP]
  | true =>
  have e : shcL n l list = szRow (topZ (faceS l) + 1).toNat (newfP list list.length) := by unfold shcL; rw [if_pos hP]
  rw [e]
  obtain ⟨hS, hle⟩ := newfP_ok hP
  have ho := shell_order hP
  have h64 := order_len ho
  obtain ⟨hc, _⟩ := order_parts ho
  have hnf : newfL n l list = newfP list list.length := by simp [newfL, hP]
  have htb := topZ_bnd (faceS l)
  have hg := topG_fam (faceS l)
  have hSl := cplx_isS hc
  have hNl : (newfP list list.length).length ≤ 64 := by rw [newfP_len]; exact h64
  generalize newfP list list.length = N at *
  have hF : F_i_sizesUpTo [.int .i64 (topZ (faceS l)), .list 1 (ints N)] = some (.own 1 (ints (szRow (topZ (faceS l) + 1).toNat N))) := by
    simp only [F_i_sizesUpTo, F2_mk, dL_list, dI_int, Option.bind_some]
    rw [if_pos ⟨htb.1, htb.2, hS, hle⟩]
  generalize szRow (topZ (faceS l) + 1).toNat N = R at *
  simp -implicitDefEqProofs [sc_i_ShellingCounts, F_s_IsShelling, F_i_facesIn, F_i_topSize, F_s_NewFaces, hP, hSl, hg, hnf, hF]
end Go.Proofs.Ytmemomfffehnkaa
