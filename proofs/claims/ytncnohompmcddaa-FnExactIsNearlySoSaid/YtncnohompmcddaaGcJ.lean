import Derived.Test.YtncnohompmcddaaGcI
namespace Go.Proofs.Ytncnohompmcddaa
open Go Go.RowKit
set_option maxRecDepth 1000000
set_option linter.unusedSimpArgs false
set_option linter.unusedVariables false
set_option maxHeartbeats 1000000
def sc_s_IsClosed_L0 : SC := (.seq (.seq (.reg [⟨(some 7), none, (.mov (.t 4))⟩, ⟨(some 8), none, (.mov (.t 3))⟩, ⟨(some 9), none, (.len (.t 8))⟩, ⟨(some 10), none, (.bin false .lss (.t 7) (.t 9))⟩]) (.cond (.t 10) .skip (.exit 0))) (.seq (.block 1 (.seq (.reg [⟨(some 13), none, (.mov (.t 3))⟩, ⟨(some 14), none, (.mov (.t 4))⟩, ⟨(some 15), none, (.idx 1 (.t 13) (.t 14))⟩, ⟨(some 16), none, (.ld none (.int .i64 0) (.t 15))⟩, ⟨(some 17), none, (.bin false .neq (.t 16) (.c (.int .i64 2)))⟩]) (.cond (.t 17) (.seq (.reg [⟨(some 2), none, (.mov (.c (.bool false)))⟩]) .ret) .skip))) (.reg [⟨(some 11), none, (.mov (.t 4))⟩, ⟨(some 12), none, (.bin false .add (.t 11) (.c (.int .i64 1)))⟩, ⟨(some 4), none, (.mov (.t 12))⟩])))
def sc_s_IsClosed : SC := (.seq (.reg [⟨(some 1), none, (.box (.t 0))⟩, ⟨(some 2), none, (.mov (.c (.bool false)))⟩]) (.seq (.reg [⟨(some 5), none, (.ld (some 2) .undef (.t 1))⟩, ⟨(some 6), none, (.call 109 [(.t 5)])⟩, ⟨(some 3), none, (.mov (.t 6))⟩]) (.seq (.seq (.reg [⟨(some 4), none, (.mov (.c (.int .i64 0)))⟩]) (.block 0 (.loop sc_s_IsClosed_L0))) (.seq (.reg [⟨(some 18), none, (.ld (some 2) .undef (.t 1))⟩, ⟨(some 19), none, (.call 65 [(.t 18)])⟩, ⟨(some 20), none, (.mov (.t 19))⟩, ⟨(some 21), (some (20, true)), (.mov (.t 3))⟩, ⟨(some 22), (some (20, true)), (.len (.t 21))⟩, ⟨(some 23), (some (20, true)), (.bin false .gtr (.t 22) (.c (.int .i64 0)))⟩, ⟨(some 24), none, (.pick (.t 20) (.t 23) (.c (.bool false)))⟩, ⟨(some 2), none, (.mov (.t 24))⟩]) .ret))))
theorem code_s_IsClosed : fnCode Try.prog [] 94 = some (25, sc_s_IsClosed, [(2, none)]) := by kernel_rfl
def clsP (n : Int) (l : List Int) : Prop := pureB n l = true ∧ rcL n l ≠ [] ∧ ∀ j, j < (rcL n l).length → at0 (rcL n l) j = 2
theorem rcL_len (n : Int) (l : List Int) : (rcL n l).length ≤ 64 := by
  unfold rcL
  rw [List.length_map]
  exact (rdgL_ok n l).2
open Classical in
noncomputable def F_s_IsClosed : List V → Option V := F1 dC fun c => if allR c.2 then some (.bool (dec (clsP c.1 c.2))) else none
theorem fn_s_IsClosed : FnOk Try.prog 94 F_s_IsClosed := by
  have env := ((envNil_ok (P := Try.prog)).add fn_s_IsPure).add fn_s_RidgeCounts
  refine fn_ok code_s_IsClosed mixed env ?_
  intro args r h hb
  obtain ⟨_, ⟨n, l⟩, rfl, h1, h4⟩ := F1_inv h
  cases dC_inv h1
  simp only [Option.ite_none_right_eq_some, Option.some.injEq] at h4
  obtain ⟨hR, rfl⟩ := h4
  clear h
  refine ⟨by simp, fun w0 U0 L0 N0 => ?_⟩
  clear hb
  generalize hv : dec (clsP n l) = v
  unfold clsP at hv
  have hl := rcL_len n l
  have hFR : F_s_RidgeCounts [.agg [.int .i64 n, .list 1 (ints l)]] = some (.own 1 (ints (rcL n l))) := by simp [F_s_RidgeCounts]
  generalize rcL n l = L at *
  simp -implicitDefEqProofs [sc_s_IsClosed, hFR]
  refine loopI env mixed (fun k : Nat => [(1, .pt 0 0), (3, .sl 1 1 0 L.length), (4, .int .i64 (k : Int))]) (fun _ => ([(1, ints L), (0, [.int .i64 n, .list 1 (ints l)])], 2)) (fun k => k ≤ L.length ∧ ∀ j, j < k → at0 L j = 2) (fun k => L.length - k) 0 (by simp) (SubI.slots (by simp) (by simp)) ?_
  rintro k ⟨hk, hI⟩
  by_cases hlt : k < L.length
  · by_cases h2 : at0 L k = 2
    · simp -implicitDefEqProofs [sc_s_IsClosed_L0, hlt, h2]
      repeat' (first | omega | apply And.intro)
      refine Again.of (k + 1) ⟨by omega, fun j hj => ?_⟩ (by omega) (SubI.slots rfl (by simp (disch := omega) [wrapI]))
      rcases Nat.lt_succ_iff_lt_or_eq.1 hj with h | rfl
      · exact hI j h
      · exact h2
    · have hv1 : v = false := hv ▸ dec_false fun h => h2 (h.2.2 k hlt)
      simp -implicitDefEqProofs [sc_s_IsClosed_L0, hlt, h2, hv1]
      try omega
  · have : k = L.length := by omega
    subst this
    cases hp : pureB n l with
    | false =>
      have hv1 : v = false := hv ▸ dec_false fun h => by simp [hp] at h
      simp -implicitDefEqProofs [sc_s_IsClosed_L0, F_s_IsPure, hR, hp, hv1]
    | true =>
      by_cases hne : L = []
      · have hv1 : v = false := hv ▸ dec_false fun h => h.2.1 hne
        simp -implicitDefEqProofs [sc_s_IsClosed_L0, F_s_IsPure, hR, hp, hne, hv1]
      · have hv1 : v = true := hv ▸ dec_true ⟨hp, hne, hI⟩
        have hpos := List.length_pos_iff.2 hne
        simp -implicitDefEqProofs [sc_s_IsClosed_L0, F_s_IsPure, hR, hp, hne, hpos, hv1]
def sc_i_IsClosed_L0 : SC := (.seq (.reg [⟨(some 17), none, (.bin false .lss (.t 16) (.t 15))⟩]) (.seq (.cond (.t 17) .skip (.exit 0)) (.seq (.block 1 (.seq (.reg [⟨(some 18), none, (.idx 1 (.t 14) (.t 16))⟩, ⟨(some 19), none, (.ld none (.int .i64 0) (.t 18))⟩, ⟨(some 4), none, (.mov (.t 19))⟩]) (.seq (.reg [⟨(some 20), none, (.mov (.t 4))⟩, ⟨(some 21), none, (.bin false .neq (.t 20) (.c (.int .i64 2)))⟩]) (.cond (.t 21) (.seq (.reg [⟨(some 2), none, (.mov (.c (.bool false)))⟩]) .ret) .skip)))) (.reg [⟨(some 22), none, (.bin false .add (.t 16) (.c (.int .i64 1)))⟩, ⟨(some 16), none, (.mov (.t 22))⟩]))))
def sc_i_IsClosed : SC := (.seq (.reg [⟨(some 1), none, (.box (.t 0))⟩, ⟨(some 2), none, (.mov (.c (.bool false)))⟩]) (.seq (.seq (.reg [⟨(some 5), none, (.ld (some 2) .undef (.t 1))⟩, ⟨(some 6), none, (.call 67 [(.t 5)])⟩, ⟨(some 7), none, (.un .not (.t 6))⟩, ⟨(some 8), none, (.mov (.t 7))⟩, ⟨(some 9), (some (8, false)), (.ld (some 2) .undef (.t 1))⟩, ⟨(some 10), (some (8, false)), (.call 96 [(.t 9)])⟩, ⟨(some 11), (some (8, false)), (.bin false .lss (.t 10) (.c (.int .i64 0)))⟩, ⟨(some 12), none, (.pick (.t 8) (.c (.bool true)) (.t 11))⟩]) (.cond (.t 12) (.seq (.reg [⟨(some 2), none, (.mov (.c (.bool false)))⟩]) .ret) .skip)) (.seq (.seq (.reg [⟨(some 13), none, (.ld (some 2) .undef (.t 1))⟩, ⟨(some 14), none, (.call 110 [(.t 13)])⟩, ⟨(some 15), none, (.len (.t 14))⟩, ⟨(some 16), none, (.mov (.c (.int .i64 0)))⟩]) (.block 0 (.loop sc_i_IsClosed_L0))) (.seq (.reg [⟨(some 2), none, (.mov (.c (.bool true)))⟩]) .ret))))
theorem code_i_IsClosed : fnCode Try.prog [] 97 = some (23, sc_i_IsClosed, [(2, none)]) := by kernel_rfl
theorem less_one : ∀ x : Nat, x < 64 → (pcF 6 x == 0 || (List.range 64).any fun y => (y &&& x == y) && (pcF 6 y + 1 == pcF 6 x)) = true := by decide +kernel
theorem sub_less {s : Int} (hs : isS s) (h : sz s ≠ 0) : ∃ t, isS t ∧ subS t s ∧ sz t + 1 = sz s := by
  obtain ⟨x, hx, rfl⟩ := isS_nat hs
  have k := less_one x hx
  simp only [sz, Int.toNat_natCast, pc6 x hx] at h
  simp only [Bool.or_eq_true, beq_iff_eq, List.any_eq_true, List.mem_range, Bool.and_eq_true] at k
  rcases k with k | ⟨y, hy, k1, k2⟩
  · exact absurd (by omega) h
  · refine ⟨y, inS y hy, (subS_nat y x hy hx).2 k1, ?_⟩
    simp only [sz, Int.toNat_natCast, pc6 x hx, pc6 y hy]
    omega
theorem rcL_ne {n : Int} {l : List Int} (h : ¬ dimZ n l < 0) : rcL n l ≠ [] := by
  have hc := dimZ_cplx h
  have hd : dimZ n l = topZ (faceS l) - 1 := by unfold dimZ; rw [if_pos hc]
  rcases topZ_hit (faceS l) with e | ⟨s, hs, hf, e⟩
  · omega
  · obtain ⟨t, ht, hts, e2⟩ := sub_less hs (by omega)
    have hft := faceS_sub (cplx_isS hc) ht hs hts hf
    have hm : t ∈ rdgL n l := by
      rw [rdgL_nn h, fosL_of hc]
      exact mem_setsOf.2 ⟨ht, hft, by omega⟩
    intro e3
    unfold rcL at e3
    rw [List.map_eq_nil_iff] at e3
    rw [e3] at hm
    simp at hm
theorem fn_i_IsClosed : FnOk Try.prog 97 F_s_IsClosed := by
  have env := (((envNil_ok (P := Try.prog)).add fn_i_IsPure).add fn_i_DimOf).add fn_i_RidgeCounts
  refine fn_ok code_i_IsClosed mixed env ?_
  intro args r h hb
  obtain ⟨_, ⟨n, l⟩, rfl, h1, h4⟩ := F1_inv h
  cases dC_inv h1
  simp only [Option.ite_none_right_eq_some, Option.some.injEq] at h4
  obtain ⟨hR, rfl⟩ := h4
  clear h
  refine ⟨by simp, fun w0 U0 L0 N0 => ?_⟩
  clear hb
  generalize hv : dec (clsP n l) = v
  unfold clsP at hv
  have hl := rcL_len n l
  cases hp : pureB n l with
  | false =>
    have hv1 : v = false := hv ▸ dec_false fun h => by simp [hp] at h
    simp -implicitDefEqProofs [sc_i_IsClosed, F_s_IsPure, hR, hp, hv1]
  | true =>
  have hFD : F_s_DimOf [.agg [.int .i64 n, .list 1 (ints l)]] = some (.int .i64 (dimZ n l)) := by simp [F_s_DimOf]
  by_cases hd : dimZ n l < 0
  · have hv1 : v = false := hv ▸ dec_false fun h => h.2.1 (rcL_neg hd)
    simp -implicitDefEqProofs [sc_i_IsClosed, F_s_IsPure, hFD, hR, hp, hd, hv1]
  have hne := rcL_ne hd
  have hFR : F_s_RidgeCounts [.agg [.int .i64 n, .list 1 (ints l)]] = some (.own 1 (ints (rcL n l))) := by simp [F_s_RidgeCounts]
  generalize rcL n l = L at *
  simp -implicitDefEqProofs [sc_i_IsClosed, F_s_IsPure, hFD, hFR, hR, hp, hd]
  refine loopI env mixed (fun k : Nat => [(14, .sl 1 1 0 L.length), (15, .int .i64 (L.length : Int)), (16, .int .i64 (k : Int))]) (fun _ => ([(1, ints L), (0, [.int .i64 n, .list 1 (ints l)])], 2)) (fun k => k ≤ L.length ∧ ∀ j, j < k → at0 L j = 2) (fun k => L.length - k) 0 (by simp) (SubI.slots (by simp) (by simp)) ?_
  rintro k ⟨hk, hI⟩
  by_cases hlt : k < L.length
  · by_cases h2 : at0 L k = 2
    · simp -implicitDefEqProofs [sc_i_IsClosed_L0, hlt, h2]
      repeat' (first | omega | apply And.intro)
      refine Again.of (k + 1) ⟨by omega, fun j hj => ?_⟩ (by omega) (SubI.slots rfl (by simp (disch := omega) [wrapI]))
      rcases Nat.lt_succ_iff_lt_or_eq.1 hj with h | rfl
      · exact hI j h
      · exact h2
    · have hv1 : v = false := hv ▸ dec_false fun h => h2 (h.2.2 k hlt)
      simp -implicitDefEqProofs [sc_i_IsClosed_L0, hlt, h2, hv1]
      try omega
  · have : k = L.length := by omega
    subst this
    have hv1 : v = true := hv ▸ dec_true ⟨hp, hne, hI⟩
    simp -implicitDefEqProofs [sc_i_IsClosed_L0, hv1]
end Go.Proofs.Ytncnohompmcddaa
