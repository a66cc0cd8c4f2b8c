import Derived.Test.YtedampaecopkhaaFnQ
namespace Go.Proofs.Ytedampaecopkhaa
open Go Go.RowKit
set_option maxRecDepth 1000000
set_option linter.unusedSimpArgs false
set_option linter.unusedVariables false
set_option maxHeartbeats 1000000
def sc_i_subsetFamily_L0 : SC := (.seq (.block 1 (.seq (.reg [⟨(some 10), none, (.mov (.t 3))⟩, ⟨(some 11), none, (.mov (.t 4))⟩, ⟨(some 12), none, (.conv .u64 (.t 11))⟩, ⟨(some 13), none, (.bin false .shl (.c (.int .u64 1)) (.t 12))⟩, ⟨(some 14), none, (.bin false .or (.t 10) (.t 13))⟩, ⟨(some 3), none, (.mov (.t 14))⟩]) (.seq (.reg [⟨(some 15), none, (.mov (.t 4))⟩, ⟨(some 16), none, (.bin false .eql (.t 15) (.c (.int .i64 0)))⟩]) (.cond (.t 16) (.seq (.reg [⟨(some 17), none, (.mov (.t 3))⟩, ⟨(some 2), none, (.mov (.t 17))⟩]) .ret) .skip)))) (.reg [⟨(some 6), none, (.mov (.t 4))⟩, ⟨(some 7), none, (.bin false .sub (.t 6) (.c (.int .i64 1)))⟩, ⟨(some 8), none, (.mov (.t 0))⟩, ⟨(some 9), none, (.bin false .and (.t 7) (.t 8))⟩, ⟨(some 4), none, (.mov (.t 9))⟩]))
def sc_i_subsetFamily : SC := (.seq (.reg [⟨(some 2), none, (.mov (.c (.int .u64 0)))⟩]) (.seq (.reg [⟨(some 3), none, (.mov (.c (.int .u64 0)))⟩]) (.seq (.reg [⟨(some 5), none, (.mov (.t 0))⟩, ⟨(some 4), none, (.mov (.t 5))⟩]) (.block 0 (.loop sc_i_subsetFamily_L0)))))
theorem code_i_subsetFamily : fnCode Try.prog [] 73 = some (18, sc_i_subsetFamily, [(2, none)]) := by kernel_rfl
open Classical in
noncomputable def F_i_subsetFamily : List V → Option V := F1 dI fun s => if isS s then some (.int .u64 (fam fun t => subS t s)) else none
theorem fn_i_subsetFamily : FnOk Try.prog 73 F_i_subsetFamily := by
  refine fn_ok code_i_subsetFamily mixed envNil_ok ?_
  intro args r h hb
  obtain ⟨_, s, rfl, h1, h4⟩ := F1_inv h
  cases dI_inv h1
  simp only [Option.ite_none_right_eq_some, Option.some.injEq] at h4
  obtain ⟨hs, rfl⟩ := h4
  refine ⟨by simp, fun w0 U0 L0 N0 => ?_⟩
  generalize hv : fam (fun t => subS t s) = v
  have e0 : (0 : Int) = fam fun u => subS u s ∧ s < u := (fam_zero.2 fun u hu h => by have := subS_le hu hs h.1; omega).symm
  simp -implicitDefEqProofs [sc_i_subsetFamily]
  refine loopI envNil_ok mixed (fun t : Int => [(0, .int .i64 s), (3, .int .u64 (fam fun u => subS u s ∧ t < u)), (4, .int .i64 t)]) (fun _ => ([], 0)) (fun t => isS t ∧ subS t s) (fun t => t.toNat) s ⟨hs, subS_refl hs⟩ (SubI.slots rfl (by simp [← e0])) ?_
  rintro t ⟨ht, hts⟩
  have hu := wrapS ht
  have h1 := fam_one ht
  by_cases h0 : t = 0
  · subst h0
    have h2 : IntKind.u64.wrap 1 = fam fun t => t = 0 := by simpa using fam_one isS_zero
    have e : (fam fun u => (subS u s ∧ 0 < u) ∨ u = 0) = v := by
      rw [← hv]
      refine fam_congr fun u hu => ⟨?_, fun h => ?_⟩
      · rintro (h | rfl)
        · exact h.1
        · exact subS_zero hs
      · by_cases hz : u = 0
        · exact .inr hz
        · exact .inl ⟨h, by have := hu.1; omega⟩
    simp -implicitDefEqProofs [sc_i_subsetFamily_L0, hu, h2, e]
  · obtain ⟨n1, n2, n3, n4⟩ := sub_next hs ht hts h0
    have hw : IntKind.i64.wrap (t - 1) = t - 1 := wrapI _ (by have := ht.1; omega) (by have := ht.2; omega)
    have e : (fam fun u => (subS u s ∧ t < u) ∨ u = t) = fam fun u => subS u s ∧ band (t - 1) s < u := by
      refine fam_congr fun u hu => ⟨?_, fun h => ?_⟩
      · rintro (h | rfl)
        · exact ⟨h.1, by omega⟩
        · exact ⟨hts, n3⟩
      · rcases Int.lt_trichotomy u t with h3 | h3 | h3
        · exact absurd (n4 u hu h.1 h3) (by omega)
        · exact .inr h3
        · exact .inl ⟨h.1, h3⟩
    simp -implicitDefEqProofs [sc_i_subsetFamily_L0, hu, h1, h0, hw, e]
    have f0 := ht.1
    repeat' (first | omega | apply And.intro)
    exact Again.of (band (t - 1) s) ⟨n1, n2⟩ (by have := n1.1; omega) (SubI.slots rfl (by simp))
def sc_i_facesIn_L0 : SC := (.seq (.reg [⟨(some 10), none, (.bin false .lss (.t 9) (.t 8))⟩]) (.seq (.cond (.t 10) .skip (.exit 0)) (.seq (.block 1 (.seq (.reg [⟨(some 11), none, (.idx 1 (.t 7) (.t 9))⟩, ⟨(some 12), none, (.ld none (.int .i64 0) (.t 11))⟩, ⟨(some 5), none, (.mov (.t 12))⟩]) (.reg [⟨(some 13), none, (.mov (.t 3))⟩, ⟨(some 14), none, (.mov (.t 5))⟩, ⟨(some 15), none, (.call 73 [(.t 14)])⟩, ⟨(some 16), none, (.bin false .or (.t 13) (.t 15))⟩, ⟨(some 3), none, (.mov (.t 16))⟩]))) (.reg [⟨(some 17), none, (.bin false .add (.t 9) (.c (.int .i64 1)))⟩, ⟨(some 9), none, (.mov (.t 17))⟩]))))
def sc_i_facesIn : SC := (.seq (.reg [⟨(some 1), none, (.box (.t 0))⟩, ⟨(some 2), none, (.mov (.c (.int .u64 0)))⟩]) (.seq (.reg [⟨(some 3), none, (.mov (.c (.int .u64 0)))⟩]) (.seq (.seq (.reg [⟨(some 6), none, (.fad 1 (.t 1))⟩, ⟨(some 7), none, (.ld none .nil (.t 6))⟩, ⟨(some 8), none, (.len (.t 7))⟩, ⟨(some 9), none, (.mov (.c (.int .i64 0)))⟩]) (.block 0 (.loop sc_i_facesIn_L0))) (.seq (.reg [⟨(some 18), none, (.mov (.t 3))⟩, ⟨(some 2), none, (.mov (.t 18))⟩]) .ret))))
theorem code_i_facesIn : fnCode Try.prog [] 67 = some (19, sc_i_facesIn, [(2, none)]) := by kernel_rfl
open Classical in
noncomputable def F_i_facesIn : List V → Option V := F1 dC fun c => if allS c.2 then some (.int .u64 (fam (faceS c.2))) else none
theorem fn_i_facesIn : FnOk Try.prog 67 F_i_facesIn := by
  have env := (envNil_ok (P := Try.prog)).add fn_i_subsetFamily
  refine fn_ok code_i_facesIn mixed env ?_
  intro args r h hb
  obtain ⟨_, ⟨n, l⟩, rfl, h1, h4⟩ := F1_inv h
  cases dC_inv h1
  simp only [Option.ite_none_right_eq_some, Option.some.injEq] at h4
  obtain ⟨hS, rfl⟩ := h4
  have hlen := bnd_eC (hb _ (List.mem_cons_self ..))
  simp only at hlen
  refine ⟨by simp, fun w0 U0 L0 N0 => ?_⟩
  have e0 : (0 : Int) = fam (faceS []) := (fam_zero.2 fun u hu h => by obtain ⟨f, h1, _⟩ := h; simp at h1).symm
  simp -implicitDefEqProofs [sc_i_facesIn]
  refine loopI env mixed (fun k : Nat => [(3, .int .u64 (fam (faceS (l.take k)))), (7, .list 1 (ints l)), (8, .int .i64 l.length), (9, .int .i64 (k : Int))]) (fun _ => ([(0, [.int .i64 n, .list 1 (ints l)])], 1)) (fun k => k ≤ l.length) (fun k => l.length - k) 0 (by simp) (SubI.slots rfl (by simp [← e0])) ?_
  intro k hk
  by_cases hlt : k < l.length
  · have hf := allS_at hS hlt
    have e : (fam fun s => faceS (l.take k) s ∨ subS s (at0 l k)) = fam (faceS (l.take (k + 1))) := by
      rw [take_at hlt]
      exact fam_congr fun s _ => faceS_snoc.symm
    simp -implicitDefEqProofs [sc_i_facesIn_L0, F_i_subsetFamily, hlt, hf, e]
    repeat' (first | omega | apply And.intro)
    refine Again.of (k + 1) (by omega) (by omega) (SubI.slots rfl (by simp (disch := omega) [wrapI]))
  · have : k = l.length := by omega
    subst this
    simp -implicitDefEqProofs [sc_i_facesIn_L0]
def sc_s_l3Has_L0 : SC := (.seq (.seq (.reg [⟨(some 6), none, (.mov (.t 5))⟩, ⟨(some 7), none, (.fad 1 (.t 2))⟩, ⟨(some 8), none, (.ld none .nil (.t 7))⟩, ⟨(some 9), none, (.len (.t 8))⟩, ⟨(some 10), none, (.bin false .lss (.t 6) (.t 9))⟩]) (.cond (.t 10) .skip (.exit 0))) (.seq (.block 1 (.seq (.reg [⟨(some 13), none, (.fad 1 (.t 2))⟩, ⟨(some 14), none, (.ld none .nil (.t 13))⟩, ⟨(some 15), none, (.mov (.t 5))⟩, ⟨(some 16), none, (.idx 1 (.t 14) (.t 15))⟩, ⟨(some 17), none, (.ld none (.int .i64 0) (.t 16))⟩, ⟨(some 18), none, (.mov (.t 1))⟩, ⟨(some 19), none, (.bin false .and (.t 17) (.t 18))⟩, ⟨(some 20), none, (.mov (.t 1))⟩, ⟨(some 21), none, (.bin false .eql (.t 19) (.t 20))⟩]) (.cond (.t 21) (.seq (.reg [⟨(some 4), none, (.mov (.c (.bool true)))⟩]) .ret) .skip))) (.reg [⟨(some 11), none, (.mov (.t 5))⟩, ⟨(some 12), none, (.bin false .add (.t 11) (.c (.int .i64 1)))⟩, ⟨(some 5), none, (.mov (.t 12))⟩])))
def sc_s_l3Has : SC := (.seq (.reg [⟨(some 2), none, (.box (.t 0))⟩, ⟨(some 4), none, (.mov (.c (.bool false)))⟩]) (.seq (.seq (.reg [⟨(some 5), none, (.mov (.c (.int .i64 0)))⟩]) (.block 0 (.loop sc_s_l3Has_L0))) (.seq (.reg [⟨(some 4), none, (.mov (.c (.bool false)))⟩]) .ret)))
theorem code_s_l3Has : fnCode Try.prog [] 75 = some (22, sc_s_l3Has, [(4, none)]) := by kernel_rfl
open Classical in
noncomputable def F_s_l3Has : List V → Option V := F2 dC dI fun c s => if allS c.2 ∧ isS s then some (.bool (dec (faceS c.2 s))) else none
theorem fn_s_l3Has : FnOk Try.prog 75 F_s_l3Has := by
  refine fn_ok code_s_l3Has mixed envNil_ok ?_
  intro args r h hb
  obtain ⟨_, _, ⟨n, l⟩, s, rfl, h1, h2, h4⟩ := F2_inv h
  cases dC_inv h1
  cases dI_inv h2
  simp only [Option.ite_none_right_eq_some, Option.some.injEq] at h4
  obtain ⟨⟨hS, hs⟩, rfl⟩ := h4
  have hlen := bnd_eC (hb _ (List.mem_cons_self ..))
  simp only at hlen
  refine ⟨by simp, fun w0 U0 L0 N0 => ?_⟩
  generalize hv : dec (faceS l s) = v
  simp -implicitDefEqProofs [sc_s_l3Has]
  refine loopI envNil_ok mixed (fun k : Nat => [(1, .int .i64 s), (2, .pt 0 0), (5, .int .i64 (k : Int))]) (fun _ => ([(0, [.int .i64 n, .list 1 (ints l)])], 1)) (fun k => k ≤ l.length ∧ ∀ j, j < k → ¬ subS s (at0 l j)) (fun k => l.length - k) 0 (by simp) (SubI.slots rfl (by simp)) ?_
  rintro k ⟨hk, hn⟩
  by_cases hlt : k < l.length
  · have hf := allS_at hS hlt
    by_cases he : band (at0 l k) s = s
    · have hv1 : v = true := hv ▸ dec_true ⟨_, getD_mem' hlt, (subS_iff' hs hf).2 he⟩
      simp -implicitDefEqProofs [sc_s_l3Has_L0, hlt, he, hv1]
      try omega
    · simp -implicitDefEqProofs [sc_s_l3Has_L0, hlt, he]
      repeat' (first | omega | apply And.intro)
      refine Again.of (k + 1) ⟨by omega, fun j hj => ?_⟩ (by omega) (SubI.slots rfl (by simp (disch := omega) [wrapI]))
      rcases Nat.lt_succ_iff_lt_or_eq.1 hj with h1 | rfl
      · exact hn j h1
      · exact fun h => he ((subS_iff' hs hf).1 h)
  · have hv1 : v = false := by
      rw [← hv]
      refine dec_false ?_
      rintro ⟨f, h1, h2⟩
      obtain ⟨j, hj, rfl⟩ := getD_mem_iff.1 h1
      exact hn j (by omega) h2
    simp -implicitDefEqProofs [sc_s_l3Has_L0, hlt, hv1]
end Go.Proofs.Ytedampaecopkhaa
