import Derived.Test.YtkfjacclpjgafaaKI
namespace Go.Proofs.Ytkfjacclpjgafaa
open Go Go.RowKit
set_option maxRecDepth 1000000
set_option linter.unusedSimpArgs false
set_option linter.unusedVariables false
set_option maxHeartbeats 1000000
def sc_i_pairedIn_L0 : SC := (.seq (.reg [⟨(some 19), none, (.bin false .lss (.t 18) (.t 17))⟩]) (.seq (.cond (.t 19) .skip (.exit 0)) (.seq (.block 1 (.seq (.reg [⟨(some 20), none, (.idx 2 (.t 16) (.t 18))⟩, ⟨(some 21), none, (.ld (some 2) .undef (.t 20))⟩, ⟨(some 9), none, (.new [(.int .i64 0), (.int .i64 0)])⟩, ⟨none, none, (.st 2 (.t 9) (.t 21))⟩]) (.seq (.seq (.reg [⟨(some 22), none, (.fad 0 (.t 2))⟩, ⟨(some 23), none, (.ld none (.int .i64 0) (.t 22))⟩, ⟨(some 24), none, (.fad 0 (.t 9))⟩, ⟨(some 25), none, (.ld none (.int .i64 0) (.t 24))⟩, ⟨(some 26), none, (.call 126 [(.t 23), (.t 25)])⟩, ⟨(some 27), none, (.un .not (.t 26))⟩, ⟨(some 28), none, (.mov (.t 27))⟩, ⟨(some 29), (some (28, false)), (.fad 0 (.t 2))⟩, ⟨(some 30), (some (28, false)), (.ld none (.int .i64 0) (.t 29))⟩, ⟨(some 31), (some (28, false)), (.fad 1 (.t 9))⟩, ⟨(some 32), (some (28, false)), (.ld none (.int .i64 0) (.t 31))⟩, ⟨(some 33), (some (28, false)), (.call 126 [(.t 30), (.t 32)])⟩, ⟨(some 34), (some (28, false)), (.un .not (.t 33))⟩, ⟨(some 35), none, (.pick (.t 28) (.c (.bool true)) (.t 34))⟩]) (.cond (.t 35) (.seq (.reg [⟨(some 4), none, (.mov (.c (.int .u64 0)))⟩, ⟨(some 5), none, (.mov (.c (.bool false)))⟩]) .ret) .skip)) (.seq (.seq (.dreg [⟨⟨(some 36), none, (.fad 0 (.t 9))⟩, false, false⟩, ⟨⟨(some 37), none, (.ld none (.int .i64 0) (.t 36))⟩, false, false⟩, ⟨⟨(some 38), none, (.fad 1 (.t 9))⟩, false, false⟩, ⟨⟨(some 39), none, (.ld none (.int .i64 0) (.t 38))⟩, false, false⟩, ⟨⟨(some 40), none, (.bin false .andNot (.t 37) (.t 39))⟩, false, false⟩, ⟨⟨(some 41), none, (.bin false .neq (.t 40) (.c (.int .i64 0)))⟩, false, false⟩, ⟨⟨(some 42), none, (.mov (.t 41))⟩, false, false⟩, ⟨⟨(some 43), (some (42, false)), (.fad 1 (.t 9))⟩, false, false⟩, ⟨⟨(some 44), (some (42, false)), (.ld none (.int .i64 0) (.t 43))⟩, false, false⟩, ⟨⟨(some 45), (some (42, false)), (.call 104 [(.t 44)])⟩, false, false⟩, ⟨⟨(some 46), (some (42, false)), (.fad 0 (.t 9))⟩, false, false⟩, ⟨⟨(some 47), (some (42, false)), (.ld none (.int .i64 0) (.t 46))⟩, false, false⟩, ⟨⟨(some 48), (some (42, false)), (.call 104 [(.t 47)])⟩, false, false⟩, ⟨⟨(some 49), (some (42, false)), (.bin false .add (.t 48) (.c (.int .i64 1)))⟩, false, false⟩, ⟨⟨(some 50), (some (42, false)), (.bin false .neq (.t 45) (.t 49))⟩, false, false⟩, ⟨⟨(some 51), none, (.pick (.t 42) (.c (.bool true)) (.t 50))⟩, false, false⟩]) (.cond (.t 51) (.seq (.reg [⟨(some 4), none, (.mov (.c (.int .u64 0)))⟩, ⟨(some 5), none, (.mov (.c (.bool false)))⟩]) .ret) .skip)) (.seq (.reg [⟨(some 52), none, (.fad 0 (.t 9))⟩, ⟨(some 53), none, (.ld none (.int .i64 0) (.t 52))⟩, ⟨(some 54), none, (.conv .u64 (.t 53))⟩, ⟨(some 55), none, (.bin false .shl (.c (.int .u64 1)) (.t 54))⟩, ⟨(some 56), none, (.fad 1 (.t 9))⟩, ⟨(some 57), none, (.ld none (.int .i64 0) (.t 56))⟩, ⟨(some 58), none, (.conv .u64 (.t 57))⟩, ⟨(some 59), none, (.bin false .shl (.c (.int .u64 1)) (.t 58))⟩, ⟨(some 60), none, (.bin false .or (.t 55) (.t 59))⟩, ⟨(some 10), none, (.mov (.t 60))⟩]) (.seq (.seq (.reg [⟨(some 61), none, (.mov (.t 10))⟩, ⟨(some 62), none, (.mov (.t 6))⟩, ⟨(some 63), none, (.bin false .andNot (.t 61) (.t 62))⟩, ⟨(some 64), none, (.bin false .neq (.t 63) (.c (.int .u64 0)))⟩, ⟨(some 65), none, (.mov (.t 64))⟩, ⟨(some 66), (some (65, false)), (.mov (.t 10))⟩, ⟨(some 67), (some (65, false)), (.mov (.t 7))⟩, ⟨(some 68), (some (65, false)), (.bin false .and (.t 66) (.t 67))⟩, ⟨(some 69), (some (65, false)), (.bin false .neq (.t 68) (.c (.int .u64 0)))⟩, ⟨(some 70), none, (.pick (.t 65) (.c (.bool true)) (.t 69))⟩]) (.cond (.t 70) (.seq (.reg [⟨(some 4), none, (.mov (.c (.int .u64 0)))⟩, ⟨(some 5), none, (.mov (.c (.bool false)))⟩]) .ret) .skip)) (.reg [⟨(some 71), none, (.mov (.t 7))⟩, ⟨(some 72), none, (.mov (.t 10))⟩, ⟨(some 73), none, (.bin false .or (.t 71) (.t 72))⟩, ⟨(some 7), none, (.mov (.t 73))⟩]))))))) (.reg [⟨(some 74), none, (.bin false .add (.t 18) (.c (.int .i64 1)))⟩, ⟨(some 18), none, (.mov (.t 74))⟩]))))
def sc_i_pairedIn : SC := (.seq (.reg [⟨(some 2), none, (.box (.t 0))⟩, ⟨(some 4), none, (.mov (.c (.int .u64 0)))⟩, ⟨(some 5), none, (.mov (.c (.bool false)))⟩]) (.seq (.seq (.reg [⟨(some 11), none, (.ld (some 2) .undef (.t 2))⟩, ⟨(some 12), none, (.call 63 [(.t 11)])⟩, ⟨(some 13), none, (.un .not (.t 12))⟩]) (.cond (.t 13) (.seq (.reg [⟨(some 4), none, (.mov (.c (.int .u64 0)))⟩, ⟨(some 5), none, (.mov (.c (.bool false)))⟩]) .ret) .skip)) (.seq (.reg [⟨(some 14), none, (.ld (some 2) .undef (.t 2))⟩, ⟨(some 15), none, (.call 79 [(.t 14)])⟩, ⟨(some 6), none, (.mov (.t 15))⟩]) (.seq (.reg [⟨(some 7), none, (.mov (.c (.int .u64 0)))⟩]) (.seq (.seq (.reg [⟨(some 16), none, (.mov (.t 1))⟩, ⟨(some 17), none, (.len (.t 16))⟩, ⟨(some 18), none, (.mov (.c (.int .i64 0)))⟩]) (.block 0 (.loop sc_i_pairedIn_L0))) (.seq (.reg [⟨(some 75), none, (.mov (.t 7))⟩, ⟨(some 4), none, (.mov (.t 75))⟩, ⟨(some 5), none, (.mov (.c (.bool true)))⟩]) .ret))))))
theorem code_i_pairedIn : fnCode Try.prog [] 102 = some (76, sc_i_pairedIn, [(4, none), (5, none)]) := by kernel_rfl
theorem isSet_face {n : Int} {l : List Int} (hc : cplx n l) {s : Int} (hs : isS s) (h : faceS l s) : isSet n s = true := by
  obtain ⟨f, hf, hsf⟩ := h
  obtain ⟨j, hj, rfl⟩ := getD_mem_iff.1 hf
  have h1 := (hc.2.2 j hj).1
  have h2 := subS_le hs (cplx_isS hc _ hf) hsf
  simp only [isSet, decide_eq_true_eq] at h1 ⊢
  exact ⟨h1.1, h1.2.1, hs.1, by omega⟩
open Classical in
noncomputable def usedF (n : Int) (l : List Int) (list : List (Int × Int)) : Int := if pairP n l list then fam fun x => x ∈ usedI list list.length else 0
noncomputable def F_i_pairedIn : List V → Option V := F2 dC dP fun c list => some (.tup [.int .u64 (usedF c.1 c.2 list), .bool (dec (pairP c.1 c.2 list))])
theorem fn_i_pairedIn : FnOk Try.prog 102 F_i_pairedIn := by
  have env := ((((envNil_ok (P := Try.prog)).add fn_i_IsComplex).add fn_i_IsSet).add fn_i_SizeOf).add fn_i_facesIn
  refine fn_ok code_i_pairedIn mixed env ?_
  intro args r h hb
  obtain ⟨_, _, ⟨n, l⟩, list, rfl, h1, h2, h4⟩ := F2_inv h
  cases dC_inv h1
  cases dP_inv h2
  cases h4
  have hlen := bnd_prs (hb (.list 2 (prs list)) (by simp))
  refine ⟨by simp, fun w0 U0 L0 N0 => ?_⟩
  generalize hv : dec (pairP n l list) = v
  generalize hu : usedF n l list = uf
  have no : ¬ pairP n l list → v = false ∧ uf = 0 := fun h => ⟨hv ▸ dec_false h, by rw [← hu, usedF, if_neg h]⟩
  cases e0 : cplxB n l with
  | false =>
    obtain ⟨hv1, hu1⟩ := no fun h => by simp [cplxB_iff.2 h.1] at e0
    simp -implicitDefEqProofs [sc_i_pairedIn, F_s_IsComplex, e0, hv1, hu1]
  | true =>
  have hc := cplxB_iff.1 e0
  have hS := cplx_isS hc
  have z0 : (0 : Int) = fam fun x => x ∈ usedI list 0 := (fam_zero.2 fun u _ h => by simp [usedI] at h).symm
  simp -implicitDefEqProofs [sc_i_pairedIn, F_s_IsComplex, F_i_facesIn, e0, hS]
  refine loopI env mixed (fun k : Nat => [(2, .pt 0 0), (6, .int .u64 (fam (faceS l))), (7, .int .u64 (fam fun x => x ∈ usedI list k)), (16, .list 2 (prs list)), (17, .int .i64 (list.length : Int)), (18, .int .i64 (k : Int))]) (fun k => ([(0, [.int .i64 n, .list 1 (ints l)])], 1))
    (fun k => k ≤ list.length ∧ ∀ m, m < k → pairGood l (pr0 list m) ∧ (pr0 list m).1 ∉ usedI list m ∧ (pr0 list m).2 ∉ usedI list m) (fun k => list.length - k) 0
    ⟨by omega, by omega⟩ (SubI.slots rfl (by simp only [subE_cons, subE_nil, ← z0]; simp)) ?_
  rintro k ⟨hk, hn⟩
  by_cases hlt : k < list.length
  · have hd := prs_at hlt
    have bad : ¬ (pairGood l (pr0 list k) ∧ (pr0 list k).1 ∉ usedI list k ∧ (pr0 list k).2 ∉ usedI list k) → v = false ∧ uf = 0 := fun h => no fun hp => h (hp.2 k hlt)
    have next : pairGood l (pr0 list k) → (pr0 list k).1 ∉ usedI list k → (pr0 list k).2 ∉ usedI list k → k + 1 ≤ list.length ∧ ∀ m, m < k + 1 → pairGood l (pr0 list m) ∧ (pr0 list m).1 ∉ usedI list m ∧ (pr0 list m).2 ∉ usedI list m := fun g a b => by
      refine ⟨by omega, fun m hm => ?_⟩
      rcases Nat.lt_succ_iff_lt_or_eq.1 hm with h1 | rfl
      · exact hn m h1
      · exact ⟨g, a, b⟩
    have hus := usedI_succ hlt
    generalize hp : pr0 list k = p at *
    obtain ⟨a, b⟩ := p
    simp only at *
    cases e1 : isSet n a with
    | false =>
      obtain ⟨hv1, hu1⟩ := bad fun h => by simp [isSet_face hc h.1.1 h.1.2.2.1] at e1
      simp -implicitDefEqProofs [sc_i_pairedIn_L0, F_i_IsSet, hlt, hd, e1, hv1, hu1]
      try omega
    | true =>
    cases e2 : isSet n b with
    | false =>
      obtain ⟨hv1, hu1⟩ := bad fun h => by simp [isSet_face hc h.1.2.1 h.1.2.2.2.1] at e2
      simp -implicitDefEqProofs [sc_i_pairedIn_L0, F_i_IsSet, hlt, hd, e1, e2, hv1, hu1]
      try omega
    | true =>
    have ha : isS a := isSet_pos e1
    have hbS : isS b := isSet_pos e2
    by_cases h3 : bnot a b = 0
    rotate_left
    · obtain ⟨hv1, hu1⟩ := bad fun h => h3 h.1.2.2.2.2.1
      simp -implicitDefEqProofs [sc_i_pairedIn_L0, F_i_IsSet, hlt, hd, e1, e2, h3, hv1, hu1]
      try omega
    have r1 := sizeOf1_set ha.1 ha.2
    have r2 := sizeOf1_set hbS.1 hbS.2
    have hw : IntKind.i64.wrap (sz a + 1) = sz a + 1 := wrapI _ (by have := sz_nn a; omega) (by have := sz_le a; omega)
    by_cases h4 : sz b = sz a + 1
    rotate_left
    · obtain ⟨hv1, hu1⟩ := bad fun h => h4 (by have : sz b - sz a = 1 := h.1.2.2.2.2.2; omega)
      simp -implicitDefEqProofs [sc_i_pairedIn_L0, F_i_IsSet, F_i_SizeOf, hlt, hd, e1, e2, h3, r1, r2, hw, h4, hv1, hu1]
      try omega
    have u1 := wrapS ha
    have u2 := wrapS hbS
    have o1 := fam_one ha
    have o2 := fam_one hbS
    have p1 := ha.1
    have p2 := hbS.1
    by_cases h5 : fam (fun u => (u = a ∨ u = b) ∧ ¬ faceS l u) = 0
    rotate_left
    · obtain ⟨hv1, hu1⟩ := bad fun h => h5 (fam_zero.2 fun u hu hh => by
        rcases hh.1 with rfl | rfl
        · exact hh.2 h.1.2.2.1
        · exact hh.2 h.1.2.2.2.1)
      simp -implicitDefEqProofs [sc_i_pairedIn_L0, F_i_IsSet, F_i_SizeOf, hlt, hd, e1, e2, h3, r1, r2, hw, h4, u1, u2, o1, o2, p1, p2, h5, hv1, hu1]
      try omega
    by_cases h6 : fam (fun u => (u = a ∨ u = b) ∧ u ∈ usedI list k) = 0
    rotate_left
    · obtain ⟨hv1, hu1⟩ := bad fun h => h6 (fam_zero.2 fun u hu hh => by
        rcases hh.1 with rfl | rfl
        · exact h.2.1 hh.2
        · exact h.2.2 hh.2)
      simp -implicitDefEqProofs [sc_i_pairedIn_L0, F_i_IsSet, F_i_SizeOf, hlt, hd, e1, e2, h3, r1, r2, hw, h4, u1, u2, o1, o2, p1, p2, h5, h6, hv1, hu1]
      try omega
    have f1 : faceS l a := Classical.byContradiction fun h => fam_zero.1 h5 a ha ⟨.inl rfl, h⟩
    have f2 : faceS l b := Classical.byContradiction fun h => fam_zero.1 h5 b hbS ⟨.inr rfl, h⟩
    have n1 : a ∉ usedI list k := fun h => fam_zero.1 h6 a ha ⟨.inl rfl, h⟩
    have n2 : b ∉ usedI list k := fun h => fam_zero.1 h6 b hbS ⟨.inr rfl, h⟩
    have hnx := next ⟨ha, hbS, f1, f2, h3, by show sz b - sz a = 1; omega⟩ n1 n2
    have e : (fam fun u => u ∈ usedI list k ∨ u = a ∨ u = b) = fam fun u => u ∈ usedI list (k + 1) := fam_congr fun u _ => by rw [hus]; simp
    simp -implicitDefEqProofs [sc_i_pairedIn_L0, F_i_IsSet, F_i_SizeOf, hlt, hd, e1, e2, h3, r1, r2, hw, h4, u1, u2, o1, o2, p1, p2, h5, h6, e]
    repeat' (first | omega | apply And.intro)
    refine Again.of (k + 1) hnx (by omega) (SubI.ren (fun m => if m = 0 then some 0 else none) ?_ ?_ ?_ (by simp) (by simp))
    · simp (disch := omega) [subT, renV, ren1, wrapI]
    · simp [subH, renL, ren1]
    · intro m hm
      simp only at hm
      rw [if_neg (by omega)]
  · have hkl : k = list.length := by omega
    have hP : pairP n l list := ⟨hc, fun m hm => hn m (by omega)⟩
    have hv1 : v = true := hv ▸ dec_true hP
    have hu1 : (fam fun x => x ∈ usedI list list.length) = uf := by rw [← hu, usedF, if_pos hP]
    subst hkl
    simp -implicitDefEqProofs [sc_i_pairedIn_L0, hv1, hu1]
end Go.Proofs.Ytkfjacclpjgafaa
