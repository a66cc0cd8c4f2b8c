import Derived.Test.YtmemomfffehnkaaSbA
namespace Go.Proofs.Ytmemomfffehnkaa
open Go Go.RowKit
set_option maxRecDepth 1000000
set_option linter.unusedSimpArgs false
set_option linter.unusedVariables false
set_option maxHeartbeats 1000000
def sc_s_l5Set : SC := (.seq (.reg [⟨(some 2), none, (.box (.t 0))⟩, ⟨(some 4), none, (.mov (.c (.bool false)))⟩]) (.seq (.reg [⟨(some 5), none, (.ld (some 2) .undef (.t 2))⟩, ⟨(some 6), none, (.call 24 [(.t 5)])⟩, ⟨(some 7), none, (.mov (.t 6))⟩, ⟨(some 8), (some (7, true)), (.fad 0 (.t 2))⟩, ⟨(some 9), (some (7, true)), (.ld none (.int .i64 0) (.t 8))⟩, ⟨(some 10), (some (7, true)), (.mov (.t 1))⟩, ⟨(some 11), (some (7, true)), (.call 139 [(.t 9), (.t 10)])⟩, ⟨(some 12), none, (.pick (.t 7) (.t 11) (.c (.bool false)))⟩, ⟨(some 4), none, (.mov (.t 12))⟩]) .ret))
theorem code_s_l5Set : fnCode Try.prog [] 184 = some (13, sc_s_l5Set, [(4, none)]) := by kernel_rfl
noncomputable def l5B (n : Int) (l : List Int) (s : Int) : Bool := dec (cplx n l ∧ isSet n s = true)
noncomputable def F_s_l5Set : List V → Option V := F2 dC dI fun c s => some (.bool (l5B c.1 c.2 s))
theorem fn_s_l5Set : FnOk Try.prog 184 F_s_l5Set := by
  have env := ((envNil_ok (P := Try.prog)).add fn_s_IsComplex).add fn_s_IsSet
  refine fn_ok code_s_l5Set mixed env ?_
  intro args r h hb
  obtain ⟨_, _, ⟨n, l⟩, s, rfl, h1, h2, h4⟩ := F2_inv h
  cases dC_inv h1
  cases dI_inv h2
  cases h4
  refine ⟨by simp, fun w0 U0 L0 N0 => ?_⟩
  generalize hv : l5B n l s = v
  cases hc : cplxB n l with
  | false =>
    have hv1 : v = false := hv ▸ dec_false fun h => by simp [cplxB_iff.2 h.1] at hc
    simp -implicitDefEqProofs [sc_s_l5Set, F_s_IsComplex, F_s_IsSet, hc, hv1]
  | true =>
    have hv1 : v = isSet n s := by
      rw [← hv, Bool.eq_iff_iff]
      exact dec_iff.trans ⟨fun h => h.2, fun h => ⟨cplxB_iff.1 hc, h⟩⟩
    simp -implicitDefEqProofs [sc_s_l5Set, F_s_IsComplex, F_s_IsSet, hc, hv1]
def sc_s_CanExpand_L0 : SC := (.seq (.seq (.reg [⟨(some 46), none, (.mov (.t 8))⟩, ⟨(some 47), none, (.mov (.t 7))⟩, ⟨(some 48), none, (.len (.t 47))⟩, ⟨(some 49), none, (.bin false .lss (.t 46) (.t 48))⟩]) (.cond (.t 49) .skip (.exit 0))) (.seq (.block 1 (.seq (.dreg [⟨⟨(some 52), none, (.mov (.t 7))⟩, false, false⟩, ⟨⟨(some 53), none, (.mov (.t 8))⟩, false, false⟩, ⟨⟨(some 54), none, (.idx 1 (.t 52) (.t 53))⟩, false, false⟩, ⟨⟨(some 55), none, (.ld none (.int .i64 0) (.t 54))⟩, false, false⟩, ⟨⟨(some 56), none, (.mov (.t 1))⟩, false, false⟩, ⟨⟨(some 57), none, (.bin false .neq (.t 55) (.t 56))⟩, false, false⟩, ⟨⟨(some 58), none, (.mov (.t 57))⟩, false, false⟩, ⟨⟨(some 59), (some (58, true)), (.mov (.t 7))⟩, false, false⟩, ⟨⟨(some 60), (some (58, true)), (.mov (.t 8))⟩, false, false⟩, ⟨⟨(some 61), (some (58, true)), (.idx 1 (.t 59) (.t 60))⟩, false, false⟩, ⟨⟨(some 62), (some (58, true)), (.ld none (.int .i64 0) (.t 61))⟩, false, false⟩, ⟨⟨(some 63), (some (58, true)), (.mov (.t 2))⟩, false, false⟩, ⟨⟨(some 64), (some (58, true)), (.bin false .neq (.t 62) (.t 63))⟩, false, false⟩, ⟨⟨(some 65), none, (.pick (.t 58) (.t 64) (.c (.bool false)))⟩, false, false⟩, ⟨⟨(some 66), none, (.mov (.t 65))⟩, false, false⟩, ⟨⟨(some 67), (some (66, true)), (.ld (some 2) .undef (.t 3))⟩, false, false⟩, ⟨⟨(some 68), (some (66, true)), (.mov (.t 7))⟩, false, false⟩, ⟨⟨(some 69), (some (66, true)), (.mov (.t 8))⟩, false, false⟩, ⟨⟨(some 70), (some (66, true)), (.idx 1 (.t 68) (.t 69))⟩, false, false⟩, ⟨⟨(some 71), (some (66, true)), (.ld none (.int .i64 0) (.t 70))⟩, false, false⟩, ⟨⟨(some 72), (some (66, true)), (.call 158 [(.t 67), (.t 71)])⟩, false, false⟩, ⟨⟨(some 73), (some (66, true)), (.un .not (.t 72))⟩, false, false⟩, ⟨⟨(some 74), none, (.pick (.t 66) (.t 73) (.c (.bool false)))⟩, false, false⟩]) (.cond (.t 74) (.seq (.reg [⟨(some 6), none, (.mov (.c (.bool false)))⟩]) .ret) .skip))) (.reg [⟨(some 50), none, (.mov (.t 8))⟩, ⟨(some 51), none, (.bin false .add (.t 50) (.c (.int .i64 1)))⟩, ⟨(some 8), none, (.mov (.t 51))⟩])))
def sc_s_CanExpand : SC := (.seq (.reg [⟨(some 3), none, (.box (.t 0))⟩, ⟨(some 6), none, (.mov (.c (.bool false)))⟩]) (.seq (.seq (.reg [⟨(some 9), none, (.ld (some 2) .undef (.t 3))⟩, ⟨(some 10), none, (.mov (.t 1))⟩, ⟨(some 11), none, (.call 184 [(.t 9), (.t 10)])⟩, ⟨(some 12), none, (.un .not (.t 11))⟩, ⟨(some 13), none, (.mov (.t 12))⟩, ⟨(some 14), (some (13, false)), (.ld (some 2) .undef (.t 3))⟩, ⟨(some 15), (some (13, false)), (.mov (.t 2))⟩, ⟨(some 16), (some (13, false)), (.call 184 [(.t 14), (.t 15)])⟩, ⟨(some 17), (some (13, false)), (.un .not (.t 16))⟩, ⟨(some 18), none, (.pick (.t 13) (.c (.bool true)) (.t 17))⟩, ⟨(some 19), none, (.mov (.t 18))⟩, ⟨(some 20), (some (19, false)), (.ld (some 2) .undef (.t 3))⟩, ⟨(some 21), (some (19, false)), (.mov (.t 1))⟩, ⟨(some 22), (some (19, false)), (.call 158 [(.t 20), (.t 21)])⟩, ⟨(some 23), none, (.pick (.t 19) (.c (.bool true)) (.t 22))⟩, ⟨(some 24), none, (.mov (.t 23))⟩, ⟨(some 25), (some (24, false)), (.ld (some 2) .undef (.t 3))⟩, ⟨(some 26), (some (24, false)), (.mov (.t 2))⟩, ⟨(some 27), (some (24, false)), (.call 158 [(.t 25), (.t 26)])⟩, ⟨(some 28), none, (.pick (.t 24) (.c (.bool true)) (.t 27))⟩, ⟨(some 29), none, (.mov (.t 28))⟩, ⟨(some 30), (some (29, false)), (.mov (.t 2))⟩, ⟨(some 31), (some (29, false)), (.mov (.t 1))⟩, ⟨(some 32), (some (29, false)), (.bin false .and (.t 30) (.t 31))⟩, ⟨(some 33), (some (29, false)), (.mov (.t 1))⟩, ⟨(some 34), (some (29, false)), (.bin false .neq (.t 32) (.t 33))⟩, ⟨(some 35), none, (.pick (.t 29) (.c (.bool true)) (.t 34))⟩, ⟨(some 36), none, (.mov (.t 35))⟩, ⟨(some 37), (some (36, false)), (.mov (.t 2))⟩, ⟨(some 38), (some (36, false)), (.call 156 [(.t 37)])⟩, ⟨(some 39), (some (36, false)), (.mov (.t 1))⟩, ⟨(some 40), (some (36, false)), (.call 156 [(.t 39)])⟩, ⟨(some 41), (some (36, false)), (.bin false .sub (.t 38) (.t 40))⟩, ⟨(some 42), (some (36, false)), (.bin false .neq (.t 41) (.c (.int .i64 1)))⟩, ⟨(some 43), none, (.pick (.t 36) (.c (.bool true)) (.t 42))⟩]) (.cond (.t 43) (.seq (.reg [⟨(some 6), none, (.mov (.c (.bool false)))⟩]) .ret) .skip)) (.seq (.reg [⟨(some 44), none, (.mov (.t 2))⟩, ⟨(some 45), none, (.call 185 [(.t 44)])⟩, ⟨(some 7), none, (.mov (.t 45))⟩]) (.seq (.seq (.reg [⟨(some 8), none, (.mov (.c (.int .i64 0)))⟩]) (.block 0 (.loop sc_s_CanExpand_L0))) (.seq (.reg [⟨(some 6), none, (.mov (.c (.bool true)))⟩]) .ret)))))
theorem code_s_CanExpand : fnCode Try.prog [] 73 = some (75, sc_s_CanExpand, [(6, none)]) := by kernel_rfl
def canX (n : Int) (l : List Int) (s t : Int) : Prop := cplx n l ∧ isSet n s = true ∧ isSet n t = true ∧ subS s t ∧ sz t - sz s = 1 ∧ ¬ faceS l s ∧ ¬ faceS l t ∧ ∀ u, isS u → subS u t → u = s ∨ u = t ∨ faceS l u
noncomputable def F_s_CanExpand : List V → Option V := F3 dC dI dI fun c s t => some (.bool (dec (canX c.1 c.2 s t)))
theorem fn_s_CanExpand : FnOk Try.prog 73 F_s_CanExpand := by
  have env := ((((envNil_ok (P := Try.prog)).add fn_s_l5Set).add fn_s_l3Has).add fn_s_l2Size).add fn_s_SubsetsOf
  refine fn_ok code_s_CanExpand mixed env ?_
  intro args r h hb
  obtain ⟨_, _, _, ⟨n, l⟩, s, t, rfl, h1, h2, h3, h4⟩ := F3_inv h
  cases dC_inv h1
  cases dI_inv h2
  cases dI_inv h3
  cases h4
  refine ⟨by simp, fun w0 U0 L0 N0 => ?_⟩
  generalize hv : dec (canX n l s t) = v
  cases e1 : l5B n l s with
  | false =>
    have hv1 : v = false := hv ▸ dec_false fun h => by
      have : l5B n l s = true := dec_true ⟨h.1, h.2.1⟩
      simp [this] at e1
    simp -implicitDefEqProofs [sc_s_CanExpand, F_s_l5Set, e1, hv1]
  | true =>
  cases e2 : l5B n l t with
  | false =>
    have hv1 : v = false := hv ▸ dec_false fun h => by
      have : l5B n l t = true := dec_true ⟨h.1, h.2.2.1⟩
      simp [this] at e2
    simp -implicitDefEqProofs [sc_s_CanExpand, F_s_l5Set, e1, e2, hv1]
  | true =>
  obtain ⟨hc, hs0⟩ := dec_iff.1 e1
  obtain ⟨_, ht0⟩ := dec_iff.1 e2
  have hS := cplx_isS hc
  have hs : isS s := isSet_pos hs0
  have ht : isS t := isSet_pos ht0
  by_cases f1 : faceS l s
  · have hv1 : v = false := hv ▸ dec_false fun h => h.2.2.2.2.2.1 f1
    have d1 := dec_true f1
    simp -implicitDefEqProofs [sc_s_CanExpand, F_s_l5Set, F_s_l3Has, e1, e2, hS, hs, ht, d1, hv1]
  have d1 := dec_false f1
  by_cases f2 : faceS l t
  · have hv1 : v = false := hv ▸ dec_false fun h => h.2.2.2.2.2.2.1 f2
    have d2 := dec_true f2
    simp -implicitDefEqProofs [sc_s_CanExpand, F_s_l5Set, F_s_l3Has, e1, e2, hS, hs, ht, d1, d2, hv1]
  have d2 := dec_false f2
  by_cases h3 : band t s = s
  rotate_left
  · have hv1 : v = false := hv ▸ dec_false fun h => h3 ((subS_iff' hs ht).1 h.2.2.2.1)
    simp -implicitDefEqProofs [sc_s_CanExpand, F_s_l5Set, F_s_l3Has, e1, e2, hS, hs, ht, d1, d2, h3, hv1]
  have r1 : s < 9223372036854775808 := by have := hs.2; omega
  have r2 : t < 9223372036854775808 := by have := ht.2; omega
  have hw : IntKind.i64.wrap (sz t - sz s) = sz t - sz s := wrapI _ (by have := sz_nn t; have := sz_le s; omega) (by have := sz_le t; have := sz_nn s; omega)
  by_cases h4 : sz t - sz s = 1
  rotate_left
  · have hv1 : v = false := hv ▸ dec_false fun h => h4 h.2.2.2.2.1
    simp -implicitDefEqProofs [sc_s_CanExpand, F_s_l5Set, F_s_l3Has, F_s_l2Size, e1, e2, hS, hs, ht, d1, d2, h3, r1, r2, hw, h4, hv1]
  have hw1 : IntKind.i64.wrap 1 = 1 := wrapI 1 (by omega) (by omega)
  simp -implicitDefEqProofs [sc_s_CanExpand, F_s_l5Set, F_s_l3Has, F_s_l2Size, F_s_SubsetsOf, e1, e2, hS, hs, ht, d1, d2, h3, r1, r2, hw1, h4]
  have hL : ∀ x, x ∈ setsOf (fun u => subS u t) ↔ isS x ∧ subS x t := fun x => mem_setsOf
  have hLl := setsOf_len fun u => subS u t
  generalize setsOf (fun u => subS u t) = L at *
  refine loopI env mixed (fun k : Nat => [(1, .int .i64 s), (2, .int .i64 t), (3, .pt 0 0), (7, .sl 1 1 0 L.length), (8, .int .i64 (k : Int))]) (fun _ => ([(1, ints L), (0, [.int .i64 n, .list 1 (ints l)])], 2)) (fun k => k ≤ L.length ∧ ∀ j, j < k → at0 L j = s ∨ at0 L j = t ∨ faceS l (at0 L j)) (fun k => L.length - k) 0 (by simp) (SubI.slots rfl (by simp)) ?_
  rintro k ⟨hk, hn⟩
  by_cases hlt : k < L.length
  · obtain ⟨hx, hxt⟩ := (hL _).1 (getD_mem' hlt)
    have next : (at0 L k = s ∨ at0 L k = t ∨ faceS l (at0 L k)) → ∀ j, j < k + 1 → at0 L j = s ∨ at0 L j = t ∨ faceS l (at0 L j) := fun hh j hj => by
      rcases Nat.lt_succ_iff_lt_or_eq.1 hj with h1 | rfl
      · exact hn j h1
      · exact hh
    by_cases g1 : at0 L k = s
    · simp -implicitDefEqProofs [sc_s_CanExpand_L0, hlt, g1]
      repeat' (first | omega | apply And.intro)
      exact Again.of (k + 1) ⟨by omega, next (.inl g1)⟩ (by omega) (SubI.slots rfl (by simp (disch := omega) [wrapI]))
    · by_cases g2 : at0 L k = t
      · have g3 : ¬ t = s := fun e => g1 (g2.trans e)
        simp -implicitDefEqProofs [sc_s_CanExpand_L0, hlt, g2, g3]
        repeat' (first | omega | apply And.intro)
        exact Again.of (k + 1) ⟨by omega, next (.inr (.inl g2))⟩ (by omega) (SubI.slots rfl (by simp (disch := omega) [wrapI]))
      · by_cases g3 : faceS l (at0 L k)
        · have d3 := dec_true g3
          simp -implicitDefEqProofs [sc_s_CanExpand_L0, F_s_l3Has, hlt, g1, g2, hS, hx, d3]
          repeat' (first | omega | apply And.intro)
          exact Again.of (k + 1) ⟨by omega, next (.inr (.inr g3))⟩ (by omega) (SubI.slots rfl (by simp (disch := omega) [wrapI]))
        · have d3 := dec_false g3
          have hv1 : v = false := hv ▸ dec_false fun h => by
            rcases h.2.2.2.2.2.2.2 _ hx hxt with a | a | a
            · exact g1 a
            · exact g2 a
            · exact g3 a
          simp -implicitDefEqProofs [sc_s_CanExpand_L0, F_s_l3Has, hlt, g1, g2, hS, hx, d3, hv1]
          try omega
  · have hv1 : v = true := hv ▸ dec_true ⟨hc, hs0, ht0, (subS_iff' hs ht).2 h3, h4, f1, f2, fun u hu hut => by
      obtain ⟨j, hj, e⟩ := getD_mem_iff.1 ((hL u).2 ⟨hu, hut⟩)
      rw [← e]
      exact hn j (by omega)⟩
    simp -implicitDefEqProofs [sc_s_CanExpand_L0, hlt, hv1]
def sc_i_CanExpand : SC := (.seq (.reg [⟨(some 3), none, (.box (.t 0))⟩, ⟨(some 6), none, (.mov (.c (.bool false)))⟩]) (.seq (.seq (.reg [⟨(some 9), none, (.ld (some 2) .undef (.t 3))⟩, ⟨(some 10), none, (.call 130 [(.t 9)])⟩, ⟨(some 11), none, (.un .not (.t 10))⟩, ⟨(some 12), none, (.mov (.t 11))⟩, ⟨(some 13), (some (12, false)), (.fad 0 (.t 3))⟩, ⟨(some 14), (some (12, false)), (.ld none (.int .i64 0) (.t 13))⟩, ⟨(some 15), (some (12, false)), (.mov (.t 1))⟩, ⟨(some 16), (some (12, false)), (.call 180 [(.t 14), (.t 15)])⟩, ⟨(some 17), (some (12, false)), (.un .not (.t 16))⟩, ⟨(some 18), none, (.pick (.t 12) (.c (.bool true)) (.t 17))⟩, ⟨(some 19), none, (.mov (.t 18))⟩, ⟨(some 20), (some (19, false)), (.fad 0 (.t 3))⟩, ⟨(some 21), (some (19, false)), (.ld none (.int .i64 0) (.t 20))⟩, ⟨(some 22), (some (19, false)), (.mov (.t 2))⟩, ⟨(some 23), (some (19, false)), (.call 180 [(.t 21), (.t 22)])⟩, ⟨(some 24), (some (19, false)), (.un .not (.t 23))⟩, ⟨(some 25), none, (.pick (.t 19) (.c (.bool true)) (.t 24))⟩]) (.cond (.t 25) (.seq (.reg [⟨(some 6), none, (.mov (.c (.bool false)))⟩]) .ret) .skip)) (.seq (.seq (.reg [⟨(some 26), none, (.mov (.t 1))⟩, ⟨(some 27), none, (.mov (.t 2))⟩, ⟨(some 28), none, (.bin false .andNot (.t 26) (.t 27))⟩, ⟨(some 29), none, (.bin false .neq (.t 28) (.c (.int .i64 0)))⟩, ⟨(some 30), none, (.mov (.t 29))⟩, ⟨(some 31), (some (30, false)), (.mov (.t 2))⟩, ⟨(some 32), (some (30, false)), (.call 181 [(.t 31)])⟩, ⟨(some 33), (some (30, false)), (.mov (.t 1))⟩, ⟨(some 34), (some (30, false)), (.call 181 [(.t 33)])⟩, ⟨(some 35), (some (30, false)), (.bin false .add (.t 34) (.c (.int .i64 1)))⟩, ⟨(some 36), (some (30, false)), (.bin false .neq (.t 32) (.t 35))⟩, ⟨(some 37), none, (.pick (.t 30) (.c (.bool true)) (.t 36))⟩]) (.cond (.t 37) (.seq (.reg [⟨(some 6), none, (.mov (.c (.bool false)))⟩]) .ret) .skip)) (.seq (.reg [⟨(some 38), none, (.ld (some 2) .undef (.t 3))⟩, ⟨(some 39), none, (.call 151 [(.t 38)])⟩, ⟨(some 7), none, (.mov (.t 39))⟩]) (.seq (.seq (.reg [⟨(some 40), none, (.mov (.t 7))⟩, ⟨(some 41), none, (.mov (.t 1))⟩, ⟨(some 42), none, (.call 182 [(.t 40), (.t 41)])⟩, ⟨(some 43), none, (.mov (.t 42))⟩, ⟨(some 44), (some (43, false)), (.mov (.t 7))⟩, ⟨(some 45), (some (43, false)), (.mov (.t 2))⟩, ⟨(some 46), (some (43, false)), (.call 182 [(.t 44), (.t 45)])⟩, ⟨(some 47), none, (.pick (.t 43) (.c (.bool true)) (.t 46))⟩]) (.cond (.t 47) (.seq (.reg [⟨(some 6), none, (.mov (.c (.bool false)))⟩]) .ret) .skip)) (.seq (.reg [⟨(some 48), none, (.mov (.t 2))⟩, ⟨(some 49), none, (.call 183 [(.t 48)])⟩, ⟨(some 50), none, (.mov (.t 1))⟩, ⟨(some 51), none, (.conv .u64 (.t 50))⟩, ⟨(some 52), none, (.bin false .shl (.c (.int .u64 1)) (.t 51))⟩, ⟨(some 53), none, (.mov (.t 2))⟩, ⟨(some 54), none, (.conv .u64 (.t 53))⟩, ⟨(some 55), none, (.bin false .shl (.c (.int .u64 1)) (.t 54))⟩, ⟨(some 56), none, (.bin false .or (.t 52) (.t 55))⟩, ⟨(some 57), none, (.bin false .andNot (.t 49) (.t 56))⟩, ⟨(some 8), none, (.mov (.t 57))⟩]) (.seq (.reg [⟨(some 58), none, (.mov (.t 8))⟩, ⟨(some 59), none, (.mov (.t 7))⟩, ⟨(some 60), none, (.bin false .andNot (.t 58) (.t 59))⟩, ⟨(some 61), none, (.bin false .eql (.t 60) (.c (.int .u64 0)))⟩, ⟨(some 6), none, (.mov (.t 61))⟩]) .ret)))))))
theorem code_i_CanExpand : fnCode Try.prog [] 72 = some (62, sc_i_CanExpand, [(6, none)]) := by kernel_rfl
theorem fn_i_CanExpand : FnOk Try.prog 72 F_s_CanExpand := by
  have env := ((((((envNil_ok (P := Try.prog)).add fn_i_IsComplex).add fn_i_IsSet).add fn_i_SizeOf).add fn_i_facesIn).add fn_i_hasSet).add fn_i_subsetFamily
  refine fn_ok code_i_CanExpand mixed env ?_
  intro args r h hb
  obtain ⟨_, _, _, ⟨n, l⟩, s, t, rfl, h1, h2, h3, h4⟩ := F3_inv h
  cases dC_inv h1
  cases dI_inv h2
  cases dI_inv h3
  cases h4
  refine ⟨by simp, fun w0 U0 L0 N0 => ?_⟩
  generalize hv : dec (canX n l s t) = v
  cases e0 : cplxB n l with
  | false =>
    have hv1 : v = false := hv ▸ dec_false fun h => by simp [cplxB_iff.2 h.1] at e0
    simp -implicitDefEqProofs [sc_i_CanExpand, F_s_IsComplex, e0, hv1]
  | true =>
  cases e1 : isSet n s with
  | false =>
    have hv1 : v = false := hv ▸ dec_false fun h => by simp [h.2.1] at e1
    simp -implicitDefEqProofs [sc_i_CanExpand, F_s_IsComplex, F_i_IsSet, e0, e1, hv1]
  | true =>
  cases e2 : isSet n t with
  | false =>
    have hv1 : v = false := hv ▸ dec_false fun h => by simp [h.2.2.1] at e2
    simp -implicitDefEqProofs [sc_i_CanExpand, F_s_IsComplex, F_i_IsSet, e0, e1, e2, hv1]
  | true =>
  have hc := cplxB_iff.1 e0
  have hS := cplx_isS hc
  have hs : isS s := isSet_pos e1
  have ht : isS t := isSet_pos e2
  by_cases h3 : bnot s t = 0
  rotate_left
  · have hv1 : v = false := hv ▸ dec_false fun h => h3 h.2.2.2.1
    simp -implicitDefEqProofs [sc_i_CanExpand, F_s_IsComplex, F_i_IsSet, e0, e1, e2, h3, hv1]
  have r1 := sizeOf1_set hs.1 hs.2
  have r2 := sizeOf1_set ht.1 ht.2
  have hw : IntKind.i64.wrap (sz s + 1) = sz s + 1 := wrapI _ (by have := sz_nn s; omega) (by have := sz_le s; omega)
  by_cases h4 : sz t = sz s + 1
  rotate_left
  · have hv1 : v = false := hv ▸ dec_false fun h => h4 (by have := h.2.2.2.2.1; omega)
    simp -implicitDefEqProofs [sc_i_CanExpand, F_s_IsComplex, F_i_IsSet, F_i_SizeOf, e0, e1, e2, h3, r1, r2, hw, h4, hv1]
  have b1 := hasG_fam (p := faceS l) hs
  have b2 := hasG_fam (p := faceS l) ht
  by_cases f1 : faceS l s
  · have hv1 : v = false := hv ▸ dec_false fun h => h.2.2.2.2.2.1 f1
    rw [dec_true f1] at b1
    simp -implicitDefEqProofs [sc_i_CanExpand, F_s_IsComplex, F_i_IsSet, F_i_SizeOf, F_i_facesIn, F_i_hasSet, e0, e1, e2, h3, r1, r2, hw, h4, hS, b1, hv1]
  rw [dec_false f1] at b1
  by_cases f2 : faceS l t
  · have hv1 : v = false := hv ▸ dec_false fun h => h.2.2.2.2.2.2.1 f2
    rw [dec_true f2] at b2
    simp -implicitDefEqProofs [sc_i_CanExpand, F_s_IsComplex, F_i_IsSet, F_i_SizeOf, F_i_facesIn, F_i_hasSet, e0, e1, e2, h3, r1, r2, hw, h4, hS, b1, b2, hv1]
  rw [dec_false f2] at b2
  have u1 := wrapS hs
  have u2 := wrapS ht
  have o1 := fam_one hs
  have o2 := fam_one ht
  have p1 := hs.1
  have p2 := ht.1
  have key : ((fam fun u => (subS u t ∧ ¬ (u = s ∨ u = t)) ∧ ¬ faceS l u) == 0) = v := by
    rw [← hv, Bool.eq_iff_iff, beq_iff_eq, fam_zero, dec_iff]
    constructor
    · intro h
      refine ⟨hc, e1, e2, h3, by omega, f1, f2, fun u hu hut => ?_⟩
      by_cases a : u = s
      · exact .inl a
      · by_cases b : u = t
        · exact .inr (.inl b)
        · by_cases d : faceS l u
          · exact .inr (.inr d)
          · exact absurd ⟨⟨hut, fun e => e.elim a b⟩, d⟩ (h u hu)
    · rintro h u hu ⟨⟨a, b⟩, d⟩
      rcases h.2.2.2.2.2.2.2 u hu a with e | e | e
      · exact b (.inl e)
      · exact b (.inr e)
      · exact d e
  simp -implicitDefEqProofs [sc_i_CanExpand, F_s_IsComplex, F_i_IsSet, F_i_SizeOf, F_i_facesIn, F_i_hasSet, F_i_subsetFamily, e0, e1, e2, h3, r1, r2, hw, h4, hS, hs, ht, b1, b2, u1, u2, o1, o2, p1, p2]
  simp only [not_or] at key
  exact key
end Go.Proofs.Ytmemomfffehnkaa
