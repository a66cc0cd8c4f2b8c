import Derived.Test.YtmemomfffehnkaaFnZ
namespace Go.Proofs.Ytmemomfffehnkaa
open Go Go.RowKit
set_option maxRecDepth 1000000
set_option linter.unusedSimpArgs false
set_option linter.unusedVariables false
set_option maxHeartbeats 1000000
def sc_s_IsDivision_L0 : SC := (.seq (.seq (.reg [⟨(some 17), none, (.mov (.t 5))⟩, ⟨(some 18), none, (.mov (.t 1))⟩, ⟨(some 19), none, (.len (.t 18))⟩, ⟨(some 20), none, (.bin false .lss (.t 17) (.t 19))⟩]) (.cond (.t 20) .skip (.exit 0))) (.seq (.block 1 (.seq (.dreg [⟨⟨(some 23), none, (.mov (.t 1))⟩, false, false⟩, ⟨⟨(some 24), none, (.mov (.t 5))⟩, false, false⟩, ⟨⟨(some 25), none, (.idx 1 (.t 23) (.t 24))⟩, false, false⟩, ⟨⟨(some 26), none, (.ld none (.int .i64 0) (.t 25))⟩, false, false⟩, ⟨⟨(some 27), none, (.call 132 [(.t 26), (.c (.int .i64 0)), (.c (.int .i64 63))])⟩, false, false⟩, ⟨⟨(some 28), none, (.un .not (.t 27))⟩, false, false⟩, ⟨⟨(some 29), none, (.mov (.t 28))⟩, false, false⟩, ⟨⟨(some 30), (some (29, false)), (.fad 1 (.t 2))⟩, false, false⟩, ⟨⟨(some 31), (some (29, false)), (.ld none .nil (.t 30))⟩, false, false⟩, ⟨⟨(some 32), (some (29, false)), (.mov (.t 5))⟩, false, false⟩, ⟨⟨(some 33), (some (29, false)), (.idx 1 (.t 31) (.t 32))⟩, false, false⟩, ⟨⟨(some 34), (some (29, false)), (.ld none (.int .i64 0) (.t 33))⟩, false, false⟩, ⟨⟨(some 35), (some (29, false)), (.mov (.t 1))⟩, false, false⟩, ⟨⟨(some 36), (some (29, false)), (.mov (.t 5))⟩, false, false⟩, ⟨⟨(some 37), (some (29, false)), (.idx 1 (.t 35) (.t 36))⟩, false, false⟩, ⟨⟨(some 38), (some (29, false)), (.ld none (.int .i64 0) (.t 37))⟩, false, false⟩, ⟨⟨(some 39), (some (29, false)), (.bin false .and (.t 34) (.t 38))⟩, false, false⟩, ⟨⟨(some 40), (some (29, false)), (.mov (.t 1))⟩, false, false⟩, ⟨⟨(some 41), (some (29, false)), (.mov (.t 5))⟩, false, false⟩, ⟨⟨(some 42), (some (29, false)), (.idx 1 (.t 40) (.t 41))⟩, false, false⟩, ⟨⟨(some 43), (some (29, false)), (.ld none (.int .i64 0) (.t 42))⟩, false, false⟩, ⟨⟨(some 44), (some (29, false)), (.bin false .neq (.t 39) (.t 43))⟩, false, false⟩, ⟨⟨(some 45), none, (.pick (.t 29) (.c (.bool true)) (.t 44))⟩, false, false⟩]) (.cond (.t 45) (.seq (.reg [⟨(some 4), none, (.mov (.c (.bool false)))⟩]) .ret) .skip))) (.reg [⟨(some 21), none, (.mov (.t 5))⟩, ⟨(some 22), none, (.bin false .add (.t 21) (.c (.int .i64 1)))⟩, ⟨(some 5), none, (.mov (.t 22))⟩])))
def sc_s_IsDivision : SC := (.seq (.reg [⟨(some 2), none, (.box (.t 0))⟩, ⟨(some 4), none, (.mov (.c (.bool false)))⟩]) (.seq (.seq (.reg [⟨(some 6), none, (.ld (some 2) .undef (.t 2))⟩, ⟨(some 7), none, (.call 24 [(.t 6)])⟩, ⟨(some 8), none, (.un .not (.t 7))⟩, ⟨(some 9), none, (.mov (.t 8))⟩, ⟨(some 10), (some (9, false)), (.mov (.t 1))⟩, ⟨(some 11), (some (9, false)), (.len (.t 10))⟩, ⟨(some 12), (some (9, false)), (.fad 1 (.t 2))⟩, ⟨(some 13), (some (9, false)), (.ld none .nil (.t 12))⟩, ⟨(some 14), (some (9, false)), (.len (.t 13))⟩, ⟨(some 15), (some (9, false)), (.bin false .neq (.t 11) (.t 14))⟩, ⟨(some 16), none, (.pick (.t 9) (.c (.bool true)) (.t 15))⟩]) (.cond (.t 16) (.seq (.reg [⟨(some 4), none, (.mov (.c (.bool false)))⟩]) .ret) .skip)) (.seq (.seq (.reg [⟨(some 5), none, (.mov (.c (.int .i64 0)))⟩]) (.block 0 (.loop sc_s_IsDivision_L0))) (.seq (.dreg [⟨⟨(some 46), none, (.ld (some 2) .undef (.t 2))⟩, false, false⟩, ⟨⟨(some 47), none, (.call 43 [(.t 46)])⟩, false, false⟩, ⟨⟨(some 48), none, (.fad 1 (.t 2))⟩, false, false⟩, ⟨⟨(some 49), none, (.ld none .nil (.t 48))⟩, false, false⟩, ⟨⟨(some 50), none, (.mov (.t 1))⟩, false, false⟩, ⟨⟨(some 51), none, (.call 205 [(.t 47), (.t 49), (.t 50), (.c (.bool true))])⟩, false, false⟩, ⟨⟨(some 4), none, (.mov (.t 51))⟩, false, false⟩]) .ret))))
theorem code_s_IsDivision : fnCode Try.prog [] 115 = some (52, sc_s_IsDivision, [(4, none)]) := by kernel_rfl
def divP (n : Int) (l lows : List Int) : Prop := cplx n l ∧ lows.length = l.length ∧ (∀ k, k < lows.length → isS (at0 lows k) ∧ subS (at0 lows k) (at0 l k)) ∧ onceP (setsOf (faceS l)) l lows true
noncomputable def F_s_IsDivision : List V → Option V := F2 dC dL fun c lows => some (.bool (dec (divP c.1 c.2 lows)))
theorem fn_s_IsDivision : FnOk Try.prog 115 F_s_IsDivision := by
  have env := ((((envNil_ok (P := Try.prog)).add fn_s_IsComplex).add fn_s_l1In).add fn_s_FacesOf).add fn_s_l21Once
  refine fn_ok code_s_IsDivision mixed env ?_
  intro args r h hb
  obtain ⟨_, _, ⟨n, l⟩, lows, rfl, h1, h2, h4⟩ := F2_inv h
  cases dC_inv h1
  cases dL_inv h2
  cases h4
  have hlen := bnd_eC (hb _ (List.mem_cons_self ..))
  simp only at hlen
  refine ⟨by simp, fun w0 U0 L0 N0 => ?_⟩
  generalize hv : dec (divP n l lows) = v
  cases e0 : cplxB n l with
  | false =>
    have hv1 : v = false := hv ▸ dec_false fun h => by simp [cplxB_iff.2 h.1] at e0
    simp -implicitDefEqProofs [sc_s_IsDivision, F_s_IsComplex, e0, hv1]
  | true =>
  have hc := cplxB_iff.1 e0
  have hS := cplx_isS hc
  by_cases e1 : lows.length = l.length
  rotate_left
  · have hv1 : v = false := hv ▸ dec_false fun h => e1 h.2.1
    have e2 : ¬ ((lows.length : Int) = l.length) := by omega
    simp -implicitDefEqProofs [sc_s_IsDivision, F_s_IsComplex, e0, e2, hv1]
  simp -implicitDefEqProofs [sc_s_IsDivision, F_s_IsComplex, e0, e1]
  refine loopI env mixed (fun k : Nat => [(1, .list 1 (ints lows)), (2, .pt 0 0), (5, .int .i64 (k : Int))]) (fun _ => ([(0, [.int .i64 n, .list 1 (ints l)])], 1)) (fun k => k ≤ l.length ∧ ∀ j, j < k → isS (at0 lows j) ∧ subS (at0 lows j) (at0 l j)) (fun k => l.length - k) 0 (by simp) (SubI.slots rfl (by simp)) ?_
  rintro k ⟨hk, hn⟩
  by_cases hlt : k < l.length
  · have hlt2 : k < lows.length := by omega
    have hf := allS_at hS hlt
    by_cases g1 : 0 ≤ at0 lows k ∧ at0 lows k ≤ 63
    · have hs : isS (at0 lows k) := ⟨g1.1, by have := g1.2; omega⟩
      by_cases g2 : band (at0 l k) (at0 lows k) = at0 lows k
      · simp -implicitDefEqProofs [sc_s_IsDivision_L0, F_s_l1In, e1, hlt, g1, g2]
        repeat' (first | omega | apply And.intro)
        refine Again.of (k + 1) ⟨by omega, fun j hj => ?_⟩ (by omega) (SubI.slots rfl (by simp (disch := omega) [wrapI]))
        rcases Nat.lt_succ_iff_lt_or_eq.1 hj with h1 | rfl
        · exact hn j h1
        · exact ⟨hs, (subS_iff' hs hf).2 g2⟩
      · have hv1 : v = false := hv ▸ dec_false fun h => g2 ((subS_iff' hs hf).1 (h.2.2.1 k hlt2).2)
        simp -implicitDefEqProofs [sc_s_IsDivision_L0, F_s_l1In, e1, hlt, g1, g2, hv1]
        try omega
    · have hv1 : v = false := hv ▸ dec_false fun h => g1 (by have := (h.2.2.1 k hlt2).1; exact ⟨this.1, by have := this.2; omega⟩)
      have g1' : decide (0 ≤ at0 lows k ∧ at0 lows k ≤ 63) = false := by simpa using g1
      simp -implicitDefEqProofs [sc_s_IsDivision_L0, F_s_l1In, e1, hlt, g1', hv1]
      try omega
  · have hkl : k = l.length := by omega
    have hS3 : allS lows := fun x hx => by
      obtain ⟨j, hj, e⟩ := getD_mem_iff.1 hx
      rw [← e]
      exact (hn j (by omega)).1
    have hS1 : allS (facesL n l) := allS_setsOf _
    have hv1 : dec (onceP (facesL n l) l lows true) = v := by
      rw [← hv, facesL_of hc, Bool.eq_iff_iff, dec_iff, dec_iff]
      exact ⟨fun h => ⟨hc, e1, fun j hj => hn j (by omega), h⟩, fun h => h.2.2.2⟩
    simp -implicitDefEqProofs [sc_s_IsDivision_L0, F_s_FacesOf, F_s_l21Once, e1, hlt, hS, hS1, hS3, hv1]
end Go.Proofs.Ytmemomfffehnkaa
