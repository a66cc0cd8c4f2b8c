import Derived.Test.YtedampaecopkhaaFnC
namespace Go.Proofs.Ytedampaecopkhaa
open Go Go.RowKit
set_option maxRecDepth 1000000
set_option linter.unusedSimpArgs false
set_option linter.unusedVariables false
set_option maxHeartbeats 1000000
def sc_i_isAntichain_L4 : SC := (.seq (.reg [⟨(some 54), none, (.bin false .lss (.t 53) (.t 52))⟩]) (.seq (.cond (.t 54) .skip (.exit 4)) (.seq (.block 5 (.seq (.reg [⟨(some 55), none, (.idx 1 (.t 51) (.t 53))⟩, ⟨(some 56), none, (.ld none (.int .i64 0) (.t 55))⟩, ⟨(some 10), none, (.mov (.t 56))⟩]) (.seq (.reg [⟨(some 57), none, (.mov (.t 8))⟩, ⟨(some 58), none, (.mov (.t 10))⟩, ⟨(some 59), none, (.bin false .andNot (.t 57) (.t 58))⟩, ⟨(some 60), none, (.bin false .eql (.t 59) (.c (.int .i64 0)))⟩]) (.cond (.t 60) (.seq (.reg [⟨(some 4), none, (.mov (.c (.bool false)))⟩]) .ret) .skip)))) (.reg [⟨(some 61), none, (.bin false .add (.t 53) (.c (.int .i64 1)))⟩, ⟨(some 53), none, (.mov (.t 61))⟩]))))
def sc_i_isAntichain_L2 : SC := (.seq (.reg [⟨(some 44), none, (.bin false .lss (.t 43) (.t 42))⟩]) (.seq (.cond (.t 44) .skip (.exit 2)) (.seq (.block 3 (.seq (.reg [⟨(some 45), none, (.mov (.t 43))⟩, ⟨(some 46), none, (.idx 1 (.t 41) (.t 43))⟩, ⟨(some 47), none, (.ld none (.int .i64 0) (.t 46))⟩, ⟨(some 7), none, (.mov (.t 45))⟩, ⟨(some 8), none, (.mov (.t 47))⟩]) (.seq (.reg [⟨(some 48), none, (.mov (.t 1))⟩, ⟨(some 49), none, (.mov (.t 7))⟩, ⟨(some 50), none, (.bin false .add (.t 49) (.c (.int .i64 1)))⟩, ⟨(some 51), none, (.sli 1 (.t 48) (some (.t 50)) none none)⟩, ⟨(some 52), none, (.len (.t 51))⟩, ⟨(some 53), none, (.mov (.c (.int .i64 0)))⟩]) (.block 4 (.loop sc_i_isAntichain_L4))))) (.reg [⟨(some 62), none, (.bin false .add (.t 43) (.c (.int .i64 1)))⟩, ⟨(some 43), none, (.mov (.t 62))⟩]))))
def sc_i_isAntichain_L0 : SC := (.seq (.reg [⟨(some 20), none, (.bin false .lss (.t 19) (.t 18))⟩]) (.seq (.cond (.t 20) .skip (.exit 0)) (.seq (.block 1 (.seq (.reg [⟨(some 21), none, (.mov (.t 19))⟩, ⟨(some 22), none, (.idx 1 (.t 17) (.t 19))⟩, ⟨(some 23), none, (.ld none (.int .i64 0) (.t 22))⟩, ⟨(some 5), none, (.mov (.t 21))⟩, ⟨(some 6), none, (.mov (.t 23))⟩]) (.seq (.seq (.reg [⟨(some 24), none, (.mov (.t 0))⟩, ⟨(some 25), none, (.mov (.t 6))⟩, ⟨(some 26), none, (.call 114 [(.t 24), (.t 25)])⟩, ⟨(some 27), none, (.un .not (.t 26))⟩]) (.cond (.t 27) (.seq (.reg [⟨(some 4), none, (.mov (.c (.bool false)))⟩]) .ret) .skip)) (.seq (.reg [⟨(some 28), none, (.mov (.t 5))⟩, ⟨(some 29), none, (.bin false .gtr (.t 28) (.c (.int .i64 0)))⟩, ⟨(some 30), none, (.mov (.t 29))⟩, ⟨(some 31), (some (30, true)), (.mov (.t 1))⟩, ⟨(some 32), (some (30, true)), (.mov (.t 5))⟩, ⟨(some 33), (some (30, true)), (.bin false .sub (.t 32) (.c (.int .i64 1)))⟩, ⟨(some 34), (some (30, true)), (.idx 1 (.t 31) (.t 33))⟩, ⟨(some 35), (some (30, true)), (.ld none (.int .i64 0) (.t 34))⟩, ⟨(some 36), (some (30, true)), (.mov (.t 6))⟩, ⟨(some 37), (some (30, true)), (.call 121 [(.t 35), (.t 36)])⟩, ⟨(some 38), (some (30, true)), (.un .not (.t 37))⟩, ⟨(some 39), none, (.pick (.t 30) (.t 38) (.c (.bool false)))⟩]) (.cond (.t 39) (.seq (.reg [⟨(some 4), none, (.mov (.c (.bool false)))⟩]) .ret) .skip))))) (.reg [⟨(some 40), none, (.bin false .add (.t 19) (.c (.int .i64 1)))⟩, ⟨(some 19), none, (.mov (.t 40))⟩]))))
def sc_i_isAntichain : SC := (.seq (.reg [⟨(some 4), none, (.mov (.c (.bool false)))⟩]) (.seq (.seq (.reg [⟨(some 11), none, (.mov (.t 0))⟩, ⟨(some 12), none, (.bin false .lss (.t 11) (.c (.int .i64 1)))⟩, ⟨(some 13), none, (.mov (.t 12))⟩, ⟨(some 14), (some (13, false)), (.mov (.t 0))⟩, ⟨(some 15), (some (13, false)), (.bin false .gtr (.t 14) (.c (.int .i64 6)))⟩, ⟨(some 16), none, (.pick (.t 13) (.c (.bool true)) (.t 15))⟩]) (.cond (.t 16) (.seq (.reg [⟨(some 4), none, (.mov (.c (.bool false)))⟩]) .ret) .skip)) (.seq (.seq (.reg [⟨(some 17), none, (.mov (.t 1))⟩, ⟨(some 18), none, (.len (.t 17))⟩, ⟨(some 19), none, (.mov (.c (.int .i64 0)))⟩]) (.block 0 (.loop sc_i_isAntichain_L0))) (.seq (.seq (.reg [⟨(some 41), none, (.mov (.t 1))⟩, ⟨(some 42), none, (.len (.t 41))⟩, ⟨(some 43), none, (.mov (.c (.int .i64 0)))⟩]) (.block 2 (.loop sc_i_isAntichain_L2))) (.seq (.reg [⟨(some 4), none, (.mov (.c (.bool true)))⟩]) .ret)))))
theorem code_i_isAntichain : fnCode Try.prog [] 103 = some (63, sc_i_isAntichain, [(4, none)]) := by kernel_rfl
theorem andNot_zero {a b : Int} (ha : 0 ≤ a ∧ a < 64) (hb : 0 ≤ b ∧ b < 64) : bitop .andNot .i64 a b = 0 ↔ bitop .and .i64 a b = a := by
  have key : ∀ x, x < 64 → ∀ y, y < 64 → (bitop .andNot .i64 ((x : Nat) : Int) ((y : Nat) : Int) = 0 ↔ bitop .and .i64 ((x : Nat) : Int) ((y : Nat) : Int) = (x : Int)) := by decide +kernel
  have := key a.toNat (by omega) b.toNat (by omega)
  rwa [Int.toNat_of_nonneg ha.1, Int.toNat_of_nonneg hb.1] at this
theorem isSet_six {n s : Int} (h : isSet n s = true) : isSet 6 s = true := by
  have h2 := isSet_pos h
  simp [isSet, h2.1, h2.2]
/-- The first part of what is asked of a facet. -/
def basicOk (n : Int) (l : List Int) (k : Nat) : Prop := isSet n (at0 l k) = true ∧ (0 < k → before (at0 l (k - 1)) (at0 l k) = true)
theorem cplx_of {n : Int} {l : List Int} (h1 : 1 ≤ n) (h2 : n ≤ 6) (hb : ∀ k, k < l.length → basicOk n l k) (ha : ∀ i, i < l.length → ∀ j, i < j → j < l.length → bitop .andNot .i64 (at0 l i) (at0 l j) ≠ 0) : cplxB n l = true := by
  rw [cplxB_iff]
  refine ⟨h1, h2, fun k hk => ⟨(hb k hk).1, (hb k hk).2, fun i hi => ?_⟩⟩
  rw [Ne, ← andNot_zero (isSet_pos (hb i (by omega)).1) (isSet_pos (hb k hk).1)]
  exact ha i (by omega) k hi hk
theorem cplx_not1 {n : Int} {l : List Int} {k : Nat} (hk : k < l.length) (h : ¬ basicOk n l k) : cplxB n l = false := cplxB_not hk fun hf => h ⟨hf.1, hf.2.1⟩
theorem cplx_not2 {n : Int} {l : List Int} (hb : ∀ k, k < l.length → basicOk n l k) {i j : Nat} (hi : i < j) (hj : j < l.length) (h : bitop .andNot .i64 (at0 l i) (at0 l j) = 0) : cplxB n l = false := by
  refine cplxB_not hj fun hf => hf.2.2 i hi ?_
  exact (andNot_zero (isSet_pos (hb i (by omega)).1) (isSet_pos (hb j hj).1)).1 h
noncomputable def F_i_isAntichain : List V → Option V := F2 dI dL fun n l => some (.bool (cplxB n l))
theorem fn_i_isAntichain : FnOk Try.prog 103 F_i_isAntichain := by
  have env := ((envNil_ok (P := Try.prog)).add fn_i_BeforeSet).add fn_i_IsSet
  refine fn_ok code_i_isAntichain mixed env ?_
  intro args r h hb
  obtain ⟨_, _, n, l, rfl, h1, h2, h4⟩ := F2_inv h
  cases dI_inv h1
  cases dL_inv h2
  cases h4
  have hl := bnd_ints (hb _ (List.mem_cons_of_mem _ (List.mem_cons_self ..)))
  refine ⟨by simp, fun w0 U0 L0 N0 => ?_⟩
  generalize hv : cplxB n l = v
  by_cases hn : 1 ≤ n ∧ n ≤ 6
  · have inner : ∀ (i : Nat) (Q : Post) (L : Tm), (∀ k, k < l.length → basicOk n l k) → i < l.length → subE L [(53, .int .i64 0), (52, .int .i64 ((l.length - (i + 1) : Nat) : Int)), (51, .list 1 (ints (l.drop (i + 1)))), (8, .int .i64 (at0 l i)), (1, .list 1 (ints l)), (41, .list 1 (ints l)), (42, .int .i64 l.length), (43, .int .i64 (i : Int))] →
        ((∀ j, i < j → j < l.length → bitop .andNot .i64 (at0 l i) (at0 l j) ≠ 0) → Q (.exit 4) [(1, .list 1 (ints l)), (41, .list 1 (ints l)), (42, .int .i64 l.length), (43, .int .i64 (i : Int))] ([], 0)) →
        (v = false → Q .ret [(4, .bool false)] ([], 0)) →
        LoopI ⟨Try.prog, w0, U0, L0, N0, 0, 63⟩ [] sc_i_isAntichain_L4 Q L ([], 0) := by
      intro i Q L hall hi hs q1 q2
      refine loopQ env mixed (fun j : Nat => [(53, .int .i64 (j : Int)), (52, .int .i64 ((l.length - (i + 1) : Nat) : Int)), (51, .list 1 (ints (l.drop (i + 1)))), (8, .int .i64 (at0 l i)), (1, .list 1 (ints l)), (41, .list 1 (ints l)), (42, .int .i64 l.length), (43, .int .i64 (i : Int))]) (fun _ => ([], 0))
        (fun j => j ≤ l.length - (i + 1) ∧ ∀ t, t < j → bitop .andNot .i64 (at0 l i) (at0 l (i + 1 + t)) ≠ 0) (fun j => l.length - (i + 1) - j) 0 (by simp) (SubI.slots rfl hs) ?_
      rintro j ⟨hj, hnot⟩
      simp -implicitDefEqProofs [sc_i_isAntichain_L4]
      repeat' (first | omega | apply And.intro | intro _)
      · refine SubQ.of (SubI.slots rfl (by simp)) (q2 ?_)
        exact hv ▸ cplx_not2 hall (i := i) (j := i + 1 + j) (by omega) (by omega) (by assumption)
      · refine Again.of (j + 1) ⟨by omega, fun t ht => ?_⟩ (by omega) (SubI.slots rfl (by simp (disch := omega) [wrapI]))
        rcases Nat.lt_succ_iff_lt_or_eq.1 ht with h1 | rfl
        · exact hnot t h1
        · assumption
      · refine SubQ.of (SubI.slots rfl (by simp)) (q1 fun t h1 h2 => ?_)
        have := hnot (t - (i + 1)) (by omega)
        rwa [show i + 1 + (t - (i + 1)) = t by omega] at this
    have second : ∀ (Q : Post) (L : Tm), (∀ k, k < l.length → basicOk n l k) → subE L [(1, .list 1 (ints l)), (41, .list 1 (ints l)), (42, .int .i64 l.length), (43, .int .i64 0)] → (v = true → Q (.exit 2) [] ([], 0)) → (v = false → Q .ret [(4, .bool false)] ([], 0)) →
        LoopI ⟨Try.prog, w0, U0, L0, N0, 0, 63⟩ [] sc_i_isAntichain_L2 Q L ([], 0) := by
      intro Q L hall hs q1 q2
      refine loopQ env mixed (fun i : Nat => [(1, .list 1 (ints l)), (41, .list 1 (ints l)), (42, .int .i64 l.length), (43, .int .i64 (i : Int))]) (fun _ => ([], 0))
        (fun i => i ≤ l.length ∧ ∀ t, t < i → ∀ j, t < j → j < l.length → bitop .andNot .i64 (at0 l t) (at0 l j) ≠ 0) (fun i => l.length - i) 0 (by simp) (SubI.slots rfl hs) ?_
      rintro i ⟨hi, hnot⟩
      by_cases hlt : i < l.length
      · have hw : IntKind.i64.wrap ((i : Int) + 1) = ((i + 1 : Nat) : Int) := by rw [wrapI _ (by omega) (by omega)]; omega
        simp -implicitDefEqProofs [sc_i_isAntichain_L2, hlt, hw]
        have e1 : ((l.length : Int) - ((i : Int) + 1)).toNat = l.length - (i + 1) := by omega
        repeat' (first | omega | apply And.intro | intro _)
        refine inner i _ _ hall hlt (by simp [e1, List.take_of_length_le]) (fun hq => ?_) (fun hq => ?_)
        · simp -implicitDefEqProofs
          refine Again.of (i + 1) ⟨by omega, fun t ht => ?_⟩ (by omega) (SubI.slots rfl (by simp (disch := omega) [wrapI]))
          rcases Nat.lt_succ_iff_lt_or_eq.1 ht with h1 | rfl
          · exact hnot t h1
          · exact hq
        · simp -implicitDefEqProofs
          exact SubQ.of (SubI.slots rfl (by simp)) (q2 hq)
      · simp -implicitDefEqProofs [sc_i_isAntichain_L2, hlt]
        exact SubQ.of (SubI.slots rfl (by simp)) (q1 (hv ▸ cplx_of hn.1 hn.2 hall fun t h1 => hnot t (by omega)))
    simp -implicitDefEqProofs [sc_i_isAntichain, hn.1, hn.2, show ¬ n < 1 by omega, show ¬ 6 < n by omega]
    refine loopI env mixed (fun k : Nat => [(0, .int .i64 n), (1, .list 1 (ints l)), (17, .list 1 (ints l)), (18, .int .i64 l.length), (19, .int .i64 (k : Int))]) (fun _ => ([], 0))
        (fun k => k ≤ l.length ∧ ∀ t, t < k → basicOk n l t) (fun k => l.length - k) 0 (by simp) (SubI.slots rfl (by simp)) ?_
    rintro k ⟨hk, hall⟩
    by_cases hlt : k < l.length
    · by_cases hs : isSet n (at0 l k) = true
      · have hs6 := isSet_six hs
        by_cases h0 : 0 < k
        · have hp := isSet_six (hall (k - 1) (by omega)).1
          have hw : (IntKind.i64.wrap ((k : Int) - 1)) = ((k - 1 : Nat) : Int) := by rw [wrapI _ (by omega) (by omega)]; omega
          by_cases hbf : before (at0 l (k - 1)) (at0 l k) = true
          · simp -implicitDefEqProofs [sc_i_isAntichain_L0, F_i_IsSet, F_i_BeforeSet, hlt, hs, hs6, h0, hw, hp, hbf]
            repeat' (first | omega | apply And.intro | intro _)
            refine Again.of (k + 1) ⟨by omega, fun t ht => ?_⟩ (by omega) (SubI.slots rfl (by simp (disch := omega) [wrapI]))
            rcases Nat.lt_succ_iff_lt_or_eq.1 ht with h1 | rfl
            · exact hall t h1
            · exact ⟨hs, fun _ => hbf⟩
          · have hf : v = false := hv ▸ cplx_not1 hlt fun hf => hbf (hf.2 h0)
            simp only [Bool.not_eq_true] at hbf
            simp -implicitDefEqProofs [sc_i_isAntichain_L0, F_i_IsSet, F_i_BeforeSet, hlt, hs, hs6, h0, hw, hp, hbf, hf]
            omega
        · simp -implicitDefEqProofs [sc_i_isAntichain_L0, F_i_IsSet, F_i_BeforeSet, hlt, hs, hs6, h0]
          repeat' (first | omega | apply And.intro | intro _)
          refine Again.of (k + 1) ⟨by omega, fun t ht => ?_⟩ (by omega) (SubI.slots rfl (by simp (disch := omega) [wrapI]))
          rcases Nat.lt_succ_iff_lt_or_eq.1 ht with h1 | rfl
          · exact hall t h1
          · exact ⟨hs, fun h => absurd h h0⟩
      · have hf : v = false := hv ▸ cplx_not1 hlt fun hf => hs hf.1
        simp only [Bool.not_eq_true] at hs
        simp -implicitDefEqProofs [sc_i_isAntichain_L0, F_i_IsSet, F_i_BeforeSet, hlt, hs, hf]
        omega
    · simp -implicitDefEqProofs [sc_i_isAntichain_L0, hlt]
      refine second _ _ (fun t ht => hall t (by omega)) (by simp) (fun e => ?_) (fun e => ?_)
      · simp -implicitDefEqProofs [e]
      · simp -implicitDefEqProofs [e]
  · have hf : v = false := by
      rw [← hv, ← Bool.not_eq_true, cplxB_iff]
      exact fun h => hn ⟨h.1, h.2.1⟩
    by_cases h1 : n < 1
    · simp -implicitDefEqProofs [sc_i_isAntichain, hf, h1]
    · simp -implicitDefEqProofs [sc_i_isAntichain, hf, h1, show 6 < n by omega]
def sc_i_IsComplex : SC := (.seq (.reg [⟨(some 1), none, (.box (.t 0))⟩, ⟨(some 2), none, (.mov (.c (.bool false)))⟩]) (.seq (.reg [⟨(some 3), none, (.fad 0 (.t 1))⟩, ⟨(some 4), none, (.ld none (.int .i64 0) (.t 3))⟩, ⟨(some 5), none, (.fad 1 (.t 1))⟩, ⟨(some 6), none, (.ld none .nil (.t 5))⟩, ⟨(some 7), none, (.call 103 [(.t 4), (.t 6)])⟩, ⟨(some 2), none, (.mov (.t 7))⟩]) .ret))
theorem code_i_IsComplex : fnCode Try.prog [] 57 = some (8, sc_i_IsComplex, [(2, none)]) := by kernel_rfl
theorem fn_i_IsComplex : FnOk Try.prog 57 F_s_IsComplex := by
  have env := (envNil_ok (P := Try.prog)).add fn_i_isAntichain
  refine fn_ok code_i_IsComplex mixed env ?_
  intro args r h hb
  obtain ⟨_, ⟨n, l⟩, rfl, h1, h4⟩ := F1_inv h
  cases dC_inv h1
  cases h4
  refine ⟨by simp, fun w0 U0 L0 N0 => ?_⟩
  simp -implicitDefEqProofs [sc_i_IsComplex, F_i_isAntichain]
end Go.Proofs.Ytedampaecopkhaa
