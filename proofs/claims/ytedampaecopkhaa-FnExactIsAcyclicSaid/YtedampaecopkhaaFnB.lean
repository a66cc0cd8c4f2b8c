import Derived.Test.YtedampaecopkhaaFnA
namespace Go.Proofs.Ytedampaecopkhaa
open Go Go.RowKit
set_option maxRecDepth 1000000
set_option linter.unusedSimpArgs false
set_option linter.unusedVariables false
set_option maxHeartbeats 1000000
def sc_s_IsComplex_L2 : SC := (.seq (.seq (.reg [⟨(some 40), none, (.mov (.t 4))⟩, ⟨(some 41), none, (.mov (.t 3))⟩, ⟨(some 42), none, (.bin false .lss (.t 40) (.t 41))⟩]) (.cond (.t 42) .skip (.exit 2))) (.seq (.block 3 (.seq (.dreg [⟨⟨(some 45), none, (.fad 1 (.t 1))⟩, false, false⟩, ⟨⟨(some 46), none, (.ld none .nil (.t 45))⟩, false, false⟩, ⟨⟨(some 47), none, (.mov (.t 4))⟩, false, false⟩, ⟨⟨(some 48), none, (.idx 1 (.t 46) (.t 47))⟩, false, false⟩, ⟨⟨(some 49), none, (.ld none (.int .i64 0) (.t 48))⟩, false, false⟩, ⟨⟨(some 50), none, (.fad 1 (.t 1))⟩, false, false⟩, ⟨⟨(some 51), none, (.ld none .nil (.t 50))⟩, false, false⟩, ⟨⟨(some 52), none, (.mov (.t 3))⟩, false, false⟩, ⟨⟨(some 53), none, (.idx 1 (.t 51) (.t 52))⟩, false, false⟩, ⟨⟨(some 54), none, (.ld none (.int .i64 0) (.t 53))⟩, false, false⟩, ⟨⟨(some 55), none, (.bin false .and (.t 49) (.t 54))⟩, false, false⟩, ⟨⟨(some 56), none, (.fad 1 (.t 1))⟩, false, false⟩, ⟨⟨(some 57), none, (.ld none .nil (.t 56))⟩, false, false⟩, ⟨⟨(some 58), none, (.mov (.t 4))⟩, false, false⟩, ⟨⟨(some 59), none, (.idx 1 (.t 57) (.t 58))⟩, false, false⟩, ⟨⟨(some 60), none, (.ld none (.int .i64 0) (.t 59))⟩, false, false⟩, ⟨⟨(some 61), none, (.bin false .eql (.t 55) (.t 60))⟩, false, false⟩]) (.cond (.t 61) (.seq (.reg [⟨(some 2), none, (.mov (.c (.bool false)))⟩]) .ret) .skip))) (.reg [⟨(some 43), none, (.mov (.t 4))⟩, ⟨(some 44), none, (.bin false .add (.t 43) (.c (.int .i64 1)))⟩, ⟨(some 4), none, (.mov (.t 44))⟩])))
def sc_s_IsComplex_L0 : SC := (.seq (.seq (.reg [⟨(some 5), none, (.mov (.t 3))⟩, ⟨(some 6), none, (.fad 1 (.t 1))⟩, ⟨(some 7), none, (.ld none .nil (.t 6))⟩, ⟨(some 8), none, (.len (.t 7))⟩, ⟨(some 9), none, (.bin false .lss (.t 5) (.t 8))⟩]) (.cond (.t 9) .skip (.exit 0))) (.seq (.block 1 (.seq (.seq (.dreg [⟨⟨(some 12), none, (.fad 0 (.t 1))⟩, false, false⟩, ⟨⟨(some 13), none, (.ld none (.int .i64 0) (.t 12))⟩, false, false⟩, ⟨⟨(some 14), none, (.fad 1 (.t 1))⟩, false, false⟩, ⟨⟨(some 15), none, (.ld none .nil (.t 14))⟩, false, false⟩, ⟨⟨(some 16), none, (.mov (.t 3))⟩, false, false⟩, ⟨⟨(some 17), none, (.idx 1 (.t 15) (.t 16))⟩, false, false⟩, ⟨⟨(some 18), none, (.ld none (.int .i64 0) (.t 17))⟩, false, false⟩, ⟨⟨(some 19), none, (.call 101 [(.t 13), (.t 18)])⟩, false, false⟩, ⟨⟨(some 20), none, (.un .not (.t 19))⟩, false, false⟩, ⟨⟨(some 21), none, (.mov (.t 20))⟩, false, false⟩, ⟨⟨(some 22), (some (21, false)), (.mov (.t 3))⟩, false, false⟩, ⟨⟨(some 23), (some (21, false)), (.bin false .gtr (.t 22) (.c (.int .i64 0)))⟩, false, false⟩, ⟨⟨(some 24), (some (21, false)), (.mov (.t 23))⟩, false, false⟩, ⟨⟨(some 25), (some (24, true)), (.fad 1 (.t 1))⟩, false, false⟩, ⟨⟨(some 26), (some (24, true)), (.ld none .nil (.t 25))⟩, false, false⟩, ⟨⟨(some 27), (some (24, true)), (.mov (.t 3))⟩, false, false⟩, ⟨⟨(some 28), (some (24, true)), (.bin false .sub (.t 27) (.c (.int .i64 1)))⟩, false, false⟩, ⟨⟨(some 29), (some (24, true)), (.idx 1 (.t 26) (.t 28))⟩, false, false⟩, ⟨⟨(some 30), (some (24, true)), (.ld none (.int .i64 0) (.t 29))⟩, false, false⟩, ⟨⟨(some 31), (some (24, true)), (.fad 1 (.t 1))⟩, false, false⟩, ⟨⟨(some 32), (some (24, true)), (.ld none .nil (.t 31))⟩, false, false⟩, ⟨⟨(some 33), (some (24, true)), (.mov (.t 3))⟩, false, false⟩, ⟨⟨(some 34), (some (24, true)), (.idx 1 (.t 32) (.t 33))⟩, false, false⟩, ⟨⟨(some 35), (some (24, true)), (.ld none (.int .i64 0) (.t 34))⟩, false, false⟩, ⟨⟨(some 36), (some (24, true)), (.call 102 [(.t 30), (.t 35)])⟩, false, false⟩, ⟨⟨(some 37), (some (24, true)), (.un .not (.t 36))⟩, false, false⟩, ⟨⟨(some 38), (some (21, false)), (.pick (.t 24) (.t 37) (.c (.bool false)))⟩, false, false⟩, ⟨⟨(some 39), none, (.pick (.t 21) (.c (.bool true)) (.t 38))⟩, false, false⟩]) (.cond (.t 39) (.seq (.reg [⟨(some 2), none, (.mov (.c (.bool false)))⟩]) .ret) .skip)) (.seq (.reg [⟨(some 4), none, (.mov (.c (.int .i64 0)))⟩]) (.block 2 (.loop sc_s_IsComplex_L2))))) (.reg [⟨(some 10), none, (.mov (.t 3))⟩, ⟨(some 11), none, (.bin false .add (.t 10) (.c (.int .i64 1)))⟩, ⟨(some 3), none, (.mov (.t 11))⟩])))
def sc_s_IsComplex : SC := (.seq (.reg [⟨(some 1), none, (.box (.t 0))⟩, ⟨(some 2), none, (.mov (.c (.bool false)))⟩]) (.seq (.seq (.reg [⟨(some 3), none, (.mov (.c (.int .i64 0)))⟩]) (.block 0 (.loop sc_s_IsComplex_L0))) (.seq (.reg [⟨(some 62), none, (.fad 0 (.t 1))⟩, ⟨(some 63), none, (.ld none (.int .i64 0) (.t 62))⟩, ⟨(some 64), none, (.call 58 [(.t 63), (.c (.int .i64 1)), (.c (.int .i64 6))])⟩, ⟨(some 2), none, (.mov (.t 64))⟩]) .ret)))
theorem code_s_IsComplex : fnCode Try.prog [] 56 = some (65, sc_s_IsComplex, [(2, none)]) := by kernel_rfl
/-- What is asked of the facet at place k. -/
def facetOk (n : Int) (l : List Int) (k : Nat) : Prop :=
  isSet n (at0 l k) = true ∧ (0 < k → before (at0 l (k - 1)) (at0 l k) = true) ∧ ∀ i, i < k → bitop .and .i64 (at0 l i) (at0 l k) ≠ at0 l i
def cplx (n : Int) (l : List Int) : Prop := 1 ≤ n ∧ n ≤ 6 ∧ ∀ k, k < l.length → facetOk n l k
open Classical in
noncomputable def cplxB (n : Int) (l : List Int) : Bool := decide (cplx n l)
theorem cplxB_iff {n : Int} {l : List Int} : cplxB n l = true ↔ cplx n l := by simp [cplxB]
theorem cplxB_not {n : Int} {l : List Int} {k : Nat} (hk : k < l.length) (h : ¬ facetOk n l k) : cplxB n l = false := by
  simp only [cplxB, decide_eq_false_iff_not]
  exact fun hc => h (hc.2.2 k hk)
noncomputable def F_s_IsComplex : List V → Option V := F1 dC fun c => some (.bool (cplxB c.1 c.2))
theorem fn_s_IsComplex : FnOk Try.prog 56 F_s_IsComplex := by
  have env := (((envNil_ok (P := Try.prog)).add fn_s_l1In).add fn_s_l2Before).add fn_s_IsSet
  refine fn_ok code_s_IsComplex mixed env ?_
  intro args r h hb
  obtain ⟨_, ⟨n, l⟩, rfl, h1, h4⟩ := F1_inv h
  cases dC_inv h1
  cases h4
  have hl := bnd_eC (hb _ (List.mem_cons_self ..))
  simp only at hl
  generalize hv : cplxB n l = v
  refine ⟨by simp, fun w0 U0 L0 N0 => ?_⟩
  have inner : ∀ (k : Nat) (Q : Post), k < l.length →
      ((∀ i, i < k → bitop .and .i64 (at0 l i) (at0 l k) ≠ at0 l i) → Q (.exit 2) [(1, .pt 0 0), (3, .int .i64 (k : Int))] ([(0, [.int .i64 n, .list 1 (ints l)])], 1)) →
      ((¬ ∀ i, i < k → bitop .and .i64 (at0 l i) (at0 l k) ≠ at0 l i) → Q .ret [(2, .bool false)] ([(0, [.int .i64 n, .list 1 (ints l)])], 1)) →
      LoopI ⟨Try.prog, w0, U0, L0, N0, 0, 65⟩ [] sc_s_IsComplex_L2 Q [(4, .int .i64 0), (1, .pt 0 0), (3, .int .i64 (k : Int))] ([(0, [.int .i64 n, .list 1 (ints l)])], 1) := by
    intro k Q hk q1 q2
    refine loopQ env mixed (fun i : Nat => [(4, .int .i64 (i : Int)), (1, .pt 0 0), (3, .int .i64 (k : Int))]) (fun _ => ([(0, [.int .i64 n, .list 1 (ints l)])], 1)) (fun i => i ≤ k ∧ ∀ j, j < i → bitop .and .i64 (at0 l j) (at0 l k) ≠ at0 l j) (fun i => k - i) 0 (by simp) (SubI.slots rfl (by simp)) ?_
    rintro i ⟨hi, hn⟩
    simp -implicitDefEqProofs [sc_s_IsComplex_L2]
    have hsub : ∀ (L : Tm) (h : Nat), i < k → bitop .and .i64 (at0 l i) (at0 l k) = at0 l i → subE L [(2, .bool false)] → SubQ 0 Q .ret L ([(0, [.int .i64 n, .list 1 (ints l)])], 1) := 
      fun L _ h e hs => SubQ.of (SubI.slots rfl hs) (q2 fun hf => hf i h e)
    repeat' (first | omega | apply And.intro | intro _)
    · exact hsub _ 0 ‹_› ‹_› (by simp)
    · refine Again.of (i + 1) ⟨by omega, fun j hj => ?_⟩ (by omega) (SubI.slots rfl (by simp (disch := omega) [wrapI]))
      rcases Nat.lt_succ_iff_lt_or_eq.1 hj with h1 | rfl
      · exact hn j h1
      · assumption
    · have : i = k := by omega
      subst this
      exact SubQ.of (SubI.slots rfl (by simp)) (q1 hn)
  simp -implicitDefEqProofs [sc_s_IsComplex]
  refine loopI env mixed (fun k : Nat => [(1, .pt 0 0), (3, .int .i64 (k : Int))]) (fun _ => ([(0, [.int .i64 n, .list 1 (ints l)])], 1)) (fun k => k ≤ l.length ∧ ∀ j, j < k → facetOk n l j) (fun k => l.length - k) 0 (by simp) (SubI.slots rfl (by simp)) ?_
  rintro k ⟨hk, hn⟩
  have step : ∀ (Q : Post) (L : Tm), k < l.length → isSet n (at0 l k) = true → (0 < k → before (at0 l (k - 1)) (at0 l k) = true) → subE L [(4, .int .i64 0), (1, .pt 0 0), (3, .int .i64 (k : Int))] →
      (facetOk n l k → Q (.exit 2) [(1, .pt 0 0), (3, .int .i64 (k : Int))] ([(0, [.int .i64 n, .list 1 (ints l)])], 1)) → (v = false → Q .ret [(2, .bool false)] ([(0, [.int .i64 n, .list 1 (ints l)])], 1)) →
      LoopI ⟨Try.prog, w0, U0, L0, N0, 0, 65⟩ [] sc_s_IsComplex_L2 Q L ([(0, [.int .i64 n, .list 1 (ints l)])], 1) :=
    fun Q L h1 h2 h3 hs q1 q2 => (inner k Q h1 (fun h => q1 ⟨h2, h3, h⟩) (fun h => q2 (hv ▸ cplxB_not h1 fun hf => h hf.2.2))).sub (SubI.slots rfl hs)
  have again : facetOk n l k → k < l.length → ((k + 1 : Nat) ≤ l.length ∧ ∀ (j : Nat), j < k + 1 → facetOk n l j) := by
    intro hf h
    refine ⟨by omega, fun j hj => ?_⟩
    rcases Nat.lt_succ_iff_lt_or_eq.1 hj with h1 | rfl
    · exact hn j h1
    · exact hf
  by_cases hs : k < l.length ∧ isSet n (at0 l k) = true
  · obtain ⟨hs1, hs2⟩ := hs
    have r1 : at0 l k < 9223372036854775808 := by have := isSet_pos hs2; omega
    have r2 : at0 l (IntKind.i64.wrap ((k : Int) - 1)).toNat < 9223372036854775808 := by
      rw [wrapI _ (by omega) (by omega)]
      rcases Nat.eq_zero_or_pos k with rfl | h0
      · exact r1
      · rw [show ((k : Int) - 1).toNat = k - 1 by omega]
        have := isSet_pos (hn (k - 1) (by omega)).1
        omega
    simp -implicitDefEqProofs [sc_s_IsComplex_L0, F_s_IsSet, F_s_l2Before, F_s_l1In, r1, r2, hs1, hs2]
    by_cases h0 : 0 < k
    · rw [wrapI _ (by omega) (by omega), show ((k : Int) - 1).toNat = k - 1 by omega]
      repeat' (first | omega | apply And.intro | intro _)
      · exact hv ▸ cplxB_not hs1 fun hf => by simp_all [hf.2.1 h0]
      · refine step _ _ hs1 hs2 (fun _ => by assumption) (by simp) (fun hf => ?_) (fun e => ?_)
        · simp -implicitDefEqProofs
          exact Again.of (k + 1) (again hf hs1) (by omega) (SubI.slots rfl (by simp (disch := omega) [wrapI]))
        · simp [e]
    · repeat' (first | omega | apply And.intro | intro _)
      refine step _ _ hs1 hs2 (fun h => absurd h h0) (by simp) (fun hf => ?_) (fun e => ?_)
      · simp -implicitDefEqProofs
        exact Again.of (k + 1) (again hf hs1) (by omega) (SubI.slots rfl (by simp (disch := omega) [wrapI]))
      · simp [e]
  · by_cases hs1 : k < l.length
    · have hs2 : isSet n (at0 l k) = false := by
        rw [← Bool.not_eq_true]
        exact fun h => hs ⟨hs1, h⟩
      simp -implicitDefEqProofs [sc_s_IsComplex_L0, F_s_IsSet, F_s_l2Before, F_s_l1In, hs1, hs2]
      refine ⟨by omega, ?_⟩
      exact hv ▸ cplxB_not hs1 fun hf => by simp_all [hf.1]
    · simp -implicitDefEqProofs [sc_s_IsComplex_L0, F_s_IsSet, F_s_l2Before, F_s_l1In, hs1]
      have : k = l.length := by omega
      subst this
      rw [← hv, Bool.eq_iff_iff, cplxB_iff]
      constructor
      · intro h
        simp only [Bool.and_eq_true, decide_eq_true_eq] at h
        exact ⟨h.1, h.2, hn⟩
      · intro h
        simp [h.1, h.2.1]
def sc_math_bits_OnesCount64 : SC := (.seq (.reg [⟨(some 2), none, (.mov (.c (.int .i64 0)))⟩]) (.seq (.reg [⟨(some 3), none, (.mov (.t 0))⟩, ⟨(some 4), none, (.bin false .shr (.t 3) (.c (.int .u64 1)))⟩, ⟨(some 5), none, (.bin false .and (.t 4) (.c (.int .u64 6148914691236517205)))⟩, ⟨(some 6), none, (.mov (.t 0))⟩, ⟨(some 7), none, (.bin false .and (.t 6) (.c (.int .u64 6148914691236517205)))⟩, ⟨(some 8), none, (.bin false .add (.t 5) (.t 7))⟩, ⟨(some 0), none, (.mov (.t 8))⟩]) (.seq (.reg [⟨(some 9), none, (.mov (.t 0))⟩, ⟨(some 10), none, (.bin false .shr (.t 9) (.c (.int .u64 2)))⟩, ⟨(some 11), none, (.bin false .and (.t 10) (.c (.int .u64 3689348814741910323)))⟩, ⟨(some 12), none, (.mov (.t 0))⟩, ⟨(some 13), none, (.bin false .and (.t 12) (.c (.int .u64 3689348814741910323)))⟩, ⟨(some 14), none, (.bin false .add (.t 11) (.t 13))⟩, ⟨(some 0), none, (.mov (.t 14))⟩]) (.seq (.reg [⟨(some 15), none, (.mov (.t 0))⟩, ⟨(some 16), none, (.bin false .shr (.t 15) (.c (.int .u64 4)))⟩, ⟨(some 17), none, (.mov (.t 0))⟩, ⟨(some 18), none, (.bin false .add (.t 16) (.t 17))⟩, ⟨(some 19), none, (.bin false .and (.t 18) (.c (.int .u64 1085102592571150095)))⟩, ⟨(some 0), none, (.mov (.t 19))⟩]) (.seq (.reg [⟨(some 20), none, (.mov (.t 0))⟩, ⟨(some 21), none, (.mov (.t 0))⟩, ⟨(some 22), none, (.bin false .shr (.t 21) (.c (.int .u64 8)))⟩, ⟨(some 23), none, (.bin false .add (.t 20) (.t 22))⟩, ⟨(some 0), none, (.mov (.t 23))⟩]) (.seq (.reg [⟨(some 24), none, (.mov (.t 0))⟩, ⟨(some 25), none, (.mov (.t 0))⟩, ⟨(some 26), none, (.bin false .shr (.t 25) (.c (.int .u64 16)))⟩, ⟨(some 27), none, (.bin false .add (.t 24) (.t 26))⟩, ⟨(some 0), none, (.mov (.t 27))⟩]) (.seq (.reg [⟨(some 28), none, (.mov (.t 0))⟩, ⟨(some 29), none, (.mov (.t 0))⟩, ⟨(some 30), none, (.bin false .shr (.t 29) (.c (.int .u64 32)))⟩, ⟨(some 31), none, (.bin false .add (.t 28) (.t 30))⟩, ⟨(some 0), none, (.mov (.t 31))⟩]) (.seq (.reg [⟨(some 32), none, (.mov (.t 0))⟩, ⟨(some 33), none, (.conv .i64 (.t 32))⟩, ⟨(some 34), none, (.bin false .and (.t 33) (.c (.int .i64 127)))⟩, ⟨(some 2), none, (.mov (.t 34))⟩]) .ret))))))))
theorem code_math_bits_OnesCount64 : fnCode Try.prog [] 126 = some (35, sc_math_bits_OnesCount64, [(2, none)]) := by kernel_rfl
def F_OnesCount64 : List V → Option V
  | [.int .u64 n] => if 0 ≤ n ∧ n < 64 then some (.int .i64 (sz n)) else none
  | _ => none
theorem fn_OnesCount64 : FnOk Try.prog 126 F_OnesCount64 := by
  refine fn_ok code_math_bits_OnesCount64 mixed envNil_ok ?_
  intro args r h hb
  unfold F_OnesCount64 at h
  split at h
  · rename_i n
    simp only [Option.ite_none_right_eq_some, Option.some.injEq] at h
    obtain ⟨⟨h1, h2⟩, rfl⟩ := h
    refine ⟨by simp, fun w0 U0 L0 N0 => ?_⟩
    simp -implicitDefEqProofs [sc_math_bits_OnesCount64]
    clear hb
    obtain ⟨m, rfl⟩ : ∃ m : Nat, n = m := ⟨n.toNat, by omega⟩
    have hm : m < 64 := by omega
    clear h1 h2
    revert m
    decide +kernel
  · simp at h
def sc_math_bits_OnesCount : SC := (.seq (.reg [⟨(some 2), none, (.mov (.c (.int .i64 0)))⟩]) (.seq (.cond (.c (.bool false)) (.seq (.reg [⟨(some 3), none, (.mov (.t 0))⟩, ⟨(some 4), none, (.conv .u32 (.t 3))⟩, ⟨(some 5), none, (.call 125 [(.t 4)])⟩, ⟨(some 2), none, (.mov (.t 5))⟩]) .ret) .skip) (.seq (.reg [⟨(some 6), none, (.mov (.t 0))⟩, ⟨(some 7), none, (.call 126 [(.t 6)])⟩, ⟨(some 2), none, (.mov (.t 7))⟩]) .ret)))
theorem code_math_bits_OnesCount : fnCode Try.prog [] 115 = some (8, sc_math_bits_OnesCount, [(2, none)]) := by kernel_rfl
theorem fn_OnesCount : FnOk Try.prog 115 F_OnesCount64 := by
  have env := (envNil_ok (P := Try.prog)).add fn_OnesCount64
  refine fn_ok code_math_bits_OnesCount mixed env ?_
  intro args r h hb
  unfold F_OnesCount64 at h
  split at h
  · rename_i n
    simp only [Option.ite_none_right_eq_some, Option.some.injEq] at h
    obtain ⟨⟨h1, h2⟩, rfl⟩ := h
    refine ⟨by simp, fun w0 U0 L0 N0 => ?_⟩
    simp -implicitDefEqProofs [sc_math_bits_OnesCount, F_OnesCount64, h1, h2]
  · simp at h
def sc_i_SizeOf : SC := (.seq (.reg [⟨(some 2), none, (.mov (.c (.int .i64 0)))⟩]) (.seq (.seq (.reg [⟨(some 3), none, (.mov (.t 0))⟩, ⟨(some 4), none, (.call 114 [(.c (.int .i64 6)), (.t 3)])⟩, ⟨(some 5), none, (.un .not (.t 4))⟩]) (.cond (.t 5) (.seq (.reg [⟨(some 2), none, (.mov (.c (.int .i64 (-1))))⟩]) .ret) .skip)) (.seq (.reg [⟨(some 6), none, (.mov (.t 0))⟩, ⟨(some 7), none, (.conv .u64 (.t 6))⟩, ⟨(some 8), none, (.call 115 [(.t 7)])⟩, ⟨(some 2), none, (.mov (.t 8))⟩]) .ret)))
theorem code_i_SizeOf : fnCode Try.prog [] 89 = some (9, sc_i_SizeOf, [(2, none)]) := by kernel_rfl
def sizeOf1 (s : Int) : Int := if 0 ≤ s ∧ s < 64 then sz s else -1
theorem sizeOf1_set {s : Int} (h1 : 0 ≤ s) (h2 : s < 64) : sizeOf1 s = sz s := by simp [sizeOf1, h1, h2]
def F_i_SizeOf : List V → Option V := F1 dI fun s => some (.int .i64 (sizeOf1 s))
theorem fn_i_SizeOf : FnOk Try.prog 89 F_i_SizeOf := by
  have env := ((envNil_ok (P := Try.prog)).add fn_OnesCount).add fn_i_IsSet
  refine fn_ok code_i_SizeOf mixed env ?_
  intro args r h hb
  obtain ⟨_, s, rfl, h1, h4⟩ := F1_inv h
  cases dI_inv h1
  cases h4
  refine ⟨by simp, fun w0 U0 L0 N0 => ?_⟩
  by_cases hs : 0 ≤ s ∧ s < 64
  · have e : isSet 6 s = true := by simp [isSet, hs.1, hs.2]
    have e2 : IntKind.u64.wrap s = s := wrapU s hs.1 (by omega)
    simp -implicitDefEqProofs [sc_i_SizeOf, F_i_IsSet, F_OnesCount64, e, e2, hs.1, hs.2, sizeOf1]
  · have e : isSet 6 s = false := by
      rw [← Bool.not_eq_true]
      exact fun h => hs (isSet_pos h)
    simp -implicitDefEqProofs [sc_i_SizeOf, F_i_IsSet, F_OnesCount64, e, sizeOf1, hs]
def sc_i_BeforeSet : SC := (.seq (.reg [⟨(some 4), none, (.mov (.c (.bool false)))⟩]) (.seq (.seq (.reg [⟨(some 5), none, (.mov (.t 0))⟩, ⟨(some 6), none, (.call 114 [(.c (.int .i64 6)), (.t 5)])⟩, ⟨(some 7), none, (.un .not (.t 6))⟩, ⟨(some 8), none, (.mov (.t 7))⟩, ⟨(some 9), (some (8, false)), (.mov (.t 1))⟩, ⟨(some 10), (some (8, false)), (.call 114 [(.c (.int .i64 6)), (.t 9)])⟩, ⟨(some 11), (some (8, false)), (.un .not (.t 10))⟩, ⟨(some 12), none, (.pick (.t 8) (.c (.bool true)) (.t 11))⟩]) (.cond (.t 12) (.seq (.reg [⟨(some 4), none, (.mov (.c (.bool false)))⟩]) .ret) .skip)) (.seq (.seq (.reg [⟨(some 13), none, (.mov (.t 0))⟩, ⟨(some 14), none, (.call 89 [(.t 13)])⟩, ⟨(some 15), none, (.mov (.t 1))⟩, ⟨(some 16), none, (.call 89 [(.t 15)])⟩, ⟨(some 17), none, (.bin false .neq (.t 14) (.t 16))⟩]) (.cond (.t 17) (.seq (.reg [⟨(some 18), none, (.mov (.t 0))⟩, ⟨(some 19), none, (.call 89 [(.t 18)])⟩, ⟨(some 20), none, (.mov (.t 1))⟩, ⟨(some 21), none, (.call 89 [(.t 20)])⟩, ⟨(some 22), none, (.bin false .lss (.t 19) (.t 21))⟩, ⟨(some 4), none, (.mov (.t 22))⟩]) .ret) .skip)) (.seq (.reg [⟨(some 23), none, (.mov (.t 0))⟩, ⟨(some 24), none, (.mov (.t 1))⟩, ⟨(some 25), none, (.bin false .lss (.t 23) (.t 24))⟩, ⟨(some 4), none, (.mov (.t 25))⟩]) .ret))))
theorem code_i_BeforeSet : fnCode Try.prog [] 121 = some (26, sc_i_BeforeSet, [(4, none)]) := by kernel_rfl
def F_i_BeforeSet : List V → Option V := F2 dI dI fun a b => some (.bool (isSet 6 a && isSet 6 b && before a b))
theorem fn_i_BeforeSet : FnOk Try.prog 121 F_i_BeforeSet := by
  have env := ((envNil_ok (P := Try.prog)).add fn_i_SizeOf).add fn_i_IsSet
  refine fn_ok code_i_BeforeSet mixed env ?_
  intro args r h hb
  obtain ⟨_, _, a, b, rfl, h1, h2, h4⟩ := F2_inv h
  cases dI_inv h1
  cases dI_inv h2
  cases h4
  refine ⟨by simp, fun w0 U0 L0 N0 => ?_⟩
  by_cases ha : isSet 6 a = true
  · by_cases hc : isSet 6 b = true
    · have e1 := sizeOf1_set (isSet_pos ha).1 (isSet_pos ha).2
      have e2 := sizeOf1_set (isSet_pos hc).1 (isSet_pos hc).2
      simp -implicitDefEqProofs [sc_i_BeforeSet, F_i_IsSet, F_i_SizeOf, ha, hc, e1, e2, before]
      refine ⟨fun h => ?_, fun h => ?_⟩
      · simp [h]
      · simp [h]
    · simp only [Bool.not_eq_true] at hc
      simp -implicitDefEqProofs [sc_i_BeforeSet, F_i_IsSet, F_i_SizeOf, ha, hc]
  · simp only [Bool.not_eq_true] at ha
    simp -implicitDefEqProofs [sc_i_BeforeSet, F_i_IsSet, F_i_SizeOf, ha]
end Go.Proofs.Ytedampaecopkhaa
