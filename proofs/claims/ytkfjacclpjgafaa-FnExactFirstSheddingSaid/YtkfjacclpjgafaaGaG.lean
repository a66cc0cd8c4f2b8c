import Derived.Test.YtkfjacclpjgafaaKL
namespace Go.Proofs.Ytkfjacclpjgafaa
open Go Go.RowKit
set_option maxRecDepth 1000000
set_option linter.unusedSimpArgs false
set_option linter.unusedVariables false
set_option maxHeartbeats 1000000
def sc_s_FirstShedding_L0 : SC := (.seq (.seq (.reg [⟨(some 4), none, (.mov (.t 3))⟩, ⟨(some 5), none, (.fad 0 (.t 1))⟩, ⟨(some 6), none, (.ld none (.int .i64 0) (.t 5))⟩, ⟨(some 7), none, (.bin false .lss (.t 4) (.t 6))⟩, ⟨(some 8), none, (.mov (.t 7))⟩, ⟨(some 9), (some (8, true)), (.ld (some 2) .undef (.t 1))⟩, ⟨(some 10), (some (8, true)), (.call 59 [(.t 9)])⟩, ⟨(some 11), none, (.pick (.t 8) (.t 10) (.c (.bool false)))⟩]) (.cond (.t 11) .skip (.exit 0))) (.seq (.block 1 (.seq (.reg [⟨(some 14), none, (.ld (some 2) .undef (.t 1))⟩, ⟨(some 15), none, (.mov (.t 3))⟩, ⟨(some 16), none, (.call 88 [(.t 14), (.t 15)])⟩]) (.cond (.t 16) (.seq (.reg [⟨(some 17), none, (.mov (.t 3))⟩, ⟨(some 2), none, (.mov (.t 17))⟩]) .ret) .skip))) (.reg [⟨(some 12), none, (.mov (.t 3))⟩, ⟨(some 13), none, (.bin false .add (.t 12) (.c (.int .i64 1)))⟩, ⟨(some 3), none, (.mov (.t 13))⟩])))
def sc_s_FirstShedding : SC := (.seq (.reg [⟨(some 1), none, (.box (.t 0))⟩, ⟨(some 2), none, (.mov (.c (.int .i64 0)))⟩]) (.seq (.seq (.reg [⟨(some 3), none, (.mov (.c (.int .i64 0)))⟩]) (.block 0 (.loop sc_s_FirstShedding_L0))) (.seq (.reg [⟨(some 2), none, (.mov (.c (.int .i64 (-1))))⟩]) .ret)))
theorem code_s_FirstShedding : fnCode Try.prog [] 36 = some (18, sc_s_FirstShedding, [(2, none)]) := by kernel_rfl
/-- The least point below m that can be taken away, or -1. -/
def fsR (n : Int) (l : List Int) (v : Int) : Prop := (v = -1 ∧ ∀ i : Nat, i < 6 → ¬ shdP n l i) ∨ ∃ m : Nat, m < 6 ∧ v = m ∧ shdP n l m ∧ ∀ i : Nat, i < m → ¬ shdP n l i
theorem least_lt (q : Nat → Prop) : ∀ k, (∀ i, i < k → ¬ q i) ∨ ∃ m, m < k ∧ q m ∧ ∀ i, i < m → ¬ q i
  | 0 => .inl fun i hi => by omega
  | k + 1 => by
    rcases least_lt q k with h | ⟨m, a, b, c⟩
    · by_cases hq : q k
      · exact .inr ⟨k, by omega, hq, h⟩
      · refine .inl fun i hi => ?_
        rcases Nat.lt_succ_iff_lt_or_eq.1 hi with h1 | rfl
        · exact h i h1
        · exact hq
    · exact .inr ⟨m, by omega, b, c⟩
theorem fs_ex (n : Int) (l : List Int) : ∃ v, fsR n l v := by
  rcases least_lt (fun i => shdP n l i) 6 with h | ⟨m, a, b, c⟩
  · exact ⟨-1, .inl ⟨rfl, h⟩⟩
  · exact ⟨m, .inr ⟨m, a, rfl, b, c⟩⟩
noncomputable def fsZ (n : Int) (l : List Int) : Int := Classical.choose (fs_ex n l)
theorem fsZ_spec (n : Int) (l : List Int) : fsR n l (fsZ n l) := Classical.choose_spec (fs_ex n l)
theorem fsZ_hit {n : Int} {l : List Int} {m : Nat} (hm : m < 6) (h : shdP n l m) (hmin : ∀ i : Nat, i < m → ¬ shdP n l i) : fsZ n l = m := by
  rcases fsZ_spec n l with ⟨_, b⟩ | ⟨k, hk, e, hs, hmin2⟩
  · exact absurd h (b m hm)
  · rw [e]
    rcases Nat.lt_trichotomy m k with h1 | h1 | h1
    · exact absurd h (hmin2 m h1)
    · rw [h1]
    · exact absurd hs (hmin k h1)
theorem fsZ_none {n : Int} {l : List Int} (h : ∀ i : Nat, i < 6 → ¬ shdP n l i) : fsZ n l = -1 := by
  rcases fsZ_spec n l with ⟨a, _⟩ | ⟨k, hk, _, hs, _⟩
  · exact a
  · exact absurd hs (h k hk)
noncomputable def F_s_FirstShedding : List V → Option V := F1 dC fun c => some (.int .i64 (fsZ c.1 c.2))
theorem fn_s_FirstShedding : FnOk Try.prog 36 F_s_FirstShedding := by
  have env := ((envNil_ok (P := Try.prog)).add fn_s_IsComplex).add fn_s_IsShedding
  refine fn_ok code_s_FirstShedding mixed env ?_
  intro args r h hb
  obtain ⟨_, ⟨n, l⟩, rfl, h1, h4⟩ := F1_inv h
  cases dC_inv h1
  cases h4
  clear h
  refine ⟨by simp, fun w0 U0 L0 N0 => ?_⟩
  clear hb
  have hhit := fun (m : Nat) hm h1 h2 => fsZ_hit (n := n) (l := l) (m := m) hm h1 h2
  have hnone := fsZ_none (n := n) (l := l)
  generalize fsZ n l = z at *
  simp -implicitDefEqProofs [sc_s_FirstShedding]
  refine loopI env mixed (fun k : Nat => [(1, .pt 0 0), (3, .int .i64 (k : Int))]) (fun _ => ([(0, [.int .i64 n, .list 1 (ints l)])], 1)) (fun k => k ≤ 6 ∧ ∀ i : Nat, i < k → ¬ shdP n l i) (fun k => 6 - k) 0 (by simp) (SubI.slots rfl (by simp)) ?_
  rintro k ⟨hk, hno⟩
  have out : (∀ i : Nat, i < 6 → ¬ shdP n l i) → z = -1 := hnone
  by_cases hlt : (k : Int) < n
  · cases e0 : cplxB n l with
    | false =>
      have hz := out fun i hi h => by simp [cplxB_iff.2 h.1] at e0
      simp -implicitDefEqProofs [sc_s_FirstShedding_L0, F_s_IsComplex, hlt, e0, hz]
    | true =>
      have hc := cplxB_iff.1 e0
      have hn6 := hc.2.1
      have hk6 : k < 6 := by omega
      have hr : inR (k : Int) := ⟨by omega, by omega⟩
      by_cases hs : shdP n l k
      · have hz := hhit k hk6 hs hno
        rw [hz]
        have hd := dec_true hs
        simp -implicitDefEqProofs [sc_s_FirstShedding_L0, F_s_IsComplex, F_s_IsShedding, hlt, e0, hr, hd]
      · have hd := dec_false hs
        simp -implicitDefEqProofs [sc_s_FirstShedding_L0, F_s_IsComplex, F_s_IsShedding, hlt, e0, hr, hd]
        repeat' (first | omega | apply And.intro)
        refine Again.of (k + 1) ⟨by omega, fun i hi => ?_⟩ (by omega) (SubI.slots rfl (by simp (disch := omega) [wrapI]))
        rcases Nat.lt_succ_iff_lt_or_eq.1 hi with h1 | rfl
        · exact hno i h1
        · exact hs
  · have hz := out fun i hi h => by
      by_cases h2 : i < k
      · exact hno i h2 h
      · have := h.2.2.1; omega
    simp -implicitDefEqProofs [sc_s_FirstShedding_L0, hlt, hz]
end Go.Proofs.Ytkfjacclpjgafaa
