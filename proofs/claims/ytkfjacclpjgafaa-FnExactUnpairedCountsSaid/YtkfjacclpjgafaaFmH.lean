import Derived.Test.YtkfjacclpjgafaaKI
import Derived.Test.YtkfjacclpjgafaaKF
namespace Go.Proofs.Ytkfjacclpjgafaa
open Go Go.RowKit
set_option maxRecDepth 1000000
set_option linter.unusedSimpArgs false
set_option linter.unusedVariables false
set_option maxHeartbeats 1000000
def sc_l_szPairS : SC := (.seq (.reg [⟨(some 4), none, (.mov (.c (.int .i64 0)))⟩]) (.seq (.reg [⟨(some 5), none, (.mov (.t 1))⟩, ⟨(some 6), none, (.mov (.t 0))⟩, ⟨(some 7), none, (.len (.t 6))⟩, ⟨(some 8), none, (.bin false .sub (.t 5) (.t 7))⟩, ⟨(some 1), none, (.mov (.t 8))⟩]) (.seq (.seq (.reg [⟨(some 9), none, (.mov (.t 1))⟩, ⟨(some 10), none, (.bin false .lss (.t 9) (.c (.int .i64 0)))⟩]) (.cond (.t 10) (.seq (.reg [⟨(some 4), none, (.mov (.c (.int .i64 (-1))))⟩]) .ret) .skip)) (.seq (.reg [⟨(some 11), none, (.mov (.t 1))⟩, ⟨(some 4), none, (.mov (.t 11))⟩]) .ret))))
theorem code_l_szPairS : fnCode Try.prog [] 44 = some (12, sc_l_szPairS, [(4, none)]) := by kernel_rfl
def allRP (l : List (Int × Int)) : Prop := ∀ p ∈ l, inR p.1 ∧ inR p.2
def F_l_szPairS : List V → Option V := F2 dP dI fun l n => if 0 ≤ n ∧ n ≤ 1048576 then some (.int .i64 (leftOf l.length n)) else none
theorem fn_l_szPairS : FnOk Try.prog 44 F_l_szPairS := by
  refine fn_ok code_l_szPairS mixed envNil_ok ?_
  intro args r h hb
  obtain ⟨_, _, l, n, rfl, h1, h2, h4⟩ := F2_inv h
  cases dP_inv h1
  cases dI_inv h2
  simp only [Option.ite_none_right_eq_some, Option.some.injEq] at h4
  obtain ⟨⟨hn1, hn2⟩, rfl⟩ := h4
  have hl := bnd_prs (hb _ (List.mem_cons_self ..))
  refine ⟨by simp, fun w0 U0 L0 N0 => ?_⟩
  have hw : IntKind.i64.wrap (n - (l.length : Int)) = n - l.length := wrapI _ (by omega) (by omega)
  simp -implicitDefEqProofs [sc_l_szPairS, hw, leftOf]
  refine ⟨fun h => ?_, fun h => ?_⟩ <;> omega
def sc_l_toPair : SC := (.seq (.reg [⟨(some 1), none, (.box (.t 0))⟩, ⟨(some 2), none, (.new [(.int .i64 0), (.int .i64 0)])⟩]) (.seq (.reg [⟨(some 3), none, (.new [(.int .i64 0), (.int .i64 0)])⟩]) (.seq (.reg [⟨(some 4), none, (.fad 0 (.t 1))⟩, ⟨(some 5), none, (.ld none (.int .i64 0) (.t 4))⟩, ⟨(some 6), none, (.fad 0 (.t 3))⟩, ⟨none, none, (.st 1 (.t 6) (.t 5))⟩]) (.seq (.reg [⟨(some 7), none, (.fad 1 (.t 1))⟩, ⟨(some 8), none, (.ld none (.int .i64 0) (.t 7))⟩, ⟨(some 9), none, (.fad 1 (.t 3))⟩, ⟨none, none, (.st 1 (.t 9) (.t 8))⟩]) (.seq (.reg [⟨(some 10), none, (.ld (some 2) .undef (.t 3))⟩, ⟨none, none, (.st 2 (.t 2) (.t 10))⟩]) .ret)))))
theorem code_l_toPair : fnCode Try.prog [] 101 = some (11, sc_l_toPair, [(2, (some 2))]) := by kernel_rfl
def dPr : V → Option (Int × Int)
  | .agg [.int .i64 a, .int .i64 b] => some (a, b)
  | _ => none
@[simp] theorem dPr_agg (a b : Int) : dPr (.agg [.int .i64 a, .int .i64 b]) = some (a, b) := rfl
theorem dPr_inv {v : V} {p : Int × Int} (h : dPr v = some p) : v = .agg [.int .i64 p.1, .int .i64 p.2] := by
  unfold dPr at h
  split at h
  · injection h with h; subst h; rfl
  · simp at h
def F_l_toPair : List V → Option V := F1 dPr fun p => some (.agg [.int .i64 p.1, .int .i64 p.2])
theorem fn_l_toPair : FnOk Try.prog 101 F_l_toPair := by
  refine fn_ok code_l_toPair mixed envNil_ok ?_
  intro args r h hb
  obtain ⟨_, ⟨a, b⟩, rfl, h1, h4⟩ := F1_inv h
  cases dPr_inv h1
  cases h4
  refine ⟨by simp, fun w0 U0 L0 N0 => ?_⟩
  simp -implicitDefEqProofs [sc_l_toPair]
def sc_l_toPairS_L0 : SC := (.seq (.seq (.reg [⟨(some 8), none, (.mov (.t 4))⟩, ⟨(some 9), none, (.mov (.t 0))⟩, ⟨(some 10), none, (.len (.t 9))⟩, ⟨(some 11), none, (.bin false .lss (.t 8) (.t 10))⟩]) (.cond (.t 11) .skip (.exit 0))) (.seq (.block 1 (.reg [⟨(some 14), none, (.mov (.t 3))⟩, ⟨(some 15), none, (.mov (.t 4))⟩, ⟨(some 16), none, (.mov (.t 0))⟩, ⟨(some 17), none, (.mov (.t 4))⟩, ⟨(some 18), none, (.idx 2 (.t 16) (.t 17))⟩, ⟨(some 19), none, (.ld (some 2) .undef (.t 18))⟩, ⟨(some 20), none, (.call 101 [(.t 19)])⟩, ⟨(some 21), none, (.idx 2 (.t 14) (.t 15))⟩, ⟨none, none, (.st 2 (.t 21) (.t 20))⟩])) (.reg [⟨(some 12), none, (.mov (.t 4))⟩, ⟨(some 13), none, (.bin false .add (.t 12) (.c (.int .i64 1)))⟩, ⟨(some 4), none, (.mov (.t 13))⟩])))
def sc_l_toPairS : SC := (.seq (.reg [⟨(some 2), none, (.mov (.c .nil))⟩]) (.seq (.reg [⟨(some 5), none, (.mov (.t 0))⟩, ⟨(some 6), none, (.len (.t 5))⟩, ⟨(some 7), none, (.mk 2 16 [(.int .i64 0), (.int .i64 0)] (.t 6) (.t 6))⟩, ⟨(some 3), none, (.mov (.t 7))⟩]) (.seq (.seq (.reg [⟨(some 4), none, (.mov (.c (.int .i64 0)))⟩]) (.block 0 (.loop sc_l_toPairS_L0))) (.seq (.reg [⟨(some 22), none, (.mov (.t 3))⟩, ⟨(some 2), none, (.mov (.t 22))⟩]) .ret))))
theorem code_l_toPairS : fnCode Try.prog [] 46 = some (23, sc_l_toPairS, [(2, none)]) := by kernel_rfl
def F_l_toPairS : List V → Option V := F1 dP fun l => if l.length ≤ 1048576 then some (.own 2 (prs l)) else none
theorem fn_l_toPairS : FnOk Try.prog 46 F_l_toPairS := by
  have env := (envNil_ok (P := Try.prog)).add fn_l_toPair
  refine fn_ok code_l_toPairS mixed env ?_
  intro args r h hb
  obtain ⟨_, l, rfl, h1, h4⟩ := F1_inv h
  cases dP_inv h1
  simp only [Option.ite_none_right_eq_some, Option.some.injEq] at h4
  obtain ⟨hl, rfl⟩ := h4
  refine ⟨by simp, fun w0 U0 L0 N0 => ?_⟩
  simp -implicitDefEqProofs [sc_l_toPairS, prs_repl]
  repeat' (first | omega | apply And.intro | intro _)
  refine loopI env mixed (fun x : Nat × List (Int × Int) => [(0, .list 2 (prs l)), (3, .sl 0 2 0 l.length), (4, .int .i64 (x.1 : Int))]) (fun x => ([(0, prs x.2)], 1)) (fun x => x.1 ≤ l.length ∧ x.2.length = l.length ∧ ∀ j, j < x.1 → pr0 x.2 j = pr0 l j) (fun x => l.length - x.1) (0, List.replicate l.length (0, 0)) (by simp) (SubI.slots (by simp) (by simp)) ?_
  rintro ⟨k, m⟩ ⟨hk, hm, hn⟩
  simp only at hk hm hn
  by_cases hlt : k < l.length
  · have hd := prs_at hlt
    have hs := prs_set m k (pr0 l k).1 (pr0 l k).2
    simp -implicitDefEqProofs [sc_l_toPairS_L0, F_l_toPair, hlt, hm, hd, hs]
    repeat' (first | omega | apply And.intro | intro _)
    refine Again.of (k + 1, m.set k (pr0 l k)) ⟨by simp only; omega, by simpa using hm, fun j hj => ?_⟩ (by simp only; omega) (SubI.slots (by simp) (by simp (disch := omega) [wrapI]))
    simp only at hj ⊢
    rw [pr0_set]
    split
    · rename_i h; rw [h.1]
    · exact hn j (by omega)
  · have : m = l := pr0_ext hm fun j hj => hn j (by omega)
    subst this
    simp -implicitDefEqProofs [sc_l_toPairS_L0, hlt]
    try exact List.take_of_length_le (by simp)
def sc_l_eqPair : SC := (.seq (.reg [⟨(some 2), none, (.box (.t 0))⟩, ⟨(some 3), none, (.box (.t 1))⟩, ⟨(some 4), none, (.mov (.c (.bool false)))⟩]) (.seq (.seq (.reg [⟨(some 5), none, (.fad 0 (.t 2))⟩, ⟨(some 6), none, (.ld none (.int .i64 0) (.t 5))⟩, ⟨(some 7), none, (.fad 0 (.t 3))⟩, ⟨(some 8), none, (.ld none (.int .i64 0) (.t 7))⟩, ⟨(some 9), none, (.bin false .neq (.t 6) (.t 8))⟩]) (.cond (.t 9) (.seq (.reg [⟨(some 4), none, (.mov (.c (.bool false)))⟩]) .ret) .skip)) (.seq (.seq (.reg [⟨(some 10), none, (.fad 1 (.t 2))⟩, ⟨(some 11), none, (.ld none (.int .i64 0) (.t 10))⟩, ⟨(some 12), none, (.fad 1 (.t 3))⟩, ⟨(some 13), none, (.ld none (.int .i64 0) (.t 12))⟩, ⟨(some 14), none, (.bin false .neq (.t 11) (.t 13))⟩]) (.cond (.t 14) (.seq (.reg [⟨(some 4), none, (.mov (.c (.bool false)))⟩]) .ret) .skip)) (.seq (.reg [⟨(some 4), none, (.mov (.c (.bool true)))⟩]) .ret))))
theorem code_l_eqPair : fnCode Try.prog [] 105 = some (15, sc_l_eqPair, [(4, none)]) := by kernel_rfl
def F_l_eqPair : List V → Option V := F2 dPr dPr fun p q => some (.bool (decide (p = q)))
theorem fn_l_eqPair : FnOk Try.prog 105 F_l_eqPair := by
  refine fn_ok code_l_eqPair mixed envNil_ok ?_
  intro args r h hb
  obtain ⟨_, _, ⟨a, b⟩, ⟨c, d⟩, rfl, h1, h2, h4⟩ := F2_inv h
  cases dPr_inv h1
  cases dPr_inv h2
  cases h4
  refine ⟨by simp, fun w0 U0 L0 N0 => ?_⟩
  by_cases e1 : a = c
  · by_cases e2 : b = d
    · simp -implicitDefEqProofs [sc_l_eqPair, e1, e2]
    · simp -implicitDefEqProofs [sc_l_eqPair, e1, e2]
  · simp -implicitDefEqProofs [sc_l_eqPair, e1]
def sc_l_eqPairS_L0 : SC := (.seq (.seq (.reg [⟨(some 11), none, (.mov (.t 5))⟩, ⟨(some 12), none, (.mov (.t 0))⟩, ⟨(some 13), none, (.len (.t 12))⟩, ⟨(some 14), none, (.bin false .lss (.t 11) (.t 13))⟩]) (.cond (.t 14) .skip (.exit 0))) (.seq (.block 1 (.seq (.dreg [⟨⟨(some 17), none, (.mov (.t 0))⟩, false, false⟩, ⟨⟨(some 18), none, (.mov (.t 5))⟩, false, false⟩, ⟨⟨(some 19), none, (.idx 2 (.t 17) (.t 18))⟩, false, false⟩, ⟨⟨(some 20), none, (.ld (some 2) .undef (.t 19))⟩, false, false⟩, ⟨⟨(some 21), none, (.mov (.t 1))⟩, false, false⟩, ⟨⟨(some 22), none, (.mov (.t 5))⟩, false, false⟩, ⟨⟨(some 23), none, (.idx 2 (.t 21) (.t 22))⟩, false, false⟩, ⟨⟨(some 24), none, (.ld (some 2) .undef (.t 23))⟩, false, false⟩, ⟨⟨(some 25), none, (.call 105 [(.t 20), (.t 24)])⟩, false, false⟩, ⟨⟨(some 26), none, (.un .not (.t 25))⟩, false, false⟩]) (.cond (.t 26) (.seq (.reg [⟨(some 4), none, (.mov (.c (.bool false)))⟩]) .ret) .skip))) (.reg [⟨(some 15), none, (.mov (.t 5))⟩, ⟨(some 16), none, (.bin false .add (.t 15) (.c (.int .i64 1)))⟩, ⟨(some 5), none, (.mov (.t 16))⟩])))
def sc_l_eqPairS : SC := (.seq (.reg [⟨(some 4), none, (.mov (.c (.bool false)))⟩]) (.seq (.seq (.reg [⟨(some 6), none, (.mov (.t 0))⟩, ⟨(some 7), none, (.len (.t 6))⟩, ⟨(some 8), none, (.mov (.t 1))⟩, ⟨(some 9), none, (.len (.t 8))⟩, ⟨(some 10), none, (.bin false .neq (.t 7) (.t 9))⟩]) (.cond (.t 10) (.seq (.reg [⟨(some 4), none, (.mov (.c (.bool false)))⟩]) .ret) .skip)) (.seq (.seq (.reg [⟨(some 5), none, (.mov (.c (.int .i64 0)))⟩]) (.block 0 (.loop sc_l_eqPairS_L0))) (.seq (.reg [⟨(some 4), none, (.mov (.c (.bool true)))⟩]) .ret))))
theorem code_l_eqPairS : fnCode Try.prog [] 48 = some (27, sc_l_eqPairS, [(4, none)]) := by kernel_rfl
def F_l_eqPairS : List V → Option V := F2 dP dP fun a b => some (.bool (decide (a = b)))
theorem fn_l_eqPairS : FnOk Try.prog 48 F_l_eqPairS := by
  have env := (envNil_ok (P := Try.prog)).add fn_l_eqPair
  refine fn_ok code_l_eqPairS mixed env ?_
  intro args r h hb
  obtain ⟨_, _, a, b, rfl, h1, h2, h4⟩ := F2_inv h
  cases dP_inv h1
  cases dP_inv h2
  cases h4
  have hl := bnd_prs (hb _ (List.mem_cons_self ..))
  refine ⟨by simp, fun w0 U0 L0 N0 => ?_⟩
  generalize hv : decide (a = b) = v
  by_cases hlen : a.length = b.length
  · simp -implicitDefEqProofs [sc_l_eqPairS, hlen]
    refine loopI env mixed (fun k : Nat => [(0, .list 2 (prs a)), (1, .list 2 (prs b)), (5, .int .i64 (k : Int))]) (fun _ => ([], 0)) (fun k => k ≤ a.length ∧ ∀ j, j < k → pr0 a j = pr0 b j) (fun k => a.length - k) 0 (by simp) (SubI.slots rfl (by simp)) ?_
    rintro k ⟨hk, hn⟩
    by_cases hlt : k < a.length
    · have hlt2 : k < b.length := by omega
      have hd1 := prs_at hlt
      have hd2 := prs_at hlt2
      by_cases he : pr0 a k = pr0 b k
      · simp -implicitDefEqProofs [sc_l_eqPairS_L0, F_l_eqPair, hlt, hlt2, hd1, hd2, he]
        repeat' (first | omega | apply And.intro | intro _)
        refine Again.of (k + 1) ⟨by omega, fun j hj => ?_⟩ (by omega) (SubI.slots rfl (by simp (disch := omega) [wrapI]))
        rcases Nat.lt_succ_iff_lt_or_eq.1 hj with h1 | rfl
        · exact hn j h1
        · exact he
      · have hf : v = false := by
          rw [← hv, decide_eq_false_iff_not]
          exact fun e => he (by rw [e])
        simp -implicitDefEqProofs [sc_l_eqPairS_L0, F_l_eqPair, hlt, hlt2, hd1, hd2, he, hf]
        try omega
    · have hf : v = true := by
        rw [← hv, decide_eq_true_iff]
        exact pr0_ext hlen fun j hj => hn j (by omega)
      simp -implicitDefEqProofs [sc_l_eqPairS_L0, hlt, hf]
  · have hf : v = false := by
      rw [← hv, decide_eq_false_iff_not]
      exact fun e => hlen (by rw [e])
    simp -implicitDefEqProofs [sc_l_eqPairS, hf]
    omega
end Go.Proofs.Ytkfjacclpjgafaa
