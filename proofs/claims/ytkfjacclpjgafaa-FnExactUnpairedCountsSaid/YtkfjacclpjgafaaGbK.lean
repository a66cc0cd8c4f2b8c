import Derived.Test.YtkfjacclpjgafaaFmH
import Derived.Test.YtkfjacclpjgafaaKF
namespace Go.Proofs.Ytkfjacclpjgafaa
open Go Go.RowKit
set_option maxRecDepth 1000000
set_option linter.unusedSimpArgs false
set_option linter.unusedVariables false
set_option maxHeartbeats 1000000
def sc_l_markPairS_L0 : SC := (.seq (.seq (.reg [⟨(some 6), none, (.mov (.t 5))⟩, ⟨(some 7), none, (.mov (.t 0))⟩, ⟨(some 8), none, (.len (.t 7))⟩, ⟨(some 9), none, (.bin false .lss (.t 6) (.t 8))⟩]) (.cond (.t 9) .skip (.exit 0))) (.seq (.block 1 (.seq (.reg [⟨(some 12), none, (.mov (.t 0))⟩, ⟨(some 13), none, (.mov (.t 5))⟩, ⟨(some 14), none, (.mov (.t 1))⟩, ⟨(some 15), none, (.idx 2 (.t 12) (.t 13))⟩, ⟨(some 16), none, (.fad 0 (.t 15))⟩, ⟨none, none, (.st 1 (.t 16) (.t 14))⟩]) (.seq (.reg [⟨(some 17), none, (.mov (.t 1))⟩, ⟨(some 18), none, (.bin false .add (.t 17) (.c (.int .i64 1)))⟩, ⟨(some 1), none, (.mov (.t 18))⟩]) (.seq (.reg [⟨(some 19), none, (.mov (.t 0))⟩, ⟨(some 20), none, (.mov (.t 5))⟩, ⟨(some 21), none, (.mov (.t 1))⟩, ⟨(some 22), none, (.idx 2 (.t 19) (.t 20))⟩, ⟨(some 23), none, (.fad 1 (.t 22))⟩, ⟨none, none, (.st 1 (.t 23) (.t 21))⟩]) (.reg [⟨(some 24), none, (.mov (.t 1))⟩, ⟨(some 25), none, (.bin false .add (.t 24) (.c (.int .i64 1)))⟩, ⟨(some 1), none, (.mov (.t 25))⟩]))))) (.reg [⟨(some 10), none, (.mov (.t 5))⟩, ⟨(some 11), none, (.bin false .add (.t 10) (.c (.int .i64 1)))⟩, ⟨(some 5), none, (.mov (.t 11))⟩])))
def sc_l_markPairS : SC := (.seq (.reg [⟨(some 4), none, (.mov (.c (.int .i64 0)))⟩]) (.seq (.seq (.reg [⟨(some 5), none, (.mov (.c (.int .i64 0)))⟩]) (.block 0 (.loop sc_l_markPairS_L0))) (.seq (.reg [⟨(some 26), none, (.mov (.t 1))⟩, ⟨(some 4), none, (.mov (.t 26))⟩]) .ret)))
theorem code_l_markPairS : fnCode Try.prog [] 49 = some (27, sc_l_markPairS, [(4, none)]) := by kernel_rfl
def marksP (k : Int) (n : Nat) : List (Int × Int) := (List.range n).map fun (i : Nat) => (k + 2 * (i : Int), k + 2 * (i : Int) + 1)
@[simp] theorem marksP_len (k : Int) (n : Nat) : (marksP k n).length = n := by simp [marksP]
@[simp] theorem marksP_take (k : Int) (n : Nat) : (prs (marksP k n)).take (n * 2) = prs (marksP k n) := List.take_of_length_le (by simp)
theorem pr0_marksP {k : Int} {n j : Nat} (h : j < n) : pr0 (marksP k n) j = (k + 2 * (j : Int), k + 2 * (j : Int) + 1) := by simp [marksP, pr0, h]
theorem pr0_app {l m : List (Int × Int)} {k : Nat} : pr0 (l ++ m) k = if k < l.length then pr0 l k else pr0 m (k - l.length) := by
  simp only [pr0]
  split
  · rename_i h; rw [List.getElem?_append_left h]
  · rename_i h; rw [List.getElem?_append_right (by omega)]
theorem pr0_drop (l : List (Int × Int)) (k j : Nat) : pr0 (l.drop k) j = pr0 l (k + j) := by simp [pr0]
theorem marksP_step {k : Int} {l : List (Int × Int)} {i : Nat} (h : i < l.length) : (marksP k i ++ l.drop i).set i (k + 2 * (i : Int), k + 2 * (i : Int) + 1) = marksP k (i + 1) ++ l.drop (i + 1) := by
  apply pr0_ext
  · simp; omega
  · intro j hj
    simp only [List.length_set, List.length_append, marksP_len, List.length_drop] at hj
    rw [pr0_set, pr0_app, pr0_app]
    simp only [marksP_len, List.length_append, List.length_drop]
    by_cases e : i = j
    · subst e
      rw [if_pos ⟨rfl, by omega⟩, if_pos (by omega), pr0_marksP (by omega)]
    · rw [if_neg (by omega)]
      by_cases h1 : j < i
      · rw [if_pos h1, if_pos (by omega), pr0_marksP h1, pr0_marksP (by omega)]
      · rw [if_neg h1, if_neg (by omega), pr0_drop, pr0_drop]
        congr 1
        omega
noncomputable def markPG (len : Nat) (k : Int) (cells : List V) : Option (V × List V) := (dPrs cells).bind fun l => @ite _ (l.length = len ∧ 0 ≤ k ∧ k + 2 * len < 4611686018427387904) (Classical.propDecidable _) (some (.int .i64 (k + 2 * len), prs (marksP k len))) none
theorem markPG_of {l : List (Int × Int)} {len : Nat} {k : Int} (h1 : l.length = len) (h2 : 0 ≤ k) (h3 : k + 2 * len < 4611686018427387904) : markPG len k (prs l) = some (.int .i64 (k + 2 * len), prs (marksP k len)) := by
  unfold markPG
  rw [dPrs_prs, Option.bind_some, if_pos ⟨h1, h2, h3⟩]
noncomputable def G_l_markPairS : List V → List V → Option (V × List V)
  | [.sl 0 2 0 len, .int .i64 k], cells => markPG len k cells
  | _, _ => none
theorem ln_l_markPairS : LendOk Try.prog 49 0 G_l_markPairS := by
  refine fn_lend code_l_markPairS mixed envNil_ok ?_
  intro args cells r cells' hG hb
  unfold G_l_markPairS at hG
  split at hG
  case h_2 => simp at hG
  rename_i len k
  unfold markPG at hG
  obtain ⟨l, h1, h2⟩ := Option.bind_eq_some_iff.1 hG
  have hc := dPrs_inv _ (Nat.le_refl _) h1
  subst hc
  simp only [Option.ite_none_right_eq_some, Option.some.injEq, Prod.mk.injEq] at h2
  obtain ⟨⟨rfl, hk, hk2⟩, rfl, rfl⟩ := h2
  refine ⟨by simp, fun w0 U0 L0 N0 => ?_⟩
  simp -implicitDefEqProofs [sc_l_markPairS]
  refine loopI envNil_ok mixed (fun i : Nat => [(0, .sl 0 2 0 l.length), (1, .int .i64 (k + 2 * (i : Int))), (5, .int .i64 (i : Int))]) (fun i => ([(0, prs (marksP k i ++ l.drop i))], 1)) (fun i => i ≤ l.length) (fun i => l.length - i) 0 (by simp) (SubI.slots (by simp [marksP]) (by simp)) ?_
  intro i hi
  by_cases hlt : i < l.length
  · have hw1 : IntKind.i64.wrap (k + 2 * (i : Int) + 1) = k + 2 * (i : Int) + 1 := wrapI _ (by omega) (by omega)
    have hw2 : IntKind.i64.wrap (k + 2 * (i : Int) + 1 + 1) = k + 2 * ((i + 1 : Nat) : Int) := by rw [wrapI _ (by omega) (by omega)]; omega
    have hms := marksP_step (k := k) hlt
    have hst := prs_set (marksP k i ++ l.drop i) i (k + 2 * (i : Int)) (k + 2 * (i : Int) + 1)
    simp -implicitDefEqProofs [sc_l_markPairS_L0, hlt, hw1, hw2, hst, hms]
    repeat' (first | omega | apply And.intro)
    exact Again.of (i + 1) (by omega) (by omega) (SubI.slots (by simp) (by simp (disch := omega) [wrapI]))
  · have : i = l.length := by omega
    subst this
    simp -implicitDefEqProofs [sc_l_markPairS_L0]
end Go.Proofs.Ytkfjacclpjgafaa
