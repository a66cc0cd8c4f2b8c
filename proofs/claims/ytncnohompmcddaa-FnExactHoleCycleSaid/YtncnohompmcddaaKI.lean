import Derived.Test.YtncnohompmcddaaKG
namespace Go.Proofs.Ytncnohompmcddaa
open Go Go.RowKit
set_option maxRecDepth 1000000
set_option linter.unusedSimpArgs false
set_option linter.unusedVariables false
set_option maxHeartbeats 1000000
/-- Rows of pairs of numbers: two cells a pair. -/
def prs : List (Int × Int) → List V
  | [] => []
  | p :: l => .int .i64 p.1 :: .int .i64 p.2 :: prs l
@[simp] theorem prs_nil : prs [] = [] := rfl
@[simp] theorem prs_cons (p : Int × Int) (l : List (Int × Int)) : prs (p :: l) = .int .i64 p.1 :: .int .i64 p.2 :: prs l := rfl
@[simp] theorem prs_len : ∀ l : List (Int × Int), (prs l).length = l.length * 2
  | [] => rfl
  | p :: l => by simp [prs_len l]; omega
@[simp] theorem prs_takeL (l : List (Int × Int)) : (prs l).take (l.length * 2) = prs l := List.take_of_length_le (by simp)
theorem prs_drop : ∀ (l : List (Int × Int)) (k : Nat), (prs l).drop (k * 2) = prs (l.drop k)
  | l, 0 => by simp
  | [], k + 1 => by simp
  | p :: l, k + 1 => by
    rw [show (k + 1) * 2 = k * 2 + 1 + 1 by omega]
    simp [prs_drop l k]
theorem prs_app : ∀ l m : List (Int × Int), prs l ++ prs m = prs (l ++ m)
  | [], m => rfl
  | p :: l, m => by simp [prs_app l m]
def pr0 (l : List (Int × Int)) (k : Nat) : Int × Int := l[k]?.getD (0, 0)
theorem pr0_eq {l : List (Int × Int)} {k : Nat} (h : k < l.length) : pr0 l k = l[k] := by simp [pr0, h]
theorem pr0_mem {l : List (Int × Int)} {k : Nat} (h : k < l.length) : pr0 l k ∈ l := by rw [pr0_eq h]; exact List.getElem_mem h
theorem mem_pr0 {l : List (Int × Int)} {p : Int × Int} : p ∈ l ↔ ∃ j, j < l.length ∧ pr0 l j = p := by
  constructor
  · intro h
    obtain ⟨j, hj, e⟩ := List.getElem_of_mem h
    exact ⟨j, hj, by rw [pr0_eq hj, e]⟩
  · rintro ⟨j, hj, rfl⟩
    exact pr0_mem hj
theorem pr0_ext {l m : List (Int × Int)} (h : l.length = m.length) (he : ∀ k, k < l.length → pr0 l k = pr0 m k) : l = m := by
  apply List.ext_getElem h
  intro k h1 h2
  have := he k h1
  rwa [pr0_eq h1, pr0_eq h2] at this
theorem pr0_set {l : List (Int × Int)} {k j : Nat} {x : Int × Int} : pr0 (l.set k x) j = if k = j ∧ j < l.length then x else pr0 l j := by
  simp only [pr0, List.getElem?_set]
  by_cases h : k = j
  · subst h
    by_cases h2 : k < l.length
    · simp [h2]
    · simp [h2]
  · simp [h]
theorem prs_at {l : List (Int × Int)} {k : Nat} (h : k < l.length) : (prs l).drop (k * 2) = .int .i64 (pr0 l k).1 :: .int .i64 (pr0 l k).2 :: prs (l.drop (k + 1)) := by
  rw [prs_drop, List.drop_eq_getElem_cons h, prs_cons, ← pr0_eq h]
theorem take_pr {l : List (Int × Int)} {k : Nat} (h : k < l.length) : l.take (k + 1) = l.take k ++ [pr0 l k] := by
  rw [pr0_eq h, List.take_succ_eq_append_getElem h]
@[simp] theorem prs_dr (H : List (Nat × List V)) (j : Nat) : ∀ l : List (Int × Int), (prs l).map (dr H (j + 1)) = prs l
  | [] => rfl
  | p :: l => by simp [prs_dr H j l]
@[simp] theorem prs_fz (j : Nat) : ∀ l : List (Int × Int), (prs l).map (fz (j + 1)) = prs l
  | [] => rfl
  | p :: l => by simp [prs_fz j l]
@[simp] theorem prs_nl (j : Nat) : ∀ l : List (Int × Int), (prs l).all (nolist (j + 1)) = true
  | [] => rfl
  | p :: l => by simp [prs_nl j l]
@[simp] theorem prs_nn (j : Nat) : ∀ l : List (Int × Int), (prs l).all (noname (j + 1)) = true
  | [] => rfl
  | p :: l => by simp [prs_nn j l]
@[simp] theorem prs_nm (j : Nat) : ∀ l : List (Int × Int), (prs l).all (nonm (j + 1)) = true
  | [] => rfl
  | p :: l => by simp [prs_nm j l]
@[simp] theorem prs_cell : ∀ l : List (Int × Int), (prs l).all V.cell = true
  | [] => rfl
  | p :: l => by simp [prs_cell l]
@[simp] theorem prs_ren (r : Nat → Option Nat) : ∀ l : List (Int × Int), renL r (prs l) = some (prs l)
  | [] => rfl
  | p :: l => by simp [renL, ren1, prs_ren r l]
theorem prs_set : ∀ (l : List (Int × Int)) (k : Nat) (a b : Int), ((prs l).set (k * 2) (.int .i64 a)).set (k * 2 + 1) (.int .i64 b) = prs (l.set k (a, b))
  | [], k, a, b => by simp
  | p :: l, 0, a, b => by simp
  | p :: l, k + 1, a, b => by
    rw [show (k + 1) * 2 = k * 2 + 1 + 1 by omega, show k * 2 + 1 + 1 + 1 = (k * 2 + 1) + 1 + 1 by omega]
    simp only [prs_cons, List.set_cons_succ, prs_set l k a b]
theorem prs_repl (a b : Int) : ∀ n : Nat, (List.replicate n [V.int .i64 a, .int .i64 b]).flatten = prs (List.replicate n (a, b))
  | 0 => rfl
  | n + 1 => by simp [List.replicate_succ, prs_repl a b n]
def dPrs : List V → Option (List (Int × Int))
  | [] => some []
  | .int .i64 a :: .int .i64 b :: r => (dPrs r).map ((a, b) :: ·)
  | _ => none
def dP : V → Option (List (Int × Int))
  | .list 2 cells => dPrs cells
  | _ => none
@[simp] theorem dPrs_prs : ∀ l : List (Int × Int), dPrs (prs l) = some l
  | [] => rfl
  | p :: l => by simp [dPrs, dPrs_prs l]
@[simp] theorem dP_list (l : List (Int × Int)) : dP (.list 2 (prs l)) = some l := by simp [dP]
theorem dPrs_inv : ∀ (n : Nat) {c : List V} {l : List (Int × Int)}, c.length ≤ n → dPrs c = some l → c = prs l := by
  intro n
  induction n with
  | zero => intro c l hn h; cases c with | nil => simp [dPrs] at h; subst h; rfl | cons => simp at hn
  | succ n ih =>
    intro c l hn h
    unfold dPrs at h
    split at h
    · simp at h; subst h; rfl
    · rename_i a b r
      obtain ⟨m, hm, rfl⟩ := Option.map_eq_some_iff.1 h
      simp only [List.length_cons] at hn
      rw [ih (by omega) hm]
      rfl
    · simp at h
theorem dP_inv {v : V} {l : List (Int × Int)} (h : dP v = some l) : v = .list 2 (prs l) := by
  unfold dP at h
  split at h
  · rw [dPrs_inv _ (Nat.le_refl _) h]
  · simp at h
theorem bnd_prs {l : List (Int × Int)} (h : bnd 6 (.list 2 (prs l))) : l.length ≤ 9223372036854775807 := by
  have := h.1
  simp at this
  omega
def sc_s_HasFace : SC := (.seq (.reg [⟨(some 2), none, (.box (.t 0))⟩, ⟨(some 4), none, (.mov (.c (.bool false)))⟩]) (.seq (.reg [⟨(some 5), none, (.ld (some 2) .undef (.t 2))⟩, ⟨(some 6), none, (.call 49 [(.t 5)])⟩, ⟨(some 7), none, (.mov (.t 6))⟩, ⟨(some 8), (some (7, true)), (.mov (.t 1))⟩, ⟨(some 9), (some (7, true)), (.call 50 [(.t 8), (.c (.int .i64 0)), (.c (.int .i64 63))])⟩, ⟨(some 10), none, (.pick (.t 7) (.t 9) (.c (.bool false)))⟩, ⟨(some 11), none, (.mov (.t 10))⟩, ⟨(some 12), (some (11, true)), (.ld (some 2) .undef (.t 2))⟩, ⟨(some 13), (some (11, true)), (.mov (.t 1))⟩, ⟨(some 14), (some (11, true)), (.call 66 [(.t 12), (.t 13)])⟩, ⟨(some 15), none, (.pick (.t 11) (.t 14) (.c (.bool false)))⟩, ⟨(some 4), none, (.mov (.t 15))⟩]) .ret))
noncomputable def hasFaceB (n : Int) (l : List Int) (s : Int) : Bool := dec (cplx n l ∧ isS s ∧ faceS l s)
noncomputable def F_s_HasFace : List V → Option V := F2 dC dI fun c s => some (.bool (hasFaceB c.1 c.2 s))
end Go.Proofs.Ytncnohompmcddaa
namespace Go.Proofs.Ytncnohompmcddaa
open Go Go.RowKit
set_option maxRecDepth 1000000
set_option linter.unusedSimpArgs false
set_option linter.unusedVariables false
set_option maxHeartbeats 1000000
/-- The faces of the first k pairs. -/
def usedI (list : List (Int × Int)) (k : Nat) : List Int := (list.take k).flatMap fun p => [p.1, p.2]
theorem usedI_succ {list : List (Int × Int)} {k : Nat} (h : k < list.length) : usedI list (k + 1) = usedI list k ++ [(pr0 list k).1, (pr0 list k).2] := by
  rw [usedI, take_pr h, List.flatMap_append]
  simp [usedI]
def pairGood (l : List Int) (p : Int × Int) : Prop := isS p.1 ∧ isS p.2 ∧ faceS l p.1 ∧ faceS l p.2 ∧ subS p.1 p.2 ∧ sz p.2 - sz p.1 = 1
def pairP (n : Int) (l : List Int) (list : List (Int × Int)) : Prop := cplx n l ∧ ∀ k, k < list.length → pairGood l (pr0 list k) ∧ (pr0 list k).1 ∉ usedI list k ∧ (pr0 list k).2 ∉ usedI list k
theorem used_step {l : List Int} {list : List (Int × Int)} {k : Nat} (h : k < list.length) (h1 : (usedI list k).Nodup) (h2 : allS (usedI list k)) (g : pairGood l (pr0 list k)) (a : (pr0 list k).1 ∉ usedI list k) (b : (pr0 list k).2 ∉ usedI list k) :
    (usedI list (k + 1)).Nodup ∧ allS (usedI list (k + 1)) := by
  rw [usedI_succ h]
  have hne : (pr0 list k).1 ≠ (pr0 list k).2 := fun e => by have := g.2.2.2.2.2; rw [e] at this; omega
  constructor
  · rw [List.nodup_append]
    refine ⟨h1, by simpa using hne, ?_⟩
    intro x hx y hy e
    subst e
    simp only [List.mem_cons, List.not_mem_nil, or_false] at hy
    rcases hy with rfl | rfl
    · exact a hx
    · exact b hx
  · intro x hx
    rcases List.mem_append.1 hx with h | h
    · exact h2 x h
    · simp only [List.mem_cons, List.not_mem_nil, or_false] at h
      rcases h with rfl | rfl
      · exact g.1
      · exact g.2.1
noncomputable def F_s_IsPairing : List V → Option V := F2 dC dP fun c list => some (.bool (dec (pairP c.1 c.2 list)))
end Go.Proofs.Ytncnohompmcddaa
