import Derived.Test.YtedampaecopkhaaFnY
namespace Go.Proofs.Ytedampaecopkhaa
open Go Go.RowKit
set_option maxRecDepth 1000000
set_option linter.unusedSimpArgs false
set_option linter.unusedVariables false
set_option maxHeartbeats 1000000
/-- Rows of pairs of numbers: two cells a pair. -/
def prs : List (Int × Int) → List V
  | [] => []
  | p :: l => .int .i64 p.1 :: .int .i64 p.2 :: prs l
@[simp] theorem prs_nil : prs [] = [] := rfl
@[simp] theorem prs_cons (p : Int × Int) (l : List (Int × Int)) : prs (p :: l) = .int .i64 p.1 :: .int .i64 p.2 :: prs l := rfl
@[simp] theorem prs_len : ∀ l : List (Int × Int), (prs l).length = l.length * 2
  | [] => rfl
  | p :: l => by simp [prs_len l]; omega
@[simp] theorem prs_takeL (l : List (Int × Int)) : (prs l).take (l.length * 2) = prs l := List.take_of_length_le (by simp)
theorem prs_drop : ∀ (l : List (Int × Int)) (k : Nat), (prs l).drop (k * 2) = prs (l.drop k)
  | l, 0 => by simp
  | [], k + 1 => by simp
  | p :: l, k + 1 => by
    rw [show (k + 1) * 2 = k * 2 + 1 + 1 by omega]
    simp [prs_drop l k]
theorem prs_app : ∀ l m : List (Int × Int), prs l ++ prs m = prs (l ++ m)
  | [], m => rfl
  | p :: l, m => by simp [prs_app l m]
def pr0 (l : List (Int × Int)) (k : Nat) : Int × Int := l[k]?.getD (0, 0)
theorem pr0_eq {l : List (Int × Int)} {k : Nat} (h : k < l.length) : pr0 l k = l[k] := by simp [pr0, h]
theorem pr0_mem {l : List (Int × Int)} {k : Nat} (h : k < l.length) : pr0 l k ∈ l := by rw [pr0_eq h]; exact List.getElem_mem h
theorem mem_pr0 {l : List (Int × Int)} {p : Int × Int} : p ∈ l ↔ ∃ j, j < l.length ∧ pr0 l j = p := by
  constructor
  · intro h
    obtain ⟨j, hj, e⟩ := List.getElem_of_mem h
    exact ⟨j, hj, by rw [pr0_eq hj, e]⟩
  · rintro ⟨j, hj, rfl⟩
    exact pr0_mem hj
theorem pr0_ext {l m : List (Int × Int)} (h : l.length = m.length) (he : ∀ k, k < l.length → pr0 l k = pr0 m k) : l = m := by
  apply List.ext_getElem h
  intro k h1 h2
  have := he k h1
  rwa [pr0_eq h1, pr0_eq h2] at this
theorem pr0_set {l : List (Int × Int)} {k j : Nat} {x : Int × Int} : pr0 (l.set k x) j = if k = j ∧ j < l.length then x else pr0 l j := by
  simp only [pr0, List.getElem?_set]
  by_cases h : k = j
  · subst h
    by_cases h2 : k < l.length
    · simp [h2]
    · simp [h2]
  · simp [h]
theorem prs_at {l : List (Int × Int)} {k : Nat} (h : k < l.length) : (prs l).drop (k * 2) = .int .i64 (pr0 l k).1 :: .int .i64 (pr0 l k).2 :: prs (l.drop (k + 1)) := by
  rw [prs_drop, List.drop_eq_getElem_cons h, prs_cons, ← pr0_eq h]
theorem take_pr {l : List (Int × Int)} {k : Nat} (h : k < l.length) : l.take (k + 1) = l.take k ++ [pr0 l k] := by
  rw [pr0_eq h, List.take_succ_eq_append_getElem h]
@[simp] theorem prs_dr (H : List (Nat × List V)) (j : Nat) : ∀ l : List (Int × Int), (prs l).map (dr H (j + 1)) = prs l
  | [] => rfl
  | p :: l => by simp [prs_dr H j l]
@[simp] theorem prs_fz (j : Nat) : ∀ l : List (Int × Int), (prs l).map (fz (j + 1)) = prs l
  | [] => rfl
  | p :: l => by simp [prs_fz j l]
@[simp] theorem prs_nl (j : Nat) : ∀ l : List (Int × Int), (prs l).all (nolist (j + 1)) = true
  | [] => rfl
  | p :: l => by simp [prs_nl j l]
@[simp] theorem prs_nn (j : Nat) : ∀ l : List (Int × Int), (prs l).all (noname (j + 1)) = true
  | [] => rfl
  | p :: l => by simp [prs_nn j l]
@[simp] theorem prs_nm (j : Nat) : ∀ l : List (Int × Int), (prs l).all (nonm (j + 1)) = true
  | [] => rfl
  | p :: l => by simp [prs_nm j l]
@[simp] theorem prs_cell : ∀ l : List (Int × Int), (prs l).all V.cell = true
  | [] => rfl
  | p :: l => by simp [prs_cell l]
@[simp] theorem prs_ren (r : Nat → Option Nat) : ∀ l : List (Int × Int), renL r (prs l) = some (prs l)
  | [] => rfl
  | p :: l => by simp [renL, ren1, prs_ren r l]
theorem prs_set : ∀ (l : List (Int × Int)) (k : Nat) (a b : Int), ((prs l).set (k * 2) (.int .i64 a)).set (k * 2 + 1) (.int .i64 b) = prs (l.set k (a, b))
  | [], k, a, b => by simp
  | p :: l, 0, a, b => by simp
  | p :: l, k + 1, a, b => by
    rw [show (k + 1) * 2 = k * 2 + 1 + 1 by omega, show k * 2 + 1 + 1 + 1 = (k * 2 + 1) + 1 + 1 by omega]
    simp only [prs_cons, List.set_cons_succ, prs_set l k a b]
theorem prs_repl (a b : Int) : ∀ n : Nat, (List.replicate n [V.int .i64 a, .int .i64 b]).flatten = prs (List.replicate n (a, b))
  | 0 => rfl
  | n + 1 => by simp [List.replicate_succ, prs_repl a b n]
def dPrs : List V → Option (List (Int × Int))
  | [] => some []
  | .int .i64 a :: .int .i64 b :: r => (dPrs r).map ((a, b) :: ·)
  | _ => none
def dP : V → Option (List (Int × Int))
  | .list 2 cells => dPrs cells
  | _ => none
@[simp] theorem dPrs_prs : ∀ l : List (Int × Int), dPrs (prs l) = some l
  | [] => rfl
  | p :: l => by simp [dPrs, dPrs_prs l]
@[simp] theorem dP_list (l : List (Int × Int)) : dP (.list 2 (prs l)) = some l := by simp [dP]
theorem dPrs_inv : ∀ (n : Nat) {c : List V} {l : List (Int × Int)}, c.length ≤ n → dPrs c = some l → c = prs l := by
  intro n
  induction n with
  | zero => intro c l hn h; cases c with | nil => simp [dPrs] at h; subst h; rfl | cons => simp at hn
  | succ n ih =>
    intro c l hn h
    unfold dPrs at h
    split at h
    · simp at h; subst h; rfl
    · rename_i a b r
      obtain ⟨m, hm, rfl⟩ := Option.map_eq_some_iff.1 h
      simp only [List.length_cons] at hn
      rw [ih (by omega) hm]
      rfl
    · simp at h
theorem dP_inv {v : V} {l : List (Int × Int)} (h : dP v = some l) : v = .list 2 (prs l) := by
  unfold dP at h
  split at h
  · rw [dPrs_inv _ (Nat.le_refl _) h]
  · simp at h
theorem bnd_prs {l : List (Int × Int)} (h : bnd 6 (.list 2 (prs l))) : l.length ≤ 9223372036854775807 := by
  have := h.1
  simp at this
  omega
def sc_s_HasFace : SC := (.seq (.reg [⟨(some 2), none, (.box (.t 0))⟩, ⟨(some 4), none, (.mov (.c (.bool false)))⟩]) (.seq (.reg [⟨(some 5), none, (.ld (some 2) .undef (.t 2))⟩, ⟨(some 6), none, (.call 56 [(.t 5)])⟩, ⟨(some 7), none, (.mov (.t 6))⟩, ⟨(some 8), (some (7, true)), (.mov (.t 1))⟩, ⟨(some 9), (some (7, true)), (.call 58 [(.t 8), (.c (.int .i64 0)), (.c (.int .i64 63))])⟩, ⟨(some 10), none, (.pick (.t 7) (.t 9) (.c (.bool false)))⟩, ⟨(some 11), none, (.mov (.t 10))⟩, ⟨(some 12), (some (11, true)), (.ld (some 2) .undef (.t 2))⟩, ⟨(some 13), (some (11, true)), (.mov (.t 1))⟩, ⟨(some 14), (some (11, true)), (.call 75 [(.t 12), (.t 13)])⟩, ⟨(some 15), none, (.pick (.t 11) (.t 14) (.c (.bool false)))⟩, ⟨(some 4), none, (.mov (.t 15))⟩]) .ret))
theorem code_s_HasFace : fnCode Try.prog [] 113 = some (16, sc_s_HasFace, [(4, none)]) := by kernel_rfl
noncomputable def hasFaceB (n : Int) (l : List Int) (s : Int) : Bool := dec (cplx n l ∧ isS s ∧ faceS l s)
noncomputable def F_s_HasFace : List V → Option V := F2 dC dI fun c s => some (.bool (hasFaceB c.1 c.2 s))
theorem fn_s_HasFace : FnOk Try.prog 113 F_s_HasFace := by
  have env := (((envNil_ok (P := Try.prog)).add fn_s_IsComplex).add fn_s_l1In).add fn_s_l3Has
  refine fn_ok code_s_HasFace mixed env ?_
  intro args r h hb
  obtain ⟨_, _, ⟨n, l⟩, s, rfl, h1, h2, h4⟩ := F2_inv h
  cases dC_inv h1
  cases dI_inv h2
  cases h4
  refine ⟨by simp, fun w0 U0 L0 N0 => ?_⟩
  generalize hv : hasFaceB n l s = v
  cases e0 : cplxB n l with
  | false =>
    have hv1 : v = false := hv ▸ dec_false fun h => by simp [cplxB_iff.2 h.1] at e0
    simp -implicitDefEqProofs [sc_s_HasFace, F_s_IsComplex, e0, hv1]
  | true =>
  have hc := cplxB_iff.1 e0
  have hS := cplx_isS hc
  by_cases g1 : 0 ≤ s ∧ s ≤ 63
  · have hs : isS s := ⟨g1.1, by have := g1.2; omega⟩
    have hv1 : dec (faceS l s) = v := by
      rw [← hv, Bool.eq_iff_iff, dec_iff]
      exact ⟨fun h => dec_true ⟨hc, hs, h⟩, fun h => (dec_iff.1 h).2.2⟩
    simp -implicitDefEqProofs [sc_s_HasFace, F_s_IsComplex, F_s_l1In, F_s_l3Has, e0, g1, hS, hs, hv1]
  · have hv1 : v = false := hv ▸ dec_false fun h => g1 ⟨h.2.1.1, by have := h.2.1.2; omega⟩
    have g1' : decide (0 ≤ s ∧ s ≤ 63) = false := by simpa using g1
    simp -implicitDefEqProofs [sc_s_HasFace, F_s_IsComplex, F_s_l1In, e0, g1', hv1]
    exact fun a b => absurd ⟨a, b⟩ g1
end Go.Proofs.Ytedampaecopkhaa
