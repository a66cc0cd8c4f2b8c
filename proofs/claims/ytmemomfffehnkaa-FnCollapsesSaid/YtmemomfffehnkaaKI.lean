import Derived.Test.YtmemomfffehnkaaKG
namespace Go.Proofs.Ytmemomfffehnkaa
open Go Go.RowKit
set_option maxRecDepth 1000000
set_option linter.unusedSimpArgs false
set_option linter.unusedVariables false
set_option maxHeartbeats 1000000
/-- Rows of pairs of numbers: two cells a pair. -/
def prs : List (Int × Int) → List V
  | [] => []
  | p :: l => .int .i64 p.1 :: .int .i64 p.2 :: prs l
@[simp] theorem prs_nil : prs [] = [] := rfl
@[simp] theorem prs_cons (p : Int × Int) (l : List (Int × Int)) : prs (p :: l) = .int .i64 p.1 :: .int .i64 p.2 :: prs l := rfl
@[simp] theorem prs_len : ∀ l : List (Int × Int), (prs l).length = l.length * 2
  | [] => rfl
  | p :: l => by simp [prs_len l]; omega
@[simp] theorem prs_takeL (l : List (Int × Int)) : (prs l).take (l.length * 2) = prs l := List.take_of_length_le (by simp)
theorem prs_drop : ∀ (l : List (Int × Int)) (k : Nat), (prs l).drop (k * 2) = prs (l.drop k)
  | l, 0 => by simp
  | [], k + 1 => by simp
  | p :: l, k + 1 => by
    rw [show (k + 1) * 2 = k * 2 + 1 + 1 by omega]
    simp [prs_drop l k]
theorem prs_app : ∀ l m : List (Int × Int), prs l ++ prs m = prs (l ++ m)
  | [], m => rfl
  | p :: l, m => by simp [prs_app l m]
def pr0 (l : List (Int × Int)) (k : Nat) : Int × Int := l[k]?.getD (0, 0)
theorem pr0_eq {l : List (Int × Int)} {k : Nat} (h : k < l.length) : pr0 l k = l[k] := by simp [pr0, h]
theorem pr0_mem {l : List (Int × Int)} {k : Nat} (h : k < l.length) : pr0 l k ∈ l := by rw [pr0_eq h]; exact List.getElem_mem h
theorem mem_pr0 {l : List (Int × Int)} {p : Int × Int} : p ∈ l ↔ ∃ j, j < l.length ∧ pr0 l j = p := by
  constructor
  · intro h
    obtain ⟨j, hj, e⟩ := List.getElem_of_mem h
    exact ⟨j, hj, by rw [pr0_eq hj, e]⟩
  · rintro ⟨j, hj, rfl⟩
    exact pr0_mem hj
theorem pr0_ext {l m : List (Int × Int)} (h : l.length = m.length) (he : ∀ k, k < l.length → pr0 l k = pr0 m k) : l = m := by
  apply List.ext_getElem h
  intro k h1 h2
  have := he k h1
  rwa [pr0_eq h1, pr0_eq h2] at this
theorem pr0_set {l : List (Int × Int)} {k j : Nat} {x : Int × Int} : pr0 (l.set k x) j = if k = j ∧ j < l.length then x else pr0 l j := by
  simp only [pr0, List.getElem?_set]
  by_cases h : k = j
  · subst h
    by_cases h2 : k < l.length
    · simp [h2]
    · simp [h2]
  · simp [h]
theorem prs_at {l : List (Int × Int)} {k : Nat} (h : k < l.length) : (prs l).drop (k * 2) = .int .i64 (pr0 l k).1 :: .int .i64 (pr0 l k).2 :: prs (l.drop (k + 1)) := by
  rw [prs_drop, List.drop_eq_getElem_cons h, prs_cons, ← pr0_eq h]
theorem take_pr {l : List (Int × Int)} {k : Nat} (h : k < l.length) : l.take (k + 1) = l.take k ++ [pr0 l k] := by
  rw [pr0_eq h, List.take_succ_eq_append_getElem h]
@[simp] theorem prs_dr (H : List (Nat × List V)) (j : Nat) : ∀ l : List (Int × Int), (prs l).map (dr H (j + 1)) = prs l
  | [] => rfl
  | p :: l => by simp [prs_dr H j l]
@[simp] theorem prs_fz (j : Nat) : ∀ l : List (Int × Int), (prs l).map (fz (j + 1)) = prs l
  | [] => rfl
  | p :: l => by simp [prs_fz j l]
@[simp] theorem prs_nl (j : Nat) : ∀ l : List (Int × Int), (prs l).all (nolist (j + 1)) = true
  | [] => rfl
  | p :: l => by simp [prs_nl j l]
@[simp] theorem prs_nn (j : Nat) : ∀ l : List (Int × Int), (prs l).all (noname (j + 1)) = true
  | [] => rfl
  | p :: l => by simp [prs_nn j l]
@[simp] theorem prs_nm (j : Nat) : ∀ l : List (Int × Int), (prs l).all (nonm (j + 1)) = true
  | [] => rfl
  | p :: l => by simp [prs_nm j l]
@[simp] theorem prs_cell : ∀ l : List (Int × Int), (prs l).all V.cell = true
  | [] => rfl
  | p :: l => by simp [prs_cell l]
@[simp] theorem prs_ren (r : Nat → Option Nat) : ∀ l : List (Int × Int), renL r (prs l) = some (prs l)
  | [] => rfl
  | p :: l => by simp [renL, ren1, prs_ren r l]
theorem prs_set : ∀ (l : List (Int × Int)) (k : Nat) (a b : Int), ((prs l).set (k * 2) (.int .i64 a)).set (k * 2 + 1) (.int .i64 b) = prs (l.set k (a, b))
  | [], k, a, b => by simp
  | p :: l, 0, a, b => by simp
  | p :: l, k + 1, a, b => by
    rw [show (k + 1) * 2 = k * 2 + 1 + 1 by omega, show k * 2 + 1 + 1 + 1 = (k * 2 + 1) + 1 + 1 by omega]
    simp only [prs_cons, List.set_cons_succ, prs_set l k a b]
theorem prs_repl (a b : Int) : ∀ n : Nat, (List.replicate n [V.int .i64 a, .int .i64 b]).flatten = prs (List.replicate n (a, b))
  | 0 => rfl
  | n + 1 => by simp [List.replicate_succ, prs_repl a b n]
def dPrs : List V → Option (List (Int × Int))
  | [] => some []
  | .int .i64 a :: .int .i64 b :: r => (dPrs r).map ((a, b) :: ·)
  | _ => none
def dP : V → Option (List (Int × Int))
  | .list 2 cells => dPrs cells
  | _ => none
@[simp] theorem dPrs_prs : ∀ l : List (Int × Int), dPrs (prs l) = some l
  | [] => rfl
  | p :: l => by simp [dPrs, dPrs_prs l]
@[simp] theorem dP_list (l : List (Int × Int)) : dP (.list 2 (prs l)) = some l := by simp [dP]
theorem dPrs_inv : ∀ (n : Nat) {c : List V} {l : List (Int × Int)}, c.length ≤ n → dPrs c = some l → c = prs l := by
  intro n
  induction n with
  | zero => intro c l hn h; cases c with | nil => simp [dPrs] at h; subst h; rfl | cons => simp at hn
  | succ n ih =>
    intro c l hn h
    unfold dPrs at h
    split at h
    · simp at h; subst h; rfl
    · rename_i a b r
      obtain ⟨m, hm, rfl⟩ := Option.map_eq_some_iff.1 h
      simp only [List.length_cons] at hn
      rw [ih (by omega) hm]
      rfl
    · simp at h
theorem dP_inv {v : V} {l : List (Int × Int)} (h : dP v = some l) : v = .list 2 (prs l) := by
  unfold dP at h
  split at h
  · rw [dPrs_inv _ (Nat.le_refl _) h]
  · simp at h
theorem bnd_prs {l : List (Int × Int)} (h : bnd 6 (.list 2 (prs l))) : l.length ≤ 9223372036854775807 := by
  have := h.1
  simp at this
  omega
def sc_s_HasFace : SC := (.seq (.reg [⟨(some 2), none, (.box (.t 0))⟩, ⟨(some 4), none, (.mov (.c (.bool false)))⟩]) (.seq (.reg [⟨(some 5), none, (.ld (some 2) .undef (.t 2))⟩, ⟨(some 6), none, (.call 24 [(.t 5)])⟩, ⟨(some 7), none, (.mov (.t 6))⟩, ⟨(some 8), (some (7, true)), (.mov (.t 1))⟩, ⟨(some 9), (some (7, true)), (.call 132 [(.t 8), (.c (.int .i64 0)), (.c (.int .i64 63))])⟩, ⟨(some 10), none, (.pick (.t 7) (.t 9) (.c (.bool false)))⟩, ⟨(some 11), none, (.mov (.t 10))⟩, ⟨(some 12), (some (11, true)), (.ld (some 2) .undef (.t 2))⟩, ⟨(some 13), (some (11, true)), (.mov (.t 1))⟩, ⟨(some 14), (some (11, true)), (.call 158 [(.t 12), (.t 13)])⟩, ⟨(some 15), none, (.pick (.t 11) (.t 14) (.c (.bool false)))⟩, ⟨(some 4), none, (.mov (.t 15))⟩]) .ret))
theorem code_s_HasFace : fnCode Try.prog [] 189 = some (16, sc_s_HasFace, [(4, none)]) := by kernel_rfl
noncomputable def hasFaceB (n : Int) (l : List Int) (s : Int) : Bool := dec (cplx n l ∧ isS s ∧ faceS l s)
noncomputable def F_s_HasFace : List V → Option V := F2 dC dI fun c s => some (.bool (hasFaceB c.1 c.2 s))
theorem fn_s_HasFace : FnOk Try.prog 189 F_s_HasFace := by
  have env := (((envNil_ok (P := Try.prog)).add fn_s_IsComplex).add fn_s_l1In).add fn_s_l3Has
  refine fn_ok code_s_HasFace mixed env ?_
  intro args r h hb
  obtain ⟨_, _, ⟨n, l⟩, s, rfl, h1, h2, h4⟩ := F2_inv h
  cases dC_inv h1
  cases dI_inv h2
  cases h4
  refine ⟨by simp, fun w0 U0 L0 N0 => ?_⟩
  generalize hv : hasFaceB n l s = v
  cases e0 : cplxB n l with
  | false =>
    have hv1 : v = false := hv ▸ dec_false fun h => by simp [cplxB_iff.2 h.1] at e0
    simp -implicitDefEqProofs [sc_s_HasFace, F_s_IsComplex, e0, hv1]
  | true =>
  have hc := cplxB_iff.1 e0
  have hS := cplx_isS hc
  by_cases g1 : 0 ≤ s ∧ s ≤ 63
  · have hs : isS s := ⟨g1.1, by have := g1.2; omega⟩
    have hv1 : dec (faceS l s) = v := by
      rw [← hv, Bool.eq_iff_iff, dec_iff]
      exact ⟨fun h => dec_true ⟨hc, hs, h⟩, fun h => (dec_iff.1 h).2.2⟩
    simp -implicitDefEqProofs [sc_s_HasFace, F_s_IsComplex, F_s_l1In, F_s_l3Has, e0, g1, hS, hs, hv1]
  · have hv1 : v = false := hv ▸ dec_false fun h => g1 ⟨h.2.1.1, by have := h.2.1.2; omega⟩
    have g1' : decide (0 ≤ s ∧ s ≤ 63) = false := by simpa using g1
    simp -implicitDefEqProofs [sc_s_HasFace, F_s_IsComplex, F_s_l1In, e0, g1', hv1]
    exact fun a b => absurd ⟨a, b⟩ g1
end Go.Proofs.Ytmemomfffehnkaa
namespace Go.Proofs.Ytmemomfffehnkaa
open Go Go.RowKit
set_option maxRecDepth 1000000
set_option linter.unusedSimpArgs false
set_option linter.unusedVariables false
set_option maxHeartbeats 1000000
def sc_s_IsPairing_L0 : SC := (.seq (.seq (.reg [⟨(some 10), none, (.mov (.t 6))⟩, ⟨(some 11), none, (.mov (.t 1))⟩, ⟨(some 12), none, (.len (.t 11))⟩, ⟨(some 13), none, (.bin false .lss (.t 10) (.t 12))⟩]) (.cond (.t 13) .skip (.exit 0))) (.seq (.block 1 (.seq (.reg [⟨(some 16), none, (.mov (.t 1))⟩, ⟨(some 17), none, (.mov (.t 6))⟩, ⟨(some 18), none, (.idx 2 (.t 16) (.t 17))⟩, ⟨(some 19), none, (.fad 0 (.t 18))⟩, ⟨(some 20), none, (.ld none (.int .i64 0) (.t 19))⟩, ⟨(some 7), none, (.mov (.t 20))⟩]) (.seq (.reg [⟨(some 21), none, (.mov (.t 1))⟩, ⟨(some 22), none, (.mov (.t 6))⟩, ⟨(some 23), none, (.idx 2 (.t 21) (.t 22))⟩, ⟨(some 24), none, (.fad 1 (.t 23))⟩, ⟨(some 25), none, (.ld none (.int .i64 0) (.t 24))⟩, ⟨(some 8), none, (.mov (.t 25))⟩]) (.seq (.seq (.reg [⟨(some 26), none, (.ld (some 2) .undef (.t 2))⟩, ⟨(some 27), none, (.mov (.t 7))⟩, ⟨(some 28), none, (.call 189 [(.t 26), (.t 27)])⟩, ⟨(some 29), none, (.un .not (.t 28))⟩, ⟨(some 30), none, (.mov (.t 29))⟩, ⟨(some 31), (some (30, false)), (.ld (some 2) .undef (.t 2))⟩, ⟨(some 32), (some (30, false)), (.mov (.t 8))⟩, ⟨(some 33), (some (30, false)), (.call 189 [(.t 31), (.t 32)])⟩, ⟨(some 34), (some (30, false)), (.un .not (.t 33))⟩, ⟨(some 35), none, (.pick (.t 30) (.c (.bool true)) (.t 34))⟩, ⟨(some 36), none, (.mov (.t 35))⟩, ⟨(some 37), (some (36, false)), (.mov (.t 7))⟩, ⟨(some 38), (some (36, false)), (.mov (.t 8))⟩, ⟨(some 39), (some (36, false)), (.bin false .and (.t 37) (.t 38))⟩, ⟨(some 40), (some (36, false)), (.mov (.t 7))⟩, ⟨(some 41), (some (36, false)), (.bin false .neq (.t 39) (.t 40))⟩, ⟨(some 42), none, (.pick (.t 36) (.c (.bool true)) (.t 41))⟩, ⟨(some 43), none, (.mov (.t 42))⟩, ⟨(some 44), (some (43, false)), (.mov (.t 8))⟩, ⟨(some 45), (some (43, false)), (.call 156 [(.t 44)])⟩, ⟨(some 46), (some (43, false)), (.mov (.t 7))⟩, ⟨(some 47), (some (43, false)), (.call 156 [(.t 46)])⟩, ⟨(some 48), (some (43, false)), (.bin false .sub (.t 45) (.t 47))⟩, ⟨(some 49), (some (43, false)), (.bin false .neq (.t 48) (.c (.int .i64 1)))⟩, ⟨(some 50), none, (.pick (.t 43) (.c (.bool true)) (.t 49))⟩, ⟨(some 51), none, (.mov (.t 50))⟩, ⟨(some 52), (some (51, false)), (.mov (.t 5))⟩, ⟨(some 53), (some (51, false)), (.mov (.t 7))⟩, ⟨(some 54), (some (51, false)), (.call 134 [(.t 52), (.t 53)])⟩, ⟨(some 55), none, (.pick (.t 51) (.c (.bool true)) (.t 54))⟩, ⟨(some 56), none, (.mov (.t 55))⟩, ⟨(some 57), (some (56, false)), (.mov (.t 5))⟩, ⟨(some 58), (some (56, false)), (.mov (.t 8))⟩, ⟨(some 59), (some (56, false)), (.call 134 [(.t 57), (.t 58)])⟩, ⟨(some 60), none, (.pick (.t 56) (.c (.bool true)) (.t 59))⟩]) (.cond (.t 60) (.seq (.reg [⟨(some 4), none, (.mov (.c (.bool false)))⟩]) .ret) .skip)) (.reg [⟨(some 61), none, (.mov (.t 5))⟩, ⟨(some 62), none, (.mov (.t 7))⟩, ⟨(some 63), none, (.mov (.t 8))⟩, ⟨(some 64), none, (.mks 2 1 [(.int .i64 0), (.int .i64 0)] [(0, (1, (.t 62))), (1, (1, (.t 63)))])⟩, ⟨(some 65), none, (.app 1 8 (.t 61) (.t 64))⟩, ⟨(some 5), none, (.mov (.t 65))⟩]))))) (.reg [⟨(some 14), none, (.mov (.t 6))⟩, ⟨(some 15), none, (.bin false .add (.t 14) (.c (.int .i64 1)))⟩, ⟨(some 6), none, (.mov (.t 15))⟩])))
def sc_s_IsPairing : SC := (.seq (.reg [⟨(some 2), none, (.box (.t 0))⟩, ⟨(some 4), none, (.mov (.c (.bool false)))⟩]) (.seq (.reg [⟨(some 9), none, (.mks 0 1 [] [])⟩, ⟨(some 5), none, (.mov (.t 9))⟩]) (.seq (.seq (.reg [⟨(some 6), none, (.mov (.c (.int .i64 0)))⟩]) (.block 0 (.loop sc_s_IsPairing_L0))) (.seq (.reg [⟨(some 66), none, (.ld (some 2) .undef (.t 2))⟩, ⟨(some 67), none, (.call 24 [(.t 66)])⟩, ⟨(some 4), none, (.mov (.t 67))⟩]) .ret))))
theorem code_s_IsPairing : fnCode Try.prog [] 86 = some (68, sc_s_IsPairing, [(4, none)]) := by kernel_rfl
/-- The faces of the first k pairs. -/
def usedI (list : List (Int × Int)) (k : Nat) : List Int := (list.take k).flatMap fun p => [p.1, p.2]
theorem usedI_succ {list : List (Int × Int)} {k : Nat} (h : k < list.length) : usedI list (k + 1) = usedI list k ++ [(pr0 list k).1, (pr0 list k).2] := by
  rw [usedI, take_pr h, List.flatMap_append]
  simp [usedI]
def pairGood (l : List Int) (p : Int × Int) : Prop := isS p.1 ∧ isS p.2 ∧ faceS l p.1 ∧ faceS l p.2 ∧ subS p.1 p.2 ∧ sz p.2 - sz p.1 = 1
def pairP (n : Int) (l : List Int) (list : List (Int × Int)) : Prop := cplx n l ∧ ∀ k, k < list.length → pairGood l (pr0 list k) ∧ (pr0 list k).1 ∉ usedI list k ∧ (pr0 list k).2 ∉ usedI list k
theorem used_step {l : List Int} {list : List (Int × Int)} {k : Nat} (h : k < list.length) (h1 : (usedI list k).Nodup) (h2 : allS (usedI list k)) (g : pairGood l (pr0 list k)) (a : (pr0 list k).1 ∉ usedI list k) (b : (pr0 list k).2 ∉ usedI list k) :
    (usedI list (k + 1)).Nodup ∧ allS (usedI list (k + 1)) := by
  rw [usedI_succ h]
  have hne : (pr0 list k).1 ≠ (pr0 list k).2 := fun e => by have := g.2.2.2.2.2; rw [e] at this; omega
  constructor
  · rw [List.nodup_append]
    refine ⟨h1, by simpa using hne, ?_⟩
    intro x hx y hy e
    subst e
    simp only [List.mem_cons, List.not_mem_nil, or_false] at hy
    rcases hy with rfl | rfl
    · exact a hx
    · exact b hx
  · intro x hx
    rcases List.mem_append.1 hx with h | h
    · exact h2 x h
    · simp only [List.mem_cons, List.not_mem_nil, or_false] at h
      rcases h with rfl | rfl
      · exact g.1
      · exact g.2.1
noncomputable def F_s_IsPairing : List V → Option V := F2 dC dP fun c list => some (.bool (dec (pairP c.1 c.2 list)))
theorem fn_s_IsPairing : FnOk Try.prog 86 F_s_IsPairing := by
  have env := ((((envNil_ok (P := Try.prog)).add fn_s_HasFace).add fn_s_IsComplex).add fn_s_l2Has).add fn_s_l2Size
  refine fn_ok code_s_IsPairing mixed env ?_
  intro args r h hb
  obtain ⟨_, _, ⟨n, l⟩, list, rfl, h1, h2, h4⟩ := F2_inv h
  cases dC_inv h1
  cases dP_inv h2
  cases h4
  have hlen := bnd_prs (hb (.list 2 (prs list)) (by simp))
  refine ⟨by simp, fun w0 U0 L0 N0 => ?_⟩
  generalize hv : dec (pairP n l list) = v
  simp -implicitDefEqProofs [sc_s_IsPairing]
  refine loopI env mixed (fun k : Nat => [(1, .list 2 (prs list)), (2, .pt 0 0), (5, .sl 1 1 0 (usedI list k).length), (6, .int .i64 (k : Int))]) (fun k => ([(1, ints (usedI list k)), (0, [.int .i64 n, .list 1 (ints l)])], 2))
    (fun k => k ≤ list.length ∧ ((usedI list k).Nodup ∧ allS (usedI list k)) ∧ ∀ m, m < k → pairGood l (pr0 list m) ∧ (pr0 list m).1 ∉ usedI list m ∧ (pr0 list m).2 ∉ usedI list m) (fun k => list.length - k) 0
    ⟨by omega, ⟨by simp [usedI], by simp [usedI, allS]⟩, by omega⟩ (SubI.slots (by simp [usedI]) (by simp [usedI])) ?_
  rintro k ⟨hk, ⟨hu1, hu2⟩, hn⟩
  have hu64 := nodup_len hu1 hu2
  by_cases hlt : k < list.length
  · have hd := prs_at hlt
    have bad : ¬ (cplx n l ∧ pairGood l (pr0 list k) ∧ (pr0 list k).1 ∉ usedI list k ∧ (pr0 list k).2 ∉ usedI list k) → v = false := fun h => hv ▸ dec_false fun hp => h ⟨hp.1, hp.2 k hlt⟩
    have next : pairGood l (pr0 list k) → (pr0 list k).1 ∉ usedI list k → (pr0 list k).2 ∉ usedI list k → k + 1 ≤ list.length ∧ ((usedI list (k + 1)).Nodup ∧ allS (usedI list (k + 1))) ∧ ∀ m, m < k + 1 → pairGood l (pr0 list m) ∧ (pr0 list m).1 ∉ usedI list m ∧ (pr0 list m).2 ∉ usedI list m := fun g a b => by
      refine ⟨by omega, used_step hlt hu1 hu2 g a b, fun m hm => ?_⟩
      rcases Nat.lt_succ_iff_lt_or_eq.1 hm with h1 | rfl
      · exact hn m h1
      · exact ⟨g, a, b⟩
    have hus := usedI_succ hlt
    generalize hp : pr0 list k = p at *
    obtain ⟨a, b⟩ := p
    simp only at *
    cases e0 : hasFaceB n l a with
    | false =>
      have hv1 := bad fun h => by
        have : hasFaceB n l a = true := dec_true ⟨h.1, h.2.1.1, h.2.1.2.2.1⟩
        simp [this] at e0
      simp -implicitDefEqProofs [sc_s_IsPairing_L0, F_s_HasFace, hlt, hd, e0, hv1]
      try omega
    | true =>
    cases e1 : hasFaceB n l b with
    | false =>
      have hv1 := bad fun h => by
        have : hasFaceB n l b = true := dec_true ⟨h.1, h.2.1.2.1, h.2.1.2.2.2.1⟩
        simp [this] at e1
      simp -implicitDefEqProofs [sc_s_IsPairing_L0, F_s_HasFace, hlt, hd, e0, e1, hv1]
      try omega
    | true =>
    obtain ⟨hc, ha, hfa⟩ := dec_iff.1 e0
    obtain ⟨_, hbS, hfb⟩ := dec_iff.1 e1
    by_cases h3 : band a b = a
    rotate_left
    · have hv1 := bad fun h => h3 ((subS_iff ha hbS).1 h.2.1.2.2.2.2.1)
      simp -implicitDefEqProofs [sc_s_IsPairing_L0, F_s_HasFace, hlt, hd, e0, e1, h3, hv1]
      try omega
    have r1 : a < 9223372036854775808 := by have := ha.2; omega
    have r2 : b < 9223372036854775808 := by have := hbS.2; omega
    have hw : IntKind.i64.wrap (sz b - sz a) = sz b - sz a := wrapI _ (by have := sz_nn b; have := sz_le a; omega) (by have := sz_le b; have := sz_nn a; omega)
    by_cases h4 : sz b - sz a = 1
    rotate_left
    · have hv1 := bad fun h => h4 h.2.1.2.2.2.2.2
      simp -implicitDefEqProofs [sc_s_IsPairing_L0, F_s_HasFace, F_s_l2Size, hlt, hd, e0, e1, h3, r1, r2, hw, h4, hv1]
      try omega
    have hw1 : IntKind.i64.wrap 1 = 1 := wrapI 1 (by omega) (by omega)
    by_cases u1 : a ∈ usedI list k
    · have hv1 := bad fun h => h.2.2.1 u1
      simp -implicitDefEqProofs [sc_s_IsPairing_L0, F_s_HasFace, F_s_l2Size, F_s_l2Has, hlt, hd, e0, e1, h3, r1, r2, hw1, h4, u1, hv1]
      try omega
    by_cases u2 : b ∈ usedI list k
    · have hv1 := bad fun h => h.2.2.2 u2
      simp -implicitDefEqProofs [sc_s_IsPairing_L0, F_s_HasFace, F_s_l2Size, F_s_l2Has, hlt, hd, e0, e1, h3, r1, r2, hw1, h4, u1, u2, hv1]
      try omega
    have hnx := next ⟨ha, hbS, hfa, hfb, (subS_iff ha hbS).2 h3, h4⟩ u1 u2
    simp -implicitDefEqProofs [sc_s_IsPairing_L0, F_s_HasFace, F_s_l2Size, F_s_l2Has, hlt, hd, e0, e1, h3, r1, r2, hw1, h4, u1, u2]
    repeat' (first | omega | apply And.intro)
    refine Again.of (k + 1) hnx (by omega) (SubI.ren (fun m => if m = 0 then some 0 else if m = 1 then some 3 else none) ?_ ?_ ?_ (by simp) (by simp))
    · simp (disch := omega) [subT, renV, ren1, wrapI, hus]
    · simp [subH, hus, renL, ren1]
      rw [← ints_app]
      rfl
    · intro m hm
      simp only at hm
      rw [if_neg (by omega), if_neg (by omega)]
  · have hkl : k = list.length := by omega
    have hv1 : cplxB n l = v := by
      rw [← hv, Bool.eq_iff_iff, cplxB_iff, dec_iff]
      exact ⟨fun h => ⟨h, fun m hm => hn m (by omega)⟩, fun h => h.1⟩
    subst hkl
    simp -implicitDefEqProofs [sc_s_IsPairing_L0, F_s_IsComplex, hv1]
end Go.Proofs.Ytmemomfffehnkaa
