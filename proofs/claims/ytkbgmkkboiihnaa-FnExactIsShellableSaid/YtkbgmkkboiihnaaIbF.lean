import Derived.Test.YtkbgmkkboiihnaaIbC
namespace Go.Proofs.Ytkbgmkkboiihnaa
open Go Go.RowKit
set_option maxRecDepth 1000000
set_option linter.unusedSimpArgs false
set_option linter.unusedVariables false
set_option maxHeartbeats 1000000
theorem asc_ext {l : List Int} : ∀ {m : List Int}, l.Pairwise (· < ·) → m.Pairwise (· < ·) → (∀ x, x ∈ l ↔ x ∈ m) → l = m := by
  induction l with
  | nil => intro m _ _ h; cases m with
    | nil => rfl
    | cons b m => exact absurd ((h b).2 (by simp)) (by simp)
  | cons a l ih => intro m hl hm h; cases m with
    | nil => exact absurd ((h a).1 (by simp)) (by simp)
    | cons b m =>
      rw [List.pairwise_cons] at hl hm
      have hab : a = b := by
        rcases List.mem_cons.1 ((h a).1 (by simp)) with e | e
        · exact e
        · rcases List.mem_cons.1 ((h b).2 (by simp)) with e2 | e2
          · exact e2.symm
          · have := hl.1 b e2
            have := hm.1 a e
            omega
      subst hab
      rw [ih hl.2 hm.2]
      intro x
      constructor
      · intro hx
        rcases List.mem_cons.1 ((h x).1 (by simp [hx])) with e | e
        · have := hl.1 x hx; omega
        · exact e
      · intro hx
        rcases List.mem_cons.1 ((h x).2 (by simp [hx])) with e | e
        · have := hm.1 x hx; omega
        · exact e
theorem nd_inj {l : List Int} (h : l.Nodup) {i j : Nat} (hi : i < l.length) (hj : j < l.length) (e : at0 l i = at0 l j) : i = j := by
  rcases Nat.lt_trichotomy i j with h1 | h1 | h1
  · exact absurd e (by rw [at0_eq hi, at0_eq hj]; exact List.pairwise_iff_getElem.1 h i j hi hj h1)
  · exact h1
  · exact absurd e.symm (by rw [at0_eq hi, at0_eq hj]; exact List.pairwise_iff_getElem.1 h j i hj hi h1)
/-- Two neighbours exchanged. -/
def swL (y : List Int) (j : Nat) : List Int := (y.set j (at0 y (j - 1))).set (j - 1) (at0 y j)
@[simp] theorem swL_len (y : List Int) (j : Nat) : (swL y j).length = y.length := by simp [swL]
theorem swL_at {y : List Int} {j : Nat} (hj : j < y.length) (h0 : 0 < j) (k : Nat) : at0 (swL y j) k = if k = j - 1 then at0 y j else if k = j then at0 y (j - 1) else at0 y k := by
  unfold swL
  rw [at0_set, at0_set]
  by_cases e : k = j - 1
  · rw [if_pos ⟨e.symm, by rw [List.length_set]; omega⟩, if_pos e]
  · rw [if_neg fun h => e h.1.symm, if_neg e]
    by_cases e2 : k = j
    · rw [if_pos ⟨e2.symm, by omega⟩, if_pos e2]
    · rw [if_neg fun h => e2 h.1.symm, if_neg e2]
/-- While it is sorted: a list of the same members, its first i numbers in order but for the j-th. -/
structure isI (x y : List Int) (i j : Nat) : Prop where
  l : y.length = x.length
  m : ∀ e, e ∈ y ↔ e ∈ x
  n : ∀ p q, p < y.length → q < y.length → at0 y p = at0 y q → p = q
  o : ∀ p q, p < q → q < i → q ≠ j → at0 y p < at0 y q
theorem isI_swap {x y : List Int} {i j : Nat} (h : isI x y i j) (hi : i ≤ y.length) (hj : j < i) (h0 : 0 < j) (hlt : at0 y j < at0 y (j - 1)) : isI x (swL y j) i (j - 1) := by
  have hjl : j < y.length := by omega
  have hat := swL_at hjl h0
  refine ⟨by rw [swL_len]; exact h.l, fun e => ?_, fun p q hp hq he => ?_, fun p q hpq hqi hqj => ?_⟩
  · rw [← h.m e]
    constructor
    · intro he
      obtain ⟨k, hk, e1⟩ := getD_mem_iff.1 he
      rw [swL_len] at hk
      rw [hat] at e1
      rw [← e1]
      split
      · exact getD_mem' hjl
      · split
        · exact getD_mem' (by omega)
        · exact getD_mem' hk
    · intro he
      obtain ⟨k, hk, e1⟩ := getD_mem_iff.1 he
      rw [← e1]
      by_cases a : k = j
      · have : at0 y k = at0 (swL y j) (j - 1) := by rw [hat, if_pos rfl, a]
        rw [this]
        exact getD_mem' (by rw [swL_len]; omega)
      · by_cases b : k = j - 1
        · have : at0 y k = at0 (swL y j) j := by rw [hat, if_neg (by omega), if_pos rfl, b]
          rw [this]
          exact getD_mem' (by rw [swL_len]; omega)
        · have : at0 y k = at0 (swL y j) k := by rw [hat, if_neg b, if_neg a]
          rw [this]
          exact getD_mem' (by rw [swL_len]; exact hk)
  · rw [swL_len] at hp hq
    rw [hat, hat] at he
    split at he
    · split at he
      · omega
      · split at he
        · have := h.n _ _ hjl (by omega) he; omega
        · have := h.n _ _ hjl hq he; omega
    · split at he
      · split at he
        · have := h.n _ _ (by omega) hjl he; omega
        · split at he
          · omega
          · have := h.n _ _ (by omega) hq he; omega
      · split at he
        · have := h.n _ _ hp hjl he; omega
        · split at he
          · have := h.n _ _ hp (by omega) he; omega
          · exact h.n _ _ hp hq he
  · rw [hat, hat]
    rw [if_neg hqj]
    by_cases b : q = j
    · rw [if_pos b]
      by_cases a : p = j - 1
      · rw [if_pos a]; exact hlt
      · rw [if_neg a, if_neg (by omega)]
        exact h.o p (j - 1) (by omega) (by omega) (by omega)
    · rw [if_neg b]
      by_cases a : p = j - 1
      · rw [if_pos a]
        exact h.o j q (by omega) hqi b
      · rw [if_neg a]
        by_cases c : p = j
        · rw [if_pos c]
          exact h.o (j - 1) q (by omega) hqi b
        · rw [if_neg c]
          exact h.o p q hpq hqi b
theorem isI_done {x y : List Int} {i j : Nat} (h : isI x y i j) (hi : i ≤ y.length) (hj : j < i) (hst : j = 0 ∨ ¬ at0 y j < at0 y (j - 1)) (i2 : Nat) : isI x y i i2 := by
  refine ⟨h.l, h.m, h.n, fun p q hpq hqi _ => ?_⟩
  by_cases e : q = j
  · subst e
    rcases hst with h0 | h0
    · omega
    · have h1 : at0 y (q - 1) < at0 y q := by
        rcases Int.lt_trichotomy (at0 y q) (at0 y (q - 1)) with h2 | h2 | h2
        · exact absurd h2 h0
        · have := h.n _ _ (by omega) (by omega) h2; omega
        · exact h2
      by_cases e2 : p = q - 1
      · rw [e2]; exact h1
      · have := h.o p (q - 1) (by omega) (by omega) (by omega)
        omega
  · exact h.o p q hpq hqi e
theorem isI_next {x y : List Int} {i : Nat} (h : isI x y i i) : isI x y (i + 1) i := ⟨h.l, h.m, h.n, fun p q hpq hqi hqj => h.o p q hpq (by omega) hqj⟩
theorem isI_end {x y : List Int} {i j : Nat} (h : isI x y i j) (hi : i = y.length) (hj : i ≤ j) (hx : allS x) : y = srt x := by
  refine asc_ext (List.pairwise_iff_getElem.2 fun p q hp hq hpq => ?_) (srt_lt x) fun e => by rw [h.m e, srt_mem hx]
  have := h.o p q hpq (by omega) (by omega)
  rwa [at0_eq hp, at0_eq hq] at this
theorem isI_start {x : List Int} (hn : x.Nodup) : isI x x 1 1 := ⟨rfl, fun _ => Iff.rfl, fun p q hp hq e => nd_inj hn hp hq e, fun p q hpq hq => by omega⟩
def sc_cmp_isNaN_int : SC := (.seq (.reg [⟨(some 2), none, (.mov (.c (.bool false)))⟩]) (.seq (.reg [⟨(some 3), none, (.mov (.t 0))⟩, ⟨(some 4), none, (.mov (.t 0))⟩, ⟨(some 5), none, (.bin false .neq (.t 3) (.t 4))⟩, ⟨(some 2), none, (.mov (.t 5))⟩]) .ret))
theorem code_cmp_isNaN_int : fnCode Try.prog [] 101 = some (6, sc_cmp_isNaN_int, [(2, none)]) := by kernel_rfl
noncomputable def F_isNaN : List V → Option V := F1 dI fun _ => some (.bool false)
theorem fn_isNaN : FnOk Try.prog 101 F_isNaN := by
  refine fn_ok code_cmp_isNaN_int mixed envNil_ok ?_
  intro args r h hb
  obtain ⟨_, a, rfl, h1, h4⟩ := F1_inv h
  cases dI_inv h1
  cases h4
  refine ⟨by simp, fun w0 U0 L0 N0 => ?_⟩
  simp -implicitDefEqProofs [sc_cmp_isNaN_int]
def sc_cmp_Less_int : SC := (.seq (.reg [⟨(some 4), none, (.mov (.c (.bool false)))⟩]) (.seq (.reg [⟨(some 5), none, (.mov (.t 0))⟩, ⟨(some 6), none, (.call 101 [(.t 5)])⟩, ⟨(some 7), none, (.mov (.t 6))⟩, ⟨(some 8), (some (7, true)), (.mov (.t 1))⟩, ⟨(some 9), (some (7, true)), (.call 101 [(.t 8)])⟩, ⟨(some 10), (some (7, true)), (.un .not (.t 9))⟩, ⟨(some 11), none, (.pick (.t 7) (.t 10) (.c (.bool false)))⟩, ⟨(some 12), none, (.mov (.t 11))⟩, ⟨(some 13), (some (12, false)), (.mov (.t 0))⟩, ⟨(some 14), (some (12, false)), (.mov (.t 1))⟩, ⟨(some 15), (some (12, false)), (.bin false .lss (.t 13) (.t 14))⟩, ⟨(some 16), none, (.pick (.t 12) (.c (.bool true)) (.t 15))⟩, ⟨(some 4), none, (.mov (.t 16))⟩]) .ret))
theorem code_cmp_Less_int : fnCode Try.prog [] 89 = some (17, sc_cmp_Less_int, [(4, none)]) := by kernel_rfl
noncomputable def F_Less : List V → Option V := F2 dI dI fun a b => some (.bool (decide (a < b)))
theorem fn_Less : FnOk Try.prog 89 F_Less := by
  have env := (envNil_ok (P := Try.prog)).add fn_isNaN
  refine fn_ok code_cmp_Less_int mixed env ?_
  intro args r h hb
  obtain ⟨_, _, a, b, rfl, h1, h2, h4⟩ := F2_inv h
  cases dI_inv h1
  cases dI_inv h2
  cases h4
  refine ⟨by simp, fun w0 U0 L0 N0 => ?_⟩
  simp -implicitDefEqProofs [sc_cmp_Less_int, F_isNaN]
end Go.Proofs.Ytkbgmkkboiihnaa
