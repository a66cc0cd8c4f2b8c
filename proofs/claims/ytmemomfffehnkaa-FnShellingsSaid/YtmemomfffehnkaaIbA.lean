import Derived.Test.YtmemomfffehnkaaIaA
import Derived.Test.YtmemomfffehnkaaKE
namespace Go.Proofs.Ytmemomfffehnkaa
open Go Go.RowKit
set_option maxRecDepth 1000000
set_option linter.unusedSimpArgs false
set_option linter.unusedVariables false
set_option maxHeartbeats 1000000
/-- Facets in ascending order, none within another. -/
structure sfP (F : List Int) : Prop where
  s : allS F
  l : F.length ≤ 8
  o : ∀ i j, i < j → j < F.length → at0 F i < at0 F j
  a : ∀ x ∈ F, ∀ y ∈ F, x ≠ y → bnot x y ≠ 0
def shOk (F head : List Int) : Prop := head.length ≤ F.length ∧ ∀ k, k < head.length → at0 head k ∈ F ∧ at0 head k ∉ head.take k ∧ fitsI (head.take k) (at0 head k)
/-- A shelling of the facets. -/
def shD (F list : List Int) : Prop := list.length = F.length ∧ shOk F list
theorem at0_appL2 {a b : List Int} {k : Nat} (h : k < a.length) : at0 (a ++ b) k = at0 a k := by rw [at0_app, if_pos h]
theorem at0_snoc2 (a : List Int) (x : Int) : at0 (a ++ [x]) a.length = x := by
  rw [at0_app, if_neg (by omega), Nat.sub_self]
  rfl
theorem take_appL {a b : List Int} {k : Nat} (h : k ≤ a.length) : (a ++ b).take k = a.take k := by
  rw [List.take_append_of_le_length h]
theorem shOk_snoc {F head : List Int} {s : Int} (h : shOk F head) (hlt : head.length < F.length) (h1 : s ∈ F) (h2 : s ∉ head) (h3 : fitsI head s) : shOk F (head ++ [s]) := by
  obtain ⟨_, h4⟩ := h
  refine ⟨by simp; omega, fun k hk => ?_⟩
  rw [List.length_append, List.length_singleton] at hk
  by_cases e : k = head.length
  · subst e
    rw [at0_snoc2, take_appL (Nat.le_refl _), List.take_length]
    exact ⟨h1, h2, h3⟩
  · rw [at0_appL2 (by omega), take_appL (by omega)]
    exact h4 k (by omega)
theorem sh_set {F head : List Int} {s : Int} (h : exD (shD F) (head ++ [s])) : head.length < F.length ∧ s ∈ F ∧ s ∉ head ∧ fitsI head s := by
  obtain ⟨t, h1, h2⟩ := h
  have h3 := h2.2 head.length (by simp)
  have e1 : at0 (head ++ [s] ++ t) head.length = s := by rw [at0_appL2 (by simp), at0_snoc2]
  have e2 : (head ++ [s] ++ t).take head.length = head := by rw [List.append_assoc, take_appL (Nat.le_refl _), List.take_length]
  rw [e1, e2] at h3
  rw [List.length_append, List.length_append, List.length_singleton] at h1
  exact ⟨by omega, h3⟩
theorem sh_full {F head : List Int} (h : head.length = F.length) (ho : shOk F head) : exD (shD F) head := ⟨[], by rw [List.append_nil]; exact ⟨h, ho⟩⟩
theorem sh_next {F head : List Int} (hF : allS F) (h : exD (shD F) head) (hlt : head.length < F.length) : ∃ u, isS u ∧ u ∈ F ∧ exD (shD F) (head ++ [u]) := by
  obtain ⟨t, ht⟩ := h
  cases t with
  | nil =>
    have := ht.1
    rw [List.append_nil] at this
    omega
  | cons u t =>
    have he : exD (shD F) (head ++ [u]) := ⟨t, by simpa using ht⟩
    have hu := (sh_set he).2.1
    exact ⟨u, hF u hu, hu, he⟩
theorem sh_none {F head : List Int} (hF : allS F) (hlt : head.length < F.length) (h : ∀ j, j < F.length → ¬ exD (shD F) (head ++ [at0 F j])) : ¬ exD (shD F) head := fun he => by
  obtain ⟨u, _, hu, h2⟩ := sh_next hF he hlt
  obtain ⟨j, hj, e⟩ := getD_mem_iff.1 hu
  rw [← e] at h2
  exact h j hj h2
open Classical in
noncomputable def shO (F head : List Int) : List Int := if exD (shD F) head then exL (shD F) (F.length - head.length) head else []
theorem shO_yes {F head : List Int} (h : exD (shD F) head) : shO F head = exL (shD F) (F.length - head.length) head := if_pos h
theorem shO_no {F head : List Int} (h : ¬ exD (shD F) head) : shO F head = [] := if_neg h
theorem shO_step {F head : List Int} {k : Nat} (hF : sfP F) (hk : k < F.length) (he : exD (shD F) (head ++ [at0 F k])) (hm : ∀ j, j < k → ¬ exD (shD F) (head ++ [at0 F j])) : exD (shD F) head ∧ shO F head = shO F (head ++ [at0 F k]) := by
  have h1 := exD_of _ he
  have h2 := (sh_set he).1
  refine ⟨h1, ?_⟩
  rw [shO_yes h1, shO_yes he, List.length_append, List.length_singleton]
  obtain ⟨d, hd⟩ : ∃ d, F.length - head.length = d + 1 := ⟨F.length - head.length - 1, by omega⟩
  rw [show F.length - (head.length + 1) = d by omega, hd]
  refine exL_step d (allS_at hF.s hk) he fun u hu hlt hx => ?_
  obtain ⟨j, hj, e⟩ := getD_mem_iff.1 (sh_set hx).2.1
  rw [← e] at hlt hx
  have : j < k := by
    rcases Nat.lt_trichotomy j k with h | h | h
    · exact h
    · subst h; omega
    · have := hF.o k j h hj
      omega
  exact hm j this hx
theorem shO_full {F head : List Int} (h : head.length = F.length) (he : exD (shD F) head) : shO F head = head := by
  rw [shO_yes he, h, Nat.sub_self]
  rfl
theorem shO_len (F head : List Int) (h : head.length ≤ F.length) : (shO F head).length ≤ F.length := by
  by_cases he : exD (shD F) head
  · rw [shO_yes he, exL_len]; omega
  · rw [shO_no he]; exact Nat.zero_le _
theorem shOk_allS {F head : List Int} (hF : allS F) (h : shOk F head) : allS head := fun x hx => by
  obtain ⟨k, hk, e⟩ := getD_mem_iff.1 hx
  rw [← e]
  exact hF _ (h.2 k hk).1
theorem sh_fits {F head : List Int} {s : Int} (hF : sfP F) (h : shOk F head) (hs : s ∈ F) (hn : s ∉ head) : fitsS head s ↔ fitsI head s :=
  fits_same (shOk_allS hF.s h) (hF.s s hs) fun g hg => hF.a s hs g (by
    obtain ⟨k, hk, e⟩ := getD_mem_iff.1 hg
    rw [← e]
    exact (h.2 k hk).1) fun e => hn (e ▸ hg)
theorem shn_lt {F head : List Int} {k : Nat} (h : ∀ j, j < k → ¬ exD (shD F) (head ++ [at0 F j])) (hn : ¬ exD (shD F) (head ++ [at0 F k])) : ∀ j, j < k + 1 → ¬ exD (shD F) (head ++ [at0 F j]) := fun j hj => by
  rcases Nat.lt_succ_iff_lt_or_eq.1 hj with h1 | rfl
  · exact h j h1
  · exact hn
end Go.Proofs.Ytmemomfffehnkaa
