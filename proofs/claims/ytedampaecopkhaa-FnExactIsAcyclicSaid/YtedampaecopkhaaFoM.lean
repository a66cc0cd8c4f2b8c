import Derived.Test.YtedampaecopkhaaFnQ
namespace Go.Proofs.Ytedampaecopkhaa
open Go Go.RowKit
set_option maxRecDepth 1000000
set_option linter.unusedSimpArgs false
set_option linter.unusedVariables false
set_option maxHeartbeats 1000000
/-- The sets of a family that is given as a word. -/
def bitP (f s : Int) : Prop := f.toNat.testBit s.toNat = true
theorem bitP_fam {p : Int → Prop} {s : Int} (hs : isS s) : bitP (fam p) s ↔ p s := by
  unfold bitP
  rw [fam_bit p hs]
  exact dec_iff
theorem fam_bitP {f : Int} (h1 : 0 ≤ f) (h2 : f < 18446744073709551616) : f = fam (bitP f) := by
  obtain ⟨m, rfl⟩ : ∃ m : Nat, f = m := ⟨f.toNat, by omega⟩
  refine fam_ext (by omega) fun k hk => ?_
  unfold bitP
  simp
/-- The maximal sets of a family. -/
def maxP (p : Int → Prop) (s : Int) : Prop := p s ∧ ∀ t, isS t → p t → subS s t → t = s
theorem maxP_congr {p q : Int → Prop} (h : ∀ s, isS s → (p s ↔ q s)) {s : Int} (hs : isS s) : maxP p s ↔ maxP q s := by
  unfold maxP
  rw [h s hs]
  constructor
  · rintro ⟨a, b⟩; exact ⟨a, fun t ht hq => b t ht ((h t ht).2 hq)⟩
  · rintro ⟨a, b⟩; exact ⟨a, fun t ht hq => b t ht ((h t ht).1 hq)⟩
theorem maxP_down {p q : Int → Prop} (h : ∀ t, isS t → (q t ↔ ∃ u, isS u ∧ p u ∧ subS t u)) {s : Int} (hs : isS s) : maxP p s ↔ maxP q s := by
  constructor
  · rintro ⟨a, b⟩
    refine ⟨(h s hs).2 ⟨s, hs, a, subS_refl hs⟩, fun t ht hq hst => ?_⟩
    obtain ⟨u, hu, hpu, htu⟩ := (h t ht).1 hq
    have e := b u hu hpu (subS_trans hs ht hu hst htu)
    subst e
    exact subS_anti ht hs htu hst
  · rintro ⟨a, b⟩
    obtain ⟨u, hu, hpu, hsu⟩ := (h s hs).1 a
    have e := b u hu ((h u hu).2 ⟨u, hu, hpu, subS_refl hu⟩) hsu
    subst e
    exact ⟨hpu, fun t ht hpt hst => b t ht ((h t ht).2 ⟨t, ht, hpt, subS_refl ht⟩) hst⟩
theorem setsOf_len1 {q : Int → Prop} : (setsOf q).length = 1 ↔ ∃ t, isS t ∧ q t ∧ ∀ u, isS u → q u → u = t := by
  constructor
  · intro h
    obtain ⟨t, ht⟩ := List.length_eq_one_iff.1 h
    have h1 := mem_setsOf.1 (show t ∈ setsOf q by rw [ht]; simp)
    refine ⟨t, h1.1, h1.2, fun u hu hq => ?_⟩
    have := mem_setsOf.2 ⟨hu, hq⟩
    rw [ht] at this
    simpa using this
  · rintro ⟨t, h1, h2, h3⟩
    have ha : (setsOf q).length ≤ [t].length := sub_len (setsOf_nodup q) fun x hx => by
      have := mem_setsOf.1 hx
      simp [h3 x this.1 this.2]
    have hb : t ∈ setsOf q := mem_setsOf.2 ⟨h1, h2⟩
    have hc : 0 < (setsOf q).length := List.length_pos_of_mem hb
    simp at ha
    omega
theorem setsOf_nil {q : Int → Prop} : setsOf q = [] ↔ ∀ s, isS s → ¬ q s := by
  constructor
  · intro h s hs hq
    have := mem_setsOf.2 ⟨hs, hq⟩
    rw [h] at this
    simp at this
  · intro h
    rw [← setsOf_none]
    exact setsOf_congr fun s hs => ⟨fun hq => h s hs hq, False.elim⟩
theorem filt_pos {l : List Int} {k : Nat} (h : k < l.length) {q : Int → Bool} (hq : q (at0 l k) = true) : (l.take (k + 1)).filter q = (l.take k).filter q ++ [at0 l k] := by
  rw [take_at h, List.filter_append]
  simp [hq]
theorem filt_neg {l : List Int} {k : Nat} (h : k < l.length) {q : Int → Bool} (hq : q (at0 l k) = false) : (l.take (k + 1)).filter q = (l.take k).filter q := by
  rw [take_at h, List.filter_append]
  simp [hq]
theorem filt_len (l : List Int) (k : Nat) (q : Int → Bool) : ((l.take k).filter q).length ≤ l.length := by
  have h1 := List.length_filter_le q (l.take k)
  have h2 : (l.take k).length ≤ l.length := by simp; omega
  omega
theorem filt_setsOf (p : Int → Prop) (q : Int → Prop) : (setsOf p).filter (fun s => dec (q s)) = setsOf fun s => p s ∧ q s := by
  rw [filter_setsOf]
  exact setsOf_congr fun s _ => by rw [dec_iff]
/-- The only other set of a family of which s is a part. -/
def freeOf (p : Int → Prop) (s t : Int) : Prop := isS t ∧ (p t ∧ subS s t ∧ t ≠ s) ∧ ∀ u, isS u → (p u ∧ subS s u ∧ u ≠ s) → u = t
theorem freeOf_congr {p q : Int → Prop} (h : ∀ s, isS s → (p s ↔ q s)) (s t : Int) : freeOf p s t ↔ freeOf q s t := by
  unfold freeOf
  constructor
  · rintro ⟨a, b, c⟩
    exact ⟨a, ⟨(h t a).1 b.1, b.2⟩, fun u hu hq => c u hu ⟨(h u hu).2 hq.1, hq.2⟩⟩
  · rintro ⟨a, b, c⟩
    exact ⟨a, ⟨(h t a).2 b.1, b.2⟩, fun u hu hq => c u hu ⟨(h u hu).1 hq.1, hq.2⟩⟩
theorem freeOf_unique {p : Int → Prop} {s t u : Int} (h : freeOf p s t) (k : freeOf p s u) : t = u := (k.2.2 t h.1 h.2.1)
theorem above_len1 (p : Int → Prop) (s : Int) : ((setsOf p).filter fun t => dec (subS s t ∧ t ≠ s)).length = 1 ↔ ∃ t, freeOf p s t := by
  rw [filt_setsOf, setsOf_len1]
  exact Iff.rfl
open Classical in
/-- What the search for the only other set gives. -/
noncomputable def partnerV (p : Int → Prop) (s : Int) : Int := if h : ∃ t, freeOf p s t then Classical.choose h else if ∃ u, isS u ∧ p u ∧ subS s u ∧ u ≠ s then 0 else -1
theorem partnerV_of {p : Int → Prop} {s t : Int} (h : freeOf p s t) : partnerV p s = t := by
  have hx : ∃ t, freeOf p s t := ⟨t, h⟩
  unfold partnerV
  rw [dif_pos hx]
  exact freeOf_unique (Classical.choose_spec hx) h
theorem partnerV_none {p : Int → Prop} {s : Int} (h : ∀ u, isS u → ¬ (p u ∧ subS s u ∧ u ≠ s)) : partnerV p s = -1 := by
  unfold partnerV
  rw [dif_neg (fun ⟨t, ht⟩ => h t ht.1 ht.2.1), if_neg (fun ⟨u, hu, hq⟩ => h u hu hq)]
theorem partnerV_two {p : Int → Prop} {s t u : Int} (ht : isS t) (hu : isS u) (h1 : p t ∧ subS s t ∧ t ≠ s) (h2 : p u ∧ subS s u ∧ u ≠ s) (hne : t ≠ u) : partnerV p s = 0 ∧ ¬ ∃ t, freeOf p s t := by
  have hx : ¬ ∃ t, freeOf p s t := fun ⟨v, hv⟩ => hne ((hv.2.2 t ht h1).trans (hv.2.2 u hu h2).symm)
  unfold partnerV
  rw [dif_neg hx, if_pos ⟨t, ht, h1⟩]
  exact ⟨rfl, hx⟩
theorem partnerV_congr {p q : Int → Prop} (h : ∀ s, isS s → (p s ↔ q s)) (s : Int) : partnerV p s = partnerV q s := by
  by_cases e1 : ∃ t, freeOf p s t
  · obtain ⟨t, ht⟩ := e1
    rw [partnerV_of ht, partnerV_of ((freeOf_congr h s t).1 ht)]
  · have e2 : ¬ ∃ t, freeOf q s t := fun ⟨t, ht⟩ => e1 ⟨t, (freeOf_congr h s t).2 ht⟩
    unfold partnerV
    rw [dif_neg e1, dif_neg e2]
    have e3 : (∃ u, isS u ∧ p u ∧ subS s u ∧ u ≠ s) ↔ ∃ u, isS u ∧ q u ∧ subS s u ∧ u ≠ s := by
      constructor
      · rintro ⟨u, a, b, c⟩; exact ⟨u, a, (h u a).1 b, c⟩
      · rintro ⟨u, a, b, c⟩; exact ⟨u, a, (h u a).2 b, c⟩
    by_cases h1 : ∃ u, isS u ∧ p u ∧ subS s u ∧ u ≠ s
    · rw [if_pos h1, if_pos (e3.1 h1)]
    · rw [if_neg h1, if_neg fun h => h1 (e3.2 h)]
end Go.Proofs.Ytedampaecopkhaa
