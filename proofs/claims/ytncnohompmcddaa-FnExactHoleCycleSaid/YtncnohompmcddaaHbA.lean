import Derived.Test.YtncnohompmcddaaHaK
import Derived.Test.YtncnohompmcddaaHaE
import Derived.Test.YtncnohompmcddaaHaG
namespace Go.Proofs.Ytncnohompmcddaa
open Go Go.RowKit
set_option maxRecDepth 1000000
set_option linter.unusedSimpArgs false
set_option linter.unusedVariables false
set_option maxHeartbeats 1000000
/-- A face's size and a place where its link has a hole, together. -/
def dpV (p : Int) (q : Int → Prop) (v : Int) : Prop := ∃ s, isS s ∧ q s ∧ ∃ k : Nat, k < (holL p (lnkP q s)).length ∧ at0 (holL p (lnkP q s)) k ≠ 0 ∧ v = sz s + k
def dpR (p : Int) (q : Int → Prop) (v : Int) : Prop := (v = -1 ∧ ∀ u, ¬ dpV p q u) ∨ (dpV p q v ∧ ∀ u, dpV p q u → v ≤ u)
theorem dpV_nn {p : Int} {q : Int → Prop} {v : Int} (h : dpV p q v) : 0 ≤ v ∧ v ≤ 13 := by
  obtain ⟨s, hs, _, k, hk, _, rfl⟩ := h
  have h1 := sz_nn s
  have h2 := sz_six hs
  have h3 := (holL_len p (lnkP q s)).2
  omega
theorem dp_ex (p : Int) (q : Int → Prop) : ∃ v, dpR p q v := by
  rcases least_nat (fun i => dpV p q (i : Int)) 14 with h | ⟨m, a, b, c⟩
  · refine ⟨-1, .inl ⟨rfl, fun u hu => ?_⟩⟩
    obtain ⟨h1, h2⟩ := dpV_nn hu
    exact h u.toNat (by omega) (by rw [Int.toNat_of_nonneg h1]; exact hu)
  · refine ⟨m, .inr ⟨b, fun u hu => Classical.byContradiction fun hn => ?_⟩⟩
    obtain ⟨h1, h2⟩ := dpV_nn hu
    exact c u.toNat (by omega) (by rw [Int.toNat_of_nonneg h1]; exact hu)
noncomputable def dpZ (p : Int) (q : Int → Prop) : Int := Classical.choose (dp_ex p q)
theorem dpZ_spec (p : Int) (q : Int → Prop) : dpR p q (dpZ p q) := Classical.choose_spec (dp_ex p q)
theorem dpZ_of {p : Int} {q : Int → Prop} {v : Int} (h : dpR p q v) : dpZ p q = v := by
  rcases dpZ_spec p q with ⟨e, h1⟩ | ⟨h1, h2⟩ <;> rcases h with ⟨e2, h3⟩ | ⟨h3, h4⟩
  · omega
  · exact absurd h3 (h1 v)
  · exact absurd h1 (h3 _)
  · have := h2 v h3
    have := h4 _ h1
    omega
theorem bor_z {s : Int} (hs : isS s) : bor 0 s = s := by
  have h0 : isS 0 := by constructor <;> decide
  refine subS_anti (isS_bor h0 hs) hs ((subS_tb (isS_bor h0 hs) hs).2 fun i hi h => ?_) ((subS_tb hs (isS_bor h0 hs)).2 fun i hi h => (tb_bor h0 hs hi).2 (.inr h))
  rcases (tb_bor h0 hs hi).1 h with h | h
  · exact absurd h (tb_zero i hi)
  · exact h
/-- The link of a greatest set. -/
theorem lnk_great {q : Int → Prop} {s : Int} (hs : isS s) (hq : q s) (ht : sz s = topZ q) {u : Int} (hu : isS u) : lnkP q s u ↔ u = 0 := by
  have h0 : isS 0 := by constructor <;> decide
  constructor
  · rintro ⟨h1, h2⟩
    have hb := isS_bor hu hs
    have hsub : subS s (bor u s) := (subS_tb hs hb).2 fun i hi h => (tb_bor hu hs hi).2 (.inr h)
    have h3 := topZ_ge hb h2
    have e : s = bor u s := Classical.byContradiction fun hn => by
      have := (sz_sub hs hb hsub).2 hn
      omega
    refine subS_anti hu h0 ((subS_tb hu h0).2 fun i hi h => ?_) ((subS_tb h0 hu).2 fun i hi h => absurd h (tb_zero i hi))
    have h4 := (tb_bor hu hs hi).2 (.inl h)
    rw [← e] at h4
    exact absurd ⟨h, h4⟩ ((band_none hu hs).1 h1 i hi)
  · rintro rfl
    exact ⟨(band_none h0 hs).2 fun i hi h => absurd h.1 (tb_zero i hi), by rw [bor_z hs]; exact hq⟩
theorem hol_one {p : Int} : (holL p fun u => u = 0).length = 1 ∧ at0 (holL p fun u => u = 0) 0 ≠ 0 := by
  have h0 : isS 0 := by constructor <;> decide
  have hz : sz 0 = 0 := by decide
  have ht : topZ (fun u => u = 0) = 0 := by
    have h1 := topZ_ge (p := fun u : Int => u = 0) h0 rfl
    rcases topZ_hit (fun u : Int => u = 0) with h | ⟨s, _, rfl, h⟩
    · omega
    · omega
  have hl := (holL_len p (fun u => u = 0)).1
  rw [ht] at hl
  have hl1 : (holL p fun u => u = 0).length = 1 := hl
  refine ⟨hl1, ?_⟩
  unfold holL
  rw [rowF_at (by rw [ht]; decide)]
  unfold holV
  have e1 : rkZ p (fun u => u = 0) ((0 : Nat) : Int) = 0 := rkZ_low p _
  have e2 : rkZ p (fun u => u = 0) (((0 : Nat) : Int) + 1) = 0 := rkZ_high p _ (by rw [ht]; decide)
  rw [e1, e2]
  have : (0 : Int) ∈ szS (fun u => u = 0) ((0 : Nat) : Int) := mem_szS.2 ⟨h0, rfl, by rw [hz]; rfl⟩
  have := List.length_pos_of_mem this
  omega
theorem dpV_top {p : Int} {q : Int → Prop} (h : 0 ≤ topZ q) : dpV p q (topZ q) := by
  rcases topZ_hit q with h1 | ⟨s, hs, hq, e⟩
  · omega
  · have e2 : holL p (lnkP q s) = holL p fun u => u = 0 := holL_congr fun u hu => lnk_great hs hq e hu
    exact ⟨s, hs, hq, 0, by rw [e2, hol_one.1]; decide, by rw [e2]; exact hol_one.2, by simp [e]⟩
theorem dpZ_top {p : Int} {q : Int → Prop} (h : 0 ≤ topZ q) : 0 ≤ dpZ p q ∧ dpZ p q ≤ topZ q := by
  rcases dpZ_spec p q with ⟨_, h2⟩ | ⟨h1, h2⟩
  · exact absurd (dpV_top h) (h2 _)
  · exact ⟨(dpV_nn h1).1, h2 _ (dpV_top h)⟩
theorem dpZ_empty {p : Int} {q : Int → Prop} (h : ¬ 0 ≤ topZ q) : dpZ p q = -1 := dpZ_of (.inl ⟨rfl, fun u ⟨s, hs, hq, _⟩ => h (by
  have h1 := topZ_ge hs hq
  have h2 := sz_nn s
  omega)⟩)
theorem dpZ_bnd (p : Int) (q : Int → Prop) : -1 ≤ dpZ p q ∧ dpZ p q ≤ 6 := by
  have := topZ_bnd q
  by_cases h : 0 ≤ topZ q
  · have := dpZ_top (p := p) h
    omega
  · have := dpZ_empty (p := p) h
    omega
theorem lnkP_cg {q q2 : Int → Prop} (h : ∀ s, isS s → (q s ↔ q2 s)) {s : Int} (hs : isS s) : ∀ u, isS u → (lnkP q s u ↔ lnkP q2 s u) := fun u hu => by
  unfold lnkP
  rw [h _ (isS_bor hu hs)]
theorem dpV_congr {p : Int} {q q2 : Int → Prop} (h : ∀ s, isS s → (q s ↔ q2 s)) (u : Int) : dpV p q u ↔ dpV p q2 u := by
  constructor
  · rintro ⟨s, hs, h1, k, h2, h3, h4⟩
    rw [holL_congr (lnkP_cg h hs)] at h2 h3
    exact ⟨s, hs, (h s hs).1 h1, k, h2, h3, h4⟩
  · rintro ⟨s, hs, h1, k, h2, h3, h4⟩
    rw [← holL_congr (lnkP_cg h hs)] at h2 h3
    exact ⟨s, hs, (h s hs).2 h1, k, h2, h3, h4⟩
theorem dpZ_congr {p : Int} {q q2 : Int → Prop} (h : ∀ s, isS s → (q s ↔ q2 s)) : dpZ p q = dpZ p q2 := dpZ_of (by
  rcases dpZ_spec p q2 with ⟨a, b⟩ | ⟨a, b⟩
  · exact .inl ⟨a, fun u hu => b u ((dpV_congr h u).1 hu)⟩
  · exact .inr ⟨(dpV_congr h _).2 a, fun u hu => b u ((dpV_congr h u).1 hu)⟩)
/-- What has been seen of the first i faces, and of the holes below k of face i. -/
def dpI (p : Int) (q : Int → Prop) (L : List Int) (i k : Nat) (v : Int) : Prop := ∃ j m : Nat, j < L.length ∧ m < (holL p (lnkP q (at0 L j))).length ∧ at0 (holL p (lnkP q (at0 L j))) m ≠ 0 ∧ v = sz (at0 L j) + m ∧ (j < i ∨ (j = i ∧ m < k))
section
variable {p : Int} {q : Int → Prop} {L : List Int} {i k : Nat}
theorem dpI_nn {v : Int} (h : dpI p q L i k v) : 0 ≤ v := by
  obtain ⟨j, m, _, _, _, rfl, _⟩ := h
  have := sz_nn (at0 L j)
  omega
theorem dpI_zero (u : Int) : ¬ dpI p q L 0 0 u := by
  rintro ⟨j, m, _, _, _, _, h⟩
  omega
theorem dpI_skip (h : at0 (holL p (lnkP q (at0 L i))) k = 0) (u : Int) : dpI p q L i (k + 1) u ↔ dpI p q L i k u := by
  constructor
  · rintro ⟨j, m, h1, h2, h3, h4, h5⟩
    refine ⟨j, m, h1, h2, h3, h4, ?_⟩
    rcases h5 with h5 | ⟨rfl, h5⟩
    · exact .inl h5
    · rcases Nat.lt_succ_iff_lt_or_eq.1 h5 with h6 | rfl
      · exact .inr ⟨rfl, h6⟩
      · exact absurd h h3
  · rintro ⟨j, m, h1, h2, h3, h4, h5⟩
    exact ⟨j, m, h1, h2, h3, h4, by omega⟩
theorem dpI_new (hi : i < L.length) (hk : k < (holL p (lnkP q (at0 L i))).length) (h : at0 (holL p (lnkP q (at0 L i))) k ≠ 0) (u : Int) : dpI p q L i (k + 1) u ↔ dpI p q L i k u ∨ u = sz (at0 L i) + k := by
  constructor
  · rintro ⟨j, m, h1, h2, h3, h4, h5⟩
    rcases h5 with h5 | ⟨rfl, h5⟩
    · exact .inl ⟨j, m, h1, h2, h3, h4, .inl h5⟩
    · rcases Nat.lt_succ_iff_lt_or_eq.1 h5 with h6 | rfl
      · exact .inl ⟨_, m, h1, h2, h3, h4, .inr ⟨rfl, h6⟩⟩
      · exact .inr h4
  · rintro (⟨j, m, h1, h2, h3, h4, h5⟩ | rfl)
    · exact ⟨j, m, h1, h2, h3, h4, by omega⟩
    · exact ⟨i, k, hi, hk, h, rfl, by omega⟩
theorem dpI_end {n : Nat} (h : n = (holL p (lnkP q (at0 L i))).length) (u : Int) : dpI p q L (i + 1) 0 u ↔ dpI p q L i n u := by
  constructor
  · rintro ⟨j, m, h1, h2, h3, h4, h5⟩
    refine ⟨j, m, h1, h2, h3, h4, ?_⟩
    by_cases e : j = i
    · subst e
      exact .inr ⟨rfl, by omega⟩
    · exact .inl (by omega)
  · rintro ⟨j, m, h1, h2, h3, h4, h5⟩
    exact ⟨j, m, h1, h2, h3, h4, by omega⟩
theorem dpI_full (u : Int) : dpI p q (setsOf q) (setsOf q).length 0 u ↔ dpV p q u := by
  constructor
  · rintro ⟨j, m, h1, h2, h3, h4, h5⟩
    obtain ⟨h6, h7⟩ := mem_setsOf.1 (getD_mem' h1)
    exact ⟨at0 (setsOf q) j, h6, h7, m, h2, h3, h4⟩
  · rintro ⟨s, hs, hq, m, h2, h3, h4⟩
    obtain ⟨j, h5, h6⟩ := getD_mem_iff.1 (mem_setsOf.2 ⟨hs, hq⟩)
    subst h6
    exact ⟨j, m, h5, h2, h3, h4, .inl h5⟩
end
/-- The least of T and of what has been seen. -/
def mnR (T : Int) (S : Int → Prop) (d : Int) : Prop := (d = T ∨ S d) ∧ d ≤ T ∧ ∀ u, S u → d ≤ u
/-- The least that has been seen, or -1. -/
def lsR (S : Int → Prop) (d : Int) : Prop := (d = -1 ∧ ∀ u, ¬ S u) ∨ (S d ∧ ∀ u, S u → d ≤ u)
theorem mn_congr {T : Int} {S S2 : Int → Prop} {d : Int} (h : mnR T S d) (e : ∀ u, S2 u ↔ S u) : mnR T S2 d := ⟨h.1.imp id (e d).2, h.2.1, fun u hu => h.2.2 u ((e u).1 hu)⟩
theorem mn_new {T : Int} {S S2 : Int → Prop} {d v : Int} (h : mnR T S d) (e : ∀ u, S2 u ↔ S u ∨ u = v) : mnR T S2 (min d v) := by
  obtain ⟨h1, h2, h3⟩ := h
  refine ⟨?_, by omega, fun u hu => ?_⟩
  · by_cases hv : v < d
    · right
      rw [show min d v = v by omega]
      exact (e v).2 (.inr rfl)
    · rw [show min d v = d by omega]
      exact h1.imp id fun h => (e d).2 (.inl h)
  · rcases (e u).1 hu with h | rfl
    · have := h3 u h
      omega
    · omega
theorem ls_congr {S S2 : Int → Prop} {d : Int} (h : lsR S d) (e : ∀ u, S2 u ↔ S u) : lsR S2 d := by
  rcases h with ⟨h1, h2⟩ | ⟨h1, h2⟩
  · exact .inl ⟨h1, fun u hu => h2 u ((e u).1 hu)⟩
  · exact .inr ⟨(e d).2 h1, fun u hu => h2 u ((e u).1 hu)⟩
theorem ls_new {S S2 : Int → Prop} {d v : Int} (h : lsR S d) (hn : ∀ u, S u → 0 ≤ u) (e : ∀ u, S2 u ↔ S u ∨ u = v) (hd : d < 0 ∨ v < d) : lsR S2 v := by
  refine .inr ⟨(e v).2 (.inr rfl), fun u hu => ?_⟩
  rcases (e u).1 hu with h2 | rfl
  · rcases h with ⟨h3, h4⟩ | ⟨h3, h4⟩
    · exact absurd h2 (h4 u)
    · have := h4 u h2
      have := hn d h3
      omega
  · omega
theorem ls_old {S S2 : Int → Prop} {d v : Int} (h : lsR S d) (e : ∀ u, S2 u ↔ S u ∨ u = v) (hd : ¬ (d < 0 ∨ v < d)) : lsR S2 d := by
  rcases h with ⟨h3, h4⟩ | ⟨h3, h4⟩
  · omega
  · refine .inr ⟨(e d).2 (.inl h3), fun u hu => ?_⟩
    rcases (e u).1 hu with h2 | rfl
    · exact h4 u h2
    · omega
theorem ls_dp {p : Int} {q : Int → Prop} {S : Int → Prop} {d : Int} (h : lsR S d) (e : ∀ u, S u ↔ dpV p q u) : d = dpZ p q := (dpZ_of (by
  rcases h with ⟨h1, h2⟩ | ⟨h1, h2⟩
  · exact .inl ⟨h1, fun u hu => h2 u ((e u).2 hu)⟩
  · exact .inr ⟨(e d).1 h1, fun u hu => h2 u ((e u).2 hu)⟩)).symm
theorem mn_dp {p : Int} {q : Int → Prop} {S : Int → Prop} {d : Int} (h : mnR (topZ q) S d) (e : ∀ u, S u ↔ dpV p q u) : d = dpZ p q := by
  obtain ⟨h1, h2, h3⟩ := h
  by_cases ht : 0 ≤ topZ q
  · have h4 : dpV p q d := h1.elim (fun e => e ▸ dpV_top ht) (e d).1
    exact (dpZ_of (.inr ⟨h4, fun u hu => h3 u ((e u).2 hu)⟩)).symm
  · have hb := topZ_bnd q
    rw [dpZ_empty ht]
    rcases h1 with h1 | h1
    · omega
    · have := (dpV_nn ((e d).1 h1)).1
      omega
/-- The depth is full. -/
def fdP (p : Int) (q : Int → Prop) : Prop := 0 ≤ topZ q ∧ dpZ p q = topZ q
theorem fdP_congr {p : Int} {q q2 : Int → Prop} (h : ∀ s, isS s → (q s ↔ q2 s)) : fdP p q ↔ fdP p q2 := by
  unfold fdP
  rw [topZ_congr h, dpZ_congr h]
theorem fam_top {q : Int → Prop} : fam q = 0 ↔ ¬ 0 ≤ topZ q := by
  rw [fam_zero]
  constructor
  · intro h ht
    rcases topZ_hit q with h1 | ⟨s, hs, hq, _⟩
    · omega
    · exact h s hs hq
  · intro h s hs hq
    have h1 := topZ_ge hs hq
    have h2 := sz_nn s
    omega
end Go.Proofs.Ytncnohompmcddaa
