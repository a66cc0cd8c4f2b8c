import Derived.Test.YtedampaecopkhaaFoM
namespace Go.Proofs.Ytedampaecopkhaa
open Go Go.RowKit
set_option maxRecDepth 1000000
set_option linter.unusedSimpArgs false
set_option linter.unusedVariables false
set_option maxHeartbeats 1000000
theorem pc_sub : ∀ x : Nat, x < 64 → ∀ y : Nat, y < 64 → (x &&& y != x || decide (pcF 6 x ≤ pcF 6 y) && (x == y || decide (pcF 6 x < pcF 6 y))) = true := by decide +kernel
theorem sz_sub {a b : Int} (ha : isS a) (hb : isS b) (h : subS a b) : sz a ≤ sz b ∧ (a ≠ b → sz a < sz b) := by
  obtain ⟨x, hx, rfl⟩ := isS_nat ha
  obtain ⟨y, hy, rfl⟩ := isS_nat hb
  have k := pc_sub x hx y hy
  rw [subS_nat x y hx hy] at h
  simp only [sz, Int.toNat_natCast, pc6 x hx, pc6 y hy]
  simp only [Bool.or_eq_true, bne_iff_ne, Bool.and_eq_true, decide_eq_true_eq, beq_iff_eq] at k
  rcases k with k | ⟨k1, k2⟩
  · exact absurd h k
  · refine ⟨by omega, fun hne => ?_⟩
    rcases k2 with k2 | k2
    · subst k2; exact absurd rfl hne
    · omega
theorem before_at {l : List Int} (h : l.Pairwise fun a b => before a b = true) {i j : Nat} (hij : i < j) (hj : j < l.length) : before (at0 l i) (at0 l j) = true := by
  have := List.pairwise_iff_getElem.1 h i j (by omega) hj hij
  rwa [← at0_eq, ← at0_eq] at this
theorem max_iff_later (p : Int → Prop) {k : Nat} (hk : k < (setsOf p).length) : maxP p (at0 (setsOf p) k) ↔ ∀ j, k < j → j < (setsOf p).length → ¬ subS (at0 (setsOf p) k) (at0 (setsOf p) j) := by
  obtain ⟨hs, hp⟩ := mem_setsOf.1 (getD_mem' hk)
  constructor
  · rintro ⟨_, h⟩ j hkj hj hsub
    obtain ⟨ht, hpt⟩ := mem_setsOf.1 (getD_mem' hj)
    have e := h _ ht hpt hsub
    have hb := before_at (setsOf_sorted p) hkj hj
    rw [e] at hb
    simp only [before, decide_eq_true_eq] at hb
    omega
  · intro h
    refine ⟨hp, fun t ht hpt hst => Classical.byContradiction fun hne => ?_⟩
    obtain ⟨j, hj, e⟩ := getD_mem_iff.1 (mem_setsOf.2 ⟨ht, hpt⟩)
    have hlt := (sz_sub hs ht hst).2 fun e => hne e.symm
    rcases Nat.lt_trichotomy j k with h1 | h1 | h1
    · have hb := before_at (setsOf_sorted p) h1 hk
      rw [e] at hb
      simp only [before, decide_eq_true_eq] at hb
      omega
    · subst h1
      exact hne e.symm
    · exact h j h1 hj (by rw [e]; exact hst)
theorem max_iff_all (p : Int → Prop) {k : Nat} (hk : k < (setsOf p).length) : maxP p (at0 (setsOf p) k) ↔ ∀ j, j < (setsOf p).length → at0 (setsOf p) k ≠ at0 (setsOf p) j → ¬ subS (at0 (setsOf p) k) (at0 (setsOf p) j) := by
  obtain ⟨hs, hp⟩ := mem_setsOf.1 (getD_mem' hk)
  constructor
  · rintro ⟨_, h⟩ j hj hne hsub
    obtain ⟨ht, hpt⟩ := mem_setsOf.1 (getD_mem' hj)
    exact hne (h _ ht hpt hsub).symm
  · intro h
    refine ⟨hp, fun t ht hpt hst => Classical.byContradiction fun hne => ?_⟩
    obtain ⟨j, hj, e⟩ := getD_mem_iff.1 (mem_setsOf.2 ⟨ht, hpt⟩)
    exact h j hj (fun e2 => hne (e2.trans e).symm) (by rw [e]; exact hst)
theorem filt_max (p : Int → Prop) : (setsOf p).filter (fun s => dec (maxP p s)) = setsOf (maxP p) := by
  rw [filt_setsOf]
  exact setsOf_congr fun s _ => ⟨fun h => h.2, fun h => ⟨h.1, h⟩⟩
/-- By points. -/
theorem subS_tb {a b : Int} (ha : isS a) (hb : isS b) : subS a b ↔ ∀ i, i < 6 → tb a i → tb b i := by
  constructor
  · intro h i hi
    have e := (subS_iff ha hb).1 h
    intro h2
    rw [← e] at h2
    exact ((band_bits ha hb hi).1 h2).2
  · intro h
    refine (subS_iff ha hb).2 (tb_ext (isS_band ha hb) ha fun i hi => ?_)
    rw [band_bits ha hb hi]
    exact ⟨fun h => h.1, fun h2 => ⟨h2, h i hi h2⟩⟩
theorem tb_bnot_iff {a b : Int} (ha : isS a) (hb : isS b) {i : Nat} (hi : i < 6) : tb (bnot a b) i ↔ tb a i ∧ ¬ tb b i := by
  obtain ⟨x, hx, rfl⟩ := isS_nat ha
  obtain ⟨y, hy, rfl⟩ := isS_nat hb
  rw [bnot_nat x y hx hy, tb_nat _ i (by omega) hi, tb_nat x i hx hi, tb_nat y i hy hi, bnot_bits x y i hx hy hi]
  cases x.testBit i <;> cases y.testBit i <;> simp
theorem band_none {a b : Int} (ha : isS a) (hb : isS b) : band a b = 0 ↔ ∀ i, i < 6 → ¬ (tb a i ∧ tb b i) := by
  constructor
  · intro h i hi hh
    have := (band_bits ha hb hi).2 hh
    rw [h] at this
    exact tb_zero i hi this
  · intro h
    refine tb_ext (isS_band ha hb) isS_zero fun i hi => ?_
    rw [band_bits ha hb hi]
    exact ⟨fun hh => absurd hh (h i hi), fun hh => absurd hh (tb_zero i hi)⟩
theorem sub_eq_bnot {s f : Int} (hs : isS s) (hf : isS f) (h : subS s f) : f - s = bnot f s := by
  obtain ⟨x, hx, rfl⟩ := isS_nat hs
  obtain ⟨y, hy, rfl⟩ := isS_nat hf
  rw [subS_nat x y hx hy] at h
  have h2 : y &&& x = x := by rw [Nat.and_comm]; exact h
  rw [bnot_nat y x hy hx, h2]
  have : x ≤ y := by rw [← h]; exact Nat.and_le_right
  omega
/-- Sets that with s are faces, and have no point of s. -/
def lnkP (p : Int → Prop) (s t : Int) : Prop := band t s = 0 ∧ p (bor t s)
/-- Faces of which s is no part. -/
def wtoP (p : Int → Prop) (s t : Int) : Prop := p t ∧ ¬ subS s t
theorem lnk_part {t s f : Int} (ht : isS t) (hs : isS s) (hf : isS f) : (band t s = 0 ∧ subS (bor t s) f) ↔ (subS s f ∧ subS t (bnot f s)) := by
  rw [band_none ht hs, subS_tb (isS_bor ht hs) hf, subS_tb hs hf, subS_tb ht (isS_bnot hf hs)]
  constructor
  · rintro ⟨h1, h2⟩
    refine ⟨fun i hi h => h2 i hi ((tb_bor ht hs hi).2 (.inr h)), fun i hi h => (tb_bnot_iff hf hs hi).2 ⟨h2 i hi ((tb_bor ht hs hi).2 (.inl h)), fun h3 => h1 i hi ⟨h, h3⟩⟩⟩
  · rintro ⟨h1, h2⟩
    refine ⟨fun i hi h => ((tb_bnot_iff hf hs hi).1 (h2 i hi h.1)).2 h.2, fun i hi h => ?_⟩
    rcases (tb_bor ht hs hi).1 h with h | h
    · exact ((tb_bnot_iff hf hs hi).1 (h2 i hi h)).1
    · exact h1 i hi h
/-- The link's sets of facets. -/
noncomputable def lnkL (l : List Int) (s : Int) : List Int := (l.filter fun f => dec (subS s f)).map fun f => f - s
theorem lnkL_max {l : List Int} (hl : allS l) {s : Int} (hs : isS s) {t : Int} (ht : isS t) : maxP (fun u => u ∈ lnkL l s) t ↔ maxP (lnkP (faceS l) s) t := by
  refine maxP_down (fun t ht => ?_) ht
  unfold lnkP lnkL
  constructor
  · rintro ⟨h1, f, hf, h2⟩
    obtain ⟨h3, h4⟩ := (lnk_part ht hs (hl f hf)).1 ⟨h1, h2⟩
    have e := sub_eq_bnot hs (hl f hf) h3
    refine ⟨f - s, by rw [e]; exact isS_bnot (hl f hf) hs, List.mem_map.2 ⟨f, List.mem_filter.2 ⟨hf, dec_true h3⟩, rfl⟩, by rw [e]; exact h4⟩
  · rintro ⟨u, hu, hmem, h2⟩
    obtain ⟨f, hf, rfl⟩ := List.mem_map.1 hmem
    obtain ⟨hf, h3⟩ := List.mem_filter.1 hf
    have h3 := dec_iff.1 h3
    rw [sub_eq_bnot hs (hl f hf) h3] at h2
    obtain ⟨h4, h5⟩ := (lnk_part ht hs (hl f hf)).2 ⟨h3, h2⟩
    exact ⟨h4, f, hf, h5⟩
theorem allS_lnkL {l : List Int} (hl : allS l) {s : Int} (hs : isS s) : allS (lnkL l s) := by
  intro x hx
  obtain ⟨f, hf, rfl⟩ := List.mem_map.1 hx
  obtain ⟨hf, h3⟩ := List.mem_filter.1 hf
  rw [sub_eq_bnot hs (hl f hf) (dec_iff.1 h3)]
  exact isS_bnot (hl f hf) hs
end Go.Proofs.Ytedampaecopkhaa
