import Derived.Test.YtmeeihfjldooeaaFnE
namespace Go.Proofs.Ytmeeihfjldooeaa
open Go Go.RowKit
set_option maxRecDepth 1000000
set_option linter.unusedSimpArgs false
set_option linter.unusedVariables false
set_option maxHeartbeats 1000000
def isS (x : Int) : Prop := 0 ≤ x ∧ x < 64
def allS (l : List Int) : Prop := ∀ x ∈ l, isS x
theorem allS_at {l : List Int} (h : allS l) {j : Nat} (hj : j < l.length) : isS (at0 l j) := h _ (getD_mem' hj)
theorem forS {p : Int → Prop} (h : ∀ x : Nat, x < 64 → p x) {a : Int} (ha : isS a) : p a := by
  have := h a.toNat (by have := ha.1; have := ha.2; omega)
  rwa [Int.toNat_of_nonneg ha.1] at this
theorem forS2 {p : Int → Int → Prop} (h : ∀ x : Nat, x < 64 → ∀ y : Nat, y < 64 → p x y) {a b : Int} (ha : isS a) (hb : isS b) : p a b :=
  forS (p := fun a => p a b) (fun x hx => forS (p := fun b => p x b) (fun y hy => h x hx y hy) hb) ha
abbrev band (a b : Int) : Int := bitop .and .i64 a b
abbrev bor (a b : Int) : Int := bitop .or .i64 a b
abbrev bnot (a b : Int) : Int := bitop .andNot .i64 a b
/-- Is the point in the set. -/
def tb (a : Int) (i : Nat) : Prop := band a (2 ^ i) ≠ 0
instance (a : Int) (i : Nat) : Decidable (tb a i) := by unfold tb; infer_instance
theorem isS_bor {a b : Int} (ha : isS a) (hb : isS b) : isS (bor a b) := forS2 (p := fun a b => isS (bor a b)) (by unfold isS; decide +kernel) ha hb
theorem isS_bnot {a b : Int} (ha : isS a) (hb : isS b) : isS (bnot a b) := forS2 (p := fun a b => isS (bnot a b)) (by unfold isS; decide +kernel) ha hb
theorem isS_band {a b : Int} (ha : isS a) (hb : isS b) : isS (band a b) := forS2 (p := fun a b => isS (band a b)) (by unfold isS; decide +kernel) ha hb
theorem isS_pow {i : Nat} (hi : i < 6) : isS (2 ^ i) := by
  have : ∀ i : Nat, i < 6 → (0 ≤ (2 : Int) ^ i ∧ (2 : Int) ^ i < 64) := by decide +kernel
  exact this i hi
theorem tb_bor {a b : Int} (ha : isS a) (hb : isS b) {i : Nat} (hi : i < 6) : tb (bor a b) i ↔ tb a i ∨ tb b i :=
  forS2 (p := fun a b => ∀ i : Nat, i < 6 → (tb (bor a b) i ↔ tb a i ∨ tb b i)) (by decide +kernel) ha hb i hi
theorem tb_pow {i j : Nat} (hi : i < 6) (hj : j < 6) : tb (2 ^ i) j ↔ i = j := by
  have : ∀ i : Nat, i < 6 → ∀ j : Nat, j < 6 → (tb (2 ^ i) j ↔ i = j) := by decide +kernel
  exact this i hi j hj
theorem tb_zero (i : Nat) (hi : i < 6) : ¬ tb 0 i := by
  have : ∀ i : Nat, i < 6 → ¬ tb 0 i := by decide +kernel
  exact this i hi
theorem tb_ext {a b : Int} (ha : isS a) (hb : isS b) (h : ∀ i, i < 6 → (tb a i ↔ tb b i)) : a = b :=
  forS2 (p := fun a b => (∀ i : Nat, i < 6 → (tb a i ↔ tb b i)) → a = b) (by decide +kernel) ha hb h
theorem bor_again {a : Int} (ha : isS a) {i : Nat} (hi : i < 6) : bor (bor a (2 ^ i)) (2 ^ i) = bor a (2 ^ i) :=
  forS (p := fun a => ∀ i : Nat, i < 6 → bor (bor a (2 ^ i)) (2 ^ i) = bor a (2 ^ i)) (by decide +kernel) ha i hi
theorem sub_pow {s : Int} (hs : isS s) {i : Nat} (hi : i < 6) (ht : tb s i) : isS (s - 2 ^ i) :=
  forS (p := fun s => ∀ i : Nat, i < 6 → tb s i → isS (s - 2 ^ i)) (by unfold isS; decide +kernel) hs i hi ht
theorem ridge_key {s g : Int} (hs : isS s) (hg : isS g) (hn : bnot s g ≠ 0) {i : Nat} (hi : i < 6) : (tb s i ∧ band g (s - 2 ^ i) = s - 2 ^ i) ↔ (sizeOf1 (bnot s g) = 1 ∧ tb (bnot s g) i) := by
  have key : ∀ x : Nat, x < 64 → ∀ y : Nat, y < 64 → ∀ i : Nat, i < 6 → (decide (bnot x y = 0) || ((decide (tb x i) && decide (band y (x - 2 ^ i) = x - 2 ^ i)) == (decide (sizeOf1 (bnot x y) = 1) && decide (tb (bnot x y) i)))) = true := by decide +kernel
  have := forS2 (p := fun s g => ∀ i : Nat, i < 6 → (decide (bnot s g = 0) || ((decide (tb s i) && decide (band g (s - 2 ^ i) = s - 2 ^ i)) == (decide (sizeOf1 (bnot s g) = 1) && decide (tb (bnot s g) i)))) = true) key hs hg i hi
  simp only [hn, decide_false, Bool.false_or, beq_iff_eq] at this
  rw [Bool.eq_iff_iff] at this
  simpa only [Bool.and_eq_true, decide_eq_true_eq] using this
theorem tb_bnot {a b : Int} (ha : isS a) (hb : isS b) {i : Nat} (hi : i < 6) : tb (bnot a b) i → tb a i :=
  forS2 (p := fun a b => ∀ i : Nat, i < 6 → tb (bnot a b) i → tb a i) (by decide +kernel) ha hb i hi
theorem band_bits {a b : Int} (ha : isS a) (hb : isS b) {i : Nat} (hi : i < 6) : tb (band a b) i ↔ tb a i ∧ tb b i :=
  forS2 (p := fun a b => ∀ i : Nat, i < 6 → (tb (band a b) i ↔ tb a i ∧ tb b i)) (by decide +kernel) ha hb i hi
theorem bnot_zero {a b : Int} (ha : isS a) (hb : isS b) : bnot a b = 0 ↔ band b a = a :=
  forS2 (p := fun a b => bnot a b = 0 ↔ band b a = a) (by decide +kernel) ha hb
theorem bnot_zero2 {a b : Int} (ha : isS a) (hb : isS b) : bnot a b = 0 ↔ band a b = a :=
  forS2 (p := fun a b => bnot a b = 0 ↔ band a b = a) (by decide +kernel) ha hb
/-- The points of s without which it lies in one of the sets before. -/
def ridge (before : List Int) (s : Int) (i : Nat) : Prop := tb s i ∧ ∃ g ∈ before, band g (s - 2 ^ i) = s - 2 ^ i
open Classical in
noncomputable def newI (before : List Int) (s : Int) : Nat → Int
  | 0 => 0
  | i + 1 => if ridge before s i then bor (newI before s i) (2 ^ i) else newI before s i
theorem newI_isS (before : List Int) (s : Int) : ∀ i, i ≤ 6 → isS (newI before s i) := by
  intro i
  induction i with
  | zero => intro _; simp [newI, isS]
  | succ i ih =>
    intro h
    simp only [newI]
    split
    · exact isS_bor (ih (by omega)) (isS_pow (by omega))
    · exact ih (by omega)
theorem newI_tb (before : List Int) (s : Int) : ∀ i, i ≤ 6 → ∀ j, j < 6 → (tb (newI before s i) j ↔ j < i ∧ ridge before s j) := by
  intro i
  induction i with
  | zero => intro _ j hj; simp [newI, tb_zero j hj]
  | succ i ih =>
    intro h j hj
    simp only [newI]
    split
    · rename_i hr
      rw [tb_bor (newI_isS before s i (by omega)) (isS_pow (by omega)) hj, ih (by omega) j hj, tb_pow (by omega) hj]
      constructor
      · rintro (⟨h1, h2⟩ | rfl)
        · exact ⟨by omega, h2⟩
        · exact ⟨by omega, hr⟩
      · rintro ⟨h1, h2⟩
        rcases Nat.lt_succ_iff_lt_or_eq.1 h1 with h3 | rfl
        · exact .inl ⟨h3, h2⟩
        · exact .inr rfl
    · rename_i hr
      rw [ih (by omega) j hj]
      constructor
      · rintro ⟨h1, h2⟩; exact ⟨by omega, h2⟩
      · rintro ⟨h1, h2⟩
        rcases Nat.lt_succ_iff_lt_or_eq.1 h1 with h3 | rfl
        · exact ⟨h3, h2⟩
        · exact absurd h2 hr
def partI (before : List Int) (s : Int) : Int := before.foldl (fun o g => if sizeOf1 (bnot s g) = 1 then bor o (bnot s g) else o) 0
theorem take_at {l : List Int} {k : Nat} (h : k < l.length) : l.take (k + 1) = l.take k ++ [at0 l k] := by
  rw [at0_eq h, List.take_succ_eq_append_getElem h]
theorem partI_step {l : List Int} {k : Nat} (h : k < l.length) (s : Int) : partI (l.take (k + 1)) s = if sizeOf1 (bnot s (at0 l k)) = 1 then bor (partI (l.take k) s) (bnot s (at0 l k)) else partI (l.take k) s := by
  rw [take_at h, partI, List.foldl_append]
  rfl
theorem allS_take {l : List Int} (h : allS l) (k : Nat) : allS (l.take k) := fun x hx => h x (List.mem_of_mem_take hx)
theorem partI_isS {l : List Int} (hl : allS l) {s : Int} (hs : isS s) : ∀ k, k ≤ l.length → isS (partI (l.take k) s) := by
  intro k
  induction k with
  | zero => intro _; simp [partI, isS]
  | succ k ih =>
    intro h
    rw [partI_step (by omega)]
    split
    · exact isS_bor (ih (by omega)) (isS_bnot hs (allS_at hl (by omega)))
    · exact ih (by omega)
theorem partI_tb {l : List Int} (hl : allS l) {s : Int} (hs : isS s) {i : Nat} (hi : i < 6) : ∀ k, k ≤ l.length → (tb (partI (l.take k) s) i ↔ ∃ j, j < k ∧ sizeOf1 (bnot s (at0 l j)) = 1 ∧ tb (bnot s (at0 l j)) i) := by
  intro k
  induction k with
  | zero => intro _; simp [partI, tb_zero i hi]
  | succ k ih =>
    intro h
    rw [partI_step (by omega)]
    split
    · rename_i h1
      rw [tb_bor (partI_isS hl hs k (by omega)) (isS_bnot hs (allS_at hl (by omega))) hi, ih (by omega)]
      constructor
      · rintro (⟨j, h2, h3⟩ | h2)
        · exact ⟨j, by omega, h3⟩
        · exact ⟨k, by omega, h1, h2⟩
      · rintro ⟨j, h2, h3⟩
        rcases Nat.lt_succ_iff_lt_or_eq.1 h2 with h4 | rfl
        · exact .inl ⟨j, h4, h3⟩
        · exact .inr h3.2
    · rename_i h1
      rw [ih (by omega)]
      constructor
      · rintro ⟨j, h2, h3⟩; exact ⟨j, by omega, h3⟩
      · rintro ⟨j, h2, h3⟩
        rcases Nat.lt_succ_iff_lt_or_eq.1 h2 with h4 | rfl
        · exact ⟨j, h4, h3⟩
        · exact absurd h3.1 h1
theorem new_part {l : List Int} (hl : allS l) {s : Int} (hs : isS s) (hn : ∀ g ∈ l, bnot s g ≠ 0) : newI l s 6 = partI l s := by
  have e : partI l s = partI (l.take l.length) s := by rw [List.take_length]
  rw [e]
  refine tb_ext (newI_isS l s 6 (by omega)) (partI_isS hl hs _ (Nat.le_refl _)) fun i hi => ?_
  rw [newI_tb l s 6 (by omega) i hi, partI_tb hl hs hi _ (Nat.le_refl _)]
  constructor
  · rintro ⟨_, h1, g, h2, h3⟩
    obtain ⟨j, hj, rfl⟩ := getD_mem_iff.1 h2
    exact ⟨j, hj, (ridge_key hs (allS_at hl hj) (hn _ h2) hi).1 ⟨h1, h3⟩⟩
  · rintro ⟨j, hj, h1⟩
    have h2 := (ridge_key hs (allS_at hl hj) (hn _ (getD_mem' hj)) hi).2 h1
    exact ⟨hi, h2.1, _, getD_mem' hj, h2.2⟩
theorem part_sub {l : List Int} (hl : allS l) {s : Int} (hs : isS s) {i : Nat} (hi : i < 6) (h : tb (partI l s) i) : tb s i := by
  have e : partI l s = partI (l.take l.length) s := by rw [List.take_length]
  rw [e, partI_tb hl hs hi _ (Nat.le_refl _)] at h
  obtain ⟨j, hj, _, h2⟩ := h
  exact tb_bnot hs (allS_at hl hj) hi h2
/-- The reference's test of a set behind others, and the program's. -/
def fitsS (l : List Int) (s : Int) : Prop := l = [] ∨ ∀ g ∈ l, band (band g s) (newI l s 6) ≠ newI l s 6
def fitsI (l : List Int) (s : Int) : Prop := ∀ g ∈ l, bnot (partI l s) g ≠ 0
theorem fits_same {l : List Int} (hl : allS l) {s : Int} (hs : isS s) (hn : ∀ g ∈ l, bnot s g ≠ 0) : fitsS l s ↔ fitsI l s := by
  unfold fitsS fitsI
  rw [new_part hl hs hn]
  have hr : isS (partI l s) := by
    have := partI_isS hl hs l.length (Nat.le_refl _)
    rwa [List.take_length] at this
  have key : ∀ g ∈ l, (band (band g s) (partI l s) = partI l s ↔ bnot (partI l s) g = 0) := by
    intro g hg
    rw [bnot_zero hr (hl g hg)]
    have : band (band g s) (partI l s) = band g (partI l s) := by
      refine tb_ext (isS_band (isS_band (hl g hg) hs) hr) (isS_band (hl g hg) hr) fun i hi => ?_
      rw [band_bits (isS_band (hl g hg) hs) hr hi, band_bits (hl g hg) hs hi, band_bits (hl g hg) hr hi]
      constructor
      · rintro ⟨⟨a, _⟩, c⟩; exact ⟨a, c⟩
      · rintro ⟨a, c⟩; exact ⟨⟨a, part_sub hl hs hi c⟩, c⟩
    rw [this]
  constructor
  · rintro (rfl | h) g hg
    · simp at hg
    · exact fun e => h g hg ((key g hg).2 e)
  · intro h
    exact .inr fun g hg e => h g hg ((key g hg).1 e)
end Go.Proofs.Ytmeeihfjldooeaa
