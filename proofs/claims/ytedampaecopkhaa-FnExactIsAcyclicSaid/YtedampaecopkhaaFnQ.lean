import Derived.Test.YtedampaecopkhaaAbsY
import Derived.Test.YtedampaecopkhaaFnP
namespace Go.Proofs.Ytedampaecopkhaa
open Go Go.RowKit
set_option maxRecDepth 1000000
set_option linter.unusedSimpArgs false
set_option linter.unusedVariables false
set_option maxHeartbeats 1000000
/-- Sets below 64 as numbers: facts by trial, over numbers that are not below zero. -/
theorem band_nat (a b : Nat) (ha : a < 64) (hb : b < 64) : band a b = ((a &&& b : Nat) : Int) := bits_and a b (by omega) (by omega)
theorem bor_nat (a b : Nat) (ha : a < 64) (hb : b < 64) : bor a b = ((a ||| b : Nat) : Int) := bits_or a b (by omega) (by omega)
theorem bits_not (a b : Nat) (ha : a < 9223372036854775808) (hb : b < 9223372036854775808) : bitop .andNot .i64 (a : Int) (b : Int) = ((a &&& (2 ^ 64 - 1 - b) : Nat) : Int) := by
  have e : bitop .andNot .i64 (a : Int) (b : Int) = IntKind.i64.wrap ((BitVec.ofInt 64 (a : Int) &&& ~~~ BitVec.ofInt 64 (b : Int)).toNat) := rfl
  have h1 : a &&& (2 ^ 64 - 1 - b) ≤ a := Nat.and_le_left
  rw [e, BitVec.ofInt_natCast, BitVec.ofInt_natCast, BitVec.toNat_and, BitVec.toNat_not, BitVec.toNat_ofNat, BitVec.toNat_ofNat]
  rw [Nat.mod_eq_of_lt (by omega), Nat.mod_eq_of_lt (by omega)]
  exact wrapI _ (by omega) (by omega)
theorem bnot_nat (a b : Nat) (ha : a < 64) (hb : b < 64) : bnot a b = ((a - (a &&& b) : Nat) : Int) := by
  have key : ∀ a : Nat, a < 64 → ∀ b : Nat, b < 64 → a &&& (2 ^ 64 - 1 - b) = a - (a &&& b) := by decide +kernel
  rw [show bnot a b = _ from bits_not a b (by omega) (by omega), key a ha b hb]
theorem subS_nat (a b : Nat) (ha : a < 64) (hb : b < 64) : subS a b ↔ a &&& b = a := by
  unfold subS
  rw [bnot_nat a b ha hb]
  have : a &&& b ≤ a := Nat.and_le_left
  omega
theorem subS_iff {a b : Int} (ha : isS a) (hb : isS b) : subS a b ↔ band a b = a := by
  obtain ⟨x, hx, rfl⟩ := isS_nat ha
  obtain ⟨y, hy, rfl⟩ := isS_nat hb
  rw [subS_nat x y hx hy, band_nat x y hx hy]
  omega
theorem subS_iff' {a b : Int} (ha : isS a) (hb : isS b) : subS a b ↔ band b a = a := by
  obtain ⟨x, hx, rfl⟩ := isS_nat ha
  obtain ⟨y, hy, rfl⟩ := isS_nat hb
  rw [subS_nat x y hx hy, band_nat y x hy hx, Nat.and_comm]
  omega
theorem subS_bits {a b : Int} (ha : isS a) (hb : isS b) : subS a b ↔ ∀ i : Nat, a.toNat.testBit i = true → b.toNat.testBit i = true := by
  obtain ⟨x, hx, rfl⟩ := isS_nat ha
  obtain ⟨y, hy, rfl⟩ := isS_nat hb
  rw [subS_nat x y hx hy]
  simp only [Int.toNat_natCast]
  constructor
  · intro h i hi
    rw [← h, Nat.testBit_and, Bool.and_eq_true] at hi
    exact hi.2
  · intro h
    apply Nat.eq_of_testBit_eq
    intro i
    rw [Nat.testBit_and]
    cases hi : x.testBit i with
    | false => rfl
    | true => simp [h i hi]
theorem subS_refl {a : Int} (ha : isS a) : subS a a := (subS_bits ha ha).2 fun _ h => h
theorem subS_trans {a b c : Int} (ha : isS a) (hb : isS b) (hc : isS c) (h1 : subS a b) (h2 : subS b c) : subS a c :=
  (subS_bits ha hc).2 fun i h => (subS_bits hb hc).1 h2 i ((subS_bits ha hb).1 h1 i h)
theorem subS_le {a b : Int} (ha : isS a) (hb : isS b) (h : subS a b) : a ≤ b := by
  obtain ⟨x, hx, rfl⟩ := isS_nat ha
  obtain ⟨y, hy, rfl⟩ := isS_nat hb
  rw [subS_nat x y hx hy] at h
  have : x &&& y ≤ y := Nat.and_le_right
  omega
theorem subS_anti {a b : Int} (ha : isS a) (hb : isS b) (h : subS a b) (h2 : subS b a) : a = b := by
  have := subS_le ha hb h
  have := subS_le hb ha h2
  omega
theorem isS_zero : isS 0 := by unfold isS; omega
theorem subS_zero {a : Int} (ha : isS a) : subS 0 a := by
  obtain ⟨x, hx, rfl⟩ := isS_nat ha
  exact (subS_nat 0 x (by omega) hx).2 (by simp)
theorem subS_of_zero {a : Int} (ha : isS a) (h : subS a 0) : a = 0 := by
  obtain ⟨x, hx, rfl⟩ := isS_nat ha
  rw [show (0 : Int) = ((0 : Nat) : Int) from rfl, subS_nat x 0 hx (by omega)] at h
  simp at h
  omega
/-- The next part of s below t. -/
theorem sub_next {s t : Int} (hs : isS s) (ht : isS t) (hts : subS t s) (h0 : t ≠ 0) : isS (band (t - 1) s) ∧ subS (band (t - 1) s) s ∧ band (t - 1) s < t ∧ ∀ u, isS u → subS u s → u < t → u ≤ band (t - 1) s := by
  obtain ⟨x, hx, rfl⟩ := isS_nat hs
  obtain ⟨y, hy, rfl⟩ := isS_nat ht
  have hy0 : 0 < y := by omega
  rw [subS_nat y x hy hx] at hts
  have e : ((y : Int) - 1) = ((y - 1 : Nat) : Int) := by omega
  have hl : (y - 1) &&& x ≤ y - 1 := Nat.and_le_left
  rw [e, band_nat (y - 1) x (by omega) hx]
  refine ⟨inS _ (by omega), (subS_nat _ _ (by omega) hx).2 (by rw [Nat.and_assoc, Nat.and_self]), by omega, ?_⟩
  intro u hu hus hut
  obtain ⟨z, hz, rfl⟩ := isS_nat hu
  rw [subS_nat z x hz hx] at hus
  have key : ∀ x : Nat, x < 64 → ∀ y : Nat, y < 64 → (y &&& x != y || (List.range 64).all fun z => z &&& x != z || decide (y ≤ z) || decide (z ≤ (y - 1) &&& x)) = true := by decide +kernel
  have := key x hx y hy
  rw [Bool.or_eq_true, List.all_eq_true] at this
  rcases this with h | h
  · simp [hts] at h
  · have h := h z (List.mem_range.2 hz)
    simp only [hus, bne_self_eq_false, Bool.false_or, Bool.or_eq_true, decide_eq_true_eq] at h
    omega

/-- Faces. -/
def faceS (l : List Int) (s : Int) : Prop := ∃ f ∈ l, subS s f
theorem faceS_snoc {l : List Int} {f s : Int} : faceS (l ++ [f]) s ↔ faceS l s ∨ subS s f := by
  unfold faceS
  constructor
  · rintro ⟨g, h1, h2⟩
    rcases List.mem_append.1 h1 with h | h
    · exact .inl ⟨g, h, h2⟩
    · exact .inr (by simpa using (List.mem_singleton.1 h) ▸ h2)
  · rintro (⟨g, h1, h2⟩ | h)
    · exact ⟨g, by simp [h1], h2⟩
    · exact ⟨f, by simp, h⟩
theorem faceS_sub {l : List Int} (hl : allS l) {s t : Int} (hs : isS s) (ht : isS t) (h : subS s t) (hf : faceS l t) : faceS l s := by
  obtain ⟨f, h1, h2⟩ := hf
  exact ⟨f, h1, subS_trans hs ht (hl f h1) h h2⟩

open Classical in
/-- The sets below k with a property, from the least to the greatest number. -/
noncomputable def upS (p : Int → Prop) : Nat → List Int
  | 0 => []
  | k + 1 => if p (k : Int) then upS p k ++ [(k : Int)] else upS p k
theorem upS_pos {p : Int → Prop} {k : Nat} (h : p (k : Int)) : upS p (k + 1) = upS p k ++ [(k : Int)] := by simp only [upS, if_pos h]
theorem upS_neg {p : Int → Prop} {k : Nat} (h : ¬ p (k : Int)) : upS p (k + 1) = upS p k := by simp only [upS, if_neg h]
theorem mem_upS {p : Int → Prop} {s : Int} : ∀ {k : Nat}, s ∈ upS p k ↔ 0 ≤ s ∧ s < k ∧ p s := by
  intro k
  induction k with
  | zero => simp only [upS, List.not_mem_nil, false_iff]; omega
  | succ k ih =>
    by_cases h : p (k : Int)
    · rw [upS_pos h, List.mem_append, ih, List.mem_singleton]
      constructor
      · rintro (⟨a, b, c⟩ | rfl)
        · exact ⟨a, by omega, c⟩
        · exact ⟨by omega, by omega, h⟩
      · rintro ⟨a, b, c⟩
        by_cases e : s = (k : Int)
        · exact .inr e
        · exact .inl ⟨a, by omega, c⟩
    · rw [upS_neg h, ih]
      constructor
      · rintro ⟨a, b, c⟩; exact ⟨a, by omega, c⟩
      · rintro ⟨a, b, c⟩
        refine ⟨a, ?_, c⟩
        by_cases e : s = (k : Int)
        · exact absurd (e ▸ c) h
        · omega
theorem mem_upS64 {p : Int → Prop} {s : Int} : s ∈ upS p 64 ↔ isS s ∧ p s := by
  rw [mem_upS]
  unfold isS
  exact ⟨fun ⟨a, b, c⟩ => ⟨⟨a, b⟩, c⟩, fun ⟨⟨a, b⟩, c⟩ => ⟨a, b, c⟩⟩
theorem upS_len (p : Int → Prop) : ∀ k, (upS p k).length ≤ k
  | 0 => by simp [upS]
  | k + 1 => by
    have := upS_len p k
    simp only [upS]
    split <;> simp <;> omega
theorem upS_congr {p q : Int → Prop} : ∀ {k : Nat}, k ≤ 64 → (∀ s, isS s → (p s ↔ q s)) → upS p k = upS q k := by
  intro k
  induction k with
  | zero => intro _ _; rfl
  | succ k ih =>
    intro hk h
    have e := h k (inS k (by omega))
    by_cases hp : p (k : Int)
    · rw [upS_pos hp, upS_pos (e.1 hp), ih (by omega) h]
    · rw [upS_neg hp, upS_neg (fun hq => hp (e.2 hq)), ih (by omega) h]
theorem upS_none : ∀ {k : Nat}, upS (fun _ => False) k = [] := by
  intro k
  induction k with
  | zero => rfl
  | succ k ih => rw [upS_neg (by simp), ih]
theorem upS_sorted {p : Int → Prop} : ∀ {k : Nat}, (upS p k).Pairwise (· < ·) := by
  intro k
  induction k with
  | zero => simp [upS]
  | succ k ih =>
    by_cases h : p (k : Int)
    · rw [upS_pos h, List.pairwise_append]
      refine ⟨ih, by simp, ?_⟩
      intro a ha b hb
      rw [mem_upS] at ha
      simp only [List.mem_singleton] at hb
      omega
    · rw [upS_neg h]; exact ih
/-- The sets with a property by size, those of less than z points. -/
noncomputable def ordS (p : Int → Prop) : Nat → List Int
  | 0 => []
  | z + 1 => ordS p z ++ upS (fun s => p s ∧ sz s = z) 64
theorem mem_ordS {p : Int → Prop} {s : Int} : ∀ {z : Nat}, s ∈ ordS p z ↔ isS s ∧ p s ∧ sz s < z := by
  intro z
  induction z with
  | zero => have := sz_nn s; simp only [ordS, List.not_mem_nil, false_iff]; omega
  | succ z ih =>
    rw [ordS, List.mem_append, ih, mem_upS64]
    constructor
    · rintro (⟨a, b, c⟩ | ⟨a, b, c⟩)
      · exact ⟨a, b, by omega⟩
      · exact ⟨a, b, by omega⟩
    · rintro ⟨a, b, c⟩
      by_cases e : sz s = (z : Int)
      · exact .inr ⟨a, b, e⟩
      · exact .inl ⟨a, b, by omega⟩
theorem sz_six {s : Int} (h : isS s) : sz s ≤ 6 := forS (p := fun s => sz s ≤ 6) (by decide +kernel) h
theorem ordS_len (p : Int → Prop) : ∀ z, (ordS p z).length ≤ 64 * z
  | 0 => by simp [ordS]
  | z + 1 => by
    have := ordS_len p z
    have := upS_len (fun s => p s ∧ sz s = z) 64
    simp only [ordS, List.length_append]
    omega
theorem ordS_congr {p q : Int → Prop} (h : ∀ s, isS s → (p s ↔ q s)) : ∀ z, ordS p z = ordS q z
  | 0 => rfl
  | z + 1 => by
    rw [ordS, ordS, ordS_congr h z]
    congr 1
    exact upS_congr (Nat.le_refl _) fun s hs => by rw [h s hs]
theorem allS_upS (p : Int → Prop) {k : Nat} (hk : k ≤ 64) : allS (upS p k) := fun x hx => by
  have := mem_upS.1 hx
  exact ⟨this.1, by omega⟩
theorem ordS_sorted {p : Int → Prop} : ∀ {z : Nat}, (ordS p z).Pairwise fun a b => before a b = true := by
  intro z
  induction z with
  | zero => simp [ordS]
  | succ z ih =>
    rw [ordS, List.pairwise_append]
    refine ⟨ih, ?_, ?_⟩
    · refine upS_sorted.imp_of_mem ?_
      intro a b ha hb hab
      have h1 := (mem_upS64.1 ha).2.2
      have h2 := (mem_upS64.1 hb).2.2
      simp only [before, decide_eq_true_eq]
      omega
    · intro a ha b hb
      have h1 := (mem_ordS.1 ha).2.2
      have h2 := (mem_upS64.1 hb).2.2
      simp only [before, decide_eq_true_eq]
      omega
/-- A sorted list is given by its members. -/
theorem sorted_ext {l m : List Int} (hl : l.Pairwise fun a b => before a b = true) (hm : m.Pairwise fun a b => before a b = true) (h : ∀ x, x ∈ l ↔ x ∈ m) : l = m := by
  have irr : ∀ a : Int, before a a = true → False := fun a h => by simp only [before, decide_eq_true_eq] at h; omega
  induction l generalizing m with
  | nil => cases m with
    | nil => rfl
    | cons b m => exact absurd ((h b).2 (by simp)) (by simp)
  | cons a l ih => cases m with
    | nil => exact absurd ((h a).1 (by simp)) (by simp)
    | cons b m =>
      rw [List.pairwise_cons] at hl hm
      have hab : a = b := by
        rcases List.mem_cons.1 ((h a).1 (by simp)) with e | e
        · exact e
        · rcases List.mem_cons.1 ((h b).2 (by simp)) with e2 | e2
          · exact e2.symm
          · exact (irr a (before_trans (hl.1 b e2) (hm.1 a e))).elim
      subst hab
      rw [ih hl.2 hm.2]
      intro x
      constructor
      · intro hx
        rcases List.mem_cons.1 ((h x).1 (by simp [hx])) with e | e
        · subst e; exact (irr _ (hl.1 _ hx)).elim
        · exact e
      · intro hx
        rcases List.mem_cons.1 ((h x).2 (by simp [hx])) with e | e
        · subst e; exact (irr _ (hm.1 _ hx)).elim
        · exact e
theorem sets_ex (p : Int → Prop) : ∃ l : List Int, (l.Pairwise fun a b => before a b = true) ∧ ∀ x, x ∈ l ↔ isS x ∧ p x :=
  ⟨ordS p 7, ordS_sorted, fun s => by
    rw [mem_ordS]
    constructor
    · rintro ⟨a, b, _⟩; exact ⟨a, b⟩
    · rintro ⟨a, b⟩; have := sz_six a; exact ⟨a, b, by omega⟩⟩
/-- All sets with a property, in order. -/
noncomputable def setsOf (p : Int → Prop) : List Int := Classical.choose (sets_ex p)
theorem setsOf_sorted (p : Int → Prop) : (setsOf p).Pairwise fun a b => before a b = true := (Classical.choose_spec (sets_ex p)).1
theorem mem_setsOf {p : Int → Prop} {s : Int} : s ∈ setsOf p ↔ isS s ∧ p s := (Classical.choose_spec (sets_ex p)).2 s
theorem setsOf_eq (p : Int → Prop) : ordS p 7 = setsOf p := sorted_ext ordS_sorted (setsOf_sorted p) fun s => by
  rw [mem_ordS, mem_setsOf]
  constructor
  · rintro ⟨a, b, _⟩; exact ⟨a, b⟩
  · rintro ⟨a, b⟩; have := sz_six a; exact ⟨a, b, by omega⟩
theorem setsOf_congr {p q : Int → Prop} (h : ∀ s, isS s → (p s ↔ q s)) : setsOf p = setsOf q := sorted_ext (setsOf_sorted p) (setsOf_sorted q) fun s => by
  rw [mem_setsOf, mem_setsOf]
  exact ⟨fun ⟨a, b⟩ => ⟨a, (h s a).1 b⟩, fun ⟨a, b⟩ => ⟨a, (h s a).2 b⟩⟩
theorem setsOf_none : setsOf (fun _ => False) = [] := by
  apply List.eq_nil_iff_forall_not_mem.2
  intro s hs
  exact (mem_setsOf.1 hs).2
theorem allS_setsOf (p : Int → Prop) : allS (setsOf p) := fun x hx => (mem_setsOf.1 hx).1
theorem setsOf_nodup (p : Int → Prop) : (setsOf p).Nodup := by
  refine (setsOf_sorted p).imp ?_
  intro a b h e
  subst e
  simp only [before, decide_eq_true_eq] at h
  omega
theorem setsOf_len (p : Int → Prop) : (setsOf p).length ≤ 64 := nodup_len (setsOf_nodup p) (allS_setsOf p)
theorem filter_setsOf (p : Int → Prop) (q : Int → Bool) : (setsOf p).filter q = setsOf fun s => p s ∧ q s = true :=
  sorted_ext ((setsOf_sorted p).filter q) (setsOf_sorted _) fun x => by simp only [List.mem_filter, mem_setsOf, and_assoc]

/-- A row of 64 marks. -/
noncomputable def bools (p : Int → Prop) : List V := (List.range 64).map fun (k : Nat) => V.bool (dec (p (k : Int)))
@[simp] theorem bools_len (p : Int → Prop) : (bools p).length = 64 := by simp [bools]
theorem bools_get {p : Int → Prop} {k : Nat} (hk : k < 64) (d : V) : (bools p)[k]?.getD d = .bool (dec (p (k : Int))) := by simp [bools, hk]
theorem bools_set {p : Int → Prop} {k : Nat} (hk : k < 64) : (bools p).set k (.bool true) = bools fun s => p s ∨ s = (k : Int) := by
  apply List.ext_getElem (by simp)
  intro j h1 h2
  simp only [bools_len] at h2
  rw [List.getElem_set]
  split
  · rename_i e
    subst e
    simp [bools, dec]
  · rename_i e
    have : ¬ ((j : Int) = k) := by omega
    simp [bools, dec, this]
theorem bools_congr {p q : Int → Prop} (h : ∀ s, isS s → (p s ↔ q s)) : bools p = bools q := by
  apply List.ext_getElem (by simp)
  intro j h1 h2
  simp only [bools_len] at h2
  simp [bools, dec, h j (inS j h2)]
theorem repl_flat {α : Type} (x : α) : ∀ n : Nat, (List.replicate n [x]).flatten = List.replicate n x
  | 0 => rfl
  | n + 1 => by simp [List.replicate_succ, repl_flat x n]
theorem bools_none : List.replicate 64 (V.bool false) = bools fun _ => False := by
  show _ = (List.range 64).map fun _ => V.bool (dec False)
  rw [dec_false fun h => h, List.map_const', List.length_range]
@[simp] theorem bools_cell (p : Int → Prop) : (bools p).all V.cell = true := by simp [bools, V.cell]
@[simp] theorem bools_ren (r : Nat → Option Nat) (p : Int → Prop) : renL r (bools p) = some (bools p) := by
  unfold bools
  generalize List.range 64 = l
  induction l with
  | nil => rfl
  | cons a l ih => simp [renL, ren1, ih]
end Go.Proofs.Ytedampaecopkhaa
