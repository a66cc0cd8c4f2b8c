import Derived.Test.YtedampaecopkhaaFoU
namespace Go.Proofs.Ytedampaecopkhaa
open Go Go.RowKit
set_option maxRecDepth 1000000
set_option linter.unusedSimpArgs false
set_option linter.unusedVariables false
set_option maxHeartbeats 1000000
/-- Paths by points below k. -/
def warsh (E : Nat → Nat → Prop) : Nat → Nat → Nat → Prop
  | 0, i, j => E i j
  | k + 1, i, j => warsh E k i j ∨ (warsh E k i k ∧ warsh E k k j)
theorem warsh_row {E : Nat → Nat → Prop} {k j : Nat} : warsh E (k + 1) k j ↔ warsh E k k j :=
  ⟨fun h => h.elim id fun h => h.2, .inl⟩
theorem warsh_col {E : Nat → Nat → Prop} {k i : Nat} : warsh E (k + 1) i k ↔ warsh E k i k :=
  ⟨fun h => h.elim id fun h => h.1, .inl⟩
theorem warsh_trans {E : Nat → Nat → Prop} : ∀ (k : Nat) {v i j : Nat}, v < k → warsh E k i v → warsh E k v j → warsh E k i j := by
  intro k
  induction k with
  | zero => intro v i j hv; omega
  | succ k ih =>
    intro v i j hv h1 h2
    by_cases e : v = k
    · subst e
      exact .inr ⟨warsh_col.1 h1, warsh_row.1 h2⟩
    · have hv2 : v < k := by omega
      rcases h1 with h1 | ⟨h1, h3⟩
      · rcases h2 with h2 | ⟨h2, h4⟩
        · exact .inl (ih hv2 h1 h2)
        · exact .inr ⟨ih hv2 h1 h2, h4⟩
      · rcases h2 with h2 | ⟨h2, h4⟩
        · exact .inr ⟨h1, ih hv2 h3 h2⟩
        · exact .inr ⟨h1, h4⟩
theorem warsh_of {E : Nat → Nat → Prop} : ∀ (k : Nat) {i j : Nat}, E i j → warsh E k i j
  | 0, _, _, h => h
  | k + 1, _, _, h => .inl (warsh_of k h)
/-- A set that is closed holds all that is reached. -/
theorem warsh_closed {E : Nat → Nat → Prop} {a : Nat} {M : Nat → Prop} (h0 : ∀ j, E a j → M j) (hM : ∀ i j, M i → E i j → M j) : ∀ (k : Nat) {i j : Nat}, (i = a ∨ M i) → warsh E k i j → M j := by
  intro k
  induction k with
  | zero =>
    intro i j hi h
    rcases hi with rfl | hi
    · exact h0 j h
    · exact hM i j hi h
  | succ k ih =>
    intro i j hi h
    rcases h with h | ⟨h1, h2⟩
    · exact ih hi h
    · exact ih (.inr (ih hi h1)) h2
/-- From pair i to pair j: the lower face of j lies in the upper one of i. -/
def edgeP (list : List (Int × Int)) (i j : Nat) : Prop := i < list.length ∧ j < list.length ∧ i ≠ j ∧ subS (pr0 list j).1 (pr0 list i).2 ∧ sz (pr0 list i).2 = sz (pr0 list j).1 + 1
theorem mem_usedI {list : List (Int × Int)} {j : Nat} : ∀ {k : Nat}, k ≤ list.length → j < k → (pr0 list j).1 ∈ usedI list k := by
  intro k
  induction k with
  | zero => intro _ h; omega
  | succ k ih =>
    intro hk hj
    rw [usedI_succ (by omega)]
    by_cases e : j = k
    · subst e; simp
    · exact List.mem_append_left _ (ih (by omega) (by omega))
theorem pair_low {n : Int} {l : List Int} {list : List (Int × Int)} (h : pairP n l list) {i k : Nat} (hi : i < list.length) (hk : k < list.length) (hne : i ≠ k) : (pr0 list i).1 ≠ (pr0 list k).1 := by
  intro e
  rcases Nat.lt_or_gt_of_ne hne with h1 | h1
  · exact (h.2 k hk).2.1 (e ▸ mem_usedI (by omega) h1)
  · exact (h.2 i hi).2.1 (e.symm ▸ mem_usedI (by omega) h1)
theorem pair_len {n : Int} {l : List Int} {list : List (Int × Int)} (h : pairP n l list) : list.length ≤ 32 := by
  obtain ⟨a, b⟩ := pair_used h list.length (Nat.le_refl _)
  have h1 := nodup_len a b
  rw [usedI_len list _ (Nat.le_refl _)] at h1
  omega
/-- A row of m marks. -/
noncomputable def boolRow (m : Nat) (P : Nat → Prop) : List V := (List.range m).map fun j => V.bool (dec (P j))
@[simp] theorem boolRow_len (m : Nat) (P : Nat → Prop) : (boolRow m P).length = m := by simp [boolRow]
theorem boolRow_get {m : Nat} {P : Nat → Prop} {k : Nat} (hk : k < m) (d : V) : (boolRow m P)[k]?.getD d = .bool (dec (P k)) := by simp [boolRow, hk]
@[simp high] theorem boolRow_getD {m : Nat} {P : Nat → Prop} {k : Nat} (hk : k < m) (d : V) : (boolRow m P).getD k d = .bool (dec (P k)) := by
  rw [List.getD_eq_getElem?_getD, boolRow_get hk]
theorem boolRow_congr {m : Nat} {P Q : Nat → Prop} (h : ∀ j, j < m → (P j ↔ Q j)) : boolRow m P = boolRow m Q := by
  apply List.ext_getElem (by simp)
  intro j h1 h2
  simp only [boolRow_len] at h2
  simp [boolRow, dec, h j h2]
theorem boolRow_set {m : Nat} {P : Nat → Prop} {k : Nat} (hk : k < m) : (boolRow m P).set k (.bool true) = boolRow m fun j => P j ∨ j = k := by
  apply List.ext_getElem (by simp)
  intro j h1 h2
  simp only [boolRow_len] at h2
  rw [List.getElem_set]
  split
  · rename_i e; subst e; simp [boolRow, dec]
  · rename_i e
    have : ¬ j = k := fun h => e h.symm
    simp [boolRow, dec, this]
theorem boolRow_none (m : Nat) : List.replicate m (V.bool false) = boolRow m fun _ => False := by
  show _ = (List.range m).map fun _ => V.bool (dec False)
  rw [dec_false fun h => h, List.map_const', List.length_range]
@[simp] theorem boolRow_cell (m : Nat) (P : Nat → Prop) : (boolRow m P).all V.cell = true := by simp [boolRow, V.cell]
@[simp] theorem boolRow_nm (j m : Nat) (P : Nat → Prop) : (boolRow m P).all (nonm (j + 1)) = true := by simp [boolRow]
@[simp] theorem boolRow_nl (j m : Nat) (P : Nat → Prop) : (boolRow m P).all (nolist (j + 1)) = true := by simp [boolRow]
@[simp] theorem boolRow_take (m : Nat) (P : Nat → Prop) : (boolRow m P).take m = boolRow m P := List.take_of_length_le (by simp)
@[simp] theorem boolRow_ren (r : Nat → Option Nat) (m : Nat) (P : Nat → Prop) : renL r (boolRow m P) = some (boolRow m P) := by
  unfold boolRow
  generalize List.range m = l
  induction l with
  | nil => rfl
  | cons a l ih => simp [renL, ren1, ih]
/-- How many below k are not marked. -/
noncomputable def cntU (M : Nat → Prop) : Nat → Nat
  | 0 => 0
  | k + 1 => if dec (M k) = true then cntU M k else cntU M k + 1
theorem cntU_le (M : Nat → Prop) : ∀ k, cntU M k ≤ k
  | 0 => Nat.le_refl _
  | k + 1 => by have := cntU_le M k; simp only [cntU]; split <;> omega
theorem cntU_same {M : Nat → Prop} {j : Nat} : ∀ {k : Nat}, k ≤ j → cntU (fun i => M i ∨ i = j) k = cntU M k
  | 0, _ => rfl
  | k + 1, h => by
    have ih := cntU_same (M := M) (j := j) (k := k) (by omega)
    have e : dec (M k ∨ k = j) = dec (M k) := by
      rw [Bool.eq_iff_iff, dec_iff, dec_iff]
      exact ⟨fun h2 => h2.resolve_right (by omega), .inl⟩
    simp only [cntU, e, ih]
theorem cntU_mark {M : Nat → Prop} {j : Nat} (hj : ¬ M j) : ∀ {k : Nat}, j < k → cntU (fun i => M i ∨ i = j) k + 1 = cntU M k
  | 0, h => by omega
  | k + 1, h => by
    by_cases e : j = k
    · subst e
      have h1 : dec (M j ∨ True) = true := dec_true (.inr trivial)
      have h2 : dec (M j) = false := dec_false hj
      simp only [cntU]
      rw [h1, h2, if_pos rfl, if_neg (by simp), cntU_same (Nat.le_refl j)]
    · have ih := cntU_mark hj (k := k) (by omega)
      have e2 : dec (M k ∨ k = j) = dec (M k) := by
        rw [Bool.eq_iff_iff, dec_iff, dec_iff]
        exact ⟨fun h2 => h2.resolve_right (fun h3 => e h3.symm), .inl⟩
      simp only [cntU, e2]
      split <;> omega
/-- A row of m families. -/
noncomputable def uRow (m : Nat) (R : Nat → Int → Prop) : List V := (List.range m).map fun j => V.int .u64 (fam (R j))
@[simp] theorem uRow_len (m : Nat) (R : Nat → Int → Prop) : (uRow m R).length = m := by simp [uRow]
theorem uRow_get {m : Nat} {R : Nat → Int → Prop} {k : Nat} (hk : k < m) (d : V) : (uRow m R)[k]?.getD d = .int .u64 (fam (R k)) := by simp [uRow, hk]
@[simp high] theorem uRow_getD {m : Nat} {R : Nat → Int → Prop} {k : Nat} (hk : k < m) (d : V) : (uRow m R).getD k d = .int .u64 (fam (R k)) := by
  rw [List.getD_eq_getElem?_getD, uRow_get hk]
theorem uRow_congr {m : Nat} {R S : Nat → Int → Prop} (h : ∀ j, j < m → ∀ t, isS t → (R j t ↔ S j t)) : uRow m R = uRow m S := by
  apply List.ext_getElem (by simp)
  intro j h1 h2
  simp only [uRow_len] at h2
  simp [uRow, fam_congr (h j h2)]
theorem uRow_set {m : Nat} {R : Nat → Int → Prop} {k : Nat} {P : Int → Prop} : (uRow m R).set k (.int .u64 (fam P)) = uRow m fun j => if j = k then P else R j := by
  apply List.ext_getElem (by simp)
  intro j h1 h2
  simp only [uRow_len] at h2
  rw [List.getElem_set]
  split
  · rename_i e; subst e; simp [uRow]
  · rename_i e
    have : ¬ j = k := fun h => e h.symm
    simp [uRow, this]
theorem uRow_none (m : Nat) : List.replicate m (V.int .u64 0) = uRow m fun _ _ => False := by
  show _ = (List.range m).map fun _ => V.int .u64 (fam fun _ => False)
  rw [fam_none, List.map_const', List.length_range]
@[simp] theorem uRow_cell (m : Nat) (R : Nat → Int → Prop) : (uRow m R).all V.cell = true := by simp [uRow, V.cell]
@[simp] theorem uRow_nm (j m : Nat) (R : Nat → Int → Prop) : (uRow m R).all (nonm (j + 1)) = true := by simp [uRow]
@[simp] theorem uRow_ren (r : Nat → Option Nat) (m : Nat) (R : Nat → Int → Prop) : renL r (uRow m R) = some (uRow m R) := by
  unfold uRow
  generalize List.range m = l
  induction l with
  | nil => rfl
  | cons a l ih => simp [renL, ren1, ih]
def acycP (n : Int) (l : List Int) (list : List (Int × Int)) : Prop := pairP n l list ∧ ∀ i, i < list.length → ¬ warsh (edgeP list) list.length i i
end Go.Proofs.Ytedampaecopkhaa
