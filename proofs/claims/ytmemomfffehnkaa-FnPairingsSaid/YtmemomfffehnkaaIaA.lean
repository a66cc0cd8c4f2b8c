import Derived.Test.YtmemomfffehnkaaKG
namespace Go.Proofs.Ytmemomfffehnkaa
open Go Go.RowKit
set_option maxRecDepth 1000000
set_option linter.unusedSimpArgs false
set_option linter.unusedVariables false
set_option maxHeartbeats 1000000
theorem lst_nat (q : Nat → Prop) (k : Nat) : (∀ i, i < k → ¬ q i) ∨ ∃ m, m < k ∧ q m ∧ ∀ i, i < m → ¬ q i := by
  induction k with
  | zero => exact .inl fun i hi => by omega
  | succ k ih =>
    rcases ih with h | ⟨m, a, b, c⟩
    · by_cases hq : q k
      · exact .inr ⟨k, by omega, hq, h⟩
      · refine .inl fun i hi => ?_
        rcases Nat.lt_succ_iff_lt_or_eq.1 hi with h1 | rfl
        · exact h i h1
        · exact hq
    · exact .inr ⟨m, by omega, b, c⟩
/-- A list that D likes begins so. -/
def exD (D : List Int → Prop) (head : List Int) : Prop := ∃ t, D (head ++ t)
theorem exD_of {D : List Int → Prop} {head : List Int} (s : Int) (h : exD D (head ++ [s])) : exD D head := by
  obtain ⟨t, ht⟩ := h
  exact ⟨s :: t, by simpa using ht⟩
/-- The least next number with which it goes on. -/
theorem nx_ex (D : List Int → Prop) (head : List Int) : ∃ s : Int, (∃ u, isS u ∧ exD D (head ++ [u])) → isS s ∧ exD D (head ++ [s]) ∧ ∀ u, isS u → u < s → ¬ exD D (head ++ [u]) := by
  rcases lst_nat (fun i => exD D (head ++ [(i : Int)])) 64 with h | ⟨m, a, b, c⟩
  · refine ⟨0, fun ⟨u, hu, he⟩ => ?_⟩
    have h1 := hu.1
    have h2 := hu.2
    exact absurd (by rw [Int.toNat_of_nonneg h1]; exact he) (h u.toNat (by omega))
  · refine ⟨m, fun _ => ⟨⟨by omega, by omega⟩, b, fun u hu hlt he => ?_⟩⟩
    have h1 := hu.1
    exact c u.toNat (by omega) (by rw [Int.toNat_of_nonneg h1]; exact he)
noncomputable def nxS (D : List Int → Prop) (head : List Int) : Int := Classical.choose (nx_ex D head)
theorem nxS_spec {D : List Int → Prop} {head : List Int} (h : ∃ u, isS u ∧ exD D (head ++ [u])) : isS (nxS D head) ∧ exD D (head ++ [nxS D head]) ∧ ∀ u, isS u → u < nxS D head → ¬ exD D (head ++ [u]) := Classical.choose_spec (nx_ex D head) h
theorem nxS_eq {D : List Int → Prop} {head : List Int} {s : Int} (hs : isS s) (he : exD D (head ++ [s])) (hm : ∀ u, isS u → u < s → ¬ exD D (head ++ [u])) : nxS D head = s := by
  obtain ⟨h1, h2, h3⟩ := nxS_spec ⟨s, hs, he⟩
  rcases Int.lt_trichotomy (nxS D head) s with h | h | h
  · exact absurd h2 (hm _ h1 h)
  · exact h
  · exact absurd he (h3 s hs h)
/-- The first list that D likes with n more numbers. -/
noncomputable def exL (D : List Int → Prop) : Nat → List Int → List Int
  | 0, head => head
  | n + 1, head => exL D n (head ++ [nxS D head])
theorem exL_len (D : List Int → Prop) : ∀ (n : Nat) (head : List Int), (exL D n head).length = head.length + n
  | 0, head => rfl
  | n + 1, head => by rw [exL, exL_len D n, List.length_append]; simp; omega
theorem exL_step {D : List Int → Prop} {head : List Int} {s : Int} (n : Nat) (hs : isS s) (he : exD D (head ++ [s])) (hm : ∀ u, isS u → u < s → ¬ exD D (head ++ [u])) : exL D (n + 1) head = exL D n (head ++ [s]) := by
  rw [exL, nxS_eq hs he hm]
theorem nxt_lt {D : List Int → Prop} {head : List Int} {s : Nat} (h : ∀ u, isS u → u < (s : Int) → ¬ exD D (head ++ [u])) (hn : ¬ exD D (head ++ [(s : Int)])) : ∀ u, isS u → u < ((s + 1 : Nat) : Int) → ¬ exD D (head ++ [u]) := fun u hu hlt => by
  by_cases e : u = s
  · rw [e]; exact hn
  · exact h u hu (by omega)
theorem callable_of {P : Program} {lends : List FuncId} {f : FuncId} {x : Nat × SC × List (Nat × Option Nat)} (h : fnCode P lends f = some x) : Callable P f := by
  obtain ⟨nt, sc, rvs⟩ := x
  obtain ⟨fd, c, hf, hb, hname, _⟩ := fnCode_inv h
  exact ⟨fd, hf, by simp [hb], hname⟩
theorem foldE_of {k0 : Nat} {Q : Post} {e : Exit} {l l' : Tm} {s s' : Hp} (h : SubI k0 l s l' s') (hq : Q e l' s') : foldE k0 Q e l s := CutI.of h hq
theorem foldE_id {k0 : Nat} {Q : Post} {e : Exit} {l : Tm} {s : Hp} (hq : Q e l s) : foldE k0 Q e l s := CutI.of ⟨Sub.refl k0 l s⟩ hq
theorem cutI_id {k0 : Nat} {K : Tm → Hp → Prop} {l : Tm} {s : Hp} (hk : K l s) : CutI k0 K l s := CutI.of ⟨Sub.refl k0 l s⟩ hk
/-- A row of m families. -/
noncomputable def uRow (m : Nat) (R : Nat → Int → Prop) : List V := (List.range m).map fun j => V.int .u64 (fam (R j))
@[simp] theorem uRow_len (m : Nat) (R : Nat → Int → Prop) : (uRow m R).length = m := by simp [uRow]
theorem uRow_get {m : Nat} {R : Nat → Int → Prop} {k : Nat} (hk : k < m) (d : V) : (uRow m R)[k]?.getD d = .int .u64 (fam (R k)) := by simp [uRow, hk]
@[simp high] theorem uRow_getD {m : Nat} {R : Nat → Int → Prop} {k : Nat} (hk : k < m) (d : V) : (uRow m R).getD k d = .int .u64 (fam (R k)) := by
  rw [List.getD_eq_getElem?_getD, uRow_get hk]
theorem uRow_congr {m : Nat} {R S : Nat → Int → Prop} (h : ∀ j, j < m → ∀ t, isS t → (R j t ↔ S j t)) : uRow m R = uRow m S := by
  apply List.ext_getElem (by simp)
  intro j h1 h2
  simp only [uRow_len] at h2
  simp [uRow, fam_congr (h j h2)]
theorem uRow_set {m : Nat} {R : Nat → Int → Prop} {k : Nat} {P : Int → Prop} : (uRow m R).set k (.int .u64 (fam P)) = uRow m fun j => if j = k then P else R j := by
  apply List.ext_getElem (by simp)
  intro j h1 h2
  simp only [uRow_len] at h2
  rw [List.getElem_set]
  split
  · rename_i e; subst e; simp [uRow]
  · rename_i e
    have : ¬ j = k := fun h => e h.symm
    simp [uRow, this]
theorem uRow_none (m : Nat) : List.replicate m (V.int .u64 0) = uRow m fun _ _ => False := by
  show _ = (List.range m).map fun _ => V.int .u64 (fam fun _ => False)
  rw [fam_none, List.map_const', List.length_range]
@[simp] theorem uRow_cell (m : Nat) (R : Nat → Int → Prop) : (uRow m R).all V.cell = true := by simp [uRow, V.cell]
@[simp] theorem uRow_nm (j m : Nat) (R : Nat → Int → Prop) : (uRow m R).all (nonm (j + 1)) = true := by simp [uRow]
@[simp] theorem uRow_ren (r : Nat → Option Nat) (m : Nat) (R : Nat → Int → Prop) : renL r (uRow m R) = some (uRow m R) := by
  unfold uRow
  generalize List.range m = l
  induction l with
  | nil => rfl
  | cons a l ih => simp [renL, ren1, ih]
end Go.Proofs.Ytmemomfffehnkaa
