import Derived.Test.YtkbgmkkboiihnaaIcA
namespace Go.Proofs.Ytkbgmkkboiihnaa
open Go Go.RowKit
set_option maxRecDepth 1000000
set_option linter.unusedSimpArgs false
set_option linter.unusedVariables false
set_option maxHeartbeats 1000000
/-- A map with what stands in it. -/
theorem midx_app : ∀ (D : List (Int × Int)) (a v b : Int) (i : Nat), midx D a i = none → midx (D ++ [(a, v)]) b i = match midx D b i with | some p => some p | none => if b = a then some (i + D.length, v) else none := by
  intro D
  induction D with
  | nil => intro a v b i _; by_cases h : b = a <;> simp [midx, h]
  | cons p D ih =>
    obtain ⟨k, u⟩ := p
    intro a v b i h
    simp only [midx] at h
    split at h
    · cases h
    · simp only [List.cons_append, midx]
      by_cases hb : b = k
      · simp [hb]
      · rw [if_neg hb, if_neg hb, ih a v b (i + 1) h]
        simp [Nat.add_assoc, Nat.add_comm 1]
theorem midx_mod : ∀ (D : List (Int × Int)) (a v u b : Int) (i j : Nat), midx D a i = some (j, u) → midx (D.modify (j - i) fun _ => (a, v)) b i = match midx D b i with | some (m, w) => some (m, if b = a then v else w) | none => none := by
  intro D
  induction D with
  | nil => intro a v u b i j h; simp [midx] at h
  | cons p D ih =>
    obtain ⟨k, w⟩ := p
    intro a v u b i j h
    unfold midx at h
    split at h
    · rename_i e
      simp only [Option.some.injEq, Prod.mk.injEq] at h
      obtain ⟨rfl, rfl⟩ := h
      subst e
      rw [Nat.sub_self]
      simp only [List.modify_zero_cons, midx]
      by_cases hb : b = a
      · simp [hb]
      · rw [if_neg hb, if_neg hb]
        cases midx D b (i + 1) with
        | none => rfl
        | some q => simp [hb]
    · rename_i e
      have hj : i < j := by
        obtain ⟨m, h1, _⟩ := midx_at D a (i + 1) j u h
        omega
      have e2 : j - i = (j - (i + 1)) + 1 := by omega
      rw [e2, List.modify_succ_cons]
      simp only [midx]
      by_cases hb : b = k
      · have hba : ¬ b = a := fun h => e (by rw [← h, hb])
        simp [hb]
        intro h; exact absurd h.symm e
      · rw [if_neg hb, if_neg hb, ih a v u b (i + 1) j h]
theorem mget_mset (D : List (Int × Int)) (a v b : Int) : mget (mset D a v) b = if b = a then v else mget D b := by
  unfold mset
  cases h : midx D a 0 with
  | none =>
    simp only [mget]
    rw [midx_app D a v b 0 h]
    cases hb : midx D b 0 with
    | some p =>
      have : ¬ b = a := fun e => by rw [e, h] at hb; cases hb
      simp [this]
    | none => by_cases e : b = a <;> simp [e]
  | some p =>
    obtain ⟨j, u⟩ := p
    have hm := midx_mod D a v u b 0 j h
    rw [Nat.sub_zero] at hm
    simp only [mget]
    rw [hm]
    cases hb : midx D b 0 with
    | some p => obtain ⟨m, w⟩ := p; by_cases e : b = a <;> simp [e]
    | none =>
      have : ¬ b = a := fun e => by rw [e, h] at hb; cases hb
      simp [this]
theorem mget_nil (a : Int) : mget [] a = 0 := rfl

abbrev MM := List (Int × Int)
noncomputable def lnI (f : Int) (i : Nat) : Int := fam (lnkP (bitP f) (2 ^ i))
noncomputable def wtI (f : Int) (i : Nat) : Int := fam (wtoP (bitP f) (2 ^ i))
noncomputable def spW (W : Int → MM → Bool × MM) (f : Int) (i : Nat) (D : MM) : Bool × MM :=
  if dec (shedQ (bitP f) i) = true then (if (W (lnI f i) D).1 = true then W (wtI f i) (W (lnI f i) D).2 else (false, (W (lnI f i) D).2)) else (false, D)
noncomputable def goW (S : Nat → MM → Bool × MM) (f : Int) : Nat → Nat → MM → Bool × MM
  | 0, _, D => (false, D)
  | n + 1, i, D => if (S i D).1 = true then (true, mset (S i D).2 f 1) else goW S f n (i + 1) (S i D).2
/-- What the program finds, and what it has then written down. -/
noncomputable def wk : Nat → Int → MM → Bool × MM
  | 0, _, D => (true, D)
  | k + 1, f, D => if dec ((setsOf (maxP (bitP f))).length ≤ 1) = true then (true, D) else if dec (mget D f ≠ 0) = true then (dec (mget D f = 1), D) else goW (spW (wk k) f) f 6 0 (mset D f 2)

/-- What stands in the map is right, for families of fewer than m points. -/
def mInv (m : Nat) (D : MM) : Prop := ∀ p, dcl p → pts p < m → mget D (fam p) ≠ 0 → (mget D (fam p) = 1 ↔ finI p)
def mFr (m : Nat) (D D' : MM) : Prop := ∀ p, m ≤ pts p → mget D' (fam p) = mget D (fam p)
theorem mFr.trans {m : Nat} {a b c : MM} (h : mFr m a b) (k : mFr m b c) : mFr m a c := fun p hp => (k p hp).trans (h p hp)
theorem mInv_nil (m : Nat) : mInv m [] := fun p _ _ h => absurd (mget_nil _) h
def wkOk (W : Int → MM → Bool × MM) (k : Nat) : Prop := ∀ m p D, dcl p → pts p < m → m ≤ k → mInv m D → (W (fam p) D).1 = dec (finI p) ∧ mInv m (W (fam p) D).2 ∧ mFr m D (W (fam p) D).2
theorem lnI_fam {p : Int → Prop} {i : Nat} (hi : i < 6) : lnI (fam p) i = fam (lnkP p (2 ^ i)) := fam_congr fun t ht => lnkP_congr (fun s hs => bitP_fam hs) (isS_pow hi) ht
theorem wtI_fam {p : Int → Prop} {i : Nat} (hi : i < 6) : wtI (fam p) i = fam (wtoP p (2 ^ i)) := fam_congr fun t ht => wtoP_congr (fun s hs => bitP_fam hs) ht
theorem spW_ok {W : Int → MM → Bool × MM} {k : Nat} (hW : wkOk W k) {m : Nat} {p : Int → Prop} {D : MM} {i : Nat} (hi : i < 6) (hd : dcl p) (hp : pts p ≤ m) (hm : m ≤ k) (hI : mInv m D) :
    (spW W (fam p) i D).1 = dec (splQ p i) ∧ mInv m (spW W (fam p) i D).2 ∧ mFr m D (spW W (fam p) i D).2 := by
  unfold spW
  have e0 : dec (shedQ (bitP (fam p)) i) = dec (shedQ p i) := by
    rw [Bool.eq_iff_iff, dec_iff, dec_iff]
    exact shedQ_congr (fun s hs => bitP_fam hs) hi
  rw [e0, lnI_fam hi, wtI_fam hi]
  by_cases hs : shedQ p i
  · rw [dec_true hs]
    simp only [if_true]
    have hS := isS_pow hi
    have h1 := hW m _ D (dcl_lnk hd hS) (Nat.lt_of_lt_of_le (pts_lnk hd hi hs.1) hp) hm hI
    obtain ⟨a1, a2, a3⟩ := h1
    by_cases h2 : finI (lnkP p (2 ^ i))
    · rw [a1, dec_true h2]
      simp only [if_true]
      obtain ⟨b1, b2, b3⟩ := hW m _ (W (fam (lnkP p (2 ^ i))) D).2 (dcl_wto hd hS) (Nat.lt_of_lt_of_le (pts_wto hi hs.1) hp) hm a2
      refine ⟨?_, b2, a3.trans b3⟩
      rw [b1, Bool.eq_iff_iff, dec_iff, dec_iff]
      exact ⟨fun h => ⟨hs, h2, h⟩, fun h => h.2.2⟩
    · rw [a1, dec_false h2]
      simp only [Bool.false_eq_true, if_false]
      exact ⟨(dec_false fun h => h2 h.2.1).symm, a2, a3⟩
  · rw [dec_false hs]
    simp only [Bool.false_eq_true, if_false]
    exact ⟨(dec_false fun h => hs h.1).symm, hI, fun _ _ => rfl⟩
theorem goW_ok {S : Nat → MM → Bool × MM} {p : Int → Prop} {j : Nat} (hj : pts p = j) (hS : ∀ i D, i < 6 → mInv j D → (S i D).1 = dec (splQ p i) ∧ mInv j (S i D).2 ∧ mFr j D (S i D).2) :
    ∀ (n i : Nat) (D : MM), i + n = 6 → mInv j D → mget D (fam p) = 2 → ∃ r D', goW S (fam p) n i D = (r, D') ∧ (r = true ↔ ∃ x, i ≤ x ∧ x < 6 ∧ splQ p x) ∧ mInv j D' ∧ mget D' (fam p) = (if r = true then 1 else 2) ∧
      ∀ q, j ≤ pts q → fam q ≠ fam p → mget D' (fam q) = mget D (fam q) := by
  intro n
  induction n with
  | zero =>
    intro i D hi hI h2
    refine ⟨false, D, rfl, ⟨fun h => (by cases h), fun ⟨x, h1, h3, _⟩ => (by omega)⟩, hI, by simpa using h2, fun _ _ _ => rfl⟩
  | succ n ih =>
    intro i D hi hI h2
    obtain ⟨a1, a2, a3⟩ := hS i D (by omega) hI
    unfold goW
    by_cases hs : splQ p i
    · rw [a1, dec_true hs]
      simp only [if_true]
      refine ⟨true, _, rfl, ⟨fun _ => ⟨i, Nat.le_refl _, by omega, hs⟩, fun _ => rfl⟩, ?_, ?_, ?_⟩
      · intro q hq hp h0
        have hne : ¬ fam q = fam p := fun e => by
          have := pts_congr (fam_inj.1 e)
          omega
        rw [mget_mset, if_neg hne] at h0 ⊢
        exact a2 q hq hp h0
      · rw [mget_mset, if_pos rfl]; rfl
      · intro q hq hne
        rw [mget_mset, if_neg hne]
        exact a3 q hq
    · rw [a1, dec_false hs]
      simp only [Bool.false_eq_true, if_false]
      obtain ⟨r, D', b1, b2, b3, b4, b5⟩ := ih (i + 1) (S i D).2 (by omega) a2 (by rw [a3 p (by omega)]; exact h2)
      refine ⟨r, D', b1, b2.trans ⟨fun ⟨x, h1, h3⟩ => ⟨x, by omega, h3⟩, fun ⟨x, h1, h3, h4⟩ => ?_⟩, b3, b4, fun q hq hne => (b5 q hq hne).trans (a3 q hq)⟩
      by_cases e : x = i
      · subst e; exact absurd h4 hs
      · exact ⟨x, by omega, h3, h4⟩
theorem wk_ok : ∀ k, wkOk (wk k) k := by
  intro k
  induction k with
  | zero => intro m p D hd hp hm _; omega
  | succ k ih =>
    intro m p D hd hp hm hI
    unfold wk
    have e0 : setsOf (maxP (bitP (fam p))) = setsOf (maxP p) := setsOf_congr fun s hs => maxP_congr (fun s hs => bitP_fam hs) hs
    rw [e0]
    by_cases hl : (setsOf (maxP p)).length ≤ 1
    · rw [dec_true hl]
      simp only [if_true]
      exact ⟨(dec_true (finI_iff.2 (.inl hl))).symm, hI, fun _ _ => rfl⟩
    rw [dec_false hl]
    simp only [Bool.false_eq_true, if_false]
    by_cases h0 : mget D (fam p) = 0
    rotate_left
    · rw [dec_true h0]
      simp only [if_true]
      refine ⟨?_, hI, fun _ _ => rfl⟩
      rw [Bool.eq_iff_iff, dec_iff, dec_iff]
      exact hI p hd hp h0
    rw [dec_false fun h => h h0]
    simp only [Bool.false_eq_true, if_false]
    generalize hj : pts p = j
    have hI1 : mInv j (mset D (fam p) 2) := by
      intro q hq hqj hq0
      have hne : ¬ fam q = fam p := fun e => by
        have := pts_congr (fam_inj.1 e)
        omega
      rw [mget_mset, if_neg hne] at hq0 ⊢
      exact hI q hq (by omega) hq0
    obtain ⟨r, D', b1, b2, b3, b4, b5⟩ := goW_ok hj (fun i D hi hI => spW_ok ih hi hd (by omega) (by omega) hI) 6 0 _ rfl hI1 (by rw [mget_mset, if_pos rfl])
    rw [b1]
    have hr : r = dec (finI p) := by
      rw [Bool.eq_iff_iff, dec_iff, b2, finI_iff]
      exact ⟨fun ⟨x, _, h⟩ => .inr ⟨x, h⟩, fun h => h.elim (fun h => absurd h hl) fun ⟨x, h⟩ => ⟨x, Nat.zero_le _, h⟩⟩
    refine ⟨hr, ?_, ?_⟩
    · intro q hq hqm hq0
      by_cases e : fam q = fam p
      · have hc := finI_congr (fam_inj.1 e)
        rw [e, b4, hc, hr]
        by_cases hf : finI p
        · rw [dec_true hf]; simp [hf]
        · rw [dec_false hf]; simp [hf]
      · by_cases hqj : pts q < j
        · exact b3 q hq hqj hq0
        · have e2 := b5 q (by omega) e
          rw [mget_mset, if_neg e] at e2
          rw [e2] at hq0 ⊢
          exact hI q hq hqm hq0
    · intro q hq
      have hne : ¬ fam q = fam p := fun e => by
        have := pts_congr (fam_inj.1 e)
        omega
      have e2 := b5 q (by omega) hne
      rw [mget_mset, if_neg hne] at e2
      exact e2
end Go.Proofs.Ytkbgmkkboiihnaa
