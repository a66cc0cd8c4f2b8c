import Derived.Test.YtkbgmkkboiihnaaKL
namespace Go.Proofs.Ytkbgmkkboiihnaa
open Go Go.RowKit
set_option maxRecDepth 1000000
set_option linter.unusedSimpArgs false
set_option linter.unusedVariables false
set_option maxHeartbeats 1000000
theorem isSet_face' {n : Int} {l : List Int} (hc : cplx n l) {s : Int} (hs : isS s) (h : faceS l s) : isSet n s = true := by
  obtain ⟨f, hf, hsf⟩ := h
  obtain ⟨j, hj, rfl⟩ := getD_mem_iff.1 hf
  have h1 := (hc.2.2 j hj).1
  have h2 := subS_le hs (cplx_isS hc _ hf) hsf
  simp only [isSet, decide_eq_true_eq] at h1 ⊢
  exact ⟨h1.1, h1.2.1, hs.1, by omega⟩
theorem cplx_sorted {n : Int} {l : List Int} (h : cplx n l) : l.Pairwise fun a b => before a b = true := by
  rw [List.pairwise_iff_getElem]
  intro i j hi hj hij
  have := cplx_before h hij hj
  rwa [at0_eq (by omega), at0_eq (by omega)] at this
/-- A complex lists its maximal faces in order. -/
theorem cplx_max {n : Int} {l : List Int} (h : cplx n l) : setsOf (maxP (faceS l)) = l := by
  have hS := cplx_isS h
  refine sorted_ext (setsOf_sorted _) (cplx_sorted h) fun x => ?_
  rw [mem_setsOf]
  constructor
  · rintro ⟨hx, ⟨f, hf, hs⟩, hm⟩
    have := hm f (hS f hf) ⟨f, hf, subS_refl (hS f hf)⟩ hs
    exact this ▸ hf
  · intro hx
    refine ⟨hS x hx, ⟨x, hx, subS_refl (hS x hx)⟩, ?_⟩
    rintro t ht ⟨f, hf, hs⟩ hxt
    have hxf := subS_trans (hS x hx) ht (hS f hf) hxt hs
    have e : x = f := Classical.byContradiction fun hne => cplx_apart h hx hf hne hxf
    subst e
    exact subS_anti ht (hS x hx) hs hxt
theorem max_above {p : Int → Prop} (k : Nat) : ∀ {s : Int}, isS s → p s → 7 ≤ sz s + k → ∃ t, isS t ∧ maxP p t ∧ subS s t := by
  induction k with
  | zero => intro s hs _ hk; have := sz_six hs; omega
  | succ k ih =>
    intro s hs hp hk
    by_cases h : maxP p s
    · exact ⟨s, hs, h, subS_refl hs⟩
    · obtain ⟨t, ht, hpt, hst, hne⟩ : ∃ t, isS t ∧ p t ∧ subS s t ∧ t ≠ s := Classical.byContradiction fun hn => h ⟨hp, fun t ht hpt hst => Classical.byContradiction fun hne => hn ⟨t, ht, hpt, hst, hne⟩⟩
      have := (sz_sub hs ht hst).2 (Ne.symm hne)
      obtain ⟨u, hu, hm, htu⟩ := ih ht hpt (by omega)
      exact ⟨u, hu, hm, subS_trans hs ht hu hst htu⟩
/-- The faces below the maximal sets of a family that is closed downwards. -/
theorem face_max {p : Int → Prop} (hd : ∀ s t, isS s → isS t → subS s t → p t → p s) {s : Int} (hs : isS s) : faceS (setsOf (maxP p)) s ↔ p s := by
  constructor
  · rintro ⟨f, hf, h⟩
    obtain ⟨h1, h2⟩ := mem_setsOf.1 hf
    exact hd s f hs h1 h h2.1
  · intro h
    obtain ⟨t, ht, hm, hst⟩ := max_above 7 hs h (by have := sz_nn s; omega)
    exact ⟨t, mem_setsOf.2 ⟨ht, hm⟩, hst⟩
theorem wto_down {l : List Int} (hl : allS l) {s : Int} (hs : isS s) : ∀ a b, isS a → isS b → subS a b → wtoP (faceS l) s b → wtoP (faceS l) s a :=
  fun a b ha hb hab h => ⟨faceS_sub hl ha hb hab h.1, fun h2 => h.2 (subS_trans hs ha hb h2 hab)⟩
theorem cplx_wto {n : Int} {l : List Int} (hc : cplx n l) {s : Int} (hs : isS s) : cplx n (setsOf (maxP (wtoP (faceS l) s))) := by
  obtain ⟨h1, h6, _⟩ := id hc
  have hso := setsOf_sorted (maxP (wtoP (faceS l) s))
  refine ⟨h1, h6, fun k hk => ?_⟩
  obtain ⟨hks, hkm⟩ := mem_setsOf.1 (getD_mem' hk)
  refine ⟨isSet_face' hc hks hkm.1.1, fun h0 => before_at hso (by omega) hk, fun i hi hb => ?_⟩
  obtain ⟨his, him⟩ := mem_setsOf.1 (getD_mem' (show i < _ from by omega : i < (setsOf (maxP (wtoP (faceS l) s))).length))
  have hsub : subS (at0 (setsOf (maxP (wtoP (faceS l) s))) i) (at0 (setsOf (maxP (wtoP (faceS l) s))) k) := (bnot_zero2 his hks).2 hb
  have e := him.2 _ hks hkm.1 hsub
  have hbf := before_at hso hi hk
  rw [e] at hbf
  simp only [before, decide_eq_true_eq] at hbf
  omega
/-- A complex without the faces that hold s. -/
noncomputable def delL (l : List Int) (s : Int) : List Int := setsOf (maxP (wtoP (faceS l) s))
theorem delL_face {n : Int} {l : List Int} (hc : cplx n l) {s : Int} (hs : isS s) {u : Int} (hu : isS u) : faceS (delL l s) u ↔ wtoP (faceS l) s u := face_max (wto_down (cplx_isS hc) hs) hu
theorem delL_less {n : Int} {l : List Int} (hc : cplx n l) {s : Int} (hs : isS s) (hf : faceS l s) : (setsOf (faceS (delL l s))).length < (setsOf (faceS l)).length := by
  have h1 : (s :: setsOf (faceS (delL l s))).Nodup := List.nodup_cons.2 ⟨fun h => ((delL_face hc hs hs).1 (mem_setsOf.1 h).2).2 (subS_refl hs), setsOf_nodup _⟩
  have h2 : (s :: setsOf (faceS (delL l s))).length ≤ (setsOf (faceS l)).length := sub_len h1 fun x hx => by
    rcases List.mem_cons.1 hx with rfl | hx
    · exact mem_setsOf.2 ⟨hs, hf⟩
    · obtain ⟨a, b⟩ := mem_setsOf.1 hx
      exact mem_setsOf.2 ⟨a, ((delL_face hc hs a).1 b).1⟩
  simp only [List.length_cons] at h2
  omega
/-- Closed downwards. -/
def dcl (p : Int → Prop) : Prop := ∀ s t, isS s → isS t → subS s t → p t → p s
theorem dcl_face {l : List Int} (hl : allS l) : dcl (faceS l) := fun s t hs ht h h2 => faceS_sub hl hs ht h h2
theorem dcl_wto {p : Int → Prop} (h : dcl p) {s : Int} (hs : isS s) : dcl (wtoP p s) := fun a b ha hb hab h2 => ⟨h a b ha hb hab h2.1, fun h3 => h2.2 (subS_trans hs ha hb h3 hab)⟩
theorem dcl_lnk {p : Int → Prop} (hd : dcl p) {s : Int} (hs : isS s) : dcl (lnkP p s) := by
  intro a b ha hb hab h
  obtain ⟨h1, h2⟩ := h
  have hab2 := (subS_tb ha hb).1 hab
  refine ⟨(band_none ha hs).2 fun i hi ht => (band_none hb hs).1 h1 i hi ⟨hab2 i hi ht.1, ht.2⟩, hd _ _ (isS_bor ha hs) (isS_bor hb hs) ?_ h2⟩
  rw [subS_tb (isS_bor ha hs) (isS_bor hb hs)]
  intro i hi h
  rcases (tb_bor ha hs hi).1 h with h | h
  · exact (tb_bor hb hs hi).2 (.inl (hab2 i hi h))
  · exact (tb_bor hb hs hi).2 (.inr h)
noncomputable def cn (p : Prop) : Nat := if dec p = true then 1 else 0
theorem cn_le {p q : Prop} (h : p → q) : cn p ≤ cn q := by
  unfold cn
  by_cases hp : p
  · rw [dec_true hp, dec_true (h hp)]; exact Nat.le_refl _
  · rw [dec_false hp]; simp
theorem cn_lt {p q : Prop} (hq : q) (hp : ¬ p) : cn p < cn q := by
  unfold cn
  rw [dec_true hq, dec_false hp]
  decide
theorem cn_one (p : Prop) : cn p ≤ 1 := by
  unfold cn
  split <;> omega
/-- The number of points. -/
noncomputable def pts (p : Int → Prop) : Nat := cn (p (2 ^ 0)) + cn (p (2 ^ 1)) + cn (p (2 ^ 2)) + cn (p (2 ^ 3)) + cn (p (2 ^ 4)) + cn (p (2 ^ 5))
theorem pts_six (p : Int → Prop) : pts p < 7 := by
  unfold pts
  have := cn_one (p (2 ^ 0))
  have := cn_one (p (2 ^ 1))
  have := cn_one (p (2 ^ 2))
  have := cn_one (p (2 ^ 3))
  have := cn_one (p (2 ^ 4))
  have := cn_one (p (2 ^ 5))
  omega
theorem pts_lt {p q : Int → Prop} (h : ∀ i : Nat, i < 6 → q (2 ^ i) → p (2 ^ i)) {i : Nat} (hi : i < 6) (hp : p (2 ^ i)) (hq : ¬ q (2 ^ i)) : pts q < pts p := by
  have a0 := cn_le (h 0 (by omega))
  have a1 := cn_le (h 1 (by omega))
  have a2 := cn_le (h 2 (by omega))
  have a3 := cn_le (h 3 (by omega))
  have a4 := cn_le (h 4 (by omega))
  have a5 := cn_le (h 5 (by omega))
  have hl := cn_lt hp hq
  unfold pts
  have : i = 0 ∨ i = 1 ∨ i = 2 ∨ i = 3 ∨ i = 4 ∨ i = 5 := by omega
  rcases this with rfl | rfl | rfl | rfl | rfl | rfl <;> omega
theorem pts_congr {p q : Int → Prop} (h : ∀ s, isS s → (p s ↔ q s)) : pts p = pts q := by
  have e : ∀ i : Nat, i < 6 → cn (p (2 ^ i)) = cn (q (2 ^ i)) := fun i hi => Nat.le_antisymm (cn_le (h _ (isS_pow hi)).1) (cn_le (h _ (isS_pow hi)).2)
  unfold pts
  rw [e 0 (by omega), e 1 (by omega), e 2 (by omega), e 3 (by omega), e 4 (by omega), e 5 (by omega)]
theorem pts_wto {p : Int → Prop} {i : Nat} (hi : i < 6) (hp : p (2 ^ i)) : pts (wtoP p (2 ^ i)) < pts p := pts_lt (fun _ _ h => h.1) hi hp fun h => h.2 (subS_refl (isS_pow hi))
theorem pts_lnk {p : Int → Prop} (hd : dcl p) {i : Nat} (hi : i < 6) (hp : p (2 ^ i)) : pts (lnkP p (2 ^ i)) < pts p := by
  have hs := isS_pow hi
  refine pts_lt (fun j hj h => hd _ _ (isS_pow hj) (isS_bor (isS_pow hj) hs) ((subS_tb (isS_pow hj) (isS_bor (isS_pow hj) hs)).2 fun k hk hb => (tb_bor (isS_pow hj) hs hk).2 (.inl hb)) h.2) hi hp fun h => ?_
  exact (band_none hs hs).1 h.1 i hi ⟨(tb_pow hi hi).2 rfl, (tb_pow hi hi).2 rfl⟩

/-- Points can be taken away until one facet is left. -/
inductive finI : (Int → Prop) → Prop
  | one (p : Int → Prop) (h : (setsOf (maxP p)).length ≤ 1) : finI p
  | split (p : Int → Prop) (i : Nat) (hi : i < 6) (hs : shedQ p i) (h1 : finI (lnkP p (2 ^ i))) (h2 : finI (wtoP p (2 ^ i))) : finI p
def splQ (p : Int → Prop) (i : Nat) : Prop := shedQ p i ∧ finI (lnkP p (2 ^ i)) ∧ finI (wtoP p (2 ^ i))
theorem finI_iff {p : Int → Prop} : finI p ↔ (setsOf (maxP p)).length ≤ 1 ∨ ∃ i : Nat, i < 6 ∧ splQ p i := by
  constructor
  · intro h
    cases h with
    | one _ h => exact .inl h
    | split _ i hi hs h1 h2 => exact .inr ⟨i, hi, hs, h1, h2⟩
  · rintro (h | ⟨i, hi, hs, h1, h2⟩)
    · exact .one p h
    · exact .split p i hi hs h1 h2
theorem finI_to {p : Int → Prop} (h : finI p) : ∀ {q : Int → Prop}, (∀ s, isS s → (p s ↔ q s)) → finI q := by
  induction h with
  | one p h => intro q e; exact .one q (by rw [← setsOf_congr fun s hs => maxP_congr e hs]; exact h)
  | split p i hi hs h1 h2 ih1 ih2 => intro q e; exact .split q i hi ((shedQ_congr e hi).1 hs) (ih1 fun t ht => lnkP_congr e (isS_pow hi) ht) (ih2 fun t ht => wtoP_congr e ht)
theorem finI_congr {p q : Int → Prop} (e : ∀ s, isS s → (p s ↔ q s)) : finI p ↔ finI q := ⟨fun h => finI_to h e, fun h => finI_to h fun s hs => (e s hs).symm⟩
theorem splQ_congr {p q : Int → Prop} (e : ∀ s, isS s → (p s ↔ q s)) {i : Nat} (hi : i < 6) : splQ p i ↔ splQ q i := by
  unfold splQ
  rw [shedQ_congr e hi, finI_congr fun t ht => lnkP_congr e (isS_pow hi) ht, finI_congr fun t ht => wtoP_congr e ht]

theorem cplx_part' {n : Int} {l : List Int} (hc : cplx n l) {q : Int → Prop} (h : ∀ s, isS s → q s → faceS l s) : cplx n (setsOf (maxP q)) := by
  obtain ⟨h1, h6, _⟩ := id hc
  have hso := setsOf_sorted (maxP q)
  refine ⟨h1, h6, fun k hk => ?_⟩
  obtain ⟨hks, hkm⟩ := mem_setsOf.1 (getD_mem' hk)
  refine ⟨isSet_face' hc hks (h _ hks hkm.1), fun h0 => before_at hso (by omega) hk, fun i hi hb => ?_⟩
  obtain ⟨his, him⟩ := mem_setsOf.1 (getD_mem' (show i < (setsOf (maxP q)).length by omega))
  have hsub : subS (at0 (setsOf (maxP q)) i) (at0 (setsOf (maxP q)) k) := (bnot_zero2 his hks).2 hb
  have e := him.2 _ hks hkm.1 hsub
  have hbf := before_at hso hi hk
  rw [e] at hbf
  simp only [before, decide_eq_true_eq] at hbf
  omega
/-- The facets of a link and of what is left. -/
noncomputable def lnF (l : List Int) (s : Int) : List Int := setsOf (maxP (lnkP (faceS l) s))
noncomputable def wtF (l : List Int) (s : Int) : List Int := setsOf (maxP (wtoP (faceS l) s))
theorem lnF_face {n : Int} {l : List Int} (hc : cplx n l) {s : Int} (hs : isS s) : ∀ u, isS u → (faceS (lnF l s) u ↔ lnkP (faceS l) s u) := fun u hu => face_max (dcl_lnk (dcl_face (cplx_isS hc)) hs) hu
theorem wtF_face {n : Int} {l : List Int} (hc : cplx n l) {s : Int} (hs : isS s) : ∀ u, isS u → (faceS (wtF l s) u ↔ wtoP (faceS l) s u) := fun u hu => face_max (dcl_wto (dcl_face (cplx_isS hc)) hs) hu
theorem cplx_lnF {n : Int} {l : List Int} (hc : cplx n l) {s : Int} (hs : isS s) : cplx n (lnF l s) := cplx_part' hc fun t ht h =>
  faceS_sub (cplx_isS hc) ht (isS_bor ht hs) ((subS_tb ht (isS_bor ht hs)).2 fun i hi h => (tb_bor ht hs hi).2 (.inl h)) h.2
theorem cplx_wtF {n : Int} {l : List Int} (hc : cplx n l) {s : Int} (hs : isS s) : cplx n (wtF l s) := cplx_part' hc fun t ht h => h.1
theorem fin_len {n : Int} {l : List Int} (hc : cplx n l) : (setsOf (maxP (faceS l))).length = l.length := by rw [cplx_max hc]
theorem face_pow {n : Int} {l : List Int} (hc : cplx n l) {i : Nat} (hi : i < 6) (h : faceS l (2 ^ i)) : (i : Int) < n := by
  have h1 := isSet_face' hc (isS_pow hi) h
  obtain ⟨hn1, hn6, _⟩ := hc
  simp only [isSet, decide_eq_true_eq] at h1
  have key : ∀ n : Nat, n < 7 → ∀ i : Nat, i < 6 → (2 : Int) ^ i < 2 ^ n → i < n := by decide
  have := key n.toNat (by omega) i hi h1.2.2.2
  omega
end Go.Proofs.Ytkbgmkkboiihnaa
