import Derived.Test.YtmemomfffehnkaaLnF
import Derived.Test.YtmemomfffehnkaaPpR
import Derived.Test.YtmemomfffehnkaaEuA
import Derived.Test.YtmemomfffehnkaaGbA
import Derived.Test.YtmemomfffehnkaaFnW
import Derived.Test.YtmemomfffehnkaaBtA
namespace Go.Proofs.Ytmemomfffehnkaa
open Go Go.RowKit
set_option maxRecDepth 1000000
set_option linter.unusedSimpArgs false
set_option linter.unusedVariables false
set_option maxHeartbeats 1000000
/-- A list with one set more. -/
theorem sumL_one {C C' : List Int} {t : Int} (hC : C.Nodup ∧ allS C) (hC' : C'.Nodup ∧ allS C') (ht : isS t) (h : ∀ u, u ∈ C ↔ u ∈ C' ∨ u = t) (hn : t ∉ C') (w : Int → Int) : sumL C w = sumL C' w + w t := by
  have := sumL_split (F := C) (N := C') (U := [t]) hC hC' ⟨by simp, fun x hx => by rw [List.mem_singleton.1 hx]; exact ht⟩ (fun s => by rw [h s, List.mem_singleton]) (fun s h1 h2 => hn (List.mem_singleton.1 h2 ▸ h1)) w
  rw [this, sumL_cons, sumL_nil, Int.add_zero]
theorem len_one {C C' : List Int} {t : Int} (hC : C.Nodup ∧ allS C) (hC' : C'.Nodup ∧ allS C') (ht : isS t) (h : ∀ u, u ∈ C ↔ u ∈ C' ∨ u = t) (hn : t ∉ C') : (C.length : Int) = C'.length + 1 := by
  have := sumL_one hC hC' ht h hn fun _ => 1
  rwa [sumL_len, sumL_len] at this
structure colI (q q' : Int → Prop) (s t : Int) : Prop where
  hs : isS s
  ht : isS t
  qs : q s
  qt : q t
  hst : subS s t
  hz : sz t = sz s + 1
  only : ∀ u, isS u → q u → subS s u → u = s ∨ u = t
  q' : ∀ u, isS u → (q' u ↔ q u ∧ ¬ subS s u)
  dn : ∀ a b, isS a → isS b → subS a b → q b → q a
theorem sz_ne {s t : Int} (h : sz t = sz s + 1) : s ≠ t := fun e => by rw [e] at h; omega
section col
variable {q q' : Int → Prop} {s t : Int} (h : colI q q' s t)
include h
theorem colI.top {u : Int} (hu : isS u) (hq : q u) (hsub : subS t u) : u = t := by
  rcases h.only u hu hq (subS_trans h.hs h.ht hu h.hst hsub) with e | e
  · have := subS_le h.ht hu hsub
    have h2 := subS_le h.hs h.ht h.hst
    exact absurd (show s = t by omega) (sz_ne h.hz)
  · exact e
theorem colI.q2 {u : Int} (hu : isS u) : q' u ↔ q u ∧ u ≠ s ∧ u ≠ t := by
  rw [h.q' u hu]
  constructor
  · rintro ⟨a, b⟩
    exact ⟨a, fun e => b (by rw [e]; exact subS_refl h.hs), fun e => b (by rw [e]; exact h.hst)⟩
  · rintro ⟨a, b, c⟩
    exact ⟨a, fun hh => (h.only u hu a hh).elim b c⟩
theorem colI.same {z : Int} (h1 : z ≠ sz s) (h2 : z ≠ sz s + 1) : szS q' z = szS q z := by
  refine setsOf_congr fun u hu => ?_
  rw [h.q2 hu]
  constructor
  · rintro ⟨⟨a, _⟩, b⟩; exact ⟨a, b⟩
  · rintro ⟨a, b⟩
    exact ⟨⟨a, fun e => h1 (by rw [← b, e]), fun e => h2 (by rw [← b, e, h.hz])⟩, b⟩
theorem colI.low (u : Int) : u ∈ szS q (sz s) ↔ u ∈ szS q' (sz s) ∨ u = s := by
  rw [mem_szS, mem_szS]
  constructor
  · rintro ⟨a, b, c⟩
    by_cases e : u = s
    · exact .inr e
    · exact .inl ⟨a, (h.q2 a).2 ⟨b, e, fun e2 => by rw [e2, h.hz] at c; omega⟩, c⟩
  · rintro (⟨a, b, c⟩ | rfl)
    · exact ⟨a, ((h.q2 a).1 b).1, c⟩
    · exact ⟨h.hs, h.qs, rfl⟩
theorem colI.high (u : Int) : u ∈ szS q (sz s + 1) ↔ u ∈ szS q' (sz s + 1) ∨ u = t := by
  rw [mem_szS, mem_szS]
  constructor
  · rintro ⟨a, b, c⟩
    by_cases e : u = t
    · exact .inr e
    · exact .inl ⟨a, (h.q2 a).2 ⟨b, fun e2 => by rw [e2] at c; omega, e⟩, c⟩
  · rintro (⟨a, b, c⟩ | rfl)
    · exact ⟨a, ((h.q2 a).1 b).1, c⟩
    · exact ⟨h.ht, h.qt, h.hz⟩
theorem colI.nlow : s ∉ szS q' (sz s) := fun hh => ((h.q2 h.hs).1 (mem_szS.1 hh).2.1).2.1 rfl
theorem colI.nhigh : t ∉ szS q' (sz s + 1) := fun hh => ((h.q2 h.ht).1 (mem_szS.1 hh).2.1).2.2 rfl
omit h in
theorem szS_ok2 (q : Int → Prop) (z : Int) : (szS q z).Nodup ∧ allS (szS q z) := ⟨setsOf_nodup _, allS_setsOf _⟩
theorem colI.len_low : ((szS q (sz s)).length : Int) = (szS q' (sz s)).length + 1 := len_one (szS_ok2 _ _) (szS_ok2 _ _) h.hs h.low h.nlow
theorem colI.len_high : ((szS q (sz s + 1)).length : Int) = (szS q' (sz s + 1)).length + 1 := len_one (szS_ok2 _ _) (szS_ok2 _ _) h.ht h.high h.nhigh
variable {p : Int} (hp : fpP p)
include hp
/-- Above both sets nothing changes. -/
theorem colI.rk_up : rkZ p q' (sz s + 2) = rkZ p q (sz s + 2) := by
  have eC : szS q' (sz s + 2) = szS q (sz s + 2) := h.same (by omega) (by omega)
  have e1 : sz s + 2 - 1 = sz s + 1 := by omega
  rw [rkZ_M, rkZ_M, eC, e1]
  have hz : ∀ u ∈ szS q (sz s + 2), sgnZ t u = 0 := fun u hu => by
    obtain ⟨a, b, c⟩ := mem_szS.1 hu
    refine sgnZ_no fun hh => ?_
    have := h.top a b hh
    rw [this, h.hz] at c
    omega
  have k1 := ker_sets (p := p) (R := szS q (sz s + 1)) (C := szS q (sz s + 2)) (R' := szS q' (sz s + 1)) (C' := szS q (sz s + 2)) hp (setsOf_nodup _) (setsOf_nodup _) (fun X _ hX r hr => hX r ((h.high r).2 (.inl hr))) (fun X _ _ hz => hz)
  have k2 := ker_sets (p := p) (R := szS q' (sz s + 1)) (C := szS q (sz s + 2)) (R' := szS q (sz s + 1)) (C' := szS q (sz s + 2)) hp (setsOf_nodup _) (setsOf_nodup _) (fun X _ hX r hr => by
    rcases (h.high r).1 hr with hr | rfl
    · exact hX r hr
    · rw [sumL_congr (v := fun _ => 0) fun u hu => by rw [hz u hu, Int.zero_mul]]
      unfold sumL
      rw [sumN_zero fun _ _ => rfl]
      exact Int.dvd_zero p) (fun X _ _ hz => hz)
  omega
/-- Between the two sets the rank falls by one. -/
theorem colI.rk_mid : rkZ p q' (sz s + 1) = rkZ p q (sz s + 1) - 1 := by
  have e1 : sz s + 1 - 1 = sz s := by omega
  rw [rkZ_M, rkZ_M, e1]
  have hl := h.len_high
  have hsgn : ∀ u ∈ szS q' (sz s + 1), sgnZ s u = 0 := fun u hu => by
    obtain ⟨a, b, c⟩ := mem_szS.1 hu
    exact sgnZ_no fun hh => ((h.q' u a).1 b).2 hh
  have hsum : ∀ f : Int → Int, sumL (szS q (sz s + 1)) f = sumL (szS q' (sz s + 1)) f + f t := sumL_one (szS_ok2 _ _) (szS_ok2 _ _) h.ht h.high h.nhigh
  have hrow : ∀ X : Int → Int, sumL (szS q (sz s + 1)) (fun u => sgnZ s u * X u) = sgnZ s t * X t := fun X => by
    rw [hsum, sumL_congr (v := fun _ => 0) fun u hu => by rw [hsgn u hu, Int.zero_mul]]
    unfold sumL
    rw [sumN_zero fun _ _ => rfl, Int.zero_add]
  have k1 := ker_sets (p := p) (R := szS q (sz s)) (C := szS q (sz s + 1)) (R' := szS q' (sz s)) (C' := szS q' (sz s + 1)) hp (setsOf_nodup _) (setsOf_nodup _) (fun X _ hX r hr => by
    have h1 := hX s ((h.low s).2 (.inr rfl))
    rw [hrow] at h1
    have h2 : p ∣ X t := by
      rcases sgnZ_unit h.hst with e | e
      · rwa [e, Int.one_mul] at h1
      · rw [e, Int.neg_one_mul] at h1
        exact Int.dvd_neg.1 h1
    have h3 := hX r ((h.low r).2 (.inl hr))
    rw [hsum] at h3
    exact (Int.dvd_add_left (Int.dvd_mul_of_dvd_right h2)).1 h3) (fun X _ hX hz u hu => by
    rcases (h.high u).1 hu with hu | rfl
    · exact hz u hu
    · have h1 := hX s ((h.low s).2 (.inr rfl))
      rw [hrow] at h1
      rcases sgnZ_unit h.hst with e | e
      · rwa [e, Int.one_mul] at h1
      · rw [e, Int.neg_one_mul] at h1
        exact Int.dvd_neg.1 h1)
  have k2 := ker_sets (p := p) (R := szS q' (sz s)) (C := szS q' (sz s + 1)) (R' := szS q (sz s)) (C' := szS q (sz s + 1)) hp (setsOf_nodup _) (setsOf_nodup _) (fun X h0 hX r hr => by
    have ht0 : X t = 0 := h0 t h.nhigh
    rcases (h.low r).1 hr with hr | rfl
    · rw [hsum, ht0, Int.mul_zero, Int.add_zero]
      exact hX r hr
    · rw [hrow, ht0, Int.mul_zero]
      exact Int.dvd_zero p) (fun X _ _ hz u hu => hz u ((h.high u).2 (.inl hu)))
  omega
/-- Below both sets the rank stays. -/
theorem colI.rk_low : rkZ p q' (sz s) = rkZ p q (sz s) := by
  have eR : szS q' (sz s - 1) = szS q (sz s - 1) := h.same (by omega) (by omega)
  rw [rkZ_M, rkZ_M, eR]
  have hsum : ∀ f : Int → Int, sumL (szS q (sz s)) f = sumL (szS q' (sz s)) f + f s := sumL_one (szS_ok2 _ _) (szS_ok2 _ _) h.hs h.low h.nlow
  have unit : ∀ (C : List Int), C.Nodup ∧ allS C → ∀ u ∈ C, ∀ r, (sumL C fun v => sgnZ r v * bI (v = u)) = sgnZ r u := fun C hC u hu r => by
    obtain ⟨j, hj, rfl⟩ := getD_mem_iff.1 hu
    unfold sumL
    have : (sumN C.length fun k => sgnZ r (at0 C k) * bI (at0 C k = at0 C j)) = sumN C.length fun t => bI ((t : Int) = (j : Int)) * (fun u : Int => sgnZ r (at0 C u.toNat)) (t : Int) := sumN_congr fun t ht => by
      rw [Int.mul_comm]
      simp only [Int.toNat_natCast]
      congr 1
      refine bI_congr ⟨fun e => ?_, fun e => by rw [show t = j by omega]⟩
      rw [at0_eq ht, at0_eq hj] at e
      have := (List.getElem_inj hC.1).1 e
      omega
    rw [this, sumN_one (w := fun u : Int => sgnZ r (at0 C u.toNat)) (a := j), if_pos hj]
    simp
  have k1 := im_sets (p := p) (R := szS q (sz s - 1)) (C := szS q' (sz s)) (C' := szS q (sz s)) hp (setsOf_nodup _) fun u hu => ⟨fun v => bI (v = u), fun r _ => by
    rw [unit _ (szS_ok2 _ _) u ((h.low u).2 (.inl hu)) r, Int.sub_self]
    exact Int.dvd_zero p⟩
  have k2 := im_sets (p := p) (R := szS q (sz s - 1)) (C := szS q (sz s)) (C' := szS q' (sz s)) hp (setsOf_nodup _) fun u hu => by
    rcases (h.low u).1 hu with hu | rfl
    · exact ⟨fun v => bI (v = u), fun r _ => by
        rw [unit _ (szS_ok2 _ _) u hu r, Int.sub_self]
        exact Int.dvd_zero p⟩
    · refine ⟨fun v => -(sgnZ u t) * sgnZ v t, fun r hr => ?_⟩
      obtain ⟨a, b, c⟩ := mem_szS.1 hr
      have hd := dd_zero (q := q) h.dn a h.ht h.qt (by rw [h.hz]; omega)
      have e2 : sz r + 1 = sz u := by omega
      rw [e2, hsum] at hd
      have e3 : (sumL (szS q' (sz u)) fun v => sgnZ r v * (-(sgnZ u t) * sgnZ v t)) = -(sgnZ u t) * sumL (szS q' (sz u)) fun v => sgnZ r v * sgnZ v t := by
        unfold sumL
        rw [← sumN_mul]
        exact sumN_congr fun k _ => Int.mul_left_comm _ _ _
      rw [e3]
      have e4 : (sumL (szS q' (sz u)) fun v => sgnZ r v * sgnZ v t) = -(sgnZ r u * sgnZ u t) := by omega
      rw [e4]
      have e5 : -(sgnZ u t) * -(sgnZ r u * sgnZ u t) - sgnZ r u = 0 := by
        rcases sgnZ_unit h.hst with e | e <;> rw [e] <;> omega
      rw [e5]
      exact Int.dvd_zero p
  omega
omit hp in
theorem colI.rk_else {z : Int} (h1 : z ≠ sz s) (h2 : z ≠ sz s + 1) (h3 : z ≠ sz s + 2) : rkZ p q' z = rkZ p q z := by
  rw [rkZ_M, rkZ_M, h.same h1 h2, h.same (z := z - 1)]
  · omega
  · omega
/-- A collapse keeps the holes. -/
theorem colI.hol (k : Nat) : holV p q' k = holV p q k := by
  have l1 := h.len_low
  have l2 := h.len_high
  have r0 := h.rk_low hp
  have r1 := h.rk_mid hp
  have r2 := h.rk_up hp
  have hrest : ∀ z : Int, z ≠ sz s → z ≠ sz s + 1 → ((szS q' z).length : Int) = (szS q z).length := fun z a b => by rw [h.same a b]
  have hrk : ∀ z : Int, z ≠ sz s → z ≠ sz s + 1 → z ≠ sz s + 2 → rkZ p q' z = rkZ p q z := fun z a b c => h.rk_else a b c
  unfold holV
  by_cases e0 : (k : Int) = sz s
  · rw [e0, r0, r1]; omega
  · by_cases e1 : (k : Int) = sz s + 1
    · rw [e1, r1, show sz s + 1 + 1 = sz s + 2 by omega, r2]; omega
    · rw [hrest k e0 e1]
      by_cases e2 : (k : Int) = sz s + 2
      · rw [e2, r2, hrk (sz s + 2 + 1) (by omega) (by omega) (by omega)]
      · rw [hrk k e0 e1 e2]
        by_cases e3 : (k : Int) + 1 = sz s
        · rw [e3, r0]
        · rw [hrk (k + 1) e3 (by omega) (by omega)]
end col
theorem rowF_sum (g : Nat → Int) : ∀ m, (rowF m g).sum = sumN m g
  | 0 => rfl
  | m + 1 => by
    have e : rowF (m + 1) g = rowF m g ++ [g m] := by simp [rowF, List.range_succ]
    rw [e, List.sum_append, rowF_sum g m, sumN]
    simp
theorem sumN_ext {f : Nat → Int} {m k : Nat} (hk : m ≤ k) (h : ∀ j, m ≤ j → j < k → f j = 0) : sumN k f = sumN m f := by
  induction k with
  | zero => rw [show m = 0 by omega]
  | succ k ih =>
    by_cases e : m = k + 1
    · rw [e]
    · rw [sumN, ih (by omega) fun j a b => h j a (by omega), h k (by omega) (by omega), Int.add_zero]
/-- The number of holes of a complex. -/
noncomputable def choZ (n : Int) (l : List Int) (p : Int) : Int := (hmL n l p).sum
theorem choZ_eq {n : Int} {l : List Int} {p : Int} (hc : cplx n l) (hp : fpP p) : choZ n l p = sumN 7 (holV p (faceS l)) := by
  have hL : hmL n l p = holL p (faceS l) := by
    unfold hmL
    rw [if_pos ⟨hc, hp⟩]
  have htb := topZ_bnd (faceS l)
  unfold choZ
  rw [hL]
  unfold holL
  rw [rowF_sum, sumN_ext (m := (topZ (faceS l) + 1).toNat) (k := 7) (by omega)]
  intro j h1 h2
  have e : szS (faceS l) (j : Int) = [] := szS_none (by omega)
  unfold holV
  rw [e, rkZ_high p (faceS l) (by omega), rkZ_high p (faceS l) (by omega)]
  rfl
/-- The step of a collapse. -/
theorem col_step {n : Int} {l : List Int} (hc : cplx n l) {s t : Int} (hs : isS s) (hf : faceS l s) (hfr : freeOf (faceS l) s t) : colI (faceS l) (faceS (delL l s)) s t := by
  have hS := cplx_isS hc
  obtain ⟨ht, ⟨h1, h2, h3⟩, h4⟩ := hfr
  have hex : ∃ i, i < 6 ∧ tb t i ∧ ¬ tb s i := Classical.byContradiction fun hn => h3 (tb_ext ht hs fun i hi => ⟨fun h => Classical.byContradiction fun hh => hn ⟨i, hi, h, hh⟩, fun h => (subS_tb hs ht).1 h2 i hi h⟩)
  obtain ⟨i, hi, hti, hsi⟩ := hex
  have hbS := isS_bor hs (isS_pow hi)
  have hbt : bor s (2 ^ i) = t := by
    refine h4 _ hbS ⟨faceS_sub hS hbS ht ((subS_tb hbS ht).2 fun j hj hh => ?_) h1, (subS_tb hs hbS).2 fun j hj hh => (bor_tb hs hi hj).2 (.inl hh), fun e => hsi (by rw [← e]; exact (bor_tb hs hi hi).2 (.inr rfl))⟩
    rcases (bor_tb hs hi hj).1 hh with hh | rfl
    · exact (subS_tb hs ht).1 h2 j hj hh
    · exact hti
  refine ⟨hs, ht, hf, h1, h2, by rw [← hbt]; exact sz_addP hs hi hsi, fun u hu hq hsub => ?_, fun u hu => delL_face hc hs hu, fun a b ha hb hab hq => faceS_sub hS ha hb hab hq⟩
  by_cases e : u = s
  · exact .inl e
  · exact .inr (h4 u hu ⟨hq, hsub, e⟩)
theorem col_sum {n : Int} {l : List Int} (hc : cplx n l) {s t : Int} (h : colI (faceS l) (faceS (delL l s)) s t) (w : Int → Int) : sumL (facesL n l) w = sumL (facesL n (delL l s)) w + (w s + w t) := by
  have hne := sz_ne h.hz
  have hc2 : cplx n (delL l s) := cplx_wto hc h.hs
  rw [facesL_of hc, facesL_of hc2]
  have := sumL_split (F := setsOf (faceS l)) (N := setsOf (faceS (delL l s))) (U := [s, t]) ⟨setsOf_nodup _, allS_setsOf _⟩ ⟨setsOf_nodup _, allS_setsOf _⟩ ⟨by simpa using hne, fun x hx => by
    simp only [List.mem_cons, List.not_mem_nil, or_false] at hx
    rcases hx with rfl | rfl
    · exact h.hs
    · exact h.ht⟩ (fun u => by
    rw [mem_setsOf, mem_setsOf]
    simp only [List.mem_cons, List.not_mem_nil, or_false]
    constructor
    · rintro ⟨a, b⟩
      by_cases e1 : u = s
      · exact .inr (.inl e1)
      · by_cases e2 : u = t
        · exact .inr (.inr e2)
        · exact .inl ⟨a, (h.q2 a).2 ⟨b, e1, e2⟩⟩
    · rintro (⟨a, b⟩ | rfl | rfl)
      · exact ⟨a, ((h.q2 a).1 b).1⟩
      · exact ⟨h.hs, h.qs⟩
      · exact ⟨h.ht, h.qt⟩) (fun u h1 h2 => by
    simp only [List.mem_cons, List.not_mem_nil, or_false] at h2
    obtain ⟨a, b⟩ := mem_setsOf.1 h1
    have := (h.q2 a).1 b
    rcases h2 with e | e
    · exact this.2.1 e
    · exact this.2.2 e) w
  rw [this, sumL_cons, sumL_cons, sumL_nil]
  omega
theorem col_len {n : Int} {l : List Int} (hc : cplx n l) {s t : Int} (h : colI (faceS l) (faceS (delL l s)) s t) : ((facesL n l).length : Int) = (facesL n (delL l s)).length + 2 := by
  have := col_sum hc h fun _ => 1
  rw [sumL_len, sumL_len] at this
  omega
theorem col_eul {n : Int} {l : List Int} (hc : cplx n l) {s t : Int} (h : colI (faceS l) (faceS (delL l s)) s t) : eulZ n (delL l s) = eulZ n l := by
  have := col_sum hc h sgE
  have hz := h.hz
  unfold eulZ
  have e : sgE s + sgE t = 0 := by unfold sgE; omega
  omega
theorem col_cho {n : Int} {l : List Int} (hc : cplx n l) {s t p : Int} (hp : fpP p) (h : colI (faceS l) (faceS (delL l s)) s t) : choZ n (delL l s) p = choZ n l p := by
  have hc2 : cplx n (delL l s) := cplx_wto hc h.hs
  rw [choZ_eq hc hp, choZ_eq hc2 hp]
  exact sumN_congr fun k _ => h.hol hp k
/-- What collapsing as far as possible keeps. -/
theorem caS_law {n : Int} : ∀ (k : Nat) (l st : List Int), cplx n l → (setsOf (faceS l)).length ≤ k →
    cplx n (caS n k l st).1 ∧ stuckP n (caS n k l st).1 ∧ eulZ n (caS n k l st).1 = eulZ n l ∧ (∀ p, fpP p → choZ n (caS n k l st).1 p = choZ n l p) ∧
    ((facesL n l).length : Int) - (facesL n (caS n k l st).1).length = 2 * (((caS n k l st).2.length : Int) - st.length)
  | 0, l, st, hc, hl => by
    refine ⟨hc, .inl (setsOf_nil.2 fun s hs h => ?_), rfl, fun _ _ => rfl, ?_⟩
    · have := List.length_pos_of_mem (mem_setsOf.2 ⟨hs, h.2.1⟩ : s ∈ setsOf (faceS l))
      omega
    · show ((facesL n l).length : Int) - (facesL n l).length = 2 * ((st.length : Int) - st.length)
      omega
  | k + 1, l, st, hc, hl => by
    by_cases hs : stuckP n l
    · rw [caS_stuck hs]
      exact ⟨hc, hs, rfl, fun _ _ => rfl, by show ((facesL n l).length : Int) - (facesL n l).length = 2 * ((st.length : Int) - st.length); omega⟩
    · obtain ⟨h1, h2, t, h3⟩ := lastF_spec hc hs
      have hcol := col_step hc h1 h2 h3
      have hd := delL_less hc h1 h2
      obtain ⟨a, b, c, d, e⟩ := caS_law k (delL l (lastF n l)) (st ++ [lastF n l]) (cplx_wto hc h1) (by omega)
      rw [caS_step hs]
      refine ⟨a, b, by rw [c, col_eul hc hcol], fun p hp => by rw [d p hp, col_cho hc hp hcol], ?_⟩
      have h4 := col_len hc hcol
      rw [List.length_append, List.length_singleton] at e
      omega
/-- A collapse can be undone. -/
theorem col_exp {n : Int} {l : List Int} {s t : Int} (hp : colP n l s) (hfr : freeOf (faceS l) s t) : canX n (colL n l s) s t ∧ colN n l s = n := by
  obtain ⟨hc, hs, hf, _⟩ := id hp
  have h := col_step hc hs hf hfr
  have e : colL n l s = delL l s := colL_yes hp
  rw [e]
  refine ⟨⟨cplx_wto hc hs, isSet_face' hc hs hf, isSet_face' hc h.ht h.qt, h.hst, by have := h.hz; omega, fun hh => ((h.q2 hs).1 hh).2.1 rfl, fun hh => ((h.q2 h.ht).1 hh).2.2 rfl, fun u hu hut => ?_⟩, colN_yes hp⟩
  by_cases hsu : subS s u
  · rcases h.only u hu (h.dn u t hu h.ht hut h.qt) hsu with e | e
    · exact .inl e
    · exact .inr (.inl e)
  · exact .inr (.inr ((h.q' u hu).2 ⟨h.dn u t hu h.ht hut h.qt, hsu⟩))
end Go.Proofs.Ytmemomfffehnkaa
