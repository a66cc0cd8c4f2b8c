import Derived.Test.YtmemomfffehnkaaIsF
namespace Go.Proofs.Ytmemomfffehnkaa
open Go Go.RowKit
set_option maxRecDepth 1000000
set_option linter.unusedSimpArgs false
set_option linter.unusedVariables false
set_option maxHeartbeats 1000000
theorem cplx_sorted {n : Int} {l : List Int} (h : cplx n l) : l.Pairwise fun a b => before a b = true := by
  rw [List.pairwise_iff_getElem]
  intro i j hi hj hij
  have := cplx_before h hij hj
  rwa [at0_eq (by omega), at0_eq (by omega)] at this
/-- A complex lists its maximal faces in order. -/
theorem cplx_max {n : Int} {l : List Int} (h : cplx n l) : setsOf (maxP (faceS l)) = l := by
  have hS := cplx_isS h
  refine sorted_ext (setsOf_sorted _) (cplx_sorted h) fun x => ?_
  rw [mem_setsOf]
  constructor
  · rintro ⟨hx, ⟨f, hf, hs⟩, hm⟩
    have := hm f (hS f hf) ⟨f, hf, subS_refl (hS f hf)⟩ hs
    exact this ▸ hf
  · intro hx
    refine ⟨hS x hx, ⟨x, hx, subS_refl (hS x hx)⟩, ?_⟩
    rintro t ht ⟨f, hf, hs⟩ hxt
    have hxf := subS_trans (hS x hx) ht (hS f hf) hxt hs
    have e : x = f := Classical.byContradiction fun hne => cplx_apart h hx hf hne hxf
    subst e
    exact subS_anti ht (hS x hx) hs hxt
theorem max_above {p : Int → Prop} (k : Nat) : ∀ {s : Int}, isS s → p s → 7 ≤ sz s + k → ∃ t, isS t ∧ maxP p t ∧ subS s t := by
  induction k with
  | zero => intro s hs _ hk; have := sz_six hs; omega
  | succ k ih =>
    intro s hs hp hk
    by_cases h : maxP p s
    · exact ⟨s, hs, h, subS_refl hs⟩
    · obtain ⟨t, ht, hpt, hst, hne⟩ : ∃ t, isS t ∧ p t ∧ subS s t ∧ t ≠ s := Classical.byContradiction fun hn => h ⟨hp, fun t ht hpt hst => Classical.byContradiction fun hne => hn ⟨t, ht, hpt, hst, hne⟩⟩
      have := (sz_sub hs ht hst).2 (Ne.symm hne)
      obtain ⟨u, hu, hm, htu⟩ := ih ht hpt (by omega)
      exact ⟨u, hu, hm, subS_trans hs ht hu hst htu⟩
/-- The faces below the maximal sets of a family that is closed downwards. -/
theorem face_max {p : Int → Prop} (hd : ∀ s t, isS s → isS t → subS s t → p t → p s) {s : Int} (hs : isS s) : faceS (setsOf (maxP p)) s ↔ p s := by
  constructor
  · rintro ⟨f, hf, h⟩
    obtain ⟨h1, h2⟩ := mem_setsOf.1 hf
    exact hd s f hs h1 h h2.1
  · intro h
    obtain ⟨t, ht, hm, hst⟩ := max_above 7 hs h (by have := sz_nn s; omega)
    exact ⟨t, mem_setsOf.2 ⟨ht, hm⟩, hst⟩
theorem wto_down {l : List Int} (hl : allS l) {s : Int} (hs : isS s) : ∀ a b, isS a → isS b → subS a b → wtoP (faceS l) s b → wtoP (faceS l) s a :=
  fun a b ha hb hab h => ⟨faceS_sub hl ha hb hab h.1, fun h2 => h.2 (subS_trans hs ha hb h2 hab)⟩
theorem cplx_wto {n : Int} {l : List Int} (hc : cplx n l) {s : Int} (hs : isS s) : cplx n (setsOf (maxP (wtoP (faceS l) s))) := by
  obtain ⟨h1, h6, _⟩ := id hc
  have hso := setsOf_sorted (maxP (wtoP (faceS l) s))
  refine ⟨h1, h6, fun k hk => ?_⟩
  obtain ⟨hks, hkm⟩ := mem_setsOf.1 (getD_mem' hk)
  refine ⟨isSet_face' hc hks hkm.1.1, fun h0 => before_at hso (by omega) hk, fun i hi hb => ?_⟩
  obtain ⟨his, him⟩ := mem_setsOf.1 (getD_mem' (show i < _ from by omega : i < (setsOf (maxP (wtoP (faceS l) s))).length))
  have hsub : subS (at0 (setsOf (maxP (wtoP (faceS l) s))) i) (at0 (setsOf (maxP (wtoP (faceS l) s))) k) := (bnot_zero2 his hks).2 hb
  have e := him.2 _ hks hkm.1 hsub
  have hbf := before_at hso hi hk
  rw [e] at hbf
  simp only [before, decide_eq_true_eq] at hbf
  omega
/-- A complex without the faces that hold s. -/
noncomputable def delL (l : List Int) (s : Int) : List Int := setsOf (maxP (wtoP (faceS l) s))
theorem delL_face {n : Int} {l : List Int} (hc : cplx n l) {s : Int} (hs : isS s) {u : Int} (hu : isS u) : faceS (delL l s) u ↔ wtoP (faceS l) s u := face_max (wto_down (cplx_isS hc) hs) hu
theorem delL_less {n : Int} {l : List Int} (hc : cplx n l) {s : Int} (hs : isS s) (hf : faceS l s) : (setsOf (faceS (delL l s))).length < (setsOf (faceS l)).length := by
  have h1 : (s :: setsOf (faceS (delL l s))).Nodup := List.nodup_cons.2 ⟨fun h => ((delL_face hc hs hs).1 (mem_setsOf.1 h).2).2 (subS_refl hs), setsOf_nodup _⟩
  have h2 : (s :: setsOf (faceS (delL l s))).length ≤ (setsOf (faceS l)).length := sub_len h1 fun x hx => by
    rcases List.mem_cons.1 hx with rfl | hx
    · exact mem_setsOf.2 ⟨hs, hf⟩
    · obtain ⟨a, b⟩ := mem_setsOf.1 hx
      exact mem_setsOf.2 ⟨a, ((delL_face hc hs a).1 b).1⟩
  simp only [List.length_cons] at h2
  omega
end Go.Proofs.Ytmemomfffehnkaa
