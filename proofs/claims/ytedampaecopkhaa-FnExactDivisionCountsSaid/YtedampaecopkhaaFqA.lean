import Derived.Test.YtedampaecopkhaaFoN
import Derived.Test.YtedampaecopkhaaFoM
import Derived.Test.YtedampaecopkhaaFnS
namespace Go.Proofs.Ytedampaecopkhaa
open Go Go.RowKit
set_option maxRecDepth 1000000
set_option linter.unusedSimpArgs false
set_option linter.unusedVariables false
set_option maxHeartbeats 1000000
def sc_i_topSize_L0 : SC := (.seq (.seq (.reg [⟨(some 5), none, (.mov (.t 4))⟩, ⟨(some 6), none, (.bin false .lss (.t 5) (.c (.int .i64 64)))⟩]) (.cond (.t 6) .skip (.exit 0))) (.seq (.block 1 (.seq (.reg [⟨(some 9), none, (.mov (.t 0))⟩, ⟨(some 10), none, (.mov (.t 4))⟩, ⟨(some 11), none, (.call 78 [(.t 9), (.t 10)])⟩, ⟨(some 12), none, (.mov (.t 11))⟩, ⟨(some 13), (some (12, true)), (.mov (.t 4))⟩, ⟨(some 14), (some (12, true)), (.call 89 [(.t 13)])⟩, ⟨(some 15), (some (12, true)), (.mov (.t 3))⟩, ⟨(some 16), (some (12, true)), (.bin false .gtr (.t 14) (.t 15))⟩, ⟨(some 17), none, (.pick (.t 12) (.t 16) (.c (.bool false)))⟩]) (.cond (.t 17) (.reg [⟨(some 18), none, (.mov (.t 4))⟩, ⟨(some 19), none, (.call 89 [(.t 18)])⟩, ⟨(some 3), none, (.mov (.t 19))⟩]) .skip))) (.reg [⟨(some 7), none, (.mov (.t 4))⟩, ⟨(some 8), none, (.bin false .add (.t 7) (.c (.int .i64 1)))⟩, ⟨(some 4), none, (.mov (.t 8))⟩])))
def sc_i_topSize : SC := (.seq (.reg [⟨(some 2), none, (.mov (.c (.int .i64 0)))⟩]) (.seq (.reg [⟨(some 3), none, (.mov (.c (.int .i64 (-1))))⟩]) (.seq (.seq (.reg [⟨(some 4), none, (.mov (.c (.int .i64 0)))⟩]) (.block 0 (.loop sc_i_topSize_L0))) (.seq (.reg [⟨(some 20), none, (.mov (.t 3))⟩, ⟨(some 2), none, (.mov (.t 20))⟩]) .ret))))
theorem code_i_topSize : fnCode Try.prog [] 93 = some (21, sc_i_topSize, [(2, none)]) := by kernel_rfl
open Classical in
/-- The greatest size of a set below k with a property; -1 if there is none. -/
noncomputable def topF (p : Int → Prop) : Nat → Int
  | 0 => -1
  | k + 1 => if p (k : Int) ∧ topF p k < sz (k : Int) then sz (k : Int) else topF p k
theorem topF_pos {p : Int → Prop} {k : Nat} (h : p (k : Int)) (h2 : topF p k < sz (k : Int)) : topF p (k + 1) = sz (k : Int) := by simp only [topF, if_pos (show p (k : Int) ∧ topF p k < sz (k : Int) from ⟨h, h2⟩)]
theorem topF_neg {p : Int → Prop} {k : Nat} (h : ¬ (p (k : Int) ∧ topF p k < sz (k : Int))) : topF p (k + 1) = topF p k := by simp only [topF, if_neg h]
theorem topF_bnd (p : Int → Prop) : ∀ k, k ≤ 64 → -1 ≤ topF p k ∧ topF p k ≤ 6
  | 0, _ => by simp [topF]
  | k + 1, h => by
    have ih := topF_bnd p k (by omega)
    have := sz_six (inS k (by omega))
    have := sz_nn (k : Int)
    by_cases hc : p (k : Int) ∧ topF p k < sz (k : Int)
    · rw [topF_pos hc.1 hc.2]; omega
    · rw [topF_neg hc]; exact ih
theorem topF_ge {p : Int → Prop} : ∀ {k : Nat} {s : Int}, 0 ≤ s → s < k → p s → sz s ≤ topF p k
  | 0, s, h0, h, _ => by omega
  | k + 1, s, h0, h, hp => by
    by_cases e : s = (k : Int)
    · subst e
      by_cases hc : p (k : Int) ∧ topF p k < sz (k : Int)
      · rw [topF_pos hc.1 hc.2]; omega
      · rw [topF_neg hc]
        have : ¬ (topF p k < sz (k : Int)) := fun h => hc ⟨hp, h⟩
        omega
    · have ih := topF_ge (k := k) h0 (by omega) hp
      by_cases hc : p (k : Int) ∧ topF p k < sz (k : Int)
      · rw [topF_pos hc.1 hc.2]; omega
      · rw [topF_neg hc]; exact ih
theorem topF_hit {p : Int → Prop} : ∀ {k : Nat}, topF p k = -1 ∨ ∃ s : Int, 0 ≤ s ∧ s < k ∧ p s ∧ sz s = topF p k
  | 0 => .inl rfl
  | k + 1 => by
    by_cases hc : p (k : Int) ∧ topF p k < sz (k : Int)
    · rw [topF_pos hc.1 hc.2]
      exact .inr ⟨k, by omega, by omega, hc.1, rfl⟩
    · rw [topF_neg hc]
      rcases topF_hit (p := p) (k := k) with h | ⟨s, a, b, c, d⟩
      · exact .inl h
      · exact .inr ⟨s, a, by omega, c, d⟩
theorem topF_congr {p q : Int → Prop} (h : ∀ s, isS s → (p s ↔ q s)) : ∀ {k : Nat}, k ≤ 64 → topF p k = topF q k
  | 0, _ => rfl
  | k + 1, hk => by
    have ih := topF_congr h (k := k) (by omega)
    have e := h k (inS k (by omega))
    by_cases hc : p (k : Int) ∧ topF p k < sz (k : Int)
    · rw [topF_pos hc.1 hc.2, topF_pos (e.1 hc.1) (by rw [← ih]; exact hc.2)]
    · rw [topF_neg hc, topF_neg fun hq => hc ⟨e.2 hq.1, by rw [ih]; exact hq.2⟩, ih]
theorem topZ_ex (p : Int → Prop) : ∃ m : Int, m = topF p 64 := ⟨_, rfl⟩
noncomputable def topZ (p : Int → Prop) : Int := Classical.choose (topZ_ex p)
theorem topZ_eq (p : Int → Prop) : topZ p = topF p 64 := Classical.choose_spec (topZ_ex p)
theorem topZ_bnd (p : Int → Prop) : -1 ≤ topZ p ∧ topZ p ≤ 6 := by rw [topZ_eq]; exact topF_bnd p 64 (Nat.le_refl _)
theorem topZ_ge {p : Int → Prop} {s : Int} (hs : isS s) (hp : p s) : sz s ≤ topZ p := by rw [topZ_eq]; exact topF_ge hs.1 hs.2 hp
theorem topZ_hit (p : Int → Prop) : topZ p = -1 ∨ ∃ s, isS s ∧ p s ∧ sz s = topZ p := by
  rw [topZ_eq]
  rcases topF_hit (p := p) (k := 64) with h | ⟨s, a, b, c, d⟩
  · exact .inl h
  · exact .inr ⟨s, ⟨a, b⟩, c, d⟩
theorem topZ_congr {p q : Int → Prop} (h : ∀ s, isS s → (p s ↔ q s)) : topZ p = topZ q := by rw [topZ_eq, topZ_eq, topF_congr h (Nat.le_refl _)]
noncomputable def topG (f : Int) : Option V := @ite _ (0 ≤ f ∧ f < 18446744073709551616) (Classical.propDecidable _) (some (.int .i64 (topZ (bitP f)))) none
theorem topG_fam (p : Int → Prop) : topG (fam p) = some (.int .i64 (topZ p)) := by
  unfold topG
  rw [if_pos ⟨fam_nn p, fam_lt p⟩, topZ_congr fun s hs => bitP_fam hs]
noncomputable def F_i_topSize : List V → Option V := F1 dU topG
theorem fn_i_topSize : FnOk Try.prog 93 F_i_topSize := by
  have env := ((envNil_ok (P := Try.prog)).add fn_i_SizeOf).add fn_i_hasSet
  refine fn_ok code_i_topSize mixed env ?_
  intro args r h hb
  obtain ⟨_, f, rfl, h1, h4⟩ := F1_inv h
  cases dU_inv h1
  clear h
  simp only [topG, Option.ite_none_right_eq_some, Option.some.injEq] at h4
  obtain ⟨⟨hf1, hf2⟩, rfl⟩ := h4
  have hf := fam_bitP hf1 hf2
  generalize bitP f = p at *
  subst hf
  refine ⟨by simp, fun w0 U0 L0 N0 => ?_⟩
  simp -implicitDefEqProofs [sc_i_topSize]
  refine loopI env mixed (fun k : Nat => [(0, .int .u64 (fam p)), (3, .int .i64 (topF p k)), (4, .int .i64 (k : Int))]) (fun _ => ([], 0)) (fun k => k ≤ 64) (fun k => 64 - k) 0 (by simp) (SubI.slots rfl (by simp [topF])) ?_
  intro k hk
  by_cases hlt : k < 64
  · have hlt' : (k : Int) < 64 := by omega
    have hkS := inS k hlt
    have hg := hasG_fam (p := p) hkS
    have r1 := sizeOf1_set hkS.1 hkS.2
    by_cases hp : p (k : Int)
    · rw [dec_true hp] at hg
      by_cases h2 : topF p k < sz (k : Int)
      · have e := topF_pos hp h2
        simp -implicitDefEqProofs [sc_i_topSize_L0, F_i_hasSet, F_i_SizeOf, hlt', hg, r1, h2]
        repeat' (first | omega | apply And.intro)
        exact Again.of (k + 1) (by omega) (by omega) (SubI.slots rfl (by simp (disch := omega) [wrapI, e]))
      · have e := topF_neg (p := p) (k := k) fun h => h2 h.2
        simp -implicitDefEqProofs [sc_i_topSize_L0, F_i_hasSet, F_i_SizeOf, hlt', hg, r1, h2]
        repeat' (first | omega | apply And.intro)
        exact Again.of (k + 1) (by omega) (by omega) (SubI.slots rfl (by simp (disch := omega) [wrapI, e]))
    · rw [dec_false hp] at hg
      have e := topF_neg (p := p) (k := k) fun h => hp h.1
      simp -implicitDefEqProofs [sc_i_topSize_L0, F_i_hasSet, hlt', hg]
      repeat' (first | omega | apply And.intro)
      exact Again.of (k + 1) (by omega) (by omega) (SubI.slots rfl (by simp (disch := omega) [wrapI, e]))
  · have : k = 64 := by omega
    subst this
    simp -implicitDefEqProofs [sc_i_topSize_L0, topZ_eq]
def sc_s_DimOf : SC := (.seq (.reg [⟨(some 1), none, (.box (.t 0))⟩, ⟨(some 2), none, (.mov (.c (.int .i64 0)))⟩]) (.seq (.seq (.reg [⟨(some 3), none, (.ld (some 2) .undef (.t 1))⟩, ⟨(some 4), none, (.call 56 [(.t 3)])⟩, ⟨(some 5), none, (.un .not (.t 4))⟩, ⟨(some 6), none, (.mov (.t 5))⟩, ⟨(some 7), (some (6, false)), (.fad 1 (.t 1))⟩, ⟨(some 8), (some (6, false)), (.ld none .nil (.t 7))⟩, ⟨(some 9), (some (6, false)), (.len (.t 8))⟩, ⟨(some 10), (some (6, false)), (.bin false .eql (.t 9) (.c (.int .i64 0)))⟩, ⟨(some 11), none, (.pick (.t 6) (.c (.bool true)) (.t 10))⟩]) (.cond (.t 11) (.seq (.reg [⟨(some 2), none, (.mov (.c (.int .i64 (-2))))⟩]) .ret) .skip)) (.seq (.reg [⟨(some 12), none, (.fad 1 (.t 1))⟩, ⟨(some 13), none, (.ld none .nil (.t 12))⟩, ⟨(some 14), none, (.fad 1 (.t 1))⟩, ⟨(some 15), none, (.ld none .nil (.t 14))⟩, ⟨(some 16), none, (.len (.t 15))⟩, ⟨(some 17), none, (.bin false .sub (.t 16) (.c (.int .i64 1)))⟩, ⟨(some 18), none, (.idx 1 (.t 13) (.t 17))⟩, ⟨(some 19), none, (.ld none (.int .i64 0) (.t 18))⟩, ⟨(some 20), none, (.call 83 [(.t 19)])⟩, ⟨(some 21), none, (.bin false .sub (.t 20) (.c (.int .i64 1)))⟩, ⟨(some 2), none, (.mov (.t 21))⟩]) .ret)))
theorem code_s_DimOf : fnCode Try.prog [] 80 = some (22, sc_s_DimOf, [(2, none)]) := by kernel_rfl
def sc_i_DimOf : SC := (.seq (.reg [⟨(some 1), none, (.box (.t 0))⟩, ⟨(some 2), none, (.mov (.c (.int .i64 0)))⟩]) (.seq (.seq (.reg [⟨(some 3), none, (.ld (some 2) .undef (.t 1))⟩, ⟨(some 4), none, (.call 57 [(.t 3)])⟩, ⟨(some 5), none, (.un .not (.t 4))⟩]) (.cond (.t 5) (.seq (.reg [⟨(some 2), none, (.mov (.c (.int .i64 (-2))))⟩]) .ret) .skip)) (.seq (.reg [⟨(some 6), none, (.ld (some 2) .undef (.t 1))⟩, ⟨(some 7), none, (.call 67 [(.t 6)])⟩, ⟨(some 8), none, (.call 93 [(.t 7)])⟩, ⟨(some 9), none, (.bin false .sub (.t 8) (.c (.int .i64 1)))⟩, ⟨(some 2), none, (.mov (.t 9))⟩]) .ret)))
theorem code_i_DimOf : fnCode Try.prog [] 96 = some (10, sc_i_DimOf, [(2, none)]) := by kernel_rfl
theorem topZ_facets {n : Int} {l : List Int} (h : cplx n l) (hne : l ≠ []) : topZ (faceS l) = sz (at0 l (l.length - 1)) := by
  have hpos := List.length_pos_iff.2 hne
  have hS := cplx_isS h
  have hl : l.length - 1 < l.length := by omega
  have h1 := topZ_ge (p := faceS l) (allS_at hS hl) ⟨_, getD_mem' hl, subS_refl (allS_at hS hl)⟩
  have h0 := sz_nn (at0 l (l.length - 1))
  rcases topZ_hit (faceS l) with h2 | ⟨s, hs, ⟨f, hf, hsf⟩, e⟩
  · omega
  · have h3 := (sz_sub hs (hS f hf) hsf).1
    obtain ⟨j, hj, rfl⟩ := getD_mem_iff.1 hf
    by_cases ej : j = l.length - 1
    · subst ej; omega
    · have hb := cplx_before h (show j < l.length - 1 by omega) hl
      simp only [before, decide_eq_true_eq] at hb
      omega
theorem topZ_nil : topZ (faceS []) = -1 := by
  rcases topZ_hit (faceS []) with h | ⟨s, _, ⟨f, hf, _⟩, _⟩
  · exact h
  · simp at hf
open Classical in
noncomputable def dimZ (n : Int) (l : List Int) : Int := if cplx n l then topZ (faceS l) - 1 else -2
noncomputable def F_s_DimOf : List V → Option V := F1 dC fun c => some (.int .i64 (dimZ c.1 c.2))
theorem fn_s_DimOf : FnOk Try.prog 80 F_s_DimOf := by
  have env := ((envNil_ok (P := Try.prog)).add fn_s_IsComplex).add fn_s_l2Size
  refine fn_ok code_s_DimOf mixed env ?_
  intro args r h hb
  obtain ⟨_, ⟨n, l⟩, rfl, h1, h4⟩ := F1_inv h
  cases dC_inv h1
  cases h4
  clear h
  have hlen := bnd_eC (hb _ (List.mem_cons_self ..))
  simp only at hlen
  refine ⟨by simp, fun w0 U0 L0 N0 => ?_⟩
  cases e0 : cplxB n l with
  | false =>
    have e : dimZ n l = -2 := by unfold dimZ; rw [if_neg fun h => by simp [cplxB_iff.2 h] at e0]
    simp -implicitDefEqProofs [sc_s_DimOf, F_s_IsComplex, e0, e]
  | true =>
    have hc := cplxB_iff.1 e0
    have hS := cplx_isS hc
    by_cases hne : l = []
    · subst hne
      have e : dimZ n [] = -2 := by unfold dimZ; rw [if_pos hc, topZ_nil]; omega
      simp -implicitDefEqProofs [sc_s_DimOf, F_s_IsComplex, e0, e]
    · have hpos := List.length_pos_iff.2 hne
      have hl : l.length - 1 < l.length := by omega
      have e : dimZ n l = sz (at0 l (l.length - 1)) - 1 := by unfold dimZ; rw [if_pos hc, topZ_facets hc hne]
      have hw : IntKind.i64.wrap ((l.length : Int) - 1) = ((l.length - 1 : Nat) : Int) := by rw [wrapI _ (by omega) (by omega)]; omega
      have hf := allS_at hS hl
      have r1 : at0 l (l.length - 1) < 9223372036854775808 := by have := hf.2; omega
      have h6 := sz_six hf
      have h0 := sz_nn (at0 l (l.length - 1))
      have hw2 : IntKind.i64.wrap (sz (at0 l (l.length - 1)) - 1) = sz (at0 l (l.length - 1)) - 1 := wrapI _ (by omega) (by omega)
      simp -implicitDefEqProofs [sc_s_DimOf, F_s_IsComplex, F_s_l2Size, e0, hne, e, hw, r1, hw2]
      try omega
theorem fn_i_DimOf : FnOk Try.prog 96 F_s_DimOf := by
  have env := (((envNil_ok (P := Try.prog)).add fn_i_IsComplex).add fn_i_facesIn).add fn_i_topSize
  refine fn_ok code_i_DimOf mixed env ?_
  intro args r h hb
  obtain ⟨_, ⟨n, l⟩, rfl, h1, h4⟩ := F1_inv h
  cases dC_inv h1
  cases h4
  clear h
  refine ⟨by simp, fun w0 U0 L0 N0 => ?_⟩
  cases e0 : cplxB n l with
  | false =>
    have e : dimZ n l = -2 := by unfold dimZ; rw [if_neg fun h => by simp [cplxB_iff.2 h] at e0]
    simp -implicitDefEqProofs [sc_i_DimOf, F_s_IsComplex, e0, e]
  | true =>
    have hc := cplxB_iff.1 e0
    have hS := cplx_isS hc
    have e : dimZ n l = topZ (faceS l) - 1 := by unfold dimZ; rw [if_pos hc]
    have hg := topG_fam (faceS l)
    have hb2 := topZ_bnd (faceS l)
    have hw : IntKind.i64.wrap (topZ (faceS l) - 1) = topZ (faceS l) - 1 := wrapI _ (by omega) (by omega)
    simp -implicitDefEqProofs [sc_i_DimOf, F_s_IsComplex, F_i_facesIn, F_i_topSize, e0, hS, hg, hw, e]
end Go.Proofs.Ytedampaecopkhaa
