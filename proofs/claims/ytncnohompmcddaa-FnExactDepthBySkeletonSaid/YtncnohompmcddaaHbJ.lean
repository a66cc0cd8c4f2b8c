import Derived.Test.YtncnohompmcddaaHbA
namespace Go.Proofs.Ytncnohompmcddaa
open Go Go.RowKit
set_option maxRecDepth 1000000
set_option linter.unusedSimpArgs false
set_option linter.unusedVariables false
set_option maxHeartbeats 1000000
def sc_i_skeletonIn_1 : SC := (.seq (.reg [⟨(some 4), none, (.mov (.c (.bool false)))⟩]) (.seq (.dreg [⟨⟨(some 5), none, (.ld none (.int .u64 0) (.t 1))⟩, false, false⟩, ⟨⟨(some 6), none, (.mov (.t 0))⟩, false, false⟩, ⟨⟨(some 7), none, (.call 68 [(.t 5), (.t 6)])⟩, false, false⟩, ⟨⟨(some 8), none, (.mov (.t 7))⟩, false, false⟩, ⟨⟨(some 9), (some (8, true)), (.mov (.t 0))⟩, false, false⟩, ⟨⟨(some 10), (some (8, true)), (.call 47 [(.t 9)])⟩, false, false⟩, ⟨⟨(some 11), (some (8, true)), (.ld none (.int .i64 0) (.t 2))⟩, false, false⟩, ⟨⟨(some 12), (some (8, true)), (.bin false .leq (.t 10) (.t 11))⟩, false, false⟩, ⟨⟨(some 13), none, (.pick (.t 8) (.t 12) (.c (.bool false)))⟩, false, false⟩, ⟨⟨(some 4), none, (.mov (.t 13))⟩, false, false⟩]) .ret))
theorem code_i_skeletonIn_1 : fnCode Try.prog [] 93 = some (14, sc_i_skeletonIn_1, [(4, none)]) := by kernel_rfl
def sc_i_skeletonIn : SC := (.seq (.reg [⟨(some 2), none, (.box (.t 0))⟩, ⟨(some 3), none, (.box (.t 1))⟩, ⟨(some 4), none, (.mov (.c (.int .u64 0)))⟩]) (.seq (.reg [⟨(some 5), none, (.fn 93 [(.t 2), (.t 3)])⟩, ⟨(some 6), none, (.call 81 [(.c (.int .i64 6)), (.t 5)])⟩, ⟨(some 4), none, (.mov (.t 6))⟩]) .ret))
theorem code_i_skeletonIn : fnCode Try.prog [] 64 = some (7, sc_i_skeletonIn, [(4, none)]) := by kernel_rfl
/-- The members of at most k points. -/
def skP (q : Int → Prop) (k t : Int) : Prop := q t ∧ sz t ≤ k
theorem skP_congr {q q2 : Int → Prop} (h : ∀ s, isS s → (q s ↔ q2 s)) {k s : Int} (hs : isS s) : skP q k s ↔ skP q2 k s := by
  unfold skP
  rw [h s hs]
noncomputable def sklC : List V → Option V
  | [.int .i64 t, .rp [.int .u64 f], .rp [.int .i64 k]] => @ite _ (0 ≤ f ∧ f < 18446744073709551616 ∧ isS t) (Classical.propDecidable _) (some (.bool (dec (skP (bitP f) k t)))) none
  | _ => none
noncomputable def sklG (f k : Int) : Option V := @ite _ (0 ≤ f ∧ f < 18446744073709551616) (Classical.propDecidable _) (some (.int .u64 (fam (skP (bitP f) k)))) none
theorem sklG_fam (q : Int → Prop) (k : Int) : sklG (fam q) k = some (.int .u64 (fam (skP q k))) := by
  unfold sklG
  rw [if_pos ⟨fam_nn q, fam_lt q⟩, fam_congr fun t ht => skP_congr (fun s hs => bitP_fam hs) ht]
noncomputable def F_i_skeletonIn : List V → Option V := F2 dU dI sklG
theorem fn_i_skeletonIn_1 : FnOk Try.prog 93 sklC := by
  have env := ((envNil_ok (P := Try.prog)).add fn_i_hasSet).add fn_i_SizeOf
  refine fn_ok code_i_skeletonIn_1 mixed env ?_
  intro args r h hb
  unfold sklC at h
  split at h
  case h_2 => simp at h
  rename_i t f k
  simp only [Option.ite_none_right_eq_some, Option.some.injEq] at h
  obtain ⟨⟨hf1, hf2, ht⟩, rfl⟩ := h
  have hf := fam_bitP hf1 hf2
  generalize bitP f = p at *
  subst hf
  refine ⟨by simp, fun w0 U0 L0 N0 => ?_⟩
  have hg := hasG_fam (p := p) ht
  have r1 := sizeOf1_set ht.1 ht.2
  by_cases h1 : p t
  · have e : dec (skP p k t) = decide (sz t ≤ k) := by
      rw [Bool.eq_iff_iff, dec_iff, decide_eq_true_iff]
      exact ⟨fun h => h.2, fun h => ⟨h1, h⟩⟩
    rw [dec_true h1] at hg
    rw [e]
    simp -implicitDefEqProofs [sc_i_skeletonIn_1, F_i_hasSet, F_i_SizeOf, freeOk, hg, r1]
  · have e : dec (skP p k t) = false := dec_false fun h => h1 h.1
    rw [dec_false h1] at hg
    rw [e]
    simp -implicitDefEqProofs [sc_i_skeletonIn_1, F_i_hasSet, freeOk, hg]
theorem fn_i_skeletonIn : FnOk Try.prog 64 F_i_skeletonIn := by
  have env := (envNil_ok (P := Try.prog)).add (fn_i_pickSets fn_i_skeletonIn_1)
  refine fn_ok code_i_skeletonIn mixed env ?_
  intro args r h hb
  obtain ⟨_, _, f, k, rfl, h1, h2, h4⟩ := F2_inv h
  cases dU_inv h1
  cases dI_inv h2
  clear h
  simp only [sklG, Option.ite_none_right_eq_some, Option.some.injEq] at h4
  obtain ⟨⟨hf1, hf2⟩, rfl⟩ := h4
  refine ⟨by simp, fun w0 U0 L0 N0 => ?_⟩
  have e0 : ∀ t, isS t → sklC [.int .i64 t, .rp [.int .u64 f], .rp [.int .i64 k]] = some (.bool (dec (skP (bitP f) k t))) := fun t ht => by
    simp only [sklC]
    rw [if_pos ⟨hf1, hf2, ht⟩]
  have e : F_i_pickSets 93 sklC [.int .i64 6, .fn 93 [.rp [.int .u64 f], .rp [.int .i64 k]]] = some (.int .u64 (fam (skP (bitP f) k))) := by
    simp only [F_i_pickSets]
    rw [if_pos ⟨rfl, by omega, by omega, fun H => by simp, fun t h0 h6 => ⟨_, e0 t ⟨h0, h6⟩⟩⟩]
    congr 2
    refine fam_congr fun t ht => ?_
    have : t < 2 ^ (6 : Int).toNat := ht.2
    rw [e0 t ht]
    simp only [this, true_and, Option.some.injEq, V.bool.injEq]
    exact dec_iff
  generalize fam (skP (bitP f) k) = R at *
  simp -implicitDefEqProofs [sc_i_skeletonIn, e]
end Go.Proofs.Ytncnohompmcddaa
