import Derived.Test.YtedampaecopkhaaFoN
import Derived.Test.YtedampaecopkhaaFnV
import Derived.Test.YtedampaecopkhaaFoM
namespace Go.Proofs.Ytedampaecopkhaa
open Go Go.RowKit
set_option maxRecDepth 1000000
set_option linter.unusedSimpArgs false
set_option linter.unusedVariables false
set_option maxHeartbeats 1000000
def sc_i_linkIn_1 : SC := (.seq (.reg [⟨(some 4), none, (.mov (.c (.bool false)))⟩]) (.seq (.reg [⟨(some 5), none, (.mov (.t 0))⟩, ⟨(some 6), none, (.ld none (.int .i64 0) (.t 1))⟩, ⟨(some 7), none, (.bin false .and (.t 5) (.t 6))⟩, ⟨(some 8), none, (.bin false .eql (.t 7) (.c (.int .i64 0)))⟩, ⟨(some 9), none, (.mov (.t 8))⟩, ⟨(some 10), (some (9, true)), (.ld none (.int .u64 0) (.t 2))⟩, ⟨(some 11), (some (9, true)), (.mov (.t 0))⟩, ⟨(some 12), (some (9, true)), (.ld none (.int .i64 0) (.t 1))⟩, ⟨(some 13), (some (9, true)), (.bin false .or (.t 11) (.t 12))⟩, ⟨(some 14), (some (9, true)), (.call 78 [(.t 10), (.t 13)])⟩, ⟨(some 15), none, (.pick (.t 9) (.t 14) (.c (.bool false)))⟩, ⟨(some 4), none, (.mov (.t 15))⟩]) .ret))
theorem code_i_linkIn_1 : fnCode Try.prog [] 129 = some (16, sc_i_linkIn_1, [(4, none)]) := by kernel_rfl
def sc_i_linkIn : SC := (.seq (.reg [⟨(some 2), none, (.box (.t 0))⟩, ⟨(some 3), none, (.box (.t 1))⟩, ⟨(some 4), none, (.mov (.c (.int .u64 0)))⟩]) (.seq (.reg [⟨(some 5), none, (.fn 129 [(.t 3), (.t 2)])⟩, ⟨(some 6), none, (.call 123 [(.c (.int .i64 6)), (.t 5)])⟩, ⟨(some 4), none, (.mov (.t 6))⟩]) .ret))
theorem code_i_linkIn : fnCode Try.prog [] 119 = some (7, sc_i_linkIn, [(4, none)]) := by kernel_rfl
noncomputable def lnkC : List V → Option V
  | [.int .i64 t, .rp [.int .i64 s], .rp [.int .u64 f]] => @ite _ (0 ≤ f ∧ f < 18446744073709551616 ∧ isS t ∧ isS s) (Classical.propDecidable _) (some (.bool (dec (lnkP (bitP f) s t)))) none
  | _ => none
noncomputable def lnkG (f s : Int) : Option V := @ite _ (0 ≤ f ∧ f < 18446744073709551616 ∧ isS s) (Classical.propDecidable _) (some (.int .u64 (fam (lnkP (bitP f) s)))) none
theorem lnkG_fam (p : Int → Prop) {s : Int} (hs : isS s) : lnkG (fam p) s = some (.int .u64 (fam (lnkP p s))) := by
  unfold lnkG
  rw [if_pos ⟨fam_nn p, fam_lt p, hs⟩, fam_congr fun t ht => ?_]
  unfold lnkP
  rw [bitP_fam (isS_bor ht hs)]
noncomputable def F_i_linkIn : List V → Option V := F2 dU dI lnkG
theorem fn_i_linkIn_1 : FnOk Try.prog 129 lnkC := by
  have env := (envNil_ok (P := Try.prog)).add fn_i_hasSet
  refine fn_ok code_i_linkIn_1 mixed env ?_
  intro args r h hb
  unfold lnkC at h
  split at h
  case h_2 => simp at h
  rename_i t s f
  simp only [Option.ite_none_right_eq_some, Option.some.injEq] at h
  obtain ⟨⟨hf1, hf2, ht, hs⟩, rfl⟩ := h
  have hf := fam_bitP hf1 hf2
  generalize bitP f = p at *
  subst hf
  refine ⟨by simp, fun w0 U0 L0 N0 => ?_⟩
  have hg := hasG_fam (p := p) (isS_bor ht hs)
  by_cases h1 : band t s = 0
  · have e : dec (lnkP p s t) = dec (p (bor t s)) := by
      rw [Bool.eq_iff_iff, dec_iff, dec_iff]
      exact ⟨fun h => h.2, fun h => ⟨h1, h⟩⟩
    rw [e]
    simp -implicitDefEqProofs [sc_i_linkIn_1, F_i_hasSet, h1, hg]
  · have e : dec (lnkP p s t) = false := dec_false fun h => h1 h.1
    rw [e]
    simp -implicitDefEqProofs [sc_i_linkIn_1, h1]
theorem fn_i_linkIn : FnOk Try.prog 119 F_i_linkIn := by
  have env := (envNil_ok (P := Try.prog)).add (fn_i_pickSets fn_i_linkIn_1)
  refine fn_ok code_i_linkIn mixed env ?_
  intro args r h hb
  obtain ⟨_, _, f, s, rfl, h1, h2, h4⟩ := F2_inv h
  cases dU_inv h1
  cases dI_inv h2
  clear h
  simp only [lnkG, Option.ite_none_right_eq_some, Option.some.injEq] at h4
  obtain ⟨⟨hf1, hf2, hs⟩, rfl⟩ := h4
  refine ⟨by simp, fun w0 U0 L0 N0 => ?_⟩
  have e0 : ∀ t, isS t → lnkC [.int .i64 t, .rp [.int .i64 s], .rp [.int .u64 f]] = some (.bool (dec (lnkP (bitP f) s t))) := fun t ht => by
    simp only [lnkC]
    rw [if_pos ⟨hf1, hf2, ht, hs⟩]
  have e : F_i_pickSets 129 lnkC [.int .i64 6, .fn 129 [.rp [.int .i64 s], .rp [.int .u64 f]]] = some (.int .u64 (fam (lnkP (bitP f) s))) := by
    simp only [F_i_pickSets]
    rw [if_pos ⟨rfl, by omega, by omega, fun H => by simp, fun t h0 h6 => ⟨_, e0 t ⟨h0, h6⟩⟩⟩]
    congr 2
    refine fam_congr fun t ht => ?_
    have : t < 2 ^ (6 : Int).toNat := ht.2
    rw [e0 t ht]
    simp only [this, true_and, Option.some.injEq, V.bool.injEq]
    exact dec_iff
  generalize fam (lnkP (bitP f) s) = R at *
  simp -implicitDefEqProofs [sc_i_linkIn, e]
def sc_i_deletionIn_1 : SC := (.seq (.reg [⟨(some 4), none, (.mov (.c (.bool false)))⟩]) (.seq (.reg [⟨(some 5), none, (.ld none (.int .u64 0) (.t 1))⟩, ⟨(some 6), none, (.mov (.t 0))⟩, ⟨(some 7), none, (.call 78 [(.t 5), (.t 6)])⟩, ⟨(some 8), none, (.mov (.t 7))⟩, ⟨(some 9), (some (8, true)), (.ld none (.int .i64 0) (.t 2))⟩, ⟨(some 10), (some (8, true)), (.mov (.t 0))⟩, ⟨(some 11), (some (8, true)), (.bin false .andNot (.t 9) (.t 10))⟩, ⟨(some 12), (some (8, true)), (.bin false .neq (.t 11) (.c (.int .i64 0)))⟩, ⟨(some 13), none, (.pick (.t 8) (.t 12) (.c (.bool false)))⟩, ⟨(some 4), none, (.mov (.t 13))⟩]) .ret))
theorem code_i_deletionIn_1 : fnCode Try.prog [] 128 = some (14, sc_i_deletionIn_1, [(4, none)]) := by kernel_rfl
def sc_i_deletionIn : SC := (.seq (.reg [⟨(some 2), none, (.box (.t 0))⟩, ⟨(some 3), none, (.box (.t 1))⟩, ⟨(some 4), none, (.mov (.c (.int .u64 0)))⟩]) (.seq (.reg [⟨(some 5), none, (.fn 128 [(.t 2), (.t 3)])⟩, ⟨(some 6), none, (.call 123 [(.c (.int .i64 6)), (.t 5)])⟩, ⟨(some 4), none, (.mov (.t 6))⟩]) .ret))
theorem code_i_deletionIn : fnCode Try.prog [] 118 = some (7, sc_i_deletionIn, [(4, none)]) := by kernel_rfl
noncomputable def wtoC : List V → Option V
  | [.int .i64 t, .rp [.int .u64 f], .rp [.int .i64 s]] => @ite _ (0 ≤ f ∧ f < 18446744073709551616 ∧ isS t ∧ isS s) (Classical.propDecidable _) (some (.bool (dec (wtoP (bitP f) s t)))) none
  | _ => none
noncomputable def wtoG (f s : Int) : Option V := @ite _ (0 ≤ f ∧ f < 18446744073709551616 ∧ isS s) (Classical.propDecidable _) (some (.int .u64 (fam (wtoP (bitP f) s)))) none
theorem wtoG_fam (p : Int → Prop) {s : Int} (hs : isS s) : wtoG (fam p) s = some (.int .u64 (fam (wtoP p s))) := by
  unfold wtoG
  rw [if_pos ⟨fam_nn p, fam_lt p, hs⟩, fam_congr fun t ht => ?_]
  unfold wtoP
  rw [bitP_fam ht]
noncomputable def F_i_deletionIn : List V → Option V := F2 dU dI wtoG
theorem fn_i_deletionIn_1 : FnOk Try.prog 128 wtoC := by
  have env := (envNil_ok (P := Try.prog)).add fn_i_hasSet
  refine fn_ok code_i_deletionIn_1 mixed env ?_
  intro args r h hb
  unfold wtoC at h
  split at h
  case h_2 => simp at h
  rename_i t f s
  simp only [Option.ite_none_right_eq_some, Option.some.injEq] at h
  obtain ⟨⟨hf1, hf2, ht, hs⟩, rfl⟩ := h
  have hf := fam_bitP hf1 hf2
  generalize bitP f = p at *
  subst hf
  refine ⟨by simp, fun w0 U0 L0 N0 => ?_⟩
  have hg := hasG_fam (p := p) ht
  by_cases h1 : p t
  · rw [dec_true h1] at hg
    by_cases h2 : bnot s t = 0
    · have e : dec (wtoP p s t) = false := dec_false fun h => h.2 h2
      rw [e]
      simp -implicitDefEqProofs [sc_i_deletionIn_1, F_i_hasSet, h2, hg]
    · have e : dec (wtoP p s t) = true := dec_true ⟨h1, h2⟩
      rw [e]
      simp -implicitDefEqProofs [sc_i_deletionIn_1, F_i_hasSet, h2, hg]
  · rw [dec_false h1] at hg
    have e : dec (wtoP p s t) = false := dec_false fun h => h1 h.1
    rw [e]
    simp -implicitDefEqProofs [sc_i_deletionIn_1, F_i_hasSet, hg]
theorem fn_i_deletionIn : FnOk Try.prog 118 F_i_deletionIn := by
  have env := (envNil_ok (P := Try.prog)).add (fn_i_pickSets fn_i_deletionIn_1)
  refine fn_ok code_i_deletionIn mixed env ?_
  intro args r h hb
  obtain ⟨_, _, f, s, rfl, h1, h2, h4⟩ := F2_inv h
  cases dU_inv h1
  cases dI_inv h2
  clear h
  simp only [wtoG, Option.ite_none_right_eq_some, Option.some.injEq] at h4
  obtain ⟨⟨hf1, hf2, hs⟩, rfl⟩ := h4
  refine ⟨by simp, fun w0 U0 L0 N0 => ?_⟩
  have e0 : ∀ t, isS t → wtoC [.int .i64 t, .rp [.int .u64 f], .rp [.int .i64 s]] = some (.bool (dec (wtoP (bitP f) s t))) := fun t ht => by
    simp only [wtoC]
    rw [if_pos ⟨hf1, hf2, ht, hs⟩]
  have e : F_i_pickSets 128 wtoC [.int .i64 6, .fn 128 [.rp [.int .u64 f], .rp [.int .i64 s]]] = some (.int .u64 (fam (wtoP (bitP f) s))) := by
    simp only [F_i_pickSets]
    rw [if_pos ⟨rfl, by omega, by omega, fun H => by simp, fun t h0 h6 => ⟨_, e0 t ⟨h0, h6⟩⟩⟩]
    congr 2
    refine fam_congr fun t ht => ?_
    have : t < 2 ^ (6 : Int).toNat := ht.2
    rw [e0 t ht]
    simp only [this, true_and, Option.some.injEq, V.bool.injEq]
    exact dec_iff
  generalize fam (wtoP (bitP f) s) = R at *
  simp -implicitDefEqProofs [sc_i_deletionIn, e]
end Go.Proofs.Ytedampaecopkhaa
