import Derived.Test.YtmemomfffehnkaaKP
namespace Go.Proofs.Ytmemomfffehnkaa
open Go Go.RowKit
set_option maxRecDepth 1000000
set_option linter.unusedSimpArgs false
set_option linter.unusedVariables false
set_option maxHeartbeats 1000000
def sc_i_freePartner_L0 : SC := (.seq (.seq (.reg [⟨(some 8), none, (.mov (.t 7))⟩, ⟨(some 9), none, (.bin false .lss (.t 8) (.c (.int .i64 64)))⟩]) (.cond (.t 9) .skip (.exit 0))) (.seq (.block 1 (.seq (.reg [⟨(some 12), none, (.mov (.t 7))⟩, ⟨(some 13), none, (.mov (.t 1))⟩, ⟨(some 14), none, (.bin false .neq (.t 12) (.t 13))⟩, ⟨(some 15), none, (.mov (.t 14))⟩, ⟨(some 16), (some (15, true)), (.mov (.t 1))⟩, ⟨(some 17), (some (15, true)), (.mov (.t 7))⟩, ⟨(some 18), (some (15, true)), (.bin false .andNot (.t 16) (.t 17))⟩, ⟨(some 19), (some (15, true)), (.bin false .eql (.t 18) (.c (.int .i64 0)))⟩, ⟨(some 20), none, (.pick (.t 15) (.t 19) (.c (.bool false)))⟩, ⟨(some 21), none, (.mov (.t 20))⟩, ⟨(some 22), (some (21, true)), (.mov (.t 0))⟩, ⟨(some 23), (some (21, true)), (.mov (.t 7))⟩, ⟨(some 24), (some (21, true)), (.call 182 [(.t 22), (.t 23)])⟩, ⟨(some 25), none, (.pick (.t 21) (.t 24) (.c (.bool false)))⟩]) (.cond (.t 25) (.seq (.seq (.reg [⟨(some 26), none, (.mov (.t 6))⟩, ⟨(some 27), none, (.bin false .geq (.t 26) (.c (.int .i64 0)))⟩]) (.cond (.t 27) (.seq (.reg [⟨(some 4), none, (.mov (.c (.int .i64 0)))⟩, ⟨(some 5), none, (.mov (.c (.bool false)))⟩]) .ret) .skip)) (.reg [⟨(some 28), none, (.mov (.t 7))⟩, ⟨(some 6), none, (.mov (.t 28))⟩])) .skip))) (.reg [⟨(some 10), none, (.mov (.t 7))⟩, ⟨(some 11), none, (.bin false .add (.t 10) (.c (.int .i64 1)))⟩, ⟨(some 7), none, (.mov (.t 11))⟩])))
def sc_i_freePartner : SC := (.seq (.reg [⟨(some 4), none, (.mov (.c (.int .i64 0)))⟩, ⟨(some 5), none, (.mov (.c (.bool false)))⟩]) (.seq (.reg [⟨(some 6), none, (.mov (.c (.int .i64 (-1))))⟩]) (.seq (.seq (.reg [⟨(some 7), none, (.mov (.c (.int .i64 0)))⟩]) (.block 0 (.loop sc_i_freePartner_L0))) (.seq (.reg [⟨(some 29), none, (.mov (.t 6))⟩, ⟨(some 30), none, (.mov (.t 6))⟩, ⟨(some 31), none, (.bin false .geq (.t 30) (.c (.int .i64 0)))⟩, ⟨(some 4), none, (.mov (.t 29))⟩, ⟨(some 5), none, (.mov (.t 31))⟩]) .ret))))
theorem code_i_freePartner : fnCode Try.prog [] 174 = some (32, sc_i_freePartner, [(4, none), (5, none)]) := by kernel_rfl
noncomputable def partG (f s : Int) : Option V := @ite _ (0 ≤ f ∧ f < 18446744073709551616 ∧ isS s) (Classical.propDecidable _) (some (.tup [.int .i64 (partnerV (bitP f) s), .bool (dec (∃ t, freeOf (bitP f) s t))])) none
theorem partG_fam (p : Int → Prop) {s : Int} (hs : isS s) : partG (fam p) s = some (.tup [.int .i64 (partnerV p s), .bool (dec (∃ t, freeOf p s t))]) := by
  unfold partG
  rw [if_pos ⟨fam_nn p, fam_lt p, hs⟩, partnerV_congr (fun s hs => bitP_fam hs)]
  have : (∃ t, freeOf (bitP (fam p)) s t) ↔ ∃ t, freeOf p s t := ⟨fun ⟨t, h⟩ => ⟨t, (freeOf_congr (fun s hs => bitP_fam hs) s t).1 h⟩, fun ⟨t, h⟩ => ⟨t, (freeOf_congr (fun s hs => bitP_fam hs) s t).2 h⟩⟩
  simp only [this]
/-- What is known after the sets below x.1: the partner so far. -/
def fpI (p : Int → Prop) (s : Int) (x : Nat × Int) : Prop := x.1 ≤ 64 ∧ ((x.2 = -1 ∧ ∀ u : Int, isS u → u < x.1 → ¬ (p u ∧ subS s u ∧ u ≠ s)) ∨ ((isS x.2 ∧ x.2 < x.1) ∧ (p x.2 ∧ subS s x.2 ∧ x.2 ≠ s) ∧ ∀ u : Int, isS u → u < x.1 → (p u ∧ subS s u ∧ u ≠ s) → u = x.2))
noncomputable def F_i_freePartner : List V → Option V := F2 dU dI partG
theorem fn_i_freePartner : FnOk Try.prog 174 F_i_freePartner := by
  have env := (envNil_ok (P := Try.prog)).add fn_i_hasSet
  refine fn_ok code_i_freePartner mixed env ?_
  intro args r h hb
  obtain ⟨_, _, f, s, rfl, h1, h2, h4⟩ := F2_inv h
  cases dU_inv h1
  cases dI_inv h2
  clear h
  simp only [partG, Option.ite_none_right_eq_some, Option.some.injEq] at h4
  obtain ⟨⟨hf1, hf2, hs⟩, rfl⟩ := h4
  have hf := fam_bitP hf1 hf2
  generalize bitP f = p at *
  subst hf
  refine ⟨by simp, fun w0 U0 L0 N0 => ?_⟩
  generalize hv : dec (∃ t, freeOf p s t) = v
  generalize hpv : partnerV p s = pv
  simp -implicitDefEqProofs [sc_i_freePartner]
  refine loopI env mixed (fun x : Nat × Int => [(0, .int .u64 (fam p)), (1, .int .i64 s), (6, .int .i64 x.2), (7, .int .i64 (x.1 : Int))]) (fun _ => ([], 0))
    (fpI p s) (fun x => 64 - x.1) (0, -1)
    ⟨by simp, .inl ⟨rfl, fun u hu h => by have := hu.1; simp only at h; omega⟩⟩ (SubI.slots rfl (by simp)) ?_
  rintro ⟨k, pt⟩ hI
  obtain ⟨hk, hinv⟩ := id hI
  simp only at hk hinv
  by_cases hlt : k < 64
  · have hlt' : (k : Int) < 64 := by omega
    have hkS := inS k hlt
    have hg := hasG_fam (p := p) hkS
    have stay : ¬ (p (k : Int) ∧ subS s k ∧ (k : Int) ≠ s) → fpI p s (k + 1, pt) := fun hno => by
      refine ⟨by simp only; omega, ?_⟩
      rcases hinv with ⟨a, b⟩ | ⟨a, b, c⟩
      · refine .inl ⟨a, fun u hu hlt2 => ?_⟩
        simp only at hlt2
        by_cases e : u = (k : Int)
        · rw [e]; exact hno
        · exact b u hu (by omega)
      · refine .inr ⟨⟨a.1, by simp only; have := a.2; omega⟩, b, fun u hu hlt2 hq => ?_⟩
        simp only at hlt2
        by_cases e : u = (k : Int)
        · rw [e] at hq; exact absurd hq hno
        · exact c u hu (by omega) hq
    by_cases e1 : (k : Int) = s
    · have st := stay fun h => h.2.2 e1
      have hs64 := hs.2
      simp -implicitDefEqProofs [sc_i_freePartner_L0, hlt', hs64, e1]
      repeat' (first | omega | apply And.intro)
      exact Again.of (k + 1, pt) st (by simp only; omega) (SubI.slots rfl (by simp (disch := omega) [wrapI, ← e1]))
    by_cases e2 : bnot s (k : Int) = 0
    rotate_left
    · have st := stay fun h => e2 h.2.1
      simp -implicitDefEqProofs [sc_i_freePartner_L0, hlt', e1, e2]
      repeat' (first | omega | apply And.intro)
      exact Again.of (k + 1, pt) st (by simp only; omega) (SubI.slots rfl (by simp (disch := omega) [wrapI]))
    by_cases e3 : p (k : Int)
    rotate_left
    · have st := stay fun h => e3 h.1
      rw [dec_false e3] at hg
      simp -implicitDefEqProofs [sc_i_freePartner_L0, F_i_hasSet, hlt', e1, e2, hg]
      repeat' (first | omega | apply And.intro)
      exact Again.of (k + 1, pt) st (by simp only; omega) (SubI.slots rfl (by simp (disch := omega) [wrapI]))
    rw [dec_true e3] at hg
    rcases hinv with ⟨rfl, b⟩ | ⟨a, b, c⟩
    · simp -implicitDefEqProofs [sc_i_freePartner_L0, F_i_hasSet, hlt', e1, e2, hg]
      repeat' (first | omega | apply And.intro)
      refine Again.of (k + 1, (k : Int)) ⟨by simp only; omega, .inr ⟨⟨hkS, by simp only; omega⟩, ⟨e3, e2, e1⟩, fun u hu hlt2 hq => ?_⟩⟩ (by simp only; omega) (SubI.slots rfl (by simp (disch := omega) [wrapI]))
      simp only at hlt2
      by_cases e : u = (k : Int)
      · exact e
      · exact absurd hq (b u hu (by omega))
    · have hp0 : 0 ≤ pt := a.1.1
      have hne : pt ≠ (k : Int) := fun e => by have := a.2; omega
      obtain ⟨t1, t2⟩ := partnerV_two a.1 hkS b ⟨e3, e2, e1⟩ hne
      have hv1 : v = false := hv ▸ dec_false t2
      have hpv1 : pv = 0 := hpv ▸ t1
      simp -implicitDefEqProofs [sc_i_freePartner_L0, F_i_hasSet, hlt', e1, e2, hg, hp0, hv1, hpv1]
  · have hk64 : k = 64 := by omega
    subst hk64
    rcases hinv with ⟨rfl, b⟩ | ⟨a, b, c⟩
    · have hno : ∀ u, isS u → ¬ (p u ∧ subS s u ∧ u ≠ s) := fun u hu => b u hu (by have := hu.2; omega)
      have hv1 : v = false := hv ▸ dec_false fun ⟨t, ht⟩ => hno t ht.1 ht.2.1
      have hpv1 : pv = -1 := hpv ▸ partnerV_none hno
      simp -implicitDefEqProofs [sc_i_freePartner_L0, hv1, hpv1]
    · have hfo : freeOf p s pt := ⟨a.1, b, fun u hu hq => c u hu (by have := hu.2; omega) hq⟩
      have hv1 : v = true := hv ▸ dec_true ⟨pt, hfo⟩
      have hpv1 : pv = pt := hpv ▸ partnerV_of hfo
      have hp0 : 0 ≤ pt := a.1.1
      simp -implicitDefEqProofs [sc_i_freePartner_L0, hv1, hpv1, hp0]
end Go.Proofs.Ytmemomfffehnkaa
