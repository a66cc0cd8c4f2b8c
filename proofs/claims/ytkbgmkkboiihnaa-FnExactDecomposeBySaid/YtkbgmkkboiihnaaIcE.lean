import Derived.Test.YtkbgmkkboiihnaaIcD
import Derived.Test.YtkbgmkkboiihnaaIcB
namespace Go.Proofs.Ytkbgmkkboiihnaa
open Go Go.RowKit
set_option maxRecDepth 1000000
set_option linter.unusedSimpArgs false
set_option linter.unusedVariables false
set_option maxHeartbeats 1000000
section tg
variable {Γ : Env} {s : Hp}
@[simp] theorem t_fstg (d : Option Nat) (g : Nat) (want : Bool) (o : SO) (fr : Bool) (r : DT) (l : Tm) (K : Tm → Hp → Prop) : vcT Γ (.fst ⟨d, some (g, want), o⟩ fr r) l s K = match tget l g with
    | .bool b => if b = want then vcT Γ (.fst ⟨d, none, o⟩ fr r) ((g, .bool want) :: l) s K else vcT Γ r (put ((g, .bool (!want)) :: l) d (.tup [])) s K
    | .tup _ => vcT Γ r (put l d (.tup [])) s K
    | _ => False := by
  simp only [← guard_eq]
  rfl
@[simp] theorem t_altg (d : Option Nat) (g : Nat) (want : Bool) (o : SO) (ld : Bool) (r q : DT) (l : Tm) (K : Tm → Hp → Prop) : vcT Γ (.alt ⟨d, some (g, want), o⟩ ld r q) l s K = ((match tget l g with
    | .bool b => if b = want then stepT Γ ⟨d, none, o⟩ ld ((g, .bool want) :: l) s (fun l s => vcT Γ r l s K) else vcT Γ r (put ((g, .bool (!want)) :: l) d (.tup [])) s K
    | .tup _ => vcT Γ r (put l d (.tup [])) s K
    | _ => False) ∧ vcT Γ q l s K) := by
  simp only [← guard_eq]
  rfl
@[simp] theorem step_quiet (d : Option Nat) (o : SO) (l : Tm) (N : Tm → Hp → Prop) : stepT Γ ⟨d, none, o⟩ false l s N = match evQ Γ s.1 (Opd.ev (tget l)) o with
    | some (b, v) => b = true ∧ N (put l d (fz 6 v)) s
    | none => False := by
  simp only [stepT]
  cases h : evQ Γ s.1 (Opd.ev (tget l)) o <;> simp
@[simp] theorem step_loud (d : Option Nat) (o : SO) (l : Tm) (N : Tm → Hp → Prop) : stepT Γ ⟨d, none, o⟩ true l s N = match evH Γ (Opd.ev (tget l)) s o with
    | some (b, v, s') => b = true ∧ N (put l d v) s'
    | none => False := by
  simp only [stepT]
  cases h : evH Γ (Opd.ev (tget l)) s o <;> simp
end tg
def sc_s_IsDecomposable : SC := (.seq (.reg [⟨(some 1), none, (.box (.t 0))⟩, ⟨(some 2), none, (.mov (.c (.bool false)))⟩]) (.seq (.reg [⟨(some 3), none, (.ld (some 2) .undef (.t 1))⟩, ⟨(some 4), none, (.call 26 [(.t 3)])⟩, ⟨(some 5), none, (.mov (.t 4))⟩, ⟨(some 6), (some (5, true)), (.ld (some 2) .undef (.t 1))⟩, ⟨(some 7), (some (5, true)), (.call 33 [(.t 6)])⟩, ⟨(some 8), none, (.pick (.t 5) (.t 7) (.c (.bool false)))⟩, ⟨(some 2), none, (.mov (.t 8))⟩]) .ret))
theorem code_s_IsDecomposable : fnCode Try.prog [] 17 = some (9, sc_s_IsDecomposable, [(2, none)]) := by kernel_rfl
def decP (n : Int) (l : List Int) : Prop := cplx n l ∧ finI (faceS l)
noncomputable def F_s_IsDecomposable : List V → Option V := F1 dC fun c => some (.bool (dec (decP c.1 c.2)))
theorem fn_s_IsDecomposable : FnOk Try.prog 17 F_s_IsDecomposable := by
  have env := ((envNil_ok (P := Try.prog)).add fn_s_IsComplex).add (fn_s_l20Fine 7)
  refine fn_ok code_s_IsDecomposable mixed env ?_
  intro args r h hb
  obtain ⟨_, ⟨n, l⟩, rfl, h1, h4⟩ := F1_inv h
  cases dC_inv h1
  cases h4
  clear h
  refine ⟨by simp, fun w0 U0 L0 N0 => ?_⟩
  clear hb
  cases e0 : cplxB n l with
  | false =>
    have hv1 : dec (decP n l) = false := dec_false fun h => by simp [cplxB_iff.2 h.1] at e0
    simp -implicitDefEqProofs [sc_s_IsDecomposable, F_s_IsComplex, e0, hv1]
  | true =>
  have hc := cplxB_iff.1 e0
  have hv : dec (finI (faceS l)) = dec (decP n l) := by
    rw [Bool.eq_iff_iff, dec_iff, dec_iff]
    exact ⟨fun h => ⟨hc, h⟩, fun h => h.2⟩
  have hk := pts_six (faceS l)
  simp -implicitDefEqProofs [sc_s_IsDecomposable, F_s_IsComplex, F_fine, e0, hc, hk, hv]
def sc_i_IsDecomposable : SC := (.seq (.reg [⟨(some 1), none, (.box (.t 0))⟩, ⟨(some 2), none, (.mov (.c (.bool false)))⟩]) (.seq (.treg (.fst ⟨(some 3), none, (.ld (some 2) .undef (.t 1))⟩ false (.fst ⟨(some 4), none, (.call 30 [(.t 3)])⟩ false (.fst ⟨(some 5), none, (.mov (.t 4))⟩ false (.alt ⟨(some 6), (some (5, true)), (.call 34 [])⟩ true (.fst ⟨(some 7), (some (5, true)), (.ld (some 2) .undef (.t 1))⟩ false (.fst ⟨(some 8), (some (5, true)), (.call 36 [(.t 7)])⟩ false (.alt ⟨(some 9), (some (5, true)), (.call 35 [(.t 6), (.t 8)])⟩ true (.fst ⟨(some 10), none, (.pick (.t 5) (.t 9) (.c (.bool false)))⟩ false (.fst ⟨(some 2), none, (.mov (.t 10))⟩ false .done)) .stop))) (.alt ⟨(some 7), (some (5, true)), (.ld (some 2) .undef (.t 1))⟩ false (.alt ⟨(some 6), (some (5, true)), (.call 34 [])⟩ true (.fst ⟨(some 8), (some (5, true)), (.call 36 [(.t 7)])⟩ false (.alt ⟨(some 9), (some (5, true)), (.call 35 [(.t 6), (.t 8)])⟩ true (.fst ⟨(some 10), none, (.pick (.t 5) (.t 9) (.c (.bool false)))⟩ false (.fst ⟨(some 2), none, (.mov (.t 10))⟩ false .done)) .stop)) .stop) .stop)))))) .ret))
theorem code_i_IsDecomposable : fnCode Try.prog [35, 41, 34] 18 = some (11, sc_i_IsDecomposable, [(2, none)]) := by kernel_rfl
theorem fn_i_IsDecomposable : FnOk Try.prog 18 F_s_IsDecomposable := by
  have env := ((((envNil_ok (P := Try.prog)).add fn_i_IsComplex).add fn_i_newDecomposer).add fn_i_facesIn).addl (ln_i_works 7)
  refine fn_ok code_i_IsDecomposable mixed env ?_
  intro args r h hb
  obtain ⟨_, ⟨n, l⟩, rfl, h1, h4⟩ := F1_inv h
  cases dC_inv h1
  cases h4
  clear h
  refine ⟨by simp, fun w0 U0 L0 N0 => ?_⟩
  clear hb
  cases e0 : cplxB n l with
  | false =>
    have hv1 : dec (decP n l) = false := dec_false fun h => by simp [cplxB_iff.2 h.1] at e0
    simp -implicitDefEqProofs [sc_i_IsDecomposable, F_s_IsComplex, e0, hv1]
  | true =>
  have hc := cplxB_iff.1 e0
  have hS := cplx_isS hc
  have hv : dec (finI (faceS l)) = dec (decP n l) := by
    rw [Bool.eq_iff_iff, dec_iff, dec_iff]
    exact ⟨fun h => ⟨hc, h⟩, fun h => h.2⟩
  have hd := dcl_face hS
  have hk := pts_six (faceS l)
  have hg := G_works_fam (k := 7) (D := []) hd hk
  obtain ⟨hw, _, _⟩ := wk_ok 7 7 (faceS l) [] hd hk (Nat.le_refl _) (mInv_nil 7)
  rw [hv] at hw
  rw [hw] at hg
  clear hw hv
  simp -implicitDefEqProofs [sc_i_IsDecomposable, F_s_IsComplex, F_i_facesIn, F_i_newDecomposer, ren0, e0, hS, hg]
end Go.Proofs.Ytkbgmkkboiihnaa
