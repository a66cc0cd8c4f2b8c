import Derived.Test.YtncnohompmcddaaHbA
namespace Go.Proofs.Ytncnohompmcddaa
open Go Go.RowKit
set_option maxRecDepth 1000000
set_option linter.unusedSimpArgs false
set_option linter.unusedVariables false
set_option maxHeartbeats 1000000
def sc_i_depthIn_L2 : SC := (.seq (.reg [⟨(some 26), none, (.bin false .lss (.t 25) (.t 24))⟩]) (.seq (.cond (.t 26) .skip (.exit 2)) (.seq (.block 3 (.seq (.reg [⟨(some 27), none, (.mov (.t 25))⟩, ⟨(some 28), none, (.idx 1 (.t 23) (.t 25))⟩, ⟨(some 29), none, (.ld none (.int .i64 0) (.t 28))⟩, ⟨(some 8), none, (.mov (.t 27))⟩, ⟨(some 9), none, (.mov (.t 29))⟩]) (.seq (.reg [⟨(some 30), none, (.mov (.t 9))⟩, ⟨(some 31), none, (.bin false .neq (.t 30) (.c (.int .i64 0)))⟩]) (.cond (.t 31) (.reg [⟨(some 32), none, (.mov (.t 5))⟩, ⟨(some 33), none, (.mov (.t 7))⟩, ⟨(some 34), none, (.call 47 [(.t 33)])⟩, ⟨(some 35), none, (.mov (.t 8))⟩, ⟨(some 36), none, (.bin false .add (.t 34) (.t 35))⟩, ⟨(some 37), none, (.mm false (.t 32) (.t 36))⟩, ⟨(some 5), none, (.mov (.t 37))⟩]) .skip)))) (.reg [⟨(some 38), none, (.bin false .add (.t 25) (.c (.int .i64 1)))⟩, ⟨(some 25), none, (.mov (.t 38))⟩]))))
def sc_i_depthIn_L0 : SC := (.seq (.reg [⟨(some 16), none, (.bin false .lss (.t 15) (.t 14))⟩]) (.seq (.cond (.t 16) .skip (.exit 0)) (.seq (.block 1 (.seq (.reg [⟨(some 17), none, (.idx 1 (.t 13) (.t 15))⟩, ⟨(some 18), none, (.ld none (.int .i64 0) (.t 17))⟩, ⟨(some 7), none, (.mov (.t 18))⟩]) (.seq (.reg [⟨(some 19), none, (.mov (.t 0))⟩, ⟨(some 20), none, (.mov (.t 7))⟩, ⟨(some 21), none, (.call 46 [(.t 19), (.t 20)])⟩, ⟨(some 22), none, (.mov (.t 1))⟩, ⟨(some 23), none, (.call 45 [(.t 21), (.t 22)])⟩, ⟨(some 24), none, (.len (.t 23))⟩, ⟨(some 25), none, (.mov (.c (.int .i64 0)))⟩]) (.block 2 (.loop sc_i_depthIn_L2))))) (.reg [⟨(some 39), none, (.bin false .add (.t 15) (.c (.int .i64 1)))⟩, ⟨(some 15), none, (.mov (.t 39))⟩]))))
def sc_i_depthIn : SC := (.seq (.reg [⟨(some 4), none, (.mov (.c (.int .i64 0)))⟩]) (.seq (.reg [⟨(some 10), none, (.mov (.t 0))⟩, ⟨(some 11), none, (.call 43 [(.t 10)])⟩, ⟨(some 5), none, (.mov (.t 11))⟩]) (.seq (.seq (.reg [⟨(some 12), none, (.mov (.t 0))⟩, ⟨(some 13), none, (.call 44 [(.t 12)])⟩, ⟨(some 14), none, (.len (.t 13))⟩, ⟨(some 15), none, (.mov (.c (.int .i64 0)))⟩]) (.block 0 (.loop sc_i_depthIn_L0))) (.seq (.reg [⟨(some 40), none, (.mov (.t 5))⟩, ⟨(some 4), none, (.mov (.t 40))⟩]) .ret))))
theorem code_i_depthIn : fnCode Try.prog [] 40 = some (41, sc_i_depthIn, [(4, none)]) := by kernel_rfl
noncomputable def dpG (f p : Int) : Option V := @ite _ (0 ≤ f ∧ f < 18446744073709551616 ∧ fpP p) (Classical.propDecidable _) (some (.int .i64 (dpZ p (bitP f)))) none
theorem dpG_fam (q : Int → Prop) {p : Int} (hp : fpP p) : dpG (fam q) p = some (.int .i64 (dpZ p q)) := by
  unfold dpG
  rw [if_pos ⟨fam_nn q, fam_lt q, hp⟩, dpZ_congr fun s hs => bitP_fam hs]
noncomputable def F_i_depthIn : List V → Option V := F2 dU dI dpG
theorem fn_i_depthIn : FnOk Try.prog 40 F_i_depthIn := by
  have env := (((((envNil_ok (P := Try.prog)).add fn_i_topSize).add fn_i_setsIn).add fn_i_linkIn).add fn_i_holesIn).add fn_i_SizeOf
  refine fn_ok code_i_depthIn mixed env ?_
  intro args r h hb
  obtain ⟨_, _, f, p, rfl, h1, h2, h4⟩ := F2_inv h
  cases dU_inv h1
  cases dI_inv h2
  clear h
  simp only [dpG, Option.ite_none_right_eq_some, Option.some.injEq] at h4
  obtain ⟨⟨hf1, hf2, hp⟩, rfl⟩ := h4
  have hf := fam_bitP hf1 hf2
  generalize bitP f = q at *
  subst hf
  refine ⟨by simp, fun w0 U0 L0 N0 => ?_⟩
  clear hb
  have hL := allS_setsOf q
  have hLl := setsOf_len q
  have htb := topZ_bnd q
  have hg1 := topG_fam q
  have hg2 := setsG_fam q
  have hX : ∀ d, mnR (topZ q) (dpI p q (setsOf q) (setsOf q).length 0) d → d = dpZ p q := fun d h => mn_dp h dpI_full
  generalize dpZ p q = X at *
  have h00 : mnR (topZ q) (dpI p q (setsOf q) 0 0) (topZ q) := ⟨.inl rfl, Int.le_refl _, fun u hu => absurd hu (dpI_zero u)⟩
  generalize setsOf q = L at *
  simp -implicitDefEqProofs [sc_i_depthIn, F_i_topSize, F_i_setsIn, hg1, hg2]
  refine loopI env mixed (fun x : Nat × Int => [(0, .int .u64 (fam q)), (1, .int .i64 p), (5, .int .i64 x.2), (13, .sl 0 1 0 L.length), (14, .int .i64 (L.length : Int)), (15, .int .i64 (x.1 : Int))]) (fun _ => ([(0, ints L)], 1)) (fun x => x.1 ≤ L.length ∧ -1 ≤ x.2 ∧ mnR (topZ q) (dpI p q L x.1 0) x.2) (fun x => L.length - x.1) (0, topZ q) ⟨by simp, htb.1, h00⟩ (SubI.slots (by simp) (by simp)) ?_
  rintro ⟨i, d⟩ ⟨hi, hd, hI⟩
  simp only at hi hd hI ⊢
  by_cases hlt : i < L.length
  rotate_left
  · have : i = L.length := by omega
    subst this
    have e := hX d hI
    subst e
    simp -implicitDefEqProofs [sc_i_depthIn_L0]
  have hs := allS_at hL hlt
  have h6 := sz_six hs
  have h0 := sz_nn (at0 L i)
  have r1 := sizeOf1_set hs.1 hs.2
  have hg3 := lnkG_fam q hs
  have hg4 := holG_fam (lnkP q (at0 L i)) hp
  have hHl := (holL_len p (lnkP q (at0 L i))).2
  have hA := fun k h u => dpI_skip (p := p) (q := q) (L := L) (i := i) (k := k) h u
  have hB := fun k h1 h2 u => dpI_new (p := p) (q := q) (k := k) hlt h1 h2 u
  have hC := fun n h u => dpI_end (p := p) (q := q) (L := L) (i := i) (n := n) h u
  generalize holL p (lnkP q (at0 L i)) = H at *
  simp -implicitDefEqProofs [sc_i_depthIn_L0, F_i_linkIn, F_i_holesIn, hlt, hg3, hg4]
  repeat' (first | omega | apply And.intro)
  refine loopI env mixed (fun x : Nat × Int => [(0, .int .u64 (fam q)), (1, .int .i64 p), (5, .int .i64 x.2), (7, .int .i64 (at0 L i)), (13, .sl 0 1 0 L.length), (14, .int .i64 (L.length : Int)), (15, .int .i64 (i : Int)), (23, .sl 1 1 0 H.length), (24, .int .i64 (H.length : Int)), (25, .int .i64 (x.1 : Int))]) (fun _ => ([(1, ints H), (0, ints L)], 2)) (fun x => x.1 ≤ H.length ∧ -1 ≤ x.2 ∧ mnR (topZ q) (dpI p q L i x.1) x.2) (fun x => H.length - x.1) (0, d) ⟨by simp, hd, hI⟩ (SubI.slots (by simp) (by simp)) ?_
  rintro ⟨k, d2⟩ ⟨hk, hd2, hI2⟩
  simp only at hk hd2 hI2 ⊢
  by_cases hkl : k < H.length
  rotate_left
  · have hn := mn_congr hI2 (hC k (by omega))
    simp -implicitDefEqProofs [sc_i_depthIn_L2, hkl]
    repeat' (first | omega | apply And.intro)
    refine Again.of (i + 1, d2) ⟨by simp only; omega, hd2, hn⟩ (by simp only; omega) (SubI.ren (fun m => if m = 0 then some 0 else none) ?_ ?_ ?_ (by simp) (by simp))
    · simp (disch := omega) [subT, renV, ren1, wrapI]
    · simp [subH, renL, ren1]
    · intro m hm
      simp only at hm
      rw [if_neg (by omega)]
  by_cases hk0 : at0 H k = 0
  · simp -implicitDefEqProofs [sc_i_depthIn_L2, hkl, hk0]
    repeat' (first | omega | apply And.intro)
    exact Again.of (k + 1, d2) ⟨by simp only; omega, hd2, mn_congr hI2 (hA k hk0)⟩ (by simp only; omega) (SubI.slots (by simp) (by simp (disch := omega) [wrapI]))
  have hw : IntKind.i64.wrap (sz (at0 L i) + (k : Int)) = sz (at0 L i) + (k : Int) := wrapI _ (by omega) (by omega)
  simp -implicitDefEqProofs [sc_i_depthIn_L2, F_i_SizeOf, hkl, hk0, r1, hw]
  repeat' (first | omega | apply And.intro)
  exact Again.of (k + 1, min d2 (sz (at0 L i) + (k : Int))) ⟨by simp only; omega, by simp only; omega, mn_new hI2 (hB k hkl hk0)⟩ (by simp only; omega) (SubI.slots (by simp) (by simp (disch := omega) [wrapI]))
end Go.Proofs.Ytncnohompmcddaa
