import Derived.Test.YtkbgmkkboiihnaaKL
import Derived.Test.YtkbgmkkboiihnaaKJ
namespace Go.Proofs.Ytkbgmkkboiihnaa
open Go Go.RowKit
set_option maxRecDepth 1000000
set_option linter.unusedSimpArgs false
set_option linter.unusedVariables false
set_option maxHeartbeats 1000000
def sc_i_sheds_L0 : SC := (.seq (.reg [⟨(some 26), none, (.bin false .lss (.t 25) (.t 24))⟩]) (.seq (.cond (.t 26) .skip (.exit 0)) (.seq (.block 1 (.seq (.reg [⟨(some 27), none, (.idx 1 (.t 23) (.t 25))⟩, ⟨(some 28), none, (.ld none (.int .i64 0) (.t 27))⟩, ⟨(some 8), none, (.mov (.t 28))⟩]) (.seq (.reg [⟨(some 29), none, (.mov (.t 6))⟩, ⟨(some 30), none, (.mov (.t 8))⟩, ⟨(some 31), none, (.call 76 [(.t 29), (.t 30)])⟩]) (.cond (.t 31) (.seq (.reg [⟨(some 4), none, (.mov (.c (.bool false)))⟩]) .ret) .skip)))) (.reg [⟨(some 32), none, (.bin false .add (.t 25) (.c (.int .i64 1)))⟩, ⟨(some 25), none, (.mov (.t 32))⟩]))))
def sc_i_sheds : SC := (.seq (.reg [⟨(some 4), none, (.mov (.c (.bool false)))⟩]) (.seq (.reg [⟨(some 9), none, (.mov (.t 1))⟩, ⟨(some 10), none, (.conv .u64 (.t 9))⟩, ⟨(some 11), none, (.bin false .shl (.c (.int .i64 1)) (.t 10))⟩, ⟨(some 5), none, (.mov (.t 11))⟩]) (.seq (.seq (.reg [⟨(some 12), none, (.mov (.t 0))⟩, ⟨(some 13), none, (.mov (.t 5))⟩, ⟨(some 14), none, (.call 63 [(.t 12), (.t 13)])⟩, ⟨(some 15), none, (.un .not (.t 14))⟩]) (.cond (.t 15) (.seq (.reg [⟨(some 4), none, (.mov (.c (.bool false)))⟩]) .ret) .skip)) (.seq (.reg [⟨(some 16), none, (.mov (.t 0))⟩, ⟨(some 17), none, (.mov (.t 5))⟩, ⟨(some 18), none, (.call 42 [(.t 16), (.t 17)])⟩, ⟨(some 19), none, (.call 40 [(.t 18)])⟩, ⟨(some 6), none, (.mov (.t 19))⟩]) (.seq (.seq (.reg [⟨(some 20), none, (.mov (.t 0))⟩, ⟨(some 21), none, (.mov (.t 5))⟩, ⟨(some 22), none, (.call 60 [(.t 20), (.t 21)])⟩, ⟨(some 23), none, (.call 40 [(.t 22)])⟩, ⟨(some 24), none, (.len (.t 23))⟩, ⟨(some 25), none, (.mov (.c (.int .i64 0)))⟩]) (.block 0 (.loop sc_i_sheds_L0))) (.seq (.reg [⟨(some 4), none, (.mov (.c (.bool true)))⟩]) .ret))))))
theorem code_i_sheds : fnCode Try.prog [] 59 = some (33, sc_i_sheds, [(4, none)]) := by kernel_rfl
noncomputable def shedG (f x : Int) : Option V := @ite _ (0 ≤ f ∧ f < 18446744073709551616 ∧ 0 ≤ x ∧ x < 6) (Classical.propDecidable _) (some (.bool (dec (shedQ (bitP f) x.toNat)))) none
theorem shedG_fam (p : Int → Prop) {m : Nat} (hm : m < 6) : shedG (fam p) m = some (.bool (dec (shedQ p m))) := by
  unfold shedG
  rw [if_pos ⟨fam_nn p, fam_lt p, by omega, by omega⟩, Int.toNat_natCast]
  congr 2
  rw [Bool.eq_iff_iff, dec_iff, dec_iff]
  exact shedQ_congr (fun s hs => bitP_fam hs) hm
noncomputable def F_i_sheds : List V → Option V := F2 dU dI shedG
theorem fn_i_sheds : FnOk Try.prog 59 F_i_sheds := by
  have env := (((((envNil_ok (P := Try.prog)).add fn_i_hasSet).add fn_i_maximalIn).add fn_i_linkIn).add fn_i_deletionIn).add fn_Contains
  refine fn_ok code_i_sheds mixed env ?_
  intro args r h hb
  obtain ⟨_, _, f, x, rfl, h1, h2, h4⟩ := F2_inv h
  cases dU_inv h1
  cases dI_inv h2
  clear h
  simp only [shedG, Option.ite_none_right_eq_some, Option.some.injEq] at h4
  obtain ⟨⟨hf1, hf2, hx0, hx6⟩, rfl⟩ := h4
  have hf := fam_bitP hf1 hf2
  generalize bitP f = p at *
  subst hf
  obtain ⟨m, rfl⟩ : ∃ m : Nat, x = m := ⟨x.toNat, by omega⟩
  have hm : m < 6 := by omega
  rw [Int.toNat_natCast]
  refine ⟨by simp, fun w0 U0 L0 N0 => ?_⟩
  clear hb
  generalize hv : dec (shedQ p m) = v
  have hu : IntKind.u64.wrap (m : Int) = m := wrapU _ (by omega) (by omega)
  have hsh := shl6 hm
  have hpS := isS_pow hm
  unfold shedQ at hv
  generalize (2 : Int) ^ m = s at *
  have hg := hasG_fam (p := p) hpS
  by_cases f1 : p s
  rotate_left
  · rw [dec_false f1] at hg
    have hv1 : v = false := hv ▸ dec_false fun h => f1 h.1
    simp -implicitDefEqProofs [sc_i_sheds, F_i_hasSet, hu, hsh, hg, hv1]
  rw [dec_true f1] at hg
  have g1 := wtoG_fam p hpS
  have g2 := maxG_fam (wtoP p s)
  have g3 := lnkG_fam p hpS
  have g4 := maxG_fam (lnkP p s)
  have hA : ∀ t, t ∈ setsOf (maxP (lnkP p s)) ↔ isS t ∧ maxP (lnkP p s) t := fun t => mem_setsOf
  have hB : ∀ t, t ∈ setsOf (maxP (wtoP p s)) ↔ isS t ∧ maxP (wtoP p s) t := fun t => mem_setsOf
  have hAl := setsOf_len (maxP (lnkP p s))
  have hv2 : v = dec (∀ t, t ∈ setsOf (maxP (lnkP p s)) → t ∉ setsOf (maxP (wtoP p s))) := by
    rw [← hv, Bool.eq_iff_iff, dec_iff, dec_iff]
    constructor
    · rintro ⟨_, h⟩ t h1 h2; exact h t ((hA t).1 h1).1 ((hA t).1 h1).2 ((hB t).1 h2).2
    · intro h; exact ⟨f1, fun t ht h1 h2 => h t ((hA t).2 ⟨ht, h1⟩) ((hB t).2 ⟨ht, h2⟩)⟩
  clear hA hB hv
  generalize setsOf (maxP (lnkP p s)) = A at *
  generalize setsOf (maxP (wtoP p s)) = B at *
  simp -implicitDefEqProofs [sc_i_sheds, F_i_hasSet, F_i_maximalIn, F_i_linkIn, F_i_deletionIn, hu, hsh, hg, g1, g2, g3, g4]
  refine loopI env mixed (fun k : Nat => [(6, .sl 0 1 0 B.length), (23, .sl 1 1 0 A.length), (24, .int .i64 (A.length : Int)), (25, .int .i64 (k : Int))]) (fun _ => ([(1, ints A), (0, ints B)], 2))
    (fun k => k ≤ A.length ∧ ∀ j, j < k → at0 A j ∉ B) (fun k => A.length - k) 0 (by simp) (SubI.slots rfl (by simp)) ?_
  rintro k ⟨hk, hno⟩
  by_cases hlt : k < A.length
  · by_cases hm2 : at0 A k ∈ B
    · have hv1 : v = false := hv2.trans (dec_false fun h => h _ (getD_mem' hlt) hm2)
      simp -implicitDefEqProofs [sc_i_sheds_L0, F_Contains, hlt, hm2, hv1]
      try omega
    · simp -implicitDefEqProofs [sc_i_sheds_L0, F_Contains, hlt, hm2]
      repeat' (first | omega | apply And.intro)
      refine Again.of (k + 1) ⟨by omega, fun j hj => ?_⟩ (by omega) (SubI.slots rfl (by simp (disch := omega) [wrapI]))
      rcases Nat.lt_succ_iff_lt_or_eq.1 hj with h1 | rfl
      · exact hno j h1
      · exact hm2
  · have hv1 : v = true := hv2.trans (dec_true fun t ht => by
      obtain ⟨j, hj, e⟩ := getD_mem_iff.1 ht
      rw [← e]
      exact hno j (by omega))
    have hka : k = A.length := by omega
    subst hka
    simp -implicitDefEqProofs [sc_i_sheds_L0, hv1]
end Go.Proofs.Ytkbgmkkboiihnaa
