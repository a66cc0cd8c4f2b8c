import Derived.Test.YtmemomfffehnkaaKK
import Derived.Test.YtmemomfffehnkaaKJ
namespace Go.Proofs.Ytmemomfffehnkaa
open Go Go.RowKit
set_option maxRecDepth 1000000
set_option linter.unusedSimpArgs false
set_option linter.unusedVariables false
set_option maxHeartbeats 1000000
def sc_i_freeIn_L0 : SC := (.seq (.reg [⟨(some 12), none, (.bin false .lss (.t 11) (.t 10))⟩]) (.seq (.cond (.t 12) .skip (.exit 0)) (.seq (.block 1 (.seq (.reg [⟨(some 13), none, (.idx 1 (.t 9) (.t 11))⟩, ⟨(some 14), none, (.ld none (.int .i64 0) (.t 13))⟩, ⟨(some 5), none, (.mov (.t 14))⟩]) (.seq (.reg [⟨(some 16), none, (.mov (.t 0))⟩, ⟨(some 17), none, (.mov (.t 5))⟩, ⟨(some 18), none, (.call 174 [(.t 16), (.t 17)])⟩, ⟨(some 15), none, (.mov (.t 18))⟩, ⟨(some 19), none, (.ext 0 (.t 15))⟩, ⟨(some 20), none, (.ext 1 (.t 15))⟩, ⟨(some 6), none, (.mov (.t 19))⟩, ⟨(some 7), none, (.mov (.t 20))⟩]) (.seq (.reg [⟨(some 21), none, (.mov (.t 7))⟩]) (.cond (.t 21) (.reg [⟨(some 22), none, (.mov (.t 3))⟩, ⟨(some 23), none, (.mov (.t 5))⟩, ⟨(some 24), none, (.mks 1 1 [(.int .i64 0)] [(0, (1, (.t 23)))])⟩, ⟨(some 25), none, (.app 1 8 (.t 22) (.t 24))⟩, ⟨(some 3), none, (.mov (.t 25))⟩]) .skip))))) (.reg [⟨(some 26), none, (.bin false .add (.t 11) (.c (.int .i64 1)))⟩, ⟨(some 11), none, (.mov (.t 26))⟩]))))
def sc_i_freeIn : SC := (.seq (.reg [⟨(some 2), none, (.mov (.c .nil))⟩]) (.seq (.reg [⟨(some 3), none, (.mov (.c .nil))⟩]) (.seq (.seq (.reg [⟨(some 8), none, (.mov (.t 0))⟩, ⟨(some 9), none, (.call 187 [(.t 8)])⟩, ⟨(some 10), none, (.len (.t 9))⟩, ⟨(some 11), none, (.mov (.c (.int .i64 0)))⟩]) (.block 0 (.loop sc_i_freeIn_L0))) (.seq (.reg [⟨(some 27), none, (.mov (.t 3))⟩, ⟨(some 2), none, (.mov (.t 27))⟩]) .ret))))
theorem code_i_freeIn : fnCode Try.prog [] 177 = some (28, sc_i_freeIn, [(2, none)]) := by kernel_rfl
noncomputable def freeG (f : Int) : Option V := @ite _ (0 ≤ f ∧ f < 18446744073709551616) (Classical.propDecidable _) (some (.own 1 (ints (setsOf fun s => bitP f s ∧ ∃ t, freeOf (bitP f) s t)))) none
theorem freeG_fam (p : Int → Prop) : freeG (fam p) = some (.own 1 (ints (setsOf fun s => p s ∧ ∃ t, freeOf p s t))) := by
  unfold freeG
  rw [if_pos ⟨fam_nn p, fam_lt p⟩]
  rw [setsOf_congr fun s hs => ?_]
  rw [bitP_fam hs]
  have : (∃ t, freeOf (bitP (fam p)) s t) ↔ ∃ t, freeOf p s t := ⟨fun ⟨t, h⟩ => ⟨t, (freeOf_congr (fun s hs => bitP_fam hs) s t).1 h⟩, fun ⟨t, h⟩ => ⟨t, (freeOf_congr (fun s hs => bitP_fam hs) s t).2 h⟩⟩
  rw [this]
noncomputable def F_i_freeIn : List V → Option V := F1 dU freeG
theorem fn_i_freeIn : FnOk Try.prog 177 F_i_freeIn := by
  have env := ((envNil_ok (P := Try.prog)).add fn_i_freePartner).add fn_i_setsIn
  refine fn_ok code_i_freeIn mixed env ?_
  intro args r h hb
  obtain ⟨_, f, rfl, h1, h4⟩ := F1_inv h
  cases dU_inv h1
  clear h
  simp only [freeG, Option.ite_none_right_eq_some, Option.some.injEq] at h4
  obtain ⟨⟨hf1, hf2⟩, rfl⟩ := h4
  have hf := fam_bitP hf1 hf2
  generalize bitP f = p at *
  subst hf
  refine ⟨by simp, fun w0 U0 L0 N0 => ?_⟩
  have hs0 := setsG_fam p
  simp -implicitDefEqProofs [sc_i_freeIn, F_i_setsIn, hs0]
  have hres : (setsOf fun s => p s ∧ ∃ t, freeOf p s t) = (setsOf p).filter fun s => dec (∃ t, freeOf p s t) := (filt_setsOf p _).symm
  rw [hres]
  have hL := allS_setsOf p
  have hLl := setsOf_len p
  clear hs0
  generalize setsOf p = L at *
  refine loopI env mixed (fun k : Nat => [(0, .int .u64 (fam p)), (3, .sl 1 1 0 ((L.take k).filter fun s => dec (∃ t, freeOf p s t)).length), (9, .sl 0 1 0 L.length), (10, .int .i64 (L.length : Int)), (11, .int .i64 (k : Int))])
    (fun k => ([(1, ints ((L.take k).filter fun s => dec (∃ t, freeOf p s t))), (0, ints L)], 2)) (fun k => k ≤ L.length) (fun k => L.length - k) 0 (by simp) (SubI.nilN 3 1 (by simp) (SubI.slots (by simp) (by simp))) ?_
  intro k hk
  have gl := filt_len L k fun s => dec (∃ t, freeOf p s t)
  by_cases hlt : k < L.length
  · have hp := partG_fam p (allS_at hL hlt)
    by_cases hq : ∃ t, freeOf p (at0 L k) t
    · have e := filt_pos hlt (q := fun s => dec (∃ t, freeOf p s t)) (dec_true hq)
      rw [dec_true hq] at hp
      simp -implicitDefEqProofs [sc_i_freeIn_L0, F_i_freePartner, hlt, hp]
      repeat' (first | omega | apply And.intro)
      refine Again.of (k + 1) (by omega) (by omega) (SubI.ren (fun m => if m = 0 then some 0 else if m = 1 then some 3 else none) ?_ ?_ ?_ (by simp) (by simp))
      · simp (disch := omega) [subT, renV, ren1, wrapI, e]
      · simp [subH, e, renL, ren1]
        rw [← ints_app]
        rfl
      · intro m hm
        simp only at hm
        rw [if_neg (by omega), if_neg (by omega)]
    · have e := filt_neg hlt (q := fun s => dec (∃ t, freeOf p s t)) (dec_false hq)
      rw [dec_false hq] at hp
      simp -implicitDefEqProofs [sc_i_freeIn_L0, F_i_freePartner, hlt, hp]
      repeat' (first | omega | apply And.intro)
      exact Again.of (k + 1) (by omega) (by omega) (SubI.slots (by simp [e]) (by simp (disch := omega) [wrapI, e]))
  · have : k = L.length := by omega
    subst this
    simp -implicitDefEqProofs [sc_i_freeIn_L0]
end Go.Proofs.Ytmemomfffehnkaa
