import Derived.Test.YtedampaecopkhaaFnJ
namespace Go.Proofs.Ytedampaecopkhaa
open Go Go.RowKit
set_option maxRecDepth 1000000
set_option linter.unusedSimpArgs false
set_option linter.unusedVariables false
set_option maxHeartbeats 1000000
def sc_s_IsPure_L0 : SC := (.seq (.seq (.reg [⟨(some 4), none, (.mov (.t 3))⟩, ⟨(some 5), none, (.fad 1 (.t 1))⟩, ⟨(some 6), none, (.ld none .nil (.t 5))⟩, ⟨(some 7), none, (.len (.t 6))⟩, ⟨(some 8), none, (.bin false .lss (.t 4) (.t 7))⟩]) (.cond (.t 8) .skip (.exit 0))) (.seq (.block 1 (.seq (.dreg [⟨⟨(some 11), none, (.fad 1 (.t 1))⟩, false, false⟩, ⟨⟨(some 12), none, (.ld none .nil (.t 11))⟩, false, false⟩, ⟨⟨(some 13), none, (.mov (.t 3))⟩, false, false⟩, ⟨⟨(some 14), none, (.idx 1 (.t 12) (.t 13))⟩, false, false⟩, ⟨⟨(some 15), none, (.ld none (.int .i64 0) (.t 14))⟩, false, false⟩, ⟨⟨(some 16), none, (.call 83 [(.t 15)])⟩, false, false⟩, ⟨⟨(some 17), none, (.fad 1 (.t 1))⟩, false, false⟩, ⟨⟨(some 18), none, (.ld none .nil (.t 17))⟩, false, false⟩, ⟨⟨(some 19), none, (.idx 1 (.t 18) (.c (.int .i64 0)))⟩, false, false⟩, ⟨⟨(some 20), none, (.ld none (.int .i64 0) (.t 19))⟩, false, false⟩, ⟨⟨(some 21), none, (.call 83 [(.t 20)])⟩, false, false⟩, ⟨⟨(some 22), none, (.bin false .neq (.t 16) (.t 21))⟩, false, false⟩]) (.cond (.t 22) (.seq (.reg [⟨(some 2), none, (.mov (.c (.bool false)))⟩]) .ret) .skip))) (.reg [⟨(some 9), none, (.mov (.t 3))⟩, ⟨(some 10), none, (.bin false .add (.t 9) (.c (.int .i64 1)))⟩, ⟨(some 3), none, (.mov (.t 10))⟩])))
def sc_s_IsPure : SC := (.seq (.reg [⟨(some 1), none, (.box (.t 0))⟩, ⟨(some 2), none, (.mov (.c (.bool false)))⟩]) (.seq (.seq (.reg [⟨(some 3), none, (.mov (.c (.int .i64 1)))⟩]) (.block 0 (.loop sc_s_IsPure_L0))) (.seq (.reg [⟨(some 23), none, (.ld (some 2) .undef (.t 1))⟩, ⟨(some 24), none, (.call 56 [(.t 23)])⟩, ⟨(some 2), none, (.mov (.t 24))⟩]) .ret)))
theorem code_s_IsPure : fnCode Try.prog [] 94 = some (25, sc_s_IsPure, [(2, none)]) := by kernel_rfl
def allR (l : List Int) : Prop := ∀ x ∈ l, inR x
theorem allR_at {l : List Int} (h : allR l) {j : Nat} (hj : j < l.length) : at0 l j < 9223372036854775808 := (h _ (getD_mem' hj)).2
noncomputable def pureB (n : Int) (l : List Int) : Bool := dec (cplx n l ∧ ∀ k, k < l.length → sz (at0 l k) = sz (at0 l 0))
theorem pureB_not {n : Int} {l : List Int} {k : Nat} (hk : k < l.length) (h : sz (at0 l k) ≠ sz (at0 l 0)) : pureB n l = false := dec_false fun hp => h (hp.2 k hk)
theorem pureB_of {n : Int} {l : List Int} (h : ∀ k, k < l.length → sz (at0 l k) = sz (at0 l 0)) : pureB n l = cplxB n l := by
  rw [Bool.eq_iff_iff, cplxB_iff]
  exact dec_iff.trans ⟨fun a => a.1, fun a => ⟨a, h⟩⟩
open Classical in
noncomputable def F_s_IsPure : List V → Option V := F1 dC fun c => if allR c.2 then some (.bool (pureB c.1 c.2)) else none
theorem fn_s_IsPure : FnOk Try.prog 94 F_s_IsPure := by
  have env := ((envNil_ok (P := Try.prog)).add fn_s_l2Size).add fn_s_IsComplex
  refine fn_ok code_s_IsPure mixed env ?_
  intro args r h hb
  obtain ⟨_, ⟨n, l⟩, rfl, h1, h4⟩ := F1_inv h
  cases dC_inv h1
  simp only [Option.ite_none_right_eq_some, Option.some.injEq] at h4
  obtain ⟨hR, rfl⟩ := h4
  have hlen := bnd_eC (hb _ (List.mem_cons_self ..))
  simp only at hlen
  refine ⟨by simp, fun w0 U0 L0 N0 => ?_⟩
  generalize hv : pureB n l = v
  simp -implicitDefEqProofs [sc_s_IsPure]
  refine loopI env mixed (fun k : Nat => [(1, .pt 0 0), (3, .int .i64 (k : Int))]) (fun _ => ([(0, [.int .i64 n, .list 1 (ints l)])], 1)) (fun k => (k ≤ l.length ∨ k = 1) ∧ ∀ j, j < k → j < l.length → sz (at0 l j) = sz (at0 l 0)) (fun k => l.length - k) 1
    ⟨.inr rfl, fun j hj _ => by rw [show j = 0 by omega]⟩ (SubI.slots rfl (by simp)) ?_
  rintro k ⟨hk, hn⟩
  by_cases hlt : k < l.length
  · have r1 := allR_at hR hlt
    have r0 := allR_at hR (show 0 < l.length by omega)
    by_cases he : sz (at0 l k) = sz (at0 l 0)
    · simp -implicitDefEqProofs [sc_s_IsPure_L0, F_s_l2Size, hlt, r0, r1, he]
      repeat' (first | omega | apply And.intro | intro _)
      refine Again.of (k + 1) ⟨by omega, fun j hj h2 => ?_⟩ (by omega) (SubI.slots rfl (by simp (disch := omega) [wrapI]))
      rcases Nat.lt_succ_iff_lt_or_eq.1 hj with h1 | rfl
      · exact hn j h1 h2
      · exact he
    · have hv1 : v = false := hv ▸ pureB_not hlt he
      simp -implicitDefEqProofs [sc_s_IsPure_L0, F_s_l2Size, hlt, r0, r1, he, hv1]
      omega
  · have hv1 : cplxB n l = v := by rw [← hv, pureB_of fun j hj => hn j (by omega) hj]
    simp -implicitDefEqProofs [sc_s_IsPure_L0, F_s_IsComplex, hlt, hv1]
def sc_i_IsPure_L0 : SC := (.seq (.reg [⟨(some 12), none, (.bin false .lss (.t 11) (.t 10))⟩]) (.seq (.cond (.t 12) .skip (.exit 0)) (.seq (.block 1 (.seq (.reg [⟨(some 13), none, (.idx 1 (.t 9) (.t 11))⟩, ⟨(some 14), none, (.ld none (.int .i64 0) (.t 13))⟩, ⟨(some 4), none, (.mov (.t 14))⟩]) (.seq (.dreg [⟨⟨(some 15), none, (.mov (.t 4))⟩, false, false⟩, ⟨⟨(some 16), none, (.call 89 [(.t 15)])⟩, false, false⟩, ⟨⟨(some 17), none, (.fad 1 (.t 1))⟩, false, false⟩, ⟨⟨(some 18), none, (.ld none .nil (.t 17))⟩, false, false⟩, ⟨⟨(some 19), none, (.idx 1 (.t 18) (.c (.int .i64 0)))⟩, false, false⟩, ⟨⟨(some 20), none, (.ld none (.int .i64 0) (.t 19))⟩, false, false⟩, ⟨⟨(some 21), none, (.call 89 [(.t 20)])⟩, false, false⟩, ⟨⟨(some 22), none, (.bin false .neq (.t 16) (.t 21))⟩, false, false⟩]) (.cond (.t 22) (.seq (.reg [⟨(some 2), none, (.mov (.c (.bool false)))⟩]) .ret) .skip)))) (.reg [⟨(some 23), none, (.bin false .add (.t 11) (.c (.int .i64 1)))⟩, ⟨(some 11), none, (.mov (.t 23))⟩]))))
def sc_i_IsPure : SC := (.seq (.reg [⟨(some 1), none, (.box (.t 0))⟩, ⟨(some 2), none, (.mov (.c (.bool false)))⟩]) (.seq (.seq (.reg [⟨(some 5), none, (.ld (some 2) .undef (.t 1))⟩, ⟨(some 6), none, (.call 57 [(.t 5)])⟩, ⟨(some 7), none, (.un .not (.t 6))⟩]) (.cond (.t 7) (.seq (.reg [⟨(some 2), none, (.mov (.c (.bool false)))⟩]) .ret) .skip)) (.seq (.seq (.reg [⟨(some 8), none, (.fad 1 (.t 1))⟩, ⟨(some 9), none, (.ld none .nil (.t 8))⟩, ⟨(some 10), none, (.len (.t 9))⟩, ⟨(some 11), none, (.mov (.c (.int .i64 0)))⟩]) (.block 0 (.loop sc_i_IsPure_L0))) (.seq (.reg [⟨(some 2), none, (.mov (.c (.bool true)))⟩]) .ret))))
theorem code_i_IsPure : fnCode Try.prog [] 95 = some (24, sc_i_IsPure, [(2, none)]) := by kernel_rfl
theorem fn_i_IsPure : FnOk Try.prog 95 F_s_IsPure := by
  have env := ((envNil_ok (P := Try.prog)).add fn_i_SizeOf).add fn_i_IsComplex
  refine fn_ok code_i_IsPure mixed env ?_
  intro args r h hb
  obtain ⟨_, ⟨n, l⟩, rfl, h1, h4⟩ := F1_inv h
  cases dC_inv h1
  simp only [Option.ite_none_right_eq_some, Option.some.injEq] at h4
  obtain ⟨hR, rfl⟩ := h4
  have hlen := bnd_eC (hb _ (List.mem_cons_self ..))
  simp only at hlen
  refine ⟨by simp, fun w0 U0 L0 N0 => ?_⟩
  generalize hv : pureB n l = v
  cases hc : cplxB n l with
  | false =>
    have hv1 : v = false := by
      rw [← hv]
      exact dec_false fun h => by have := cplxB_iff.2 h.1; simp [hc] at this
    simp -implicitDefEqProofs [sc_i_IsPure, F_s_IsComplex, hc, hv1]
  | true =>
    have hS := cplx_isS (cplxB_iff.1 hc)
    simp -implicitDefEqProofs [sc_i_IsPure, F_s_IsComplex, hc]
    refine loopI env mixed (fun k : Nat => [(1, .pt 0 0), (9, .list 1 (ints l)), (10, .int .i64 l.length), (11, .int .i64 (k : Int))]) (fun _ => ([(0, [.int .i64 n, .list 1 (ints l)])], 1)) (fun k => k ≤ l.length ∧ ∀ j, j < k → sz (at0 l j) = sz (at0 l 0)) (fun k => l.length - k) 0
      (by simp) (SubI.slots rfl (by simp)) ?_
    rintro k ⟨hk, hn⟩
    by_cases hlt : k < l.length
    · have r1 := sizeOf1_set (allS_at hS hlt).1 (allS_at hS hlt).2
      have r0 := sizeOf1_set (allS_at hS (show 0 < l.length by omega)).1 (allS_at hS (show 0 < l.length by omega)).2
      have h0 : 0 < l.length := by omega
      have hne : l ≠ [] := fun e => by simp [e] at hlt
      by_cases he : sz (at0 l k) = sz (at0 l 0)
      · simp -implicitDefEqProofs [sc_i_IsPure_L0, F_i_SizeOf, hlt, h0, hne, r0, r1, he]
        repeat' (first | omega | apply And.intro | intro _)
        refine Again.of (k + 1) ⟨by omega, fun j hj => ?_⟩ (by omega) (SubI.slots rfl (by simp (disch := omega) [wrapI]))
        rcases Nat.lt_succ_iff_lt_or_eq.1 hj with h1 | rfl
        · exact hn j h1
        · exact he
      · have hv1 : v = false := hv ▸ pureB_not hlt he
        simp -implicitDefEqProofs [sc_i_IsPure_L0, F_i_SizeOf, hlt, h0, hne, r0, r1, he, hv1]
        omega
    · have hv1 : v = true := by rw [← hv, pureB_of fun j hj => hn j (by omega), hc]
      simp -implicitDefEqProofs [sc_i_IsPure_L0, hlt, hv1]
end Go.Proofs.Ytedampaecopkhaa
