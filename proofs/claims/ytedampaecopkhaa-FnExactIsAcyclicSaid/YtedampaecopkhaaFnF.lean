import Derived.Test.YtedampaecopkhaaFnE
namespace Go.Proofs.Ytedampaecopkhaa
open Go Go.RowKit
set_option maxRecDepth 1000000
set_option linter.unusedSimpArgs false
set_option linter.unusedVariables false
set_option maxHeartbeats 1000000
def sc_l_szIntS : SC := (.seq (.reg [⟨(some 4), none, (.mov (.c (.int .i64 0)))⟩]) (.seq (.reg [⟨(some 5), none, (.mov (.t 1))⟩, ⟨(some 6), none, (.mov (.t 0))⟩, ⟨(some 7), none, (.len (.t 6))⟩, ⟨(some 8), none, (.bin false .sub (.t 5) (.t 7))⟩, ⟨(some 1), none, (.mov (.t 8))⟩]) (.seq (.seq (.reg [⟨(some 9), none, (.mov (.t 1))⟩, ⟨(some 10), none, (.bin false .lss (.t 9) (.c (.int .i64 0)))⟩]) (.cond (.t 10) (.seq (.reg [⟨(some 4), none, (.mov (.c (.int .i64 (-1))))⟩]) .ret) .skip)) (.seq (.reg [⟨(some 11), none, (.mov (.t 1))⟩, ⟨(some 4), none, (.mov (.t 11))⟩]) .ret))))
theorem code_l_szIntS : fnCode Try.prog [] 55 = some (12, sc_l_szIntS, [(4, none)]) := by kernel_rfl
/-- What is left of a bound. -/
def leftOf (len : Nat) (left : Int) : Int := if left < len then -1 else left - len
def F_l_szIntS : List V → Option V := F2 dL dI fun l n => if 0 ≤ n ∧ n ≤ 1048576 then some (.int .i64 (leftOf l.length n)) else none
theorem fn_l_szIntS : FnOk Try.prog 55 F_l_szIntS := by
  refine fn_ok code_l_szIntS mixed envNil_ok ?_
  intro args r h hb
  obtain ⟨_, _, l, n, rfl, h1, h2, h4⟩ := F2_inv h
  cases dL_inv h1
  cases dI_inv h2
  simp only [Option.ite_none_right_eq_some, Option.some.injEq] at h4
  obtain ⟨⟨hn1, hn2⟩, rfl⟩ := h4
  have hl := bnd_ints (hb _ (List.mem_cons_self ..))
  refine ⟨by simp, fun w0 U0 L0 N0 => ?_⟩
  have hw : IntKind.i64.wrap (n - (l.length : Int)) = n - l.length := wrapI _ (by omega) (by omega)
  simp -implicitDefEqProofs [sc_l_szIntS, hw, leftOf]
  refine ⟨fun h => ?_, fun h => ?_⟩ <;> omega
def sc_l_szComplex : SC := (.seq (.reg [⟨(some 2), none, (.box (.t 0))⟩, ⟨(some 4), none, (.mov (.c (.int .i64 0)))⟩]) (.seq (.reg [⟨(some 5), none, (.fad 1 (.t 2))⟩, ⟨(some 6), none, (.ld none .nil (.t 5))⟩, ⟨(some 7), none, (.mov (.t 1))⟩, ⟨(some 8), none, (.call 55 [(.t 6), (.t 7)])⟩, ⟨(some 1), none, (.mov (.t 8))⟩]) (.seq (.seq (.reg [⟨(some 9), none, (.mov (.t 1))⟩, ⟨(some 10), none, (.bin false .lss (.t 9) (.c (.int .i64 0)))⟩]) (.cond (.t 10) (.seq (.reg [⟨(some 4), none, (.mov (.c (.int .i64 (-1))))⟩]) .ret) .skip)) (.seq (.reg [⟨(some 11), none, (.mov (.t 1))⟩, ⟨(some 4), none, (.mov (.t 11))⟩]) .ret))))
theorem code_l_szComplex : fnCode Try.prog [] 16 = some (12, sc_l_szComplex, [(4, none)]) := by kernel_rfl
def F_l_szComplex : List V → Option V := F2 dC dI fun c n => if 0 ≤ n ∧ n ≤ 1048576 then some (.int .i64 (leftOf c.2.length n)) else none
theorem fn_l_szComplex : FnOk Try.prog 16 F_l_szComplex := by
  have env := (envNil_ok (P := Try.prog)).add fn_l_szIntS
  refine fn_ok code_l_szComplex mixed env ?_
  intro args r h hb
  obtain ⟨_, _, ⟨p, l⟩, n, rfl, h1, h2, h4⟩ := F2_inv h
  cases dC_inv h1
  cases dI_inv h2
  simp only [Option.ite_none_right_eq_some, Option.some.injEq] at h4
  obtain ⟨⟨hn1, hn2⟩, rfl⟩ := h4
  refine ⟨by simp, fun w0 U0 L0 N0 => ?_⟩
  simp -implicitDefEqProofs [sc_l_szComplex, F_l_szIntS, hn1, hn2]
  simp only [leftOf]
  split <;> omega
def sc_l_toIntS_L0 : SC := (.seq (.seq (.reg [⟨(some 8), none, (.mov (.t 4))⟩, ⟨(some 9), none, (.mov (.t 0))⟩, ⟨(some 10), none, (.len (.t 9))⟩, ⟨(some 11), none, (.bin false .lss (.t 8) (.t 10))⟩]) (.cond (.t 11) .skip (.exit 0))) (.seq (.block 1 (.reg [⟨(some 14), none, (.mov (.t 3))⟩, ⟨(some 15), none, (.mov (.t 4))⟩, ⟨(some 16), none, (.mov (.t 0))⟩, ⟨(some 17), none, (.mov (.t 4))⟩, ⟨(some 18), none, (.idx 1 (.t 16) (.t 17))⟩, ⟨(some 19), none, (.ld none (.int .i64 0) (.t 18))⟩, ⟨(some 20), none, (.idx 1 (.t 14) (.t 15))⟩, ⟨none, none, (.st 1 (.t 20) (.t 19))⟩])) (.reg [⟨(some 12), none, (.mov (.t 4))⟩, ⟨(some 13), none, (.bin false .add (.t 12) (.c (.int .i64 1)))⟩, ⟨(some 4), none, (.mov (.t 13))⟩])))
def sc_l_toIntS : SC := (.seq (.reg [⟨(some 2), none, (.mov (.c .nil))⟩]) (.seq (.reg [⟨(some 5), none, (.mov (.t 0))⟩, ⟨(some 6), none, (.len (.t 5))⟩, ⟨(some 7), none, (.mk 1 8 [(.int .i64 0)] (.t 6) (.t 6))⟩, ⟨(some 3), none, (.mov (.t 7))⟩]) (.seq (.seq (.reg [⟨(some 4), none, (.mov (.c (.int .i64 0)))⟩]) (.block 0 (.loop sc_l_toIntS_L0))) (.seq (.reg [⟨(some 21), none, (.mov (.t 3))⟩, ⟨(some 2), none, (.mov (.t 21))⟩]) .ret))))
theorem code_l_toIntS : fnCode Try.prog [] 22 = some (22, sc_l_toIntS, [(2, none)]) := by kernel_rfl
def F_l_toIntS : List V → Option V := F1 dL fun l => if l.length ≤ 1048576 then some (.own 1 (ints l)) else none
theorem fn_l_toIntS : FnOk Try.prog 22 F_l_toIntS := by
  refine fn_ok code_l_toIntS mixed envNil_ok ?_
  intro args r h hb
  obtain ⟨_, l, rfl, h1, h4⟩ := F1_inv h
  cases dL_inv h1
  simp only [Option.ite_none_right_eq_some, Option.some.injEq] at h4
  obtain ⟨hl, rfl⟩ := h4
  refine ⟨by simp, fun w0 U0 L0 N0 => ?_⟩
  simp -implicitDefEqProofs [sc_l_toIntS]
  refine ⟨by omega, ?_⟩
  refine loopI envNil_ok mixed (fun x : Nat × List Int => [(0, .list 1 (ints l)), (3, .sl 0 1 0 l.length), (4, .int .i64 (x.1 : Int))]) (fun x => ([(0, ints x.2)], 1)) (fun x => x.1 ≤ l.length ∧ x.2.length = l.length ∧ ∀ j, j < x.1 → at0 x.2 j = at0 l j) (fun x => l.length - x.1) (0, List.replicate l.length 0) (by simp) (SubI.slots rfl (by simp)) ?_
  rintro ⟨k, m⟩ ⟨hk, hm, hn⟩
  simp only at hk hm hn
  by_cases hlt : k < l.length
  · simp -implicitDefEqProofs [sc_l_toIntS_L0, hlt, hm]
    repeat' (first | omega | apply And.intro | intro _)
    refine Again.of (k + 1, m.set k (at0 l k)) ⟨by simp only; omega, by simpa using hm, fun j hj => ?_⟩ (by simp only; omega) (SubI.slots (by simp) (by simp (disch := omega) [wrapI]))
    simp only at hj ⊢
    rw [at0_set]
    split
    · rename_i h; rw [h.1]
    · exact hn j (by omega)
  · simp -implicitDefEqProofs [sc_l_toIntS_L0, hlt, hm]
    rw [← hm]
    have : m = l := at0_ext hm fun j hj => hn j (by omega)
    subst this
    simp
def sc_l_toComplex : SC := (.seq (.reg [⟨(some 1), none, (.box (.t 0))⟩, ⟨(some 2), none, (.new [(.int .i64 0), .nil])⟩]) (.seq (.reg [⟨(some 3), none, (.new [(.int .i64 0), .nil])⟩]) (.seq (.reg [⟨(some 4), none, (.fad 0 (.t 1))⟩, ⟨(some 5), none, (.ld none (.int .i64 0) (.t 4))⟩, ⟨(some 6), none, (.fad 0 (.t 3))⟩, ⟨none, none, (.st 1 (.t 6) (.t 5))⟩]) (.seq (.reg [⟨(some 7), none, (.fad 1 (.t 1))⟩, ⟨(some 8), none, (.ld none .nil (.t 7))⟩, ⟨(some 9), none, (.call 22 [(.t 8)])⟩, ⟨(some 10), none, (.fad 1 (.t 3))⟩, ⟨none, none, (.st 1 (.t 10) (.t 9))⟩]) (.seq (.reg [⟨(some 11), none, (.ld (some 2) .undef (.t 3))⟩, ⟨none, none, (.st 2 (.t 2) (.t 11))⟩]) .ret)))))
theorem code_l_toComplex : fnCode Try.prog [] 18 = some (12, sc_l_toComplex, [(2, (some 2))]) := by kernel_rfl
def F_l_toComplex : List V → Option V := F1 dC fun c => if c.2.length ≤ 1048576 then some (.agg [.int .i64 c.1, .own 1 (ints c.2)]) else none
theorem fn_l_toComplex : FnOk Try.prog 18 F_l_toComplex := by
  have env := (envNil_ok (P := Try.prog)).add fn_l_toIntS
  refine fn_ok code_l_toComplex mixed env ?_
  intro args r h hb
  obtain ⟨_, ⟨n, l⟩, rfl, h1, h4⟩ := F1_inv h
  cases dC_inv h1
  simp only [Option.ite_none_right_eq_some, Option.some.injEq] at h4
  obtain ⟨hl, rfl⟩ := h4
  refine ⟨by simp, fun w0 U0 L0 N0 => ?_⟩
  simp -implicitDefEqProofs [sc_l_toComplex, F_l_toIntS, hl]
def sc_l_eqIntS_L0 : SC := (.seq (.seq (.reg [⟨(some 11), none, (.mov (.t 5))⟩, ⟨(some 12), none, (.mov (.t 0))⟩, ⟨(some 13), none, (.len (.t 12))⟩, ⟨(some 14), none, (.bin false .lss (.t 11) (.t 13))⟩]) (.cond (.t 14) .skip (.exit 0))) (.seq (.block 1 (.seq (.dreg [⟨⟨(some 17), none, (.mov (.t 0))⟩, false, false⟩, ⟨⟨(some 18), none, (.mov (.t 5))⟩, false, false⟩, ⟨⟨(some 19), none, (.idx 1 (.t 17) (.t 18))⟩, false, false⟩, ⟨⟨(some 20), none, (.ld none (.int .i64 0) (.t 19))⟩, false, false⟩, ⟨⟨(some 21), none, (.mov (.t 1))⟩, false, false⟩, ⟨⟨(some 22), none, (.mov (.t 5))⟩, false, false⟩, ⟨⟨(some 23), none, (.idx 1 (.t 21) (.t 22))⟩, false, false⟩, ⟨⟨(some 24), none, (.ld none (.int .i64 0) (.t 23))⟩, false, false⟩, ⟨⟨(some 25), none, (.bin false .neq (.t 20) (.t 24))⟩, false, false⟩]) (.cond (.t 25) (.seq (.reg [⟨(some 4), none, (.mov (.c (.bool false)))⟩]) .ret) .skip))) (.reg [⟨(some 15), none, (.mov (.t 5))⟩, ⟨(some 16), none, (.bin false .add (.t 15) (.c (.int .i64 1)))⟩, ⟨(some 5), none, (.mov (.t 16))⟩])))
def sc_l_eqIntS : SC := (.seq (.reg [⟨(some 4), none, (.mov (.c (.bool false)))⟩]) (.seq (.seq (.reg [⟨(some 6), none, (.mov (.t 0))⟩, ⟨(some 7), none, (.len (.t 6))⟩, ⟨(some 8), none, (.mov (.t 1))⟩, ⟨(some 9), none, (.len (.t 8))⟩, ⟨(some 10), none, (.bin false .neq (.t 7) (.t 9))⟩]) (.cond (.t 10) (.seq (.reg [⟨(some 4), none, (.mov (.c (.bool false)))⟩]) .ret) .skip)) (.seq (.seq (.reg [⟨(some 5), none, (.mov (.c (.int .i64 0)))⟩]) (.block 0 (.loop sc_l_eqIntS_L0))) (.seq (.reg [⟨(some 4), none, (.mov (.c (.bool true)))⟩]) .ret))))
theorem code_l_eqIntS : fnCode Try.prog [] 24 = some (26, sc_l_eqIntS, [(4, none)]) := by kernel_rfl
def F_l_eqIntS : List V → Option V := F2 dL dL fun a b => some (.bool (decide (a = b)))
theorem fn_l_eqIntS : FnOk Try.prog 24 F_l_eqIntS := by
  refine fn_ok code_l_eqIntS mixed envNil_ok ?_
  intro args r h hb
  obtain ⟨_, _, a, b, rfl, h1, h2, h4⟩ := F2_inv h
  cases dL_inv h1
  cases dL_inv h2
  cases h4
  have hl := bnd_ints (hb _ (List.mem_cons_self ..))
  refine ⟨by simp, fun w0 U0 L0 N0 => ?_⟩
  generalize hv : decide (a = b) = v
  by_cases hlen : a.length = b.length
  · simp -implicitDefEqProofs [sc_l_eqIntS, hlen]
    refine loopI envNil_ok mixed (fun k : Nat => [(0, .list 1 (ints a)), (1, .list 1 (ints b)), (5, .int .i64 (k : Int))]) (fun _ => ([], 0)) (fun k => k ≤ a.length ∧ ∀ j, j < k → at0 a j = at0 b j) (fun k => a.length - k) 0 (by simp) (SubI.slots rfl (by simp)) ?_
    rintro k ⟨hk, hn⟩
    by_cases hlt : k < a.length
    · by_cases he : at0 a k = at0 b k
      · simp -implicitDefEqProofs [sc_l_eqIntS_L0, hlt, he]
        repeat' (first | omega | apply And.intro | intro _)
        refine Again.of (k + 1) ⟨by omega, fun j hj => ?_⟩ (by omega) (SubI.slots rfl (by simp (disch := omega) [wrapI]))
        rcases Nat.lt_succ_iff_lt_or_eq.1 hj with h1 | rfl
        · exact hn j h1
        · exact he
      · have hf : v = false := by
          rw [← hv, decide_eq_false_iff_not]
          exact fun e => he (by rw [e])
        simp -implicitDefEqProofs [sc_l_eqIntS_L0, hlt, he, hf]
        omega
    · have hf : v = true := by
        rw [← hv, decide_eq_true_iff]
        exact at0_ext hlen fun j hj => hn j (by omega)
      simp -implicitDefEqProofs [sc_l_eqIntS_L0, hlt, hf]
  · have hf : v = false := by
      rw [← hv, decide_eq_false_iff_not]
      exact fun e => hlen (by rw [e])
    simp -implicitDefEqProofs [sc_l_eqIntS, hf]
    omega
def sc_l_eqComplex : SC := (.seq (.reg [⟨(some 2), none, (.box (.t 0))⟩, ⟨(some 3), none, (.box (.t 1))⟩, ⟨(some 4), none, (.mov (.c (.bool false)))⟩]) (.seq (.seq (.reg [⟨(some 5), none, (.fad 0 (.t 2))⟩, ⟨(some 6), none, (.ld none (.int .i64 0) (.t 5))⟩, ⟨(some 7), none, (.fad 0 (.t 3))⟩, ⟨(some 8), none, (.ld none (.int .i64 0) (.t 7))⟩, ⟨(some 9), none, (.bin false .neq (.t 6) (.t 8))⟩]) (.cond (.t 9) (.seq (.reg [⟨(some 4), none, (.mov (.c (.bool false)))⟩]) .ret) .skip)) (.seq (.seq (.reg [⟨(some 10), none, (.fad 1 (.t 2))⟩, ⟨(some 11), none, (.ld none .nil (.t 10))⟩, ⟨(some 12), none, (.fad 1 (.t 3))⟩, ⟨(some 13), none, (.ld none .nil (.t 12))⟩, ⟨(some 14), none, (.call 24 [(.t 11), (.t 13)])⟩, ⟨(some 15), none, (.un .not (.t 14))⟩]) (.cond (.t 15) (.seq (.reg [⟨(some 4), none, (.mov (.c (.bool false)))⟩]) .ret) .skip)) (.seq (.reg [⟨(some 4), none, (.mov (.c (.bool true)))⟩]) .ret))))
theorem code_l_eqComplex : fnCode Try.prog [] 20 = some (16, sc_l_eqComplex, [(4, none)]) := by kernel_rfl
def F_l_eqComplex : List V → Option V := F2 dC dC fun a b => some (.bool (decide (a = b)))
theorem fn_l_eqComplex : FnOk Try.prog 20 F_l_eqComplex := by
  have env := (envNil_ok (P := Try.prog)).add fn_l_eqIntS
  refine fn_ok code_l_eqComplex mixed env ?_
  intro args r h hb
  obtain ⟨_, _, ⟨p, a⟩, ⟨q, b⟩, rfl, h1, h2, h4⟩ := F2_inv h
  cases dC_inv h1
  cases dC_inv h2
  cases h4
  refine ⟨by simp, fun w0 U0 L0 N0 => ?_⟩
  by_cases hp : p = q
  · by_cases hab : a = b
    · simp -implicitDefEqProofs [sc_l_eqComplex, F_l_eqIntS, hp, hab]
    · simp -implicitDefEqProofs [sc_l_eqComplex, F_l_eqIntS, hp, hab]
  · simp -implicitDefEqProofs [sc_l_eqComplex, F_l_eqIntS, hp]
end Go.Proofs.Ytedampaecopkhaa
