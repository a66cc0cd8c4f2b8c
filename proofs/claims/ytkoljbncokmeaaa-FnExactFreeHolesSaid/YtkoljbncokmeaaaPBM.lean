import Derived.Test.YtkoljbncokmeaaaPBD
import Derived.Test.YtkoljbncokmeaaaPBC
import Derived.Test.YtkoljbncokmeaaaPBL
namespace Go.Proofs.Ytkoljbncokmeaaa
open Go Go.RowKit
set_option maxRecDepth 1000000
set_option linter.unusedSimpArgs false
set_option linter.unusedVariables false
set_option maxHeartbeats 1000000
def sc_l_szIntS : SC := (.seq (.reg [⟨(some 4), none, (.mov (.c (.int .i64 0)))⟩]) (.seq (.reg [⟨(some 5), none, (.mov (.t 1))⟩, ⟨(some 6), none, (.mov (.t 0))⟩, ⟨(some 7), none, (.len (.t 6))⟩, ⟨(some 8), none, (.bin false .sub (.t 5) (.t 7))⟩, ⟨(some 1), none, (.mov (.t 8))⟩]) (.seq (.seq (.reg [⟨(some 9), none, (.mov (.t 1))⟩, ⟨(some 10), none, (.bin false .lss (.t 9) (.c (.int .i64 0)))⟩]) (.cond (.t 10) (.seq (.reg [⟨(some 4), none, (.mov (.c (.int .i64 (-1))))⟩]) .ret) .skip)) (.seq (.reg [⟨(some 11), none, (.mov (.t 1))⟩, ⟨(some 4), none, (.mov (.t 11))⟩]) .ret))))
theorem code_l_szIntS : fnCode Try.prog [] 26 = some (12, sc_l_szIntS, [(4, none)]) := by kernel_rfl
/-- What is left of a bound. -/
def leftOf (len : Nat) (left : Int) : Int := if left < len then -1 else left - len
def F_l_szIntS : List V → Option V := F2 dL dI fun l n => if 0 ≤ n ∧ n ≤ 1048576 then some (.int .i64 (leftOf l.length n)) else none
theorem fn_l_szIntS : FnOk Try.prog 26 F_l_szIntS := by
  refine fn_ok code_l_szIntS mixed envNil_ok ?_
  intro args r h hb
  obtain ⟨_, _, l, n, rfl, h1, h2, h4⟩ := F2_inv h
  cases dL_inv h1
  cases dI_inv h2
  simp only [Option.ite_none_right_eq_some, Option.some.injEq] at h4
  obtain ⟨⟨hn1, hn2⟩, rfl⟩ := h4
  have hl := bnd_ints (hb _ (List.mem_cons_self ..))
  refine ⟨by simp, fun w0 U0 L0 N0 => ?_⟩
  have hw : IntKind.i64.wrap (n - (l.length : Int)) = n - l.length := wrapI _ (by omega) (by omega)
  simp -implicitDefEqProofs [sc_l_szIntS, hw, leftOf]
  refine ⟨fun h => ?_, fun h => ?_⟩ <;> omega
def sc_l_szComplex : SC := (.seq (.reg [⟨(some 2), none, (.box (.t 0))⟩, ⟨(some 4), none, (.mov (.c (.int .i64 0)))⟩]) (.seq (.reg [⟨(some 5), none, (.fad 1 (.t 2))⟩, ⟨(some 6), none, (.ld none .nil (.t 5))⟩, ⟨(some 7), none, (.mov (.t 1))⟩, ⟨(some 8), none, (.call 26 [(.t 6), (.t 7)])⟩, ⟨(some 1), none, (.mov (.t 8))⟩]) (.seq (.seq (.reg [⟨(some 9), none, (.mov (.t 1))⟩, ⟨(some 10), none, (.bin false .lss (.t 9) (.c (.int .i64 0)))⟩]) (.cond (.t 10) (.seq (.reg [⟨(some 4), none, (.mov (.c (.int .i64 (-1))))⟩]) .ret) .skip)) (.seq (.reg [⟨(some 11), none, (.mov (.t 1))⟩, ⟨(some 4), none, (.mov (.t 11))⟩]) .ret))))
theorem code_l_szComplex : fnCode Try.prog [] 16 = some (12, sc_l_szComplex, [(4, none)]) := by kernel_rfl
def F_l_szComplex : List V → Option V := F2 dC dI fun c n => if 0 ≤ n ∧ n ≤ 1048576 then some (.int .i64 (leftOf c.2.length n)) else none
theorem fn_l_szComplex : FnOk Try.prog 16 F_l_szComplex := by
  have env := (envNil_ok (P := Try.prog)).add fn_l_szIntS
  refine fn_ok code_l_szComplex mixed env ?_
  intro args r h hb
  obtain ⟨_, _, ⟨p, l⟩, n, rfl, h1, h2, h4⟩ := F2_inv h
  cases dC_inv h1
  cases dI_inv h2
  simp only [Option.ite_none_right_eq_some, Option.some.injEq] at h4
  obtain ⟨⟨hn1, hn2⟩, rfl⟩ := h4
  refine ⟨by simp, fun w0 U0 L0 N0 => ?_⟩
  simp -implicitDefEqProofs [sc_l_szComplex, F_l_szIntS, hn1, hn2]
  simp only [leftOf]
  split <;> omega
def sc_l_toIntS_L0 : SC := (.seq (.seq (.reg [⟨(some 8), none, (.mov (.t 4))⟩, ⟨(some 9), none, (.mov (.t 0))⟩, ⟨(some 10), none, (.len (.t 9))⟩, ⟨(some 11), none, (.bin false .lss (.t 8) (.t 10))⟩]) (.cond (.t 11) .skip (.exit 0))) (.seq (.block 1 (.reg [⟨(some 14), none, (.mov (.t 3))⟩, ⟨(some 15), none, (.mov (.t 4))⟩, ⟨(some 16), none, (.mov (.t 0))⟩, ⟨(some 17), none, (.mov (.t 4))⟩, ⟨(some 18), none, (.idx 1 (.t 16) (.t 17))⟩, ⟨(some 19), none, (.ld none (.int .i64 0) (.t 18))⟩, ⟨(some 20), none, (.idx 1 (.t 14) (.t 15))⟩, ⟨none, none, (.st 1 (.t 20) (.t 19))⟩])) (.reg [⟨(some 12), none, (.mov (.t 4))⟩, ⟨(some 13), none, (.bin false .add (.t 12) (.c (.int .i64 1)))⟩, ⟨(some 4), none, (.mov (.t 13))⟩])))
def sc_l_toIntS : SC := (.seq (.reg [⟨(some 2), none, (.mov (.c .nil))⟩]) (.seq (.reg [⟨(some 5), none, (.mov (.t 0))⟩, ⟨(some 6), none, (.len (.t 5))⟩, ⟨(some 7), none, (.mk 1 8 [(.int .i64 0)] (.t 6) (.t 6))⟩, ⟨(some 3), none, (.mov (.t 7))⟩]) (.seq (.seq (.reg [⟨(some 4), none, (.mov (.c (.int .i64 0)))⟩]) (.block 0 (.loop sc_l_toIntS_L0))) (.seq (.reg [⟨(some 21), none, (.mov (.t 3))⟩, ⟨(some 2), none, (.mov (.t 21))⟩]) .ret))))
theorem code_l_toIntS : fnCode Try.prog [] 30 = some (22, sc_l_toIntS, [(2, none)]) := by kernel_rfl
def F_l_toIntS : List V → Option V := F1 dL fun l => if l.length ≤ 1048576 then some (.own 1 (ints l)) else none
theorem fn_l_toIntS : FnOk Try.prog 30 F_l_toIntS := by
  refine fn_ok code_l_toIntS mixed envNil_ok ?_
  intro args r h hb
  obtain ⟨_, l, rfl, h1, h4⟩ := F1_inv h
  cases dL_inv h1
  simp only [Option.ite_none_right_eq_some, Option.some.injEq] at h4
  obtain ⟨hl, rfl⟩ := h4
  refine ⟨by simp, fun w0 U0 L0 N0 => ?_⟩
  simp -implicitDefEqProofs [sc_l_toIntS]
  refine ⟨by omega, ?_⟩
  refine loopI envNil_ok mixed (fun x : Nat × List Int => [(0, .list 1 (ints l)), (3, .sl 0 1 0 l.length), (4, .int .i64 (x.1 : Int))]) (fun x => ([(0, ints x.2)], 1)) (fun x => x.1 ≤ l.length ∧ x.2.length = l.length ∧ ∀ j, j < x.1 → at0 x.2 j = at0 l j) (fun x => l.length - x.1) (0, List.replicate l.length 0) (by simp) (SubI.slots rfl (by simp)) ?_
  rintro ⟨k, m⟩ ⟨hk, hm, hn⟩
  simp only at hk hm hn
  by_cases hlt : k < l.length
  · simp -implicitDefEqProofs [sc_l_toIntS_L0, hlt, hm]
    repeat' (first | omega | apply And.intro | intro _)
    refine Again.of (k + 1, m.set k (at0 l k)) ⟨by simp only; omega, by simpa using hm, fun j hj => ?_⟩ (by simp only; omega) (SubI.slots (by simp) (by simp (disch := omega) [wrapI]))
    simp only at hj ⊢
    rw [at0_set]
    split
    · rename_i h; rw [h.1]
    · exact hn j (by omega)
  · simp -implicitDefEqProofs [sc_l_toIntS_L0, hlt, hm]
    rw [← hm]
    have : m = l := at0_ext hm fun j hj => hn j (by omega)
    subst this
    simp
def sc_l_toComplex : SC := (.seq (.reg [⟨(some 1), none, (.box (.t 0))⟩, ⟨(some 2), none, (.new [(.int .i64 0), .nil])⟩]) (.seq (.reg [⟨(some 3), none, (.new [(.int .i64 0), .nil])⟩]) (.seq (.reg [⟨(some 4), none, (.fad 0 (.t 1))⟩, ⟨(some 5), none, (.ld none (.int .i64 0) (.t 4))⟩, ⟨(some 6), none, (.fad 0 (.t 3))⟩, ⟨none, none, (.st 1 (.t 6) (.t 5))⟩]) (.seq (.reg [⟨(some 7), none, (.fad 1 (.t 1))⟩, ⟨(some 8), none, (.ld none .nil (.t 7))⟩, ⟨(some 9), none, (.call 30 [(.t 8)])⟩, ⟨(some 10), none, (.fad 1 (.t 3))⟩, ⟨none, none, (.st 1 (.t 10) (.t 9))⟩]) (.seq (.reg [⟨(some 11), none, (.ld (some 2) .undef (.t 3))⟩, ⟨none, none, (.st 2 (.t 2) (.t 11))⟩]) .ret)))))
theorem code_l_toComplex : fnCode Try.prog [] 18 = some (12, sc_l_toComplex, [(2, (some 2))]) := by kernel_rfl
def F_l_toComplex : List V → Option V := F1 dC fun c => if c.2.length ≤ 1048576 then some (.agg [.int .i64 c.1, .own 1 (ints c.2)]) else none
theorem fn_l_toComplex : FnOk Try.prog 18 F_l_toComplex := by
  have env := (envNil_ok (P := Try.prog)).add fn_l_toIntS
  refine fn_ok code_l_toComplex mixed env ?_
  intro args r h hb
  obtain ⟨_, ⟨n, l⟩, rfl, h1, h4⟩ := F1_inv h
  cases dC_inv h1
  simp only [Option.ite_none_right_eq_some, Option.some.injEq] at h4
  obtain ⟨hl, rfl⟩ := h4
  refine ⟨by simp, fun w0 U0 L0 N0 => ?_⟩
  simp -implicitDefEqProofs [sc_l_toComplex, F_l_toIntS, hl]
def sc_l_eqIntS_L0 : SC := (.seq (.seq (.reg [⟨(some 11), none, (.mov (.t 5))⟩, ⟨(some 12), none, (.mov (.t 0))⟩, ⟨(some 13), none, (.len (.t 12))⟩, ⟨(some 14), none, (.bin false .lss (.t 11) (.t 13))⟩]) (.cond (.t 14) .skip (.exit 0))) (.seq (.block 1 (.seq (.dreg [⟨⟨(some 17), none, (.mov (.t 0))⟩, false, false⟩, ⟨⟨(some 18), none, (.mov (.t 5))⟩, false, false⟩, ⟨⟨(some 19), none, (.idx 1 (.t 17) (.t 18))⟩, false, false⟩, ⟨⟨(some 20), none, (.ld none (.int .i64 0) (.t 19))⟩, false, false⟩, ⟨⟨(some 21), none, (.mov (.t 1))⟩, false, false⟩, ⟨⟨(some 22), none, (.mov (.t 5))⟩, false, false⟩, ⟨⟨(some 23), none, (.idx 1 (.t 21) (.t 22))⟩, false, false⟩, ⟨⟨(some 24), none, (.ld none (.int .i64 0) (.t 23))⟩, false, false⟩, ⟨⟨(some 25), none, (.bin false .neq (.t 20) (.t 24))⟩, false, false⟩]) (.cond (.t 25) (.seq (.reg [⟨(some 4), none, (.mov (.c (.bool false)))⟩]) .ret) .skip))) (.reg [⟨(some 15), none, (.mov (.t 5))⟩, ⟨(some 16), none, (.bin false .add (.t 15) (.c (.int .i64 1)))⟩, ⟨(some 5), none, (.mov (.t 16))⟩])))
def sc_l_eqIntS : SC := (.seq (.reg [⟨(some 4), none, (.mov (.c (.bool false)))⟩]) (.seq (.seq (.reg [⟨(some 6), none, (.mov (.t 0))⟩, ⟨(some 7), none, (.len (.t 6))⟩, ⟨(some 8), none, (.mov (.t 1))⟩, ⟨(some 9), none, (.len (.t 8))⟩, ⟨(some 10), none, (.bin false .neq (.t 7) (.t 9))⟩]) (.cond (.t 10) (.seq (.reg [⟨(some 4), none, (.mov (.c (.bool false)))⟩]) .ret) .skip)) (.seq (.seq (.reg [⟨(some 5), none, (.mov (.c (.int .i64 0)))⟩]) (.block 0 (.loop sc_l_eqIntS_L0))) (.seq (.reg [⟨(some 4), none, (.mov (.c (.bool true)))⟩]) .ret))))
theorem code_l_eqIntS : fnCode Try.prog [] 11 = some (26, sc_l_eqIntS, [(4, none)]) := by kernel_rfl
def F_l_eqIntS : List V → Option V := F2 dL dL fun a b => some (.bool (decide (a = b)))
theorem fn_l_eqIntS : FnOk Try.prog 11 F_l_eqIntS := by
  refine fn_ok code_l_eqIntS mixed envNil_ok ?_
  intro args r h hb
  obtain ⟨_, _, a, b, rfl, h1, h2, h4⟩ := F2_inv h
  cases dL_inv h1
  cases dL_inv h2
  cases h4
  have hl := bnd_ints (hb _ (List.mem_cons_self ..))
  refine ⟨by simp, fun w0 U0 L0 N0 => ?_⟩
  generalize hv : decide (a = b) = v
  by_cases hlen : a.length = b.length
  · simp -implicitDefEqProofs [sc_l_eqIntS, hlen]
    refine loopI envNil_ok mixed (fun k : Nat => [(0, .list 1 (ints a)), (1, .list 1 (ints b)), (5, .int .i64 (k : Int))]) (fun _ => ([], 0)) (fun k => k ≤ a.length ∧ ∀ j, j < k → at0 a j = at0 b j) (fun k => a.length - k) 0 (by simp) (SubI.slots rfl (by simp)) ?_
    rintro k ⟨hk, hn⟩
    by_cases hlt : k < a.length
    · by_cases he : at0 a k = at0 b k
      · simp -implicitDefEqProofs [sc_l_eqIntS_L0, hlt, he]
        repeat' (first | omega | apply And.intro | intro _)
        refine Again.of (k + 1) ⟨by omega, fun j hj => ?_⟩ (by omega) (SubI.slots rfl (by simp (disch := omega) [wrapI]))
        rcases Nat.lt_succ_iff_lt_or_eq.1 hj with h1 | rfl
        · exact hn j h1
        · exact he
      · have hf : v = false := by
          rw [← hv, decide_eq_false_iff_not]
          exact fun e => he (by rw [e])
        simp -implicitDefEqProofs [sc_l_eqIntS_L0, hlt, he, hf]
        omega
    · have hf : v = true := by
        rw [← hv, decide_eq_true_iff]
        exact at0_ext hlen fun j hj => hn j (by omega)
      simp -implicitDefEqProofs [sc_l_eqIntS_L0, hlt, hf]
  · have hf : v = false := by
      rw [← hv, decide_eq_false_iff_not]
      exact fun e => hlen (by rw [e])
    simp -implicitDefEqProofs [sc_l_eqIntS, hf]
    omega
def sc_l_eqComplex : SC := (.seq (.reg [⟨(some 2), none, (.box (.t 0))⟩, ⟨(some 3), none, (.box (.t 1))⟩, ⟨(some 4), none, (.mov (.c (.bool false)))⟩]) (.seq (.seq (.reg [⟨(some 5), none, (.fad 0 (.t 2))⟩, ⟨(some 6), none, (.ld none (.int .i64 0) (.t 5))⟩, ⟨(some 7), none, (.fad 0 (.t 3))⟩, ⟨(some 8), none, (.ld none (.int .i64 0) (.t 7))⟩, ⟨(some 9), none, (.bin false .neq (.t 6) (.t 8))⟩]) (.cond (.t 9) (.seq (.reg [⟨(some 4), none, (.mov (.c (.bool false)))⟩]) .ret) .skip)) (.seq (.seq (.reg [⟨(some 10), none, (.fad 1 (.t 2))⟩, ⟨(some 11), none, (.ld none .nil (.t 10))⟩, ⟨(some 12), none, (.fad 1 (.t 3))⟩, ⟨(some 13), none, (.ld none .nil (.t 12))⟩, ⟨(some 14), none, (.call 11 [(.t 11), (.t 13)])⟩, ⟨(some 15), none, (.un .not (.t 14))⟩]) (.cond (.t 15) (.seq (.reg [⟨(some 4), none, (.mov (.c (.bool false)))⟩]) .ret) .skip)) (.seq (.reg [⟨(some 4), none, (.mov (.c (.bool true)))⟩]) .ret))))
theorem code_l_eqComplex : fnCode Try.prog [] 20 = some (16, sc_l_eqComplex, [(4, none)]) := by kernel_rfl
def F_l_eqComplex : List V → Option V := F2 dC dC fun a b => some (.bool (decide (a = b)))
theorem fn_l_eqComplex : FnOk Try.prog 20 F_l_eqComplex := by
  have env := (envNil_ok (P := Try.prog)).add fn_l_eqIntS
  refine fn_ok code_l_eqComplex mixed env ?_
  intro args r h hb
  obtain ⟨_, _, ⟨p, a⟩, ⟨q, b⟩, rfl, h1, h2, h4⟩ := F2_inv h
  cases dC_inv h1
  cases dC_inv h2
  cases h4
  refine ⟨by simp, fun w0 U0 L0 N0 => ?_⟩
  by_cases hp : p = q
  · by_cases hab : a = b
    · simp -implicitDefEqProofs [sc_l_eqComplex, F_l_eqIntS, hp, hab]
    · simp -implicitDefEqProofs [sc_l_eqComplex, F_l_eqIntS, hp, hab]
  · simp -implicitDefEqProofs [sc_l_eqComplex, F_l_eqIntS, hp]
end Go.Proofs.Ytkoljbncokmeaaa
namespace Go.Proofs.Ytkoljbncokmeaaa
open Go Go.RowKit
set_option maxRecDepth 1000000
set_option linter.unusedSimpArgs false
set_option linter.unusedVariables false
set_option maxHeartbeats 1000000
def sc_l_markIntS_L0 : SC := (.seq (.seq (.reg [⟨(some 6), none, (.mov (.t 5))⟩, ⟨(some 7), none, (.mov (.t 0))⟩, ⟨(some 8), none, (.len (.t 7))⟩, ⟨(some 9), none, (.bin false .lss (.t 6) (.t 8))⟩]) (.cond (.t 9) .skip (.exit 0))) (.seq (.block 1 (.seq (.reg [⟨(some 12), none, (.mov (.t 0))⟩, ⟨(some 13), none, (.mov (.t 5))⟩, ⟨(some 14), none, (.mov (.t 1))⟩, ⟨(some 15), none, (.idx 1 (.t 12) (.t 13))⟩, ⟨none, none, (.st 1 (.t 15) (.t 14))⟩]) (.reg [⟨(some 16), none, (.mov (.t 1))⟩, ⟨(some 17), none, (.bin false .add (.t 16) (.c (.int .i64 1)))⟩, ⟨(some 1), none, (.mov (.t 17))⟩]))) (.reg [⟨(some 10), none, (.mov (.t 5))⟩, ⟨(some 11), none, (.bin false .add (.t 10) (.c (.int .i64 1)))⟩, ⟨(some 5), none, (.mov (.t 11))⟩])))
def sc_l_markIntS : SC := (.seq (.reg [⟨(some 4), none, (.mov (.c (.int .i64 0)))⟩]) (.seq (.seq (.reg [⟨(some 5), none, (.mov (.c (.int .i64 0)))⟩]) (.block 0 (.loop sc_l_markIntS_L0))) (.seq (.reg [⟨(some 18), none, (.mov (.t 1))⟩, ⟨(some 4), none, (.mov (.t 18))⟩]) .ret)))
theorem code_l_markIntS : fnCode Try.prog [] 14 = some (19, sc_l_markIntS, [(4, none)]) := by kernel_rfl
/-- The numbers from k on. -/
def marks (k : Int) (n : Nat) : List Int := (List.range n).map fun (i : Nat) => k + (i : Int)
@[simp] theorem marks_len (k : Int) (n : Nat) : (marks k n).length = n := by simp [marks]
@[simp] theorem marks_take (k : Int) (n : Nat) : (marks k n).take n = marks k n := List.take_of_length_le (by simp)
theorem at0_marks {k : Int} {n j : Nat} (h : j < n) : at0 (marks k n) j = k + j := by simp [marks, at0, h]
theorem marks_step {k : Int} {l : List Int} {i : Nat} (h : i < l.length) : (marks k i ++ l.drop i).set i (k + i) = marks k (i + 1) ++ l.drop (i + 1) := by
  apply at0_ext
  · simp; omega
  · intro j hj
    simp only [List.length_set, List.length_append, marks_len, List.length_drop] at hj
    rw [at0_set, at0_app, at0_app]
    simp only [marks_len, List.length_append, List.length_drop]
    by_cases e : i = j
    · subst e
      rw [if_pos ⟨rfl, by omega⟩, if_pos (by omega), at0_marks (by omega)]
    · rw [if_neg (by omega)]
      by_cases h1 : j < i
      · rw [if_pos h1, if_pos (by omega), at0_marks h1, at0_marks (by omega)]
      · rw [if_neg h1, if_neg (by omega), at0_drop, at0_drop]
        congr 1
        omega
noncomputable def markG (len : Nat) (k : Int) (cells : List V) : Option (V × List V) := (dInts cells).bind fun l => @ite _ (l.length = len ∧ 0 ≤ k ∧ k + len < 4611686018427387904) (Classical.propDecidable _) (some (.int .i64 (k + len), ints (marks k len))) none
theorem markG_of {l : List Int} {len : Nat} {k : Int} (h1 : l.length = len) (h2 : 0 ≤ k) (h3 : k + len < 4611686018427387904) : markG len k (ints l) = some (.int .i64 (k + len), ints (marks k len)) := by
  unfold markG
  rw [dInts_ints, Option.bind_some, if_pos ⟨h1, h2, h3⟩]
noncomputable def G_l_markIntS : List V → List V → Option (V × List V)
  | [.sl 0 1 0 len, .int .i64 k], cells => markG len k cells
  | _, _ => none
theorem ln_l_markIntS : LendOk Try.prog 14 0 G_l_markIntS := by
  refine fn_lend code_l_markIntS mixed envNil_ok ?_
  intro args cells r cells' hG hb
  unfold G_l_markIntS at hG
  split at hG
  case h_2 => simp at hG
  rename_i len k
  unfold markG at hG
  obtain ⟨l, h1, h2⟩ := Option.bind_eq_some_iff.1 hG
  have hc := dInts_inv h1
  subst hc
  simp only [Option.ite_none_right_eq_some, Option.some.injEq, Prod.mk.injEq] at h2
  obtain ⟨⟨rfl, hk, hk2⟩, rfl, rfl⟩ := h2
  refine ⟨by simp, fun w0 U0 L0 N0 => ?_⟩
  simp -implicitDefEqProofs [sc_l_markIntS]
  refine loopI envNil_ok mixed (fun i : Nat => [(0, .sl 0 1 0 l.length), (1, .int .i64 (k + (i : Int))), (5, .int .i64 (i : Int))]) (fun i => ([(0, ints (marks k i ++ l.drop i))], 1)) (fun i => i ≤ l.length) (fun i => l.length - i) 0 (by simp) (SubI.slots (by simp [marks]) (by simp)) ?_
  intro i hi
  by_cases hlt : i < l.length
  · have hw1 : IntKind.i64.wrap (k + (i : Int)) = k + i := wrapI _ (by omega) (by omega)
    have hw2 : IntKind.i64.wrap (k + (i : Int) + 1) = k + ((i + 1 : Nat) : Int) := by rw [wrapI _ (by omega) (by omega)]; omega
    have hms := marks_step (k := k) hlt
    simp -implicitDefEqProofs [sc_l_markIntS_L0, hlt, hw1, hw2, hms]
    repeat' (first | omega | apply And.intro)
    exact Again.of (i + 1) (by omega) (by omega) (SubI.slots (by simp) (by simp (disch := omega) [wrapI]))
  · have : i = l.length := by omega
    subst this
    simp -implicitDefEqProofs [sc_l_markIntS_L0]
    try simp
def sc_l_heldIntS_L0 : SC := (.seq (.seq (.reg [⟨(some 6), none, (.mov (.t 5))⟩, ⟨(some 7), none, (.mov (.t 0))⟩, ⟨(some 8), none, (.len (.t 7))⟩, ⟨(some 9), none, (.bin false .lss (.t 6) (.t 8))⟩]) (.cond (.t 9) .skip (.exit 0))) (.seq (.block 1 (.seq (.seq (.reg [⟨(some 12), none, (.mov (.t 0))⟩, ⟨(some 13), none, (.mov (.t 5))⟩, ⟨(some 14), none, (.idx 1 (.t 12) (.t 13))⟩, ⟨(some 15), none, (.ld none (.int .i64 0) (.t 14))⟩, ⟨(some 16), none, (.mov (.t 1))⟩, ⟨(some 17), none, (.bin false .neq (.t 15) (.t 16))⟩]) (.cond (.t 17) (.seq (.reg [⟨(some 4), none, (.mov (.c (.int .i64 (-1))))⟩]) .ret) .skip)) (.reg [⟨(some 18), none, (.mov (.t 1))⟩, ⟨(some 19), none, (.bin false .add (.t 18) (.c (.int .i64 1)))⟩, ⟨(some 1), none, (.mov (.t 19))⟩]))) (.reg [⟨(some 10), none, (.mov (.t 5))⟩, ⟨(some 11), none, (.bin false .add (.t 10) (.c (.int .i64 1)))⟩, ⟨(some 5), none, (.mov (.t 11))⟩])))
def sc_l_heldIntS : SC := (.seq (.reg [⟨(some 4), none, (.mov (.c (.int .i64 0)))⟩]) (.seq (.seq (.reg [⟨(some 5), none, (.mov (.c (.int .i64 0)))⟩]) (.block 0 (.loop sc_l_heldIntS_L0))) (.seq (.reg [⟨(some 20), none, (.mov (.t 1))⟩, ⟨(some 4), none, (.mov (.t 20))⟩]) .ret)))
theorem code_l_heldIntS : fnCode Try.prog [] 15 = some (21, sc_l_heldIntS, [(4, none)]) := by kernel_rfl
/-- For the numbers that a mark left. -/
noncomputable def heldG (l : List Int) (k : Int) : Option V := @ite _ (0 ≤ k ∧ k + l.length < 4611686018427387904 ∧ l = marks k l.length) (Classical.propDecidable _) (some (.int .i64 (k + l.length))) none
theorem heldG_of {k : Int} {n : Nat} (h1 : 0 ≤ k) (h2 : k + n < 4611686018427387904) : heldG (marks k n) k = some (.int .i64 (k + n)) := by
  unfold heldG
  rw [marks_len, if_pos ⟨h1, h2, rfl⟩]
noncomputable def F_l_heldIntS : List V → Option V := F2 dL dI heldG
theorem fn_l_heldIntS : FnOk Try.prog 15 F_l_heldIntS := by
  refine fn_ok code_l_heldIntS mixed envNil_ok ?_
  intro args r h hb
  obtain ⟨_, _, l, k, rfl, h1, h2, h4⟩ := F2_inv h
  cases dL_inv h1
  cases dI_inv h2
  clear h
  simp only [heldG, Option.ite_none_right_eq_some, Option.some.injEq] at h4
  obtain ⟨⟨hk, hk2, hl⟩, rfl⟩ := h4
  refine ⟨by simp, fun w0 U0 L0 N0 => ?_⟩
  have hat : ∀ i, i < l.length → at0 l i = k + i := fun i hi => by rw [hl, at0_marks hi]
  clear hl
  simp -implicitDefEqProofs [sc_l_heldIntS]
  refine loopI envNil_ok mixed (fun i : Nat => [(0, .list 1 (ints l)), (1, .int .i64 (k + (i : Int))), (5, .int .i64 (i : Int))]) (fun i => ([], 0)) (fun i => i ≤ l.length) (fun i => l.length - i) 0 (by simp) (SubI.slots rfl (by simp)) ?_
  intro i hi
  by_cases hlt : i < l.length
  · have hw1 : IntKind.i64.wrap (k + (i : Int)) = k + i := wrapI _ (by omega) (by omega)
    have hw2 : IntKind.i64.wrap (k + (i : Int) + 1) = k + ((i + 1 : Nat) : Int) := by rw [wrapI _ (by omega) (by omega)]; omega
    have ha := hat i hlt
    simp -implicitDefEqProofs [sc_l_heldIntS_L0, hlt, hw1, hw2, ha]
    repeat' (first | omega | apply And.intro)
    exact Again.of (i + 1) (by omega) (by omega) (SubI.slots rfl (by simp (disch := omega) [wrapI]))
  · have : i = l.length := by omega
    subst this
    simp -implicitDefEqProofs [sc_l_heldIntS_L0]
def sc_l_markComplex : SC := (.seq (.reg [⟨(some 2), none, (.box (.t 0))⟩, ⟨(some 4), none, (.mov (.c (.int .i64 0)))⟩]) (.seq (.reg [⟨(some 5), none, (.fad 1 (.t 2))⟩, ⟨(some 6), none, (.ld none .nil (.t 5))⟩, ⟨(some 7), none, (.mov (.t 1))⟩, ⟨(some 8), none, (.call 14 [(.t 6), (.t 7)])⟩, ⟨(some 1), none, (.mov (.t 8))⟩]) (.seq (.reg [⟨(some 9), none, (.mov (.t 1))⟩, ⟨(some 4), none, (.mov (.t 9))⟩]) .ret)))
theorem code_l_markComplex : fnCode Try.prog [] 23 = some (10, sc_l_markComplex, [(4, none)]) := by kernel_rfl
noncomputable def G_l_markComplex : List V → List V → Option (V × List V)
  | [.agg [.int .i64 _, .sl 0 1 0 len], .int .i64 k], cells => markG len k cells
  | _, _ => none
theorem ln_l_markComplex : LendOk Try.prog 23 0 G_l_markComplex := by
  have env := (envNil_ok (P := Try.prog)).addl ln_l_markIntS
  refine fn_lend code_l_markComplex mixed env ?_
  intro args cells r cells' hG hb
  unfold G_l_markComplex at hG
  split at hG
  case h_2 => simp at hG
  rename_i n len k
  have hG' := hG
  unfold markG at hG
  obtain ⟨l, h1, h2⟩ := Option.bind_eq_some_iff.1 hG
  have hc := dInts_inv h1
  subst hc
  simp only [Option.ite_none_right_eq_some, Option.some.injEq, Prod.mk.injEq] at h2
  obtain ⟨⟨rfl, hk, hk2⟩, rfl, rfl⟩ := h2
  refine ⟨by simp, fun w0 U0 L0 N0 => ?_⟩
  simp -implicitDefEqProofs [sc_l_markComplex, G_l_markIntS, hG', ren0]
end Go.Proofs.Ytkoljbncokmeaaa
namespace Go.Proofs.Ytkoljbncokmeaaa
open Go Go.RowKit
set_option maxRecDepth 1000000
set_option linter.unusedSimpArgs false
set_option linter.unusedVariables false
set_option maxHeartbeats 1000000
noncomputable def R0FreeHoles (n : Int) (l : List Int) : List Int := frL n l
theorem bnd0FreeHoles (n : Int) (l : List Int) : (R0FreeHoles n l).length ≤ 64 := by
  unfold R0FreeHoles frL
  have := topZ_bnd (faceS l)
  split
  · unfold frZ
    rw [rowF_len]; omega
  · simp
theorem resSFreeHoles (n : Int) (l : List Int) : F_s_FreeHoles [.agg [.int .i64 n, .list 1 (ints l)]] = some (.own 1 (ints (R0FreeHoles n l))) := by simp [F_s_FreeHoles, R0FreeHoles]
theorem resIFreeHoles (n : Int) (l : List Int) : F_s_FreeHoles [.agg [.int .i64 n, .list 1 (ints l)]] = some (.own 1 (ints (R0FreeHoles n l))) := resSFreeHoles n l
def sc_l_FnExactFreeHoles : SC := (.seq (.reg [⟨(some 1), none, (.box (.t 0))⟩, ⟨(some 2), none, (.mov (.c (.bool false)))⟩]) (.seq (.reg [⟨(some 3), none, (.mov (.c (.int .i64 1048576)))⟩]) (.seq (.reg [⟨(some 11), none, (.ld (some 2) .undef (.t 1))⟩, ⟨(some 12), none, (.mov (.t 3))⟩, ⟨(some 13), none, (.call 16 [(.t 11), (.t 12)])⟩, ⟨(some 3), none, (.mov (.t 13))⟩]) (.seq (.seq (.reg [⟨(some 14), none, (.mov (.t 3))⟩, ⟨(some 15), none, (.bin false .lss (.t 14) (.c (.int .i64 0)))⟩]) (.cond (.t 15) (.seq (.reg [⟨(some 2), none, (.mov (.c (.bool true)))⟩]) .ret) .skip)) (.seq (.reg [⟨(some 16), none, (.ld (some 2) .undef (.t 1))⟩, ⟨(some 17), none, (.call 18 [(.t 16)])⟩, ⟨(some 18), none, (.call 21 [(.t 17)])⟩, ⟨(some 4), none, (.mov (.t 18))⟩]) (.seq (.reg [⟨(some 19), none, (.ld (some 2) .undef (.t 1))⟩, ⟨(some 20), none, (.call 18 [(.t 19)])⟩, ⟨(some 5), none, (.new [(.int .i64 0), .nil])⟩, ⟨none, none, (.st 2 (.t 5) (.t 20))⟩]) (.seq (.reg [⟨(some 21), none, (.ld (some 2) .undef (.t 5))⟩, ⟨(some 22), none, (.call 22 [(.t 21)])⟩, ⟨(some 6), none, (.mov (.t 22))⟩]) (.seq (.seq (.reg [⟨(some 23), none, (.mov (.t 6))⟩, ⟨(some 24), none, (.mov (.t 4))⟩, ⟨(some 25), none, (.call 11 [(.t 23), (.t 24)])⟩, ⟨(some 26), none, (.un .not (.t 25))⟩]) (.cond (.t 26) (.seq (.reg [⟨(some 2), none, (.mov (.c (.bool false)))⟩]) .ret) .skip)) (.seq (.seq (.dreg [⟨⟨(some 27), none, (.ld (some 2) .undef (.t 5))⟩, false, false⟩, ⟨⟨(some 28), none, (.ld (some 2) .undef (.t 1))⟩, false, false⟩, ⟨⟨(some 29), none, (.call 18 [(.t 28)])⟩, false, false⟩, ⟨⟨(some 30), none, (.call 20 [(.t 27), (.t 29)])⟩, false, false⟩, ⟨⟨(some 31), none, (.un .not (.t 30))⟩, false, false⟩]) (.cond (.t 31) (.seq (.reg [⟨(some 2), none, (.mov (.c (.bool false)))⟩]) .ret) .skip)) (.seq (.reg [⟨(some 7), none, (.mov (.c (.int .i64 1)))⟩]) (.seq (.reg [⟨(some 32), none, (.ld (some 2) .undef (.t 5))⟩, ⟨(some 33), none, (.mov (.t 7))⟩, ⟨(some 34), none, (.call 23 [(.t 32), (.t 33)])⟩, ⟨(some 7), none, (.mov (.t 34))⟩]) (.seq (.seq (.reg [⟨(some 35), none, (.mov (.t 7))⟩, ⟨(some 36), none, (.bin false .lss (.t 35) (.c (.int .i64 0)))⟩, ⟨(some 37), none, (.mov (.t 36))⟩, ⟨(some 38), (some (37, false)), (.mov (.t 6))⟩, ⟨(some 39), (some (37, false)), (.mov (.t 4))⟩, ⟨(some 40), (some (37, false)), (.call 11 [(.t 38), (.t 39)])⟩, ⟨(some 41), (some (37, false)), (.un .not (.t 40))⟩, ⟨(some 42), none, (.pick (.t 37) (.c (.bool true)) (.t 41))⟩]) (.cond (.t 42) (.seq (.reg [⟨(some 2), none, (.mov (.c (.bool false)))⟩]) .ret) .skip)) (.seq (.reg [⟨(some 8), none, (.mov (.c (.int .i64 1)))⟩]) (.seq (.reg [⟨(some 43), none, (.mov (.t 6))⟩, ⟨(some 44), none, (.mov (.t 8))⟩, ⟨(some 45), none, (.call 14 [(.t 43), (.t 44)])⟩, ⟨(some 8), none, (.mov (.t 45))⟩]) (.seq (.reg [⟨(some 9), none, (.mov (.c (.int .i64 1)))⟩]) (.seq (.reg [⟨(some 46), none, (.mov (.t 6))⟩, ⟨(some 47), none, (.mov (.t 9))⟩, ⟨(some 48), none, (.call 15 [(.t 46), (.t 47)])⟩, ⟨(some 9), none, (.mov (.t 48))⟩]) (.seq (.seq (.reg [⟨(some 49), none, (.mov (.t 9))⟩, ⟨(some 50), none, (.bin false .lss (.t 49) (.c (.int .i64 0)))⟩]) (.cond (.t 50) (.seq (.reg [⟨(some 2), none, (.mov (.c (.bool false)))⟩]) .ret) .skip)) (.seq (.seq (.reg [⟨(some 51), none, (.mov (.t 9))⟩, ⟨(some 52), none, (.mov (.t 8))⟩, ⟨(some 53), none, (.bin false .neq (.t 51) (.t 52))⟩]) (.cond (.t 53) (.seq (.reg [⟨(some 2), none, (.mov (.c (.bool false)))⟩]) .ret) .skip)) (.seq (.reg [⟨(some 54), none, (.ld (some 2) .undef (.t 1))⟩, ⟨(some 55), none, (.call 18 [(.t 54)])⟩, ⟨(some 56), none, (.call 22 [(.t 55)])⟩, ⟨(some 10), none, (.mov (.t 56))⟩]) (.seq (.seq (.reg [⟨(some 57), none, (.mov (.t 10))⟩, ⟨(some 58), none, (.mov (.t 4))⟩, ⟨(some 59), none, (.call 11 [(.t 57), (.t 58)])⟩, ⟨(some 60), none, (.un .not (.t 59))⟩]) (.cond (.t 60) (.seq (.reg [⟨(some 2), none, (.mov (.c (.bool false)))⟩]) .ret) .skip)) (.seq (.reg [⟨(some 9), none, (.mov (.c (.int .i64 1)))⟩]) (.seq (.reg [⟨(some 61), none, (.mov (.t 6))⟩, ⟨(some 62), none, (.mov (.t 9))⟩, ⟨(some 63), none, (.call 15 [(.t 61), (.t 62)])⟩, ⟨(some 9), none, (.mov (.t 63))⟩]) (.seq (.seq (.reg [⟨(some 64), none, (.mov (.t 9))⟩, ⟨(some 65), none, (.bin false .lss (.t 64) (.c (.int .i64 0)))⟩]) (.cond (.t 65) (.seq (.reg [⟨(some 2), none, (.mov (.c (.bool false)))⟩]) .ret) .skip)) (.seq (.seq (.reg [⟨(some 66), none, (.mov (.t 9))⟩, ⟨(some 67), none, (.mov (.t 8))⟩, ⟨(some 68), none, (.bin false .neq (.t 66) (.t 67))⟩]) (.cond (.t 68) (.seq (.reg [⟨(some 2), none, (.mov (.c (.bool false)))⟩]) .ret) .skip)) (.seq (.reg [⟨(some 2), none, (.mov (.c (.bool true)))⟩]) .ret)))))))))))))))))))))))))
theorem code_l_FnExactFreeHoles : fnCode Try.prog [] 5 = some (69, sc_l_FnExactFreeHoles, [(2, none)]) := by kernel_rfl
open Classical in
noncomputable def F_l_FnExactFreeHoles : List V → Option V := F1 dC fun c0 => if allR c0.2 then some (.bool true) else none
theorem fn_l_FnExactFreeHoles : FnOk Try.prog 5 F_l_FnExactFreeHoles := by
  have env := (((((((((envNil_ok (P := Try.prog)).add fn_s_FreeHoles).add fn_i_FreeHoles).add fn_l_eqComplex).add fn_l_szComplex).add fn_l_toComplex).add fn_l_eqIntS).add fn_l_heldIntS).addl ln_l_markComplex).addl ln_l_markIntS
  refine fn_ok code_l_FnExactFreeHoles mixed env ?_
  intro args r h hb
  obtain ⟨_, ⟨n, l⟩, rfl, h1, h9⟩ := F1_inv h
  cases dC_inv h1
  simp only [Option.ite_none_right_eq_some, Option.some.injEq] at h9
  obtain ⟨hc0, rfl⟩ := h9
  refine ⟨by simp, fun w0 U0 L0 N0 => ?_⟩
  clear h hb
  have hFS := resSFreeHoles n l
  have hFI := resIFreeHoles n l
  have hb0 := bnd0FreeHoles n l
  generalize R0FreeHoles n l = R0 at *
  by_cases hl2 : 1048576 < l.length
  · have e : leftOf l.length 1048576 = -1 := by simp only [leftOf]; split <;> omega
    simp -implicitDefEqProofs [sc_l_FnExactFreeHoles, F_l_szComplex, e]
    try omega
  have e : leftOf l.length 1048576 = 1048576 - l.length := by simp only [leftOf]; split <;> omega
  have hl3 : l.length ≤ 1048576 := by omega
  have hl7 : (l.length : Int) ≤ 1048576 := by omega
  have hl8 : ¬ ((1048576 : Int) - l.length < 0) := by omega
  have hm0 := markG_of (l := l) (len := l.length) (k := 1) rfl (by omega) (by omega)
  have hk0 : ¬ ((1 + l.length) < (0 : Int)) := by omega
  have hr0 := markG_of (l := R0) (len := R0.length) (k := 1) rfl (by omega) (by omega)
  have hh0 := heldG_of (k := 1) (n := R0.length) (by omega) (by omega)
  have hn0 : ¬ ((1 + R0.length) < (0 : Int)) := by omega
  simp -implicitDefEqProofs [sc_l_FnExactFreeHoles, F_l_eqComplex, F_l_szComplex, F_l_toComplex, F_l_eqIntS, F_l_heldIntS, G_l_markComplex, G_l_markIntS, ren0, hFS, hFI, e, hl3, hl7, hl8, hm0, hk0, hr0, hh0, hn0]
  try omega
end Go.Proofs.Ytkoljbncokmeaaa
