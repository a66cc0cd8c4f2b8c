import Derived.Test.YtedampaecopkhaaAbsV
namespace Go.Proofs.Ytedampaecopkhaa
open Go Go.RowKit
set_option maxRecDepth 1000000
set_option linter.unusedSimpArgs false
set_option linter.unusedVariables false
set_option maxHeartbeats 1000000
theorem getD_mem_iff {l : List Int} {n : Int} : n ∈ l ↔ ∃ j, j < l.length ∧ at0 l j = n := by
  constructor
  · intro h
    obtain ⟨j, hj, e⟩ := List.getElem_of_mem h
    exact ⟨j, hj, by rw [at0_eq hj, e]⟩
  · rintro ⟨j, hj, e⟩
    rw [at0_eq hj] at e
    exact e ▸ List.getElem_mem hj
theorem getD_mem' {l : List Int} {j : Nat} (hj : j < l.length) : at0 l j ∈ l := getD_mem_iff.2 ⟨j, hj, rfl⟩
/-- The bits of a number, by fuel. -/
def pcF : Nat → Nat → Nat
  | 0, _ => 0
  | f + 1, n => n % 2 + pcF f (n / 2)
def pc (n : Nat) : Nat := pcF 64 n
theorem pcF_zero (f : Nat) : pcF f 0 = 0 := by
  induction f with
  | zero => rfl
  | succ f ih => simp [pcF, ih]
theorem pcF_le (f n : Nat) : pcF f n ≤ f := by
  induction f generalizing n with
  | zero => simp [pcF]
  | succ f ih => have := ih (n / 2); simp only [pcF]; omega
theorem pc_le (n : Nat) : pc n ≤ 64 := pcF_le 64 n
/-- The size of a set; below zero it is the size of nothing. -/
def sz (s : Int) : Int := (pc s.toNat : Nat)
theorem sz_le (s : Int) : sz s ≤ 64 := by have := pc_le s.toNat; unfold sz; omega
theorem sz_nn (s : Int) : 0 ≤ sz s := by unfold sz; omega
def isSet (n s : Int) : Bool := decide (0 ≤ n ∧ n ≤ 6 ∧ 0 ≤ s ∧ s < 2 ^ n.toNat)
theorem isSet_pos {n s : Int} (h : isSet n s = true) : 0 ≤ s ∧ s < 64 := by
  simp only [isSet, decide_eq_true_eq] at h
  obtain ⟨h1, h2, h3, h4⟩ := h
  have : n = 0 ∨ n = 1 ∨ n = 2 ∨ n = 3 ∨ n = 4 ∨ n = 5 ∨ n = 6 := by omega
  rcases this with rfl | rfl | rfl | rfl | rfl | rfl | rfl <;> simp at h4 <;> omega
def before (a b : Int) : Bool := decide (sz a < sz b ∨ (sz a = sz b ∧ a < b))
def sc_s_l1In : SC := (.seq (.reg [⟨(some 6), none, (.mov (.c (.bool false)))⟩]) (.seq (.reg [⟨(some 7), none, (.mov (.t 0))⟩, ⟨(some 8), none, (.mov (.t 1))⟩, ⟨(some 9), none, (.bin false .geq (.t 7) (.t 8))⟩, ⟨(some 10), none, (.mov (.t 9))⟩, ⟨(some 11), (some (10, true)), (.mov (.t 0))⟩, ⟨(some 12), (some (10, true)), (.mov (.t 2))⟩, ⟨(some 13), (some (10, true)), (.bin false .leq (.t 11) (.t 12))⟩, ⟨(some 14), none, (.pick (.t 10) (.t 13) (.c (.bool false)))⟩, ⟨(some 6), none, (.mov (.t 14))⟩]) .ret))
theorem code_s_l1In : fnCode Try.prog [] 58 = some (15, sc_s_l1In, [(6, none)]) := by kernel_rfl
def F_s_l1In : List V → Option V := F3 dI dI dI fun x a b => some (.bool (decide (a ≤ x ∧ x ≤ b)))
theorem fn_s_l1In : FnOk Try.prog 58 F_s_l1In := by
  refine fn_ok code_s_l1In mixed envNil_ok ?_
  intro args r h hb
  obtain ⟨_, _, _, x, a, b, rfl, h1, h2, h3, h4⟩ := F3_inv h
  cases dI_inv h1
  cases dI_inv h2
  cases dI_inv h3
  cases h4
  refine ⟨by simp, fun w0 U0 L0 N0 => ?_⟩
  simp -implicitDefEqProofs [sc_s_l1In]
  omega
def sc_s_l2Has_L0 : SC := (.seq (.seq (.reg [⟨(some 6), none, (.mov (.t 5))⟩, ⟨(some 7), none, (.mov (.t 0))⟩, ⟨(some 8), none, (.len (.t 7))⟩, ⟨(some 9), none, (.bin false .lss (.t 6) (.t 8))⟩]) (.cond (.t 9) .skip (.exit 0))) (.seq (.block 1 (.seq (.reg [⟨(some 12), none, (.mov (.t 0))⟩, ⟨(some 13), none, (.mov (.t 5))⟩, ⟨(some 14), none, (.idx 1 (.t 12) (.t 13))⟩, ⟨(some 15), none, (.ld none (.int .i64 0) (.t 14))⟩, ⟨(some 16), none, (.mov (.t 1))⟩, ⟨(some 17), none, (.bin false .eql (.t 15) (.t 16))⟩]) (.cond (.t 17) (.seq (.reg [⟨(some 4), none, (.mov (.c (.bool true)))⟩]) .ret) .skip))) (.reg [⟨(some 10), none, (.mov (.t 5))⟩, ⟨(some 11), none, (.bin false .add (.t 10) (.c (.int .i64 1)))⟩, ⟨(some 5), none, (.mov (.t 11))⟩])))
def sc_s_l2Has : SC := (.seq (.reg [⟨(some 4), none, (.mov (.c (.bool false)))⟩]) (.seq (.seq (.reg [⟨(some 5), none, (.mov (.c (.int .i64 0)))⟩]) (.block 0 (.loop sc_s_l2Has_L0))) (.seq (.reg [⟨(some 4), none, (.mov (.c (.bool false)))⟩]) .ret)))
theorem code_s_l2Has : fnCode Try.prog [] 76 = some (18, sc_s_l2Has, [(4, none)]) := by kernel_rfl
def F_s_l2Has : List V → Option V := F2 dL dI fun l n => some (.bool (l.contains n))
theorem fn_s_l2Has : FnOk Try.prog 76 F_s_l2Has := by
  refine fn_ok code_s_l2Has mixed envNil_ok ?_
  intro args r h hb
  obtain ⟨_, _, l, n, rfl, h1, h2, h4⟩ := F2_inv h
  cases dL_inv h1
  cases dI_inv h2
  cases h4
  have hl := bnd_ints (hb _ (List.mem_cons_self ..))
  refine ⟨by simp, fun w0 U0 L0 N0 => ?_⟩
  simp -implicitDefEqProofs [sc_s_l2Has]
  refine loopI envNil_ok mixed (fun k : Nat => [(5, .int .i64 (k : Int)), (0, .list 1 (ints l)), (1, .int .i64 n)]) (fun _ => ([], 0)) (fun k => k ≤ l.length ∧ ∀ j, j < k → at0 l j ≠ n) (fun k => l.length - k) 0 (by simp) (SubI.slots rfl (by simp)) ?_
  rintro k ⟨hk, hn⟩
  simp -implicitDefEqProofs [sc_s_l2Has_L0]
  refine ⟨fun h => ⟨h, by omega, fun e => e ▸ getD_mem' h, fun e => Again.of (k + 1) ⟨by omega, fun j hj => ?_⟩ (by omega) (SubI.slots rfl (by simp (disch := omega) [wrapI]))⟩, fun h hm => ?_⟩
  · rcases Nat.lt_succ_iff_lt_or_eq.1 hj with h1 | rfl
    · exact hn j h1
    · exact e
  · obtain ⟨j, hj, e⟩ := getD_mem_iff.1 hm
    exact hn j (by omega) e
def sc_s_IsSet : SC := (.seq (.reg [⟨(some 4), none, (.mov (.c (.bool false)))⟩]) (.seq (.reg [⟨(some 5), none, (.mov (.t 0))⟩, ⟨(some 6), none, (.call 58 [(.t 5), (.c (.int .i64 0)), (.c (.int .i64 6))])⟩, ⟨(some 7), none, (.mov (.t 6))⟩, ⟨(some 8), (some (7, true)), (.mov (.t 1))⟩, ⟨(some 9), (some (7, true)), (.mov (.t 0))⟩, ⟨(some 10), (some (7, true)), (.conv .u64 (.t 9))⟩, ⟨(some 11), (some (7, true)), (.bin false .shl (.c (.int .i64 1)) (.t 10))⟩, ⟨(some 12), (some (7, true)), (.bin false .sub (.t 11) (.c (.int .i64 1)))⟩, ⟨(some 13), (some (7, true)), (.call 58 [(.t 8), (.c (.int .i64 0)), (.t 12)])⟩, ⟨(some 14), none, (.pick (.t 7) (.t 13) (.c (.bool false)))⟩, ⟨(some 4), none, (.mov (.t 14))⟩]) .ret))
theorem code_s_IsSet : fnCode Try.prog [] 101 = some (15, sc_s_IsSet, [(4, none)]) := by kernel_rfl
def F_s_IsSet : List V → Option V := F2 dI dI fun n s => some (.bool (isSet n s))
theorem fn_s_IsSet : FnOk Try.prog 101 F_s_IsSet := by
  have env := (envNil_ok (P := Try.prog)).add fn_s_l1In
  refine fn_ok code_s_IsSet mixed env ?_
  intro args r h hb
  obtain ⟨_, _, n, s, rfl, h1, h2, h4⟩ := F2_inv h
  cases dI_inv h1
  cases dI_inv h2
  cases h4
  refine ⟨by simp, fun w0 U0 L0 N0 => ?_⟩
  simp -implicitDefEqProofs [sc_s_IsSet, F_s_l1In, isSet]
  refine ⟨fun h1 h2 => ?_, by omega⟩
  have : n = 0 ∨ n = 1 ∨ n = 2 ∨ n = 3 ∨ n = 4 ∨ n = 5 ∨ n = 6 := by omega
  rcases this with rfl | rfl | rfl | rfl | rfl | rfl | rfl <;> simp [IntKind.wrap, IntKind.bits, IntKind.signed] <;> rw [Bool.eq_iff_iff] <;> simp <;> omega
def sc_i_IsSet : SC := (.seq (.reg [⟨(some 4), none, (.mov (.c (.bool false)))⟩]) (.seq (.reg [⟨(some 5), none, (.mov (.t 0))⟩, ⟨(some 6), none, (.bin false .geq (.t 5) (.c (.int .i64 0)))⟩, ⟨(some 7), none, (.mov (.t 6))⟩, ⟨(some 8), (some (7, true)), (.mov (.t 0))⟩, ⟨(some 9), (some (7, true)), (.bin false .leq (.t 8) (.c (.int .i64 6)))⟩, ⟨(some 10), none, (.pick (.t 7) (.t 9) (.c (.bool false)))⟩, ⟨(some 11), none, (.mov (.t 10))⟩, ⟨(some 12), (some (11, true)), (.mov (.t 1))⟩, ⟨(some 13), (some (11, true)), (.bin false .geq (.t 12) (.c (.int .i64 0)))⟩, ⟨(some 14), none, (.pick (.t 11) (.t 13) (.c (.bool false)))⟩, ⟨(some 15), none, (.mov (.t 14))⟩, ⟨(some 16), (some (15, true)), (.mov (.t 1))⟩, ⟨(some 17), (some (15, true)), (.mov (.t 0))⟩, ⟨(some 18), (some (15, true)), (.conv .u64 (.t 17))⟩, ⟨(some 19), (some (15, true)), (.bin false .shl (.c (.int .i64 1)) (.t 18))⟩, ⟨(some 20), (some (15, true)), (.bin false .lss (.t 16) (.t 19))⟩, ⟨(some 21), none, (.pick (.t 15) (.t 20) (.c (.bool false)))⟩, ⟨(some 4), none, (.mov (.t 21))⟩]) .ret))
theorem code_i_IsSet : fnCode Try.prog [] 114 = some (22, sc_i_IsSet, [(4, none)]) := by kernel_rfl
def F_i_IsSet : List V → Option V := F2 dI dI fun n s => some (.bool (isSet n s))
theorem fn_i_IsSet : FnOk Try.prog 114 F_i_IsSet := by
  refine fn_ok code_i_IsSet mixed envNil_ok ?_
  intro args r h hb
  obtain ⟨_, _, n, s, rfl, h1, h2, h4⟩ := F2_inv h
  cases dI_inv h1
  cases dI_inv h2
  cases h4
  refine ⟨by simp, fun w0 U0 L0 N0 => ?_⟩
  generalize hw : (IntKind.u64.wrap n) = w
  generalize hv : isSet n s = v
  simp -implicitDefEqProofs [sc_i_IsSet, hw]
  have key : 0 ≤ n → n ≤ 6 → 0 ≤ w ∧ IntKind.i64.wrap (2 ^ min w.toNat IntKind.i64.bits) = 2 ^ n.toNat := by
    intro h1 h2
    have : n = 0 ∨ n = 1 ∨ n = 2 ∨ n = 3 ∨ n = 4 ∨ n = 5 ∨ n = 6 := by omega
    rcases this with rfl | rfl | rfl | rfl | rfl | rfl | rfl <;> (subst hw; decide)
  subst hv
  by_cases h1 : 0 ≤ n ∧ n ≤ 6
  · obtain ⟨k1, k2⟩ := key h1.1 h1.2
    rw [k2]
    simp [isSet, h1.1, h1.2, k1]
    omega
  · have e : isSet n s = false := by simp [isSet]; omega
    simp [e]
    omega
def sc_s_l2Size_L0 : SC := (.seq (.seq (.reg [⟨(some 4), none, (.mov (.t 0))⟩, ⟨(some 5), none, (.bin false .gtr (.t 4) (.c (.int .i64 0)))⟩]) (.cond (.t 5) .skip (.exit 0))) (.block 1 (.seq (.reg [⟨(some 6), none, (.mov (.t 3))⟩, ⟨(some 7), none, (.mov (.t 0))⟩, ⟨(some 8), none, (.bin false .and (.t 7) (.c (.int .i64 1)))⟩, ⟨(some 9), none, (.bin false .add (.t 6) (.t 8))⟩, ⟨(some 3), none, (.mov (.t 9))⟩]) (.reg [⟨(some 10), none, (.mov (.t 0))⟩, ⟨(some 11), none, (.bin false .shr (.t 10) (.c (.int .u64 1)))⟩, ⟨(some 0), none, (.mov (.t 11))⟩]))))
def sc_s_l2Size : SC := (.seq (.reg [⟨(some 2), none, (.mov (.c (.int .i64 0)))⟩]) (.seq (.reg [⟨(some 3), none, (.mov (.c (.int .i64 0)))⟩]) (.seq (.block 0 (.loop sc_s_l2Size_L0)) (.seq (.reg [⟨(some 12), none, (.mov (.t 3))⟩, ⟨(some 2), none, (.mov (.t 12))⟩]) .ret))))
theorem code_s_l2Size : fnCode Try.prog [] 83 = some (13, sc_s_l2Size, [(2, none)]) := by kernel_rfl
/-- The instance is by choice: a checker must not begin to count. -/
noncomputable def F_s_l2Size : List V → Option V := F1 dI fun s => @ite _ (s < 9223372036854775808) (Classical.propDecidable _) (some (.int .i64 (sz s))) none
theorem fn_s_l2Size : FnOk Try.prog 83 F_s_l2Size := by
  refine fn_ok code_s_l2Size mixed envNil_ok ?_
  intro args r h hb
  obtain ⟨_, s, rfl, h1, h4⟩ := F1_inv h
  cases dI_inv h1
  simp only [Option.ite_none_right_eq_some, Option.some.injEq] at h4
  obtain ⟨hs, rfl⟩ := h4
  refine ⟨by simp, fun w0 U0 L0 N0 => ?_⟩
  simp -implicitDefEqProofs [sc_s_l2Size]
  by_cases h0 : 0 < s
  · obtain ⟨m, rfl⟩ : ∃ m : Nat, s = m := ⟨s.toNat, by omega⟩
    refine loopI envNil_ok mixed (fun x : Nat × Nat × Nat => [(0, .int .i64 (x.2.1 : Int)), (3, .int .i64 (x.2.2 : Int))]) (fun _ => ([], 0)) (fun x => x.2.1 < 9223372036854775808 ∧ x.2.2 + pcF x.1 x.2.1 = pc m ∧ x.2.1 < 2 ^ x.1) (fun x => x.1) (64, m, 0)
      (by simp [pc]; omega) (SubI.slots rfl (by simp)) ?_
    rintro ⟨f, k, n⟩ ⟨hk, hp, hf⟩
    simp -implicitDefEqProofs [sc_s_l2Size_L0]
    refine ⟨fun h => ?_, fun h => ?_⟩
    · have hl := pc_le m
      cases f with
      | zero => simp at hf; omega
      | succ f =>
        have e1 : bitop .and .i64 (k : Int) 1 = ((k % 2 : Nat) : Int) := by
          rw [show (1 : Int) = ((1 : Nat) : Int) from rfl, bits_and k 1 hk (by omega), Nat.and_one_is_mod]
        have e2 : (k : Int).fdiv 2 = ((k / 2 : Nat) : Int) := by rw [Int.fdiv_eq_ediv_of_nonneg _ (by omega)]; rfl
        simp only [pcF] at hp
        simp only at hp hf hk
        refine Again.of (f, k / 2, n + k % 2) ⟨by simp only; omega, by simp only; omega, by simp only; rw [Nat.pow_succ] at hf; omega⟩ (by simp) (SubI.slots rfl ?_)
        simp [e1]
        simp (disch := omega) [IntKind.bits, e2, wrapI]
    · have : k = 0 := by omega
      subst this
      simp only [pcF_zero] at hp
      simp [sz]
      omega
  · refine loopI envNil_ok mixed (fun _ : Unit => [(0, .int .i64 s), (3, .int .i64 0)]) (fun _ => ([], 0)) (fun _ => True) (fun _ => 0) () trivial (SubI.slots rfl (by simp)) ?_
    rintro ⟨⟩ _
    have e : s.toNat = 0 := by omega
    simp -implicitDefEqProofs [sc_s_l2Size_L0, h0, sz, e, pc, pcF_zero]
def sc_s_l2Before : SC := (.seq (.reg [⟨(some 4), none, (.mov (.c (.bool false)))⟩]) (.seq (.reg [⟨(some 7), none, (.mov (.t 0))⟩, ⟨(some 8), none, (.call 83 [(.t 7)])⟩, ⟨(some 5), none, (.mov (.t 8))⟩]) (.seq (.reg [⟨(some 9), none, (.mov (.t 1))⟩, ⟨(some 10), none, (.call 83 [(.t 9)])⟩, ⟨(some 6), none, (.mov (.t 10))⟩]) (.seq (.reg [⟨(some 11), none, (.mov (.t 5))⟩, ⟨(some 12), none, (.mov (.t 6))⟩, ⟨(some 13), none, (.bin false .lss (.t 11) (.t 12))⟩, ⟨(some 14), none, (.mov (.t 13))⟩, ⟨(some 15), (some (14, false)), (.mov (.t 5))⟩, ⟨(some 16), (some (14, false)), (.mov (.t 6))⟩, ⟨(some 17), (some (14, false)), (.bin false .eql (.t 15) (.t 16))⟩, ⟨(some 18), (some (14, false)), (.mov (.t 17))⟩, ⟨(some 19), (some (18, true)), (.mov (.t 0))⟩, ⟨(some 20), (some (18, true)), (.mov (.t 1))⟩, ⟨(some 21), (some (18, true)), (.bin false .lss (.t 19) (.t 20))⟩, ⟨(some 22), (some (14, false)), (.pick (.t 18) (.t 21) (.c (.bool false)))⟩, ⟨(some 23), none, (.pick (.t 14) (.c (.bool true)) (.t 22))⟩, ⟨(some 4), none, (.mov (.t 23))⟩]) .ret))))
theorem code_s_l2Before : fnCode Try.prog [] 102 = some (24, sc_s_l2Before, [(4, none)]) := by kernel_rfl
noncomputable def F_s_l2Before : List V → Option V := F2 dI dI fun a b => @ite _ (a < 9223372036854775808 ∧ b < 9223372036854775808) (Classical.propDecidable _) (some (.bool (before a b))) none
theorem fn_s_l2Before : FnOk Try.prog 102 F_s_l2Before := by
  have env := (envNil_ok (P := Try.prog)).add fn_s_l2Size
  refine fn_ok code_s_l2Before mixed env ?_
  intro args r h hb
  obtain ⟨_, _, a, b, rfl, h1, h2, h4⟩ := F2_inv h
  cases dI_inv h1
  cases dI_inv h2
  simp only [Option.ite_none_right_eq_some, Option.some.injEq] at h4
  obtain ⟨⟨ha, hb⟩, rfl⟩ := h4
  refine ⟨by simp, fun w0 U0 L0 N0 => ?_⟩
  simp -implicitDefEqProofs [sc_s_l2Before, F_s_l2Size, before, ha, hb]
  refine ⟨fun h => ⟨fun h2 => ?_, fun h2 => ⟨h, fun h3 => absurd h3 h2⟩⟩, fun h => Or.inl h⟩
  simp [h2]
end Go.Proofs.Ytedampaecopkhaa
