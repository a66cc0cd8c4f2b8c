import Derived.Test.YtedampaecopkhaaFnD
namespace Go.Proofs.Ytedampaecopkhaa
open Go Go.RowKit
set_option maxRecDepth 1000000
set_option linter.unusedSimpArgs false
set_option linter.unusedVariables false
set_option maxHeartbeats 1000000
theorem sub_len {l : List Int} : ∀ {m : List Int}, l.Nodup → (∀ x ∈ l, x ∈ m) → l.length ≤ m.length := by
  induction l with
  | nil => intro m _ _; simp
  | cons a l ih =>
    intro m hn hs
    rw [List.nodup_cons] at hn
    have ha : a ∈ m := hs a (by simp)
    have := ih (m := m.erase a) hn.2 fun x hx => (List.mem_erase_of_ne fun e => hn.1 (by rw [← e]; exact hx)).2 (hs x (by simp [hx]))
    rw [List.length_erase_of_mem ha] at this
    have : 0 < m.length := List.length_pos_of_mem ha
    simp only [List.length_cons]
    omega
theorem nodup_of {l : List Int} : ∀ {m : List Int}, l.Nodup → (∀ x ∈ l, x ∈ m) → m.length = l.length → m.Nodup ∧ ∀ x ∈ m, x ∈ l := by
  induction l with
  | nil => intro m _ _ h; have := List.eq_nil_of_length_eq_zero h; subst this; simp
  | cons a l ih =>
    intro m hn hs hl
    rw [List.nodup_cons] at hn
    have ha : a ∈ m := hs a (by simp)
    have hp := List.perm_cons_erase ha
    obtain ⟨h1, h2⟩ := ih (m := m.erase a) hn.2 (fun x hx => (List.mem_erase_of_ne fun e => hn.1 (by rw [← e]; exact hx)).2 (hs x (by simp [hx]))) (by rw [List.length_erase_of_mem ha, hl]; simp)
    refine ⟨hp.nodup_iff.2 (List.nodup_cons.2 ⟨fun h => hn.1 (h2 a h), h1⟩), fun x hx => ?_⟩
    rcases List.mem_cons.1 (hp.mem_iff.1 hx) with rfl | h
    · simp
    · simp [h2 x h]
theorem nodup_at {l : List Int} (h : ∀ j, j < l.length → at0 l j ∉ l.take j) : l.Nodup := by
  rw [List.Nodup, List.pairwise_iff_getElem]
  intro i j hi hj hij e
  refine h j hj ?_
  rw [at0_eq hj, ← e]
  exact List.mem_take_iff_getElem.2 ⟨i, by omega, rfl⟩
theorem nodup_at' {l : List Int} (h : l.Nodup) {j : Nat} (hj : j < l.length) : at0 l j ∉ l.take j := by
  intro hm
  obtain ⟨i, hi, e⟩ := List.mem_take_iff_getElem.1 hm
  rw [List.Nodup, List.pairwise_iff_getElem] at h
  have := h i j (by omega) hj (by omega)
  rw [at0_eq hj] at e
  exact this e
theorem band_self {a : Int} (ha : 0 ≤ a ∧ a < 64) : bitop .and .i64 a a = a := by
  have key : ∀ x, x < 64 → bitop .and .i64 ((x : Nat) : Int) ((x : Nat) : Int) = (x : Int) := by decide +kernel
  have := key a.toNat (by omega)
  rwa [Int.toNat_of_nonneg ha.1] at this
theorem cplx_nodup {n : Int} {l : List Int} (h : cplx n l) : l.Nodup := by
  refine nodup_at fun j hj hm => ?_
  obtain ⟨i, hi, e⟩ := List.mem_take_iff_getElem.1 hm
  have hf := h.2.2 j hj
  refine hf.2.2 i (by omega) ?_
  have e2 : at0 l i = at0 l j := by rw [at0_eq (by omega), e]
  rw [e2]
  exact band_self (isSet_pos hf.1)
noncomputable def orderB (n : Int) (l list : List Int) : Bool := cplxB n l && decide (list.length = l.length ∧ list.Nodup ∧ ∀ x ∈ list, x ∈ l)
theorem orderB_rearr (n : Int) (l list : List Int) : orderB n l list = (cplxB n l && rearr l list) := by
  unfold orderB
  cases h : cplxB n l with
  | false => rfl
  | true =>
    have hn := cplx_nodup (cplxB_iff.1 h)
    simp only [Bool.true_and, rearr]
    rw [Bool.eq_iff_iff, decide_eq_true_iff, decide_eq_true_iff]
    constructor
    · rintro ⟨h1, h2, h3⟩
      exact ⟨h1.symm, (nodup_of h2 h3 h1.symm).2⟩
    · rintro ⟨h1, h2⟩
      obtain ⟨h3, h4⟩ := nodup_of hn h2 h1.symm
      exact ⟨h1.symm, h3, h4⟩
def sc_s_IsOrder_L0 : SC := (.seq (.seq (.reg [⟨(some 6), none, (.mov (.t 5))⟩, ⟨(some 7), none, (.mov (.t 1))⟩, ⟨(some 8), none, (.len (.t 7))⟩, ⟨(some 9), none, (.bin false .lss (.t 6) (.t 8))⟩]) (.cond (.t 9) .skip (.exit 0))) (.seq (.block 1 (.seq (.dreg [⟨⟨(some 12), none, (.fad 1 (.t 2))⟩, false, false⟩, ⟨⟨(some 13), none, (.ld none .nil (.t 12))⟩, false, false⟩, ⟨⟨(some 14), none, (.mov (.t 1))⟩, false, false⟩, ⟨⟨(some 15), none, (.mov (.t 5))⟩, false, false⟩, ⟨⟨(some 16), none, (.idx 1 (.t 14) (.t 15))⟩, false, false⟩, ⟨⟨(some 17), none, (.ld none (.int .i64 0) (.t 16))⟩, false, false⟩, ⟨⟨(some 18), none, (.call 76 [(.t 13), (.t 17)])⟩, false, false⟩, ⟨⟨(some 19), none, (.un .not (.t 18))⟩, false, false⟩, ⟨⟨(some 20), none, (.mov (.t 19))⟩, false, false⟩, ⟨⟨(some 21), (some (20, false)), (.mov (.t 1))⟩, false, false⟩, ⟨⟨(some 22), (some (20, false)), (.mov (.t 5))⟩, false, false⟩, ⟨⟨(some 23), (some (20, false)), (.sli 1 (.t 21) none (some (.t 22)) none)⟩, false, false⟩, ⟨⟨(some 24), (some (20, false)), (.mov (.t 1))⟩, false, false⟩, ⟨⟨(some 25), (some (20, false)), (.mov (.t 5))⟩, false, false⟩, ⟨⟨(some 26), (some (20, false)), (.idx 1 (.t 24) (.t 25))⟩, false, false⟩, ⟨⟨(some 27), (some (20, false)), (.ld none (.int .i64 0) (.t 26))⟩, false, false⟩, ⟨⟨(some 28), (some (20, false)), (.call 76 [(.t 23), (.t 27)])⟩, false, false⟩, ⟨⟨(some 29), none, (.pick (.t 20) (.c (.bool true)) (.t 28))⟩, false, false⟩]) (.cond (.t 29) (.seq (.reg [⟨(some 4), none, (.mov (.c (.bool false)))⟩]) .ret) .skip))) (.reg [⟨(some 10), none, (.mov (.t 5))⟩, ⟨(some 11), none, (.bin false .add (.t 10) (.c (.int .i64 1)))⟩, ⟨(some 5), none, (.mov (.t 11))⟩])))
def sc_s_IsOrder : SC := (.seq (.reg [⟨(some 2), none, (.box (.t 0))⟩, ⟨(some 4), none, (.mov (.c (.bool false)))⟩]) (.seq (.seq (.reg [⟨(some 5), none, (.mov (.c (.int .i64 0)))⟩]) (.block 0 (.loop sc_s_IsOrder_L0))) (.seq (.reg [⟨(some 30), none, (.ld (some 2) .undef (.t 2))⟩, ⟨(some 31), none, (.call 56 [(.t 30)])⟩, ⟨(some 32), none, (.mov (.t 31))⟩, ⟨(some 33), (some (32, true)), (.mov (.t 1))⟩, ⟨(some 34), (some (32, true)), (.len (.t 33))⟩, ⟨(some 35), (some (32, true)), (.fad 1 (.t 2))⟩, ⟨(some 36), (some (32, true)), (.ld none .nil (.t 35))⟩, ⟨(some 37), (some (32, true)), (.len (.t 36))⟩, ⟨(some 38), (some (32, true)), (.bin false .eql (.t 34) (.t 37))⟩, ⟨(some 39), none, (.pick (.t 32) (.t 38) (.c (.bool false)))⟩, ⟨(some 4), none, (.mov (.t 39))⟩]) .ret)))
theorem code_s_IsOrder : fnCode Try.prog [] 107 = some (40, sc_s_IsOrder, [(4, none)]) := by kernel_rfl
noncomputable def F_s_IsOrder : List V → Option V := F2 dC dL fun c list => some (.bool (orderB c.1 c.2 list))
theorem fn_s_IsOrder : FnOk Try.prog 107 F_s_IsOrder := by
  have env := ((envNil_ok (P := Try.prog)).add fn_s_l2Has).add fn_s_IsComplex
  refine fn_ok code_s_IsOrder mixed env ?_
  intro args r h hb
  obtain ⟨_, _, ⟨n, l⟩, list, rfl, h1, h2, h4⟩ := F2_inv h
  cases dC_inv h1
  cases dL_inv h2
  cases h4
  have hl := bnd_ints (hb _ (List.mem_cons_of_mem _ (List.mem_cons_self ..)))
  refine ⟨by simp, fun w0 U0 L0 N0 => ?_⟩
  generalize hv : orderB n l list = v
  simp -implicitDefEqProofs [sc_s_IsOrder]
  refine loopI env mixed (fun k : Nat => [(1, .list 1 (ints list)), (2, .pt 0 0), (5, .int .i64 (k : Int))]) (fun _ => ([(0, [.int .i64 n, .list 1 (ints l)])], 1)) (fun k => k ≤ list.length ∧ ∀ j, j < k → at0 list j ∈ l ∧ at0 list j ∉ list.take j) (fun k => list.length - k) 0 (by simp) (SubI.slots rfl (by simp)) ?_
  rintro k ⟨hk, hn⟩
  by_cases hlt : k < list.length
  · have hmin : min k list.length = k := by omega
    by_cases h1 : at0 list k ∈ l
    · by_cases h2 : at0 list k ∈ list.take k
      · have hf : v = false := by
          rw [← hv, ← Bool.not_eq_true]
          simp only [orderB, Bool.and_eq_true, decide_eq_true_eq]
          exact fun hf => nodup_at' hf.2.2.1 hlt h2
        simp -implicitDefEqProofs [sc_s_IsOrder_L0, F_s_l2Has, hlt, h1, h2, hf]
        omega
      · simp -implicitDefEqProofs [sc_s_IsOrder_L0, F_s_l2Has, hlt, h1, h2]
        repeat' (first | omega | apply And.intro | intro _)
        refine Again.of (k + 1) ⟨by omega, fun j hj => ?_⟩ (by omega) (SubI.slots rfl (by simp (disch := omega) [wrapI]))
        rcases Nat.lt_succ_iff_lt_or_eq.1 hj with h1 | rfl
        · exact hn j h1
        · exact ⟨h1, h2⟩
    · have hf : v = false := by
        rw [← hv, ← Bool.not_eq_true]
        simp only [orderB, Bool.and_eq_true, decide_eq_true_eq]
        exact fun hf => h1 (hf.2.2.2 _ (getD_mem' hlt))
      simp -implicitDefEqProofs [sc_s_IsOrder_L0, F_s_l2Has, hlt, h1, hf]
      omega
  · have hnd : list.Nodup := nodup_at fun j hj => (hn j (by omega)).2
    have hsub : ∀ x ∈ list, x ∈ l := fun x hx => by
      obtain ⟨j, h1, h2⟩ := getD_mem_iff.1 hx
      exact h2 ▸ (hn j (by omega)).1
    cases hc : cplxB n l with
    | false => simp -implicitDefEqProofs [sc_s_IsOrder_L0, F_s_IsComplex, hlt, hc, ← hv, orderB]
    | true =>
      by_cases he : list.length = l.length
      · have hv2 : v = true := by
          rw [← hv]
          simp only [orderB, hc, Bool.true_and, decide_eq_true_eq]
          exact ⟨he, hnd, hsub⟩
        simp -implicitDefEqProofs [sc_s_IsOrder_L0, F_s_IsComplex, hlt, hc, hv2]
        omega
      · have hv2 : v = false := by
          rw [← hv, ← Bool.not_eq_true]
          simp only [orderB, hc, Bool.true_and, decide_eq_true_eq]
          exact fun h => he h.1
        simp -implicitDefEqProofs [sc_s_IsOrder_L0, F_s_IsComplex, hlt, hc, hv2]
        omega
def sc_i_IsOrder : SC := (.seq (.reg [⟨(some 2), none, (.box (.t 0))⟩, ⟨(some 4), none, (.mov (.c (.bool false)))⟩]) (.seq (.reg [⟨(some 5), none, (.ld (some 2) .undef (.t 2))⟩, ⟨(some 6), none, (.call 57 [(.t 5)])⟩, ⟨(some 7), none, (.mov (.t 6))⟩, ⟨(some 8), (some (7, true)), (.fad 1 (.t 2))⟩, ⟨(some 9), (some (7, true)), (.ld none .nil (.t 8))⟩, ⟨(some 10), (some (7, true)), (.mov (.t 1))⟩, ⟨(some 11), (some (7, true)), (.call 122 [(.t 9), (.t 10)])⟩, ⟨(some 12), none, (.pick (.t 7) (.t 11) (.c (.bool false)))⟩, ⟨(some 4), none, (.mov (.t 12))⟩]) .ret))
theorem code_i_IsOrder : fnCode Try.prog [] 109 = some (13, sc_i_IsOrder, [(4, none)]) := by kernel_rfl
theorem fn_i_IsOrder : FnOk Try.prog 109 F_s_IsOrder := by
  have env := ((envNil_ok (P := Try.prog)).add fn_i_isRearranged).add fn_i_IsComplex
  refine fn_ok code_i_IsOrder mixed env ?_
  intro args r h hb
  obtain ⟨_, _, ⟨n, l⟩, list, rfl, h1, h2, h4⟩ := F2_inv h
  cases dC_inv h1
  cases dL_inv h2
  cases h4
  refine ⟨by simp, fun w0 U0 L0 N0 => ?_⟩
  rw [orderB_rearr]
  cases hc : cplxB n l with
  | false => simp -implicitDefEqProofs [sc_i_IsOrder, F_s_IsComplex, F_i_isRearranged, hc]
  | true => simp -implicitDefEqProofs [sc_i_IsOrder, F_s_IsComplex, F_i_isRearranged, hc]
end Go.Proofs.Ytedampaecopkhaa
