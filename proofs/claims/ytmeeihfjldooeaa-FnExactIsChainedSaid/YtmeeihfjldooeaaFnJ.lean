import Derived.Test.YtmeeihfjldooeaaFnI
namespace Go.Proofs.Ytmeeihfjldooeaa
open Go Go.RowKit
set_option maxRecDepth 1000000
set_option linter.unusedSimpArgs false
set_option linter.unusedVariables false
set_option maxHeartbeats 1000000
theorem before_trans {a b c : Int} (h1 : before a b = true) (h2 : before b c = true) : before a c = true := by
  simp only [before, decide_eq_true_eq] at *
  omega
theorem before_chain {l : List Int} (h : ∀ k, k < l.length → 0 < k → before (at0 l (k - 1)) (at0 l k) = true) : ∀ (d i : Nat), i + d + 1 < l.length → before (at0 l i) (at0 l (i + d + 1)) = true := by
  intro d
  induction d with
  | zero => intro i hi; exact h (i + 1) hi (by omega)
  | succ d ih =>
    intro i hi
    exact before_trans (ih i (by omega)) (h (i + (d + 1) + 1) hi (by omega))
theorem cplx_before {n : Int} {l : List Int} (h : cplx n l) {i j : Nat} (hij : i < j) (hj : j < l.length) : before (at0 l i) (at0 l j) = true := by
  have := before_chain (fun k hk h0 => (h.2.2 k hk).2.1 h0) (j - i - 1) i (by omega)
  rwa [show i + (j - i - 1) + 1 = j by omega] at this
theorem before_apart {a b : Int} (ha : isS a) (hb : isS b) (h : before b a = true) : bnot a b ≠ 0 := by
  obtain ⟨x, hx, rfl⟩ := isS_nat0 ha
  obtain ⟨y, hy, rfl⟩ := isS_nat0 hb
  have key : ∀ x : Nat, x < 64 → ∀ y : Nat, y < 64 → (x - (x &&& y) != 0 || !(decide (pcF 6 y < pcF 6 x) || (pcF 6 y == pcF 6 x && decide (y < x)))) = true := by decide +kernel
  have k := key x hx y hy
  rw [bnot_nat0 x y hx hy]
  simp only [before, decide_eq_true_eq, sz, Int.toNat_natCast, pc6 x hx, pc6 y hy] at h
  simp only [Bool.or_eq_true, bne_iff_ne, Bool.not_eq_true', Bool.or_eq_false_iff, decide_eq_false_iff_not, Bool.and_eq_false_iff, beq_eq_false_iff_ne] at k
  omega
theorem cplx_isS {n : Int} {l : List Int} (h : cplx n l) : allS l := by
  intro x hx
  obtain ⟨j, hj, rfl⟩ := getD_mem_iff.1 hx
  exact isSet_pos (h.2.2 j hj).1
theorem cplx_apart {n : Int} {l : List Int} (h : cplx n l) {a b : Int} (ha : a ∈ l) (hb : b ∈ l) (hab : a ≠ b) : bnot a b ≠ 0 := by
  have h1 := cplx_isS h a ha
  have h2 := cplx_isS h b hb
  obtain ⟨i, hi, rfl⟩ := getD_mem_iff.1 ha
  obtain ⟨j, hj, rfl⟩ := getD_mem_iff.1 hb
  have hne : i ≠ j := fun e => hab (by rw [e])
  rcases Nat.lt_or_gt_of_ne hne with h3 | h3
  · rw [Ne, bnot_zero2 h1 h2]
    exact (h.2.2 j hj).2.2 i h3
  · exact before_apart h1 h2 (cplx_before h h3 hi)
theorem order_parts {n : Int} {l list : List Int} (h : orderB n l list = true) : cplx n l ∧ list.Nodup ∧ (∀ x ∈ list, x ∈ l) ∧ allS list := by
  simp only [orderB, Bool.and_eq_true, decide_eq_true_eq, cplxB_iff] at h
  exact ⟨h.1, h.2.2.1, h.2.2.2, fun x hx => cplx_isS h.1 x (h.2.2.2 x hx)⟩
theorem order_apart {n : Int} {l list : List Int} (h : orderB n l list = true) {k : Nat} (hk : k < list.length) : ∀ g ∈ list.take k, bnot (at0 list k) g ≠ 0 := by
  obtain ⟨h1, h2, h3, _⟩ := order_parts h
  intro g hg
  exact cplx_apart h1 (h3 _ (getD_mem' hk)) (h3 _ (List.mem_of_mem_take hg)) fun e => nodup_at' h2 hk (e ▸ hg)
noncomputable def shellB (n : Int) (l list : List Int) : Bool := dec (orderB n l list = true ∧ ∀ k, k < list.length → fitsI (list.take k) (at0 list k))
def sc_s_IsShelling_L0 : SC := (.seq (.seq (.reg [⟨(some 10), none, (.mov (.t 5))⟩, ⟨(some 11), none, (.mov (.t 1))⟩, ⟨(some 12), none, (.len (.t 11))⟩, ⟨(some 13), none, (.bin false .lss (.t 10) (.t 12))⟩]) (.cond (.t 13) .skip (.exit 0))) (.seq (.block 1 (.seq (.dreg [⟨⟨(some 16), none, (.mov (.t 1))⟩, false, false⟩, ⟨⟨(some 17), none, (.mov (.t 5))⟩, false, false⟩, ⟨⟨(some 18), none, (.sli 1 (.t 16) none (some (.t 17)) none)⟩, false, false⟩, ⟨⟨(some 19), none, (.mov (.t 1))⟩, false, false⟩, ⟨⟨(some 20), none, (.mov (.t 5))⟩, false, false⟩, ⟨⟨(some 21), none, (.idx 1 (.t 19) (.t 20))⟩, false, false⟩, ⟨⟨(some 22), none, (.ld none (.int .i64 0) (.t 21))⟩, false, false⟩, ⟨⟨(some 23), none, (.call 49 [(.t 18), (.t 22)])⟩, false, false⟩, ⟨⟨(some 24), none, (.un .not (.t 23))⟩, false, false⟩]) (.cond (.t 24) (.seq (.reg [⟨(some 4), none, (.mov (.c (.bool false)))⟩]) .ret) .skip))) (.reg [⟨(some 14), none, (.mov (.t 5))⟩, ⟨(some 15), none, (.bin false .add (.t 14) (.c (.int .i64 1)))⟩, ⟨(some 5), none, (.mov (.t 15))⟩])))
def sc_s_IsShelling : SC := (.seq (.reg [⟨(some 2), none, (.box (.t 0))⟩, ⟨(some 4), none, (.mov (.c (.bool false)))⟩]) (.seq (.seq (.reg [⟨(some 6), none, (.ld (some 2) .undef (.t 2))⟩, ⟨(some 7), none, (.mov (.t 1))⟩, ⟨(some 8), none, (.call 10 [(.t 6), (.t 7)])⟩, ⟨(some 9), none, (.un .not (.t 8))⟩]) (.cond (.t 9) (.seq (.reg [⟨(some 4), none, (.mov (.c (.bool false)))⟩]) .ret) .skip)) (.seq (.seq (.reg [⟨(some 5), none, (.mov (.c (.int .i64 0)))⟩]) (.block 0 (.loop sc_s_IsShelling_L0))) (.seq (.reg [⟨(some 4), none, (.mov (.c (.bool true)))⟩]) .ret))))
theorem code_s_IsShelling : fnCode Try.prog [] 22 = some (25, sc_s_IsShelling, [(4, none)]) := by kernel_rfl
noncomputable def F_s_IsShelling : List V → Option V := F2 dC dL fun c list => some (.bool (shellB c.1 c.2 list))
theorem fn_s_IsShelling : FnOk Try.prog 22 F_s_IsShelling := by
  have env := ((envNil_ok (P := Try.prog)).add fn_s_l19Fits).add fn_s_IsOrder
  refine fn_ok code_s_IsShelling mixed env ?_
  intro args r h hb
  obtain ⟨_, _, ⟨n, l⟩, list, rfl, h1, h2, h4⟩ := F2_inv h
  cases dC_inv h1
  cases dL_inv h2
  cases h4
  have hlen := bnd_ints (hb _ (List.mem_cons_of_mem _ (List.mem_cons_self ..)))
  refine ⟨by simp, fun w0 U0 L0 N0 => ?_⟩
  generalize hv : shellB n l list = v
  cases ho : orderB n l list with
  | false =>
    have hv1 : v = false := by rw [← hv]; exact dec_false fun h => by simp [ho] at h
    simp -implicitDefEqProofs [sc_s_IsShelling, F_s_IsOrder, ho, hv1]
  | true =>
    simp -implicitDefEqProofs [sc_s_IsShelling, F_s_IsOrder, ho]
    refine loopI env mixed (fun k : Nat => [(1, .list 1 (ints list)), (5, .int .i64 (k : Int))]) (fun _ => ([(0, [.int .i64 n, .list 1 (ints l)])], 1)) (fun k => k ≤ list.length ∧ ∀ j, j < k → fitsI (list.take j) (at0 list j)) (fun k => list.length - k) 0 (by simp) (SubI.slots rfl (by simp)) ?_
    rintro k ⟨hk, hn⟩
    by_cases hlt : k < list.length
    · have hS := (order_parts ho).2.2.2
      have hT := allS_take hS k
      have hK := allS_at hS hlt
      have hfit := fits_same hT hK (order_apart ho hlt)
      by_cases hf : fitsI (list.take k) (at0 list k)
      · have hd : dec (fitsS (list.take k) (at0 list k)) = true := dec_true (hfit.2 hf)
        simp -implicitDefEqProofs [sc_s_IsShelling_L0, F_s_l19Fits, hlt, hT, hK, hd]
        repeat' (first | omega | apply And.intro | intro _)
        refine Again.of (k + 1) ⟨by omega, fun j hj => ?_⟩ (by omega) (SubI.slots rfl (by simp (disch := omega) [wrapI]))
        rcases Nat.lt_succ_iff_lt_or_eq.1 hj with h1 | rfl
        · exact hn j h1
        · exact hf
      · have hd : dec (fitsS (list.take k) (at0 list k)) = false := dec_false fun h => hf (hfit.1 h)
        have hv1 : v = false := by rw [← hv]; exact dec_false fun h => hf (h.2 k hlt)
        simp -implicitDefEqProofs [sc_s_IsShelling_L0, F_s_l19Fits, hlt, hT, hK, hd, hv1]
        omega
    · have hv1 : v = true := by rw [← hv]; exact dec_true ⟨ho, fun j hj => hn j (by omega)⟩
      simp -implicitDefEqProofs [sc_s_IsShelling_L0, hlt, hv1]
def sc_i_IsShelling_L0 : SC := (.seq (.reg [⟨(some 14), none, (.bin false .lss (.t 13) (.t 12))⟩]) (.seq (.cond (.t 14) .skip (.exit 0)) (.seq (.block 1 (.seq (.reg [⟨(some 15), none, (.mov (.t 13))⟩, ⟨(some 16), none, (.idx 1 (.t 11) (.t 13))⟩, ⟨(some 17), none, (.ld none (.int .i64 0) (.t 16))⟩, ⟨(some 5), none, (.mov (.t 15))⟩, ⟨(some 6), none, (.mov (.t 17))⟩]) (.seq (.reg [⟨(some 18), none, (.mov (.t 1))⟩, ⟨(some 19), none, (.mov (.t 5))⟩, ⟨(some 20), none, (.sli 1 (.t 18) none (some (.t 19)) none)⟩, ⟨(some 21), none, (.mov (.t 6))⟩, ⟨(some 22), none, (.call 50 [(.t 20), (.t 21)])⟩, ⟨(some 23), none, (.un .not (.t 22))⟩]) (.cond (.t 23) (.seq (.reg [⟨(some 4), none, (.mov (.c (.bool false)))⟩]) .ret) .skip)))) (.reg [⟨(some 24), none, (.bin false .add (.t 13) (.c (.int .i64 1)))⟩, ⟨(some 13), none, (.mov (.t 24))⟩]))))
def sc_i_IsShelling : SC := (.seq (.reg [⟨(some 2), none, (.box (.t 0))⟩, ⟨(some 4), none, (.mov (.c (.bool false)))⟩]) (.seq (.seq (.reg [⟨(some 7), none, (.ld (some 2) .undef (.t 2))⟩, ⟨(some 8), none, (.mov (.t 1))⟩, ⟨(some 9), none, (.call 13 [(.t 7), (.t 8)])⟩, ⟨(some 10), none, (.un .not (.t 9))⟩]) (.cond (.t 10) (.seq (.reg [⟨(some 4), none, (.mov (.c (.bool false)))⟩]) .ret) .skip)) (.seq (.seq (.reg [⟨(some 11), none, (.mov (.t 1))⟩, ⟨(some 12), none, (.len (.t 11))⟩, ⟨(some 13), none, (.mov (.c (.int .i64 0)))⟩]) (.block 0 (.loop sc_i_IsShelling_L0))) (.seq (.reg [⟨(some 4), none, (.mov (.c (.bool true)))⟩]) .ret))))
theorem code_i_IsShelling : fnCode Try.prog [] 23 = some (25, sc_i_IsShelling, [(4, none)]) := by kernel_rfl
theorem fn_i_IsShelling : FnOk Try.prog 23 F_s_IsShelling := by
  have env := ((envNil_ok (P := Try.prog)).add fn_i_shellFits).add fn_i_IsOrder
  refine fn_ok code_i_IsShelling mixed env ?_
  intro args r h hb
  obtain ⟨_, _, ⟨n, l⟩, list, rfl, h1, h2, h4⟩ := F2_inv h
  cases dC_inv h1
  cases dL_inv h2
  cases h4
  have hlen := bnd_ints (hb _ (List.mem_cons_of_mem _ (List.mem_cons_self ..)))
  refine ⟨by simp, fun w0 U0 L0 N0 => ?_⟩
  generalize hv : shellB n l list = v
  cases ho : orderB n l list with
  | false =>
    have hv1 : v = false := by rw [← hv]; exact dec_false fun h => by simp [ho] at h
    simp -implicitDefEqProofs [sc_i_IsShelling, F_s_IsOrder, ho, hv1]
  | true =>
    simp -implicitDefEqProofs [sc_i_IsShelling, F_s_IsOrder, ho]
    refine loopI env mixed (fun k : Nat => [(1, .list 1 (ints list)), (11, .list 1 (ints list)), (12, .int .i64 list.length), (13, .int .i64 (k : Int))]) (fun _ => ([(0, [.int .i64 n, .list 1 (ints l)])], 1)) (fun k => k ≤ list.length ∧ ∀ j, j < k → fitsI (list.take j) (at0 list j)) (fun k => list.length - k) 0 (by simp) (SubI.slots rfl (by simp)) ?_
    rintro k ⟨hk, hn⟩
    by_cases hlt : k < list.length
    · have hS := (order_parts ho).2.2.2
      have hT := allS_take hS k
      have hK := allS_at hS hlt
      by_cases hf : fitsI (list.take k) (at0 list k)
      · have hd : dec (fitsI (list.take k) (at0 list k)) = true := dec_true hf
        simp -implicitDefEqProofs [sc_i_IsShelling_L0, F_i_shellFits, hlt, hT, hK, hd]
        repeat' (first | omega | apply And.intro | intro _)
        refine Again.of (k + 1) ⟨by omega, fun j hj => ?_⟩ (by omega) (SubI.slots rfl (by simp (disch := omega) [wrapI]))
        rcases Nat.lt_succ_iff_lt_or_eq.1 hj with h1 | rfl
        · exact hn j h1
        · exact hf
      · have hd : dec (fitsI (list.take k) (at0 list k)) = false := dec_false hf
        have hv1 : v = false := by rw [← hv]; exact dec_false fun h => hf (h.2 k hlt)
        simp -implicitDefEqProofs [sc_i_IsShelling_L0, F_i_shellFits, hlt, hT, hK, hd, hv1]
        omega
    · have hv1 : v = true := by rw [← hv]; exact dec_true ⟨ho, fun j hj => hn j (by omega)⟩
      simp -implicitDefEqProofs [sc_i_IsShelling_L0, hlt, hv1]
end Go.Proofs.Ytmeeihfjldooeaa
