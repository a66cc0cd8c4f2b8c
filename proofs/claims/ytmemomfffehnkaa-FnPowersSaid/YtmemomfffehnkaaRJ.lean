import Derived.Test.YtmemomfffehnkaaRH
import Derived.Test.YtmemomfffehnkaaRI
import Derived.Test.YtmemomfffehnkaaRG
import Derived.Test.YtmemomfffehnkaaRF
import Derived.Test.YtmemomfffehnkaaRD
import Derived.Test.YtmemomfffehnkaaRC
import Derived.Test.YtmemomfffehnkaaRE
namespace Go.Proofs.Ytmemomfffehnkaa
open Go Go.RowKit
set_option maxRecDepth 1000000
set_option linter.unusedSimpArgs false
set_option linter.unusedVariables false
set_option maxHeartbeats 1000000
def sc_s_Choose_L0 : SC := (.seq (.seq (.reg [⟨(some 16), none, (.mov (.t 6))⟩, ⟨(some 17), none, (.mov (.t 1))⟩, ⟨(some 18), none, (.bin false .lss (.t 16) (.t 17))⟩]) (.cond (.t 18) .skip (.exit 0))) (.seq (.block 1 (.reg [⟨(some 21), none, (.mov (.t 5))⟩, ⟨(some 22), none, (.mov (.t 0))⟩, ⟨(some 23), none, (.mov (.t 6))⟩, ⟨(some 24), none, (.bin false .sub (.t 22) (.t 23))⟩, ⟨(some 25), none, (.bin false .mul (.t 21) (.t 24))⟩, ⟨(some 26), none, (.mov (.t 6))⟩, ⟨(some 27), none, (.bin false .add (.t 26) (.c (.int .i64 1)))⟩, ⟨(some 28), none, (.bin false .quo (.t 25) (.t 27))⟩, ⟨(some 5), none, (.mov (.t 28))⟩])) (.reg [⟨(some 19), none, (.mov (.t 6))⟩, ⟨(some 20), none, (.bin false .add (.t 19) (.c (.int .i64 1)))⟩, ⟨(some 6), none, (.mov (.t 20))⟩])))
def sc_s_Choose : SC := (.seq (.reg [⟨(some 4), none, (.mov (.c (.int .i64 0)))⟩]) (.seq (.seq (.reg [⟨(some 7), none, (.mov (.t 0))⟩, ⟨(some 8), none, (.call 132 [(.t 7), (.c (.int .i64 0)), (.c (.int .i64 60))])⟩, ⟨(some 9), none, (.un .not (.t 8))⟩, ⟨(some 10), none, (.mov (.t 9))⟩, ⟨(some 11), (some (10, false)), (.mov (.t 1))⟩, ⟨(some 12), (some (10, false)), (.mov (.t 0))⟩, ⟨(some 13), (some (10, false)), (.call 132 [(.t 11), (.c (.int .i64 0)), (.t 12)])⟩, ⟨(some 14), (some (10, false)), (.un .not (.t 13))⟩, ⟨(some 15), none, (.pick (.t 10) (.c (.bool true)) (.t 14))⟩]) (.cond (.t 15) (.seq (.reg [⟨(some 4), none, (.mov (.c (.int .i64 0)))⟩]) .ret) .skip)) (.seq (.reg [⟨(some 5), none, (.mov (.c (.int .i64 1)))⟩]) (.seq (.seq (.reg [⟨(some 6), none, (.mov (.c (.int .i64 0)))⟩]) (.block 0 (.loop sc_s_Choose_L0))) (.seq (.reg [⟨(some 29), none, (.mov (.t 5))⟩, ⟨(some 4), none, (.mov (.t 29))⟩]) .ret)))))
theorem code_s_Choose : fnCode Try.prog [] 157 = some (30, sc_s_Choose, [(4, none)]) := by kernel_rfl
def chM (n : Int) : Nat → Int
  | 0 => 1
  | k + 1 => (chM n k * (n - (k : Int))).tdiv ((k : Int) + 1)
theorem chM_bnd : ∀ n : Nat, n < 61 → ∀ k : Nat, k < n + 1 → (decide (0 ≤ chM n k) && decide (chM n k * ((n : Int) - (k : Int)) < 9223372036854775808) && decide (chM n k < 9223372036854775808)) = true := by decide +kernel
noncomputable def chV (n k : Int) : Int := @ite _ (0 ≤ n ∧ n ≤ 60 ∧ 0 ≤ k ∧ k ≤ n) (Classical.propDecidable _) (chM n k.toNat) 0
noncomputable def F_s_Choose : List V → Option V := F2 dI dI fun n k => some (.int .i64 (chV n k))
theorem fn_s_Choose : FnOk Try.prog 157 F_s_Choose := by
  have env := (envNil_ok (P := Try.prog)).add fn_s_l1In
  refine fn_ok code_s_Choose mixed env ?_
  intro args r h hb
  obtain ⟨_, _, n, k, rfl, h1, h2, h4⟩ := F2_inv h
  cases dI_inv h1
  cases dI_inv h2
  cases h4
  clear h h1 h2 hb
  refine ⟨by simp, fun w0 U0 L0 N0 => ?_⟩
  by_cases hc : 0 ≤ n ∧ n ≤ 60 ∧ 0 ≤ k ∧ k ≤ n
  rotate_left
  · have e : chV n k = 0 := if_neg hc
    rw [e]
    by_cases h1 : 0 ≤ n ∧ n ≤ 60
    · have h2 : ¬ (0 ≤ k ∧ k ≤ n) := fun h => hc ⟨h1.1, h1.2, h.1, h.2⟩
      by_cases h3 : 0 ≤ k
      · have h4 : ¬ k ≤ n := fun h => h2 ⟨h3, h⟩
        simp -implicitDefEqProofs [sc_s_Choose, F_s_l1In, h1.1, h1.2, h3, h4]
      · simp -implicitDefEqProofs [sc_s_Choose, F_s_l1In, h1.1, h1.2, h3]
    · by_cases h3 : 0 ≤ n
      · have h4 : ¬ n ≤ 60 := fun h => h1 ⟨h3, h⟩
        simp -implicitDefEqProofs [sc_s_Choose, F_s_l1In, h3, h4]
      · simp -implicitDefEqProofs [sc_s_Choose, F_s_l1In, h3]
  obtain ⟨n0, n6, k0, kn⟩ := hc
  have e : chV n k = chM n k.toNat := if_pos ⟨n0, n6, k0, kn⟩
  rw [e]
  have hs : ∀ i, chM n (i + 1) = (chM n i * (n - (i : Int))).tdiv ((i : Int) + 1) := fun i => rfl
  have hb : ∀ i : Nat, (i : Int) ≤ n → 0 ≤ chM n i ∧ chM n i * (n - (i : Int)) < 9223372036854775808 ∧ chM n i < 9223372036854775808 := by
    intro i hi
    obtain ⟨m, rfl⟩ := Int.eq_ofNat_of_zero_le n0
    have := chM_bnd m (by omega) i (by omega)
    simp only [Bool.and_eq_true, decide_eq_true_eq] at this
    exact ⟨this.1.1, this.1.2, this.2⟩
  have h0 : chM n 0 = 1 := rfl
  generalize chM n = f at *
  simp -implicitDefEqProofs [sc_s_Choose, F_s_l1In, n0, n6, k0, kn]
  refine loopI env mixed (fun i : Nat => [(0, .int .i64 n), (1, .int .i64 k), (5, .int .i64 (f i)), (6, .int .i64 (i : Int))]) (fun _ => ([], 0)) (fun i => (i : Int) ≤ k) (fun i => k.toNat - i) 0 (by simpa using k0) (SubI.slots rfl (by simp [h0])) ?_
  intro i hi
  by_cases hlt : (i : Int) < k
  · obtain ⟨b1, b2, b3⟩ := hb i (by omega)
    obtain ⟨c1, c2, c3⟩ := hb (i + 1) (by omega)
    have hp : 0 ≤ f i * (n - (i : Int)) := Int.mul_nonneg b1 (by omega)
    have w1 : IntKind.i64.wrap (n - (i : Int)) = n - (i : Int) := wrapI _ (by omega) (by omega)
    have w2 : IntKind.i64.wrap (f i * (n - (i : Int))) = f i * (n - (i : Int)) := wrapI _ (by omega) b2
    have w3 : IntKind.i64.wrap ((i : Int) + 1) = (i : Int) + 1 := wrapI _ (by omega) (by omega)
    have w4 : IntKind.i64.wrap ((f i * (n - (i : Int))).tdiv ((i : Int) + 1)) = f (i + 1) := by rw [← hs i]; exact wrapI _ (by omega) c3
    have hne : ¬ ((i : Int) + 1 = 0) := by omega
    simp -implicitDefEqProofs [sc_s_Choose_L0, hlt, w1, w2, w3, w4, hne]
    repeat' (first | omega | apply And.intro)
    exact Again.of (i + 1) (by omega) (by omega) (SubI.slots rfl (by simp (disch := omega) [wrapI]))
  · have hk : k.toNat = i := by omega
    rw [hk]
    generalize f i = a at *
    simp -implicitDefEqProofs [sc_s_Choose_L0, hlt]
theorem chM_P : ∀ n : Nat, n < 7 → ∀ k : Nat, k < n + 1 → (chM n k == (chP n k : Nat)) && decide (chP n k ≤ 20) = true := by decide +kernel
theorem chV_P {n k : Nat} (hn : n < 7) (hk : k ≤ n) : chV (n : Int) (k : Int) = (chP n k : Nat) := by
  have := chM_P n hn k (by omega)
  simp only [Bool.and_eq_true, beq_iff_eq] at this
  have e : chV (n : Int) (k : Int) = chM (n : Int) (k : Int).toNat := if_pos ⟨by omega, by omega, by omega, by omega⟩
  rw [e, Int.toNat_natCast, this.1]
theorem chP_20 {n k : Nat} (hn : n < 7) (hk : k ≤ n) : chP n k ≤ 20 := by
  have := chM_P n hn k (by omega)
  simp only [Bool.and_eq_true, decide_eq_true_eq] at this
  exact this.2
def sc_s_HNumbers_L2 : SC := (.seq (.seq (.reg [⟨(some 20), none, (.mov (.t 8))⟩, ⟨(some 21), none, (.mov (.t 6))⟩, ⟨(some 22), none, (.bin false .leq (.t 20) (.t 21))⟩]) (.cond (.t 22) .skip (.exit 2))) (.seq (.block 3 (.dreg [⟨⟨(some 25), none, (.mov (.t 7))⟩, false, false⟩, ⟨⟨(some 26), none, (.mov (.t 6))⟩, false, false⟩, ⟨⟨(some 27), none, (.mov (.t 8))⟩, false, false⟩, ⟨⟨(some 28), none, (.bin false .sub (.t 26) (.t 27))⟩, false, false⟩, ⟨⟨(some 29), none, (.bin false .rem (.t 28) (.c (.int .i64 2)))⟩, false, false⟩, ⟨⟨(some 30), none, (.bin false .mul (.c (.int .i64 2)) (.t 29))⟩, false, false⟩, ⟨⟨(some 31), none, (.bin false .sub (.c (.int .i64 1)) (.t 30))⟩, false, false⟩, ⟨⟨(some 32), none, (.mov (.t 4))⟩, false, false⟩, ⟨⟨(some 33), none, (.mov (.t 8))⟩, false, false⟩, ⟨⟨(some 34), none, (.idx 1 (.t 32) (.t 33))⟩, false, false⟩, ⟨⟨(some 35), none, (.ld none (.int .i64 0) (.t 34))⟩, false, false⟩, ⟨⟨(some 36), none, (.bin false .mul (.t 31) (.t 35))⟩, false, false⟩, ⟨⟨(some 37), none, (.mov (.t 5))⟩, false, false⟩, ⟨⟨(some 38), none, (.mov (.t 8))⟩, false, false⟩, ⟨⟨(some 39), none, (.bin false .sub (.t 37) (.t 38))⟩, false, false⟩, ⟨⟨(some 40), none, (.mov (.t 6))⟩, false, false⟩, ⟨⟨(some 41), none, (.mov (.t 8))⟩, false, false⟩, ⟨⟨(some 42), none, (.bin false .sub (.t 40) (.t 41))⟩, false, false⟩, ⟨⟨(some 43), none, (.call 157 [(.t 39), (.t 42)])⟩, false, false⟩, ⟨⟨(some 44), none, (.bin false .mul (.t 36) (.t 43))⟩, false, false⟩, ⟨⟨(some 45), none, (.bin false .add (.t 25) (.t 44))⟩, false, false⟩, ⟨⟨(some 7), none, (.mov (.t 45))⟩, false, false⟩])) (.reg [⟨(some 23), none, (.mov (.t 8))⟩, ⟨(some 24), none, (.bin false .add (.t 23) (.c (.int .i64 1)))⟩, ⟨(some 8), none, (.mov (.t 24))⟩])))
def sc_s_HNumbers_L0 : SC := (.seq (.seq (.reg [⟨(some 15), none, (.mov (.t 6))⟩, ⟨(some 16), none, (.mov (.t 5))⟩, ⟨(some 17), none, (.bin false .leq (.t 15) (.t 16))⟩]) (.cond (.t 17) .skip (.exit 0))) (.seq (.block 1 (.seq (.reg [⟨(some 7), none, (.mov (.c (.int .i64 0)))⟩]) (.seq (.seq (.reg [⟨(some 8), none, (.mov (.c (.int .i64 0)))⟩]) (.block 2 (.loop sc_s_HNumbers_L2))) (.reg [⟨(some 46), none, (.mov (.t 3))⟩, ⟨(some 47), none, (.mov (.t 7))⟩, ⟨(some 48), none, (.mks 1 1 [(.int .i64 0)] [(0, (1, (.t 47)))])⟩, ⟨(some 49), none, (.app 1 8 (.t 46) (.t 48))⟩, ⟨(some 3), none, (.mov (.t 49))⟩])))) (.reg [⟨(some 18), none, (.mov (.t 6))⟩, ⟨(some 19), none, (.bin false .add (.t 18) (.c (.int .i64 1)))⟩, ⟨(some 6), none, (.mov (.t 19))⟩])))
def sc_s_HNumbers : SC := (.seq (.reg [⟨(some 1), none, (.box (.t 0))⟩, ⟨(some 2), none, (.mov (.c .nil))⟩]) (.seq (.reg [⟨(some 9), none, (.mks 0 1 [] [])⟩, ⟨(some 3), none, (.mov (.t 9))⟩]) (.seq (.reg [⟨(some 10), none, (.ld (some 2) .undef (.t 1))⟩, ⟨(some 11), none, (.call 141 [(.t 10)])⟩, ⟨(some 4), none, (.mov (.t 11))⟩]) (.seq (.reg [⟨(some 12), none, (.mov (.t 4))⟩, ⟨(some 13), none, (.len (.t 12))⟩, ⟨(some 14), none, (.bin false .sub (.t 13) (.c (.int .i64 1)))⟩, ⟨(some 5), none, (.mov (.t 14))⟩]) (.seq (.seq (.reg [⟨(some 6), none, (.mov (.c (.int .i64 0)))⟩]) (.block 0 (.loop sc_s_HNumbers_L0))) (.seq (.reg [⟨(some 50), none, (.mov (.t 3))⟩, ⟨(some 2), none, (.mov (.t 50))⟩]) .ret))))))
theorem code_s_HNumbers : fnCode Try.prog [] 42 = some (51, sc_s_HNumbers, [(2, none)]) := by kernel_rfl
theorem fct_len (n : Int) (l : List Int) : (fctL n l).length ≤ 7 := by
  have := topZ_bnd (faceS l)
  unfold fctL
  split
  · rw [rowF_len]; omega
  · simp
theorem fct_rng (n : Int) (l : List Int) (i : Nat) : 0 ≤ at0 (fctL n l) i ∧ at0 (fctL n l) i ≤ 64 := by
  by_cases h : i < (fctL n l).length
  · unfold fctL at h ⊢
    split
    · rename_i hc
      rw [if_pos hc, rowF_len] at h
      rw [rowF_at h]
      have := szS_len (faceS l) (i : Nat)
      omega
    · rename_i hc
      rw [if_neg hc] at h
      simp at h
  · rw [at0_nil (by omega)]
    omega
/-- One h number, summed up to a place. -/
noncomputable def hSum (f : List Int) (k m : Nat) : Int := sumN m fun i => sgI (k - i) * at0 f i * chV ((f.length : Int) - 1 - (i : Int)) ((k : Int) - (i : Int))
noncomputable def hnL (n : Int) (l : List Int) : List Int := (List.range (fctL n l).length).map fun k => hSum (fctL n l) k (k + 1)
noncomputable def hnI (n : Int) (l : List Int) (m : Nat) : List Int := (List.range m).map fun k => hSum (fctL n l) k (k + 1)
theorem hSum_term {n : Int} {l : List Int} {k i : Nat} (hk : k < (fctL n l).length) (hi : i ≤ k) :
    chV (((fctL n l).length : Int) - 1 - (i : Int)) ((k : Int) - (i : Int)) = (chP ((fctL n l).length - 1 - i) (k - i) : Nat) ∧ chP ((fctL n l).length - 1 - i) (k - i) ≤ 20 := by
  have h7 := fct_len n l
  have e1 : ((fctL n l).length : Int) - 1 - (i : Int) = (((fctL n l).length - 1 - i : Nat) : Int) := by omega
  have e2 : (k : Int) - (i : Int) = ((k - i : Nat) : Int) := by omega
  rw [e1, e2]
  exact ⟨chV_P (by omega) (by omega), chP_20 (by omega) (by omega)⟩
theorem sgI_cases (k : Nat) : sgI k = 1 ∨ sgI k = -1 := by unfold sgI; omega
theorem prod_bnd {s a b : Int} (hs : s = 1 ∨ s = -1) (ha : 0 ≤ a ∧ a ≤ 64) (hb : 0 ≤ b ∧ b ≤ 20) : -1280 ≤ s * a * b ∧ s * a * b ≤ 1280 ∧ -64 ≤ s * a ∧ s * a ≤ 64 := by
  have h1 : 0 ≤ a * b := Int.mul_nonneg ha.1 hb.1
  have h2 : a * b ≤ 64 * 20 := Int.mul_le_mul ha.2 hb.2 hb.1 (by omega)
  rcases hs with rfl | rfl
  · rw [Int.one_mul]; omega
  · have e : (-1 : Int) * a * b = -(a * b) := by rw [Int.mul_assoc]; omega
    rw [e]; omega
theorem hSum_bnd {n : Int} {l : List Int} {k : Nat} (hk : k < (fctL n l).length) : ∀ m : Nat, m ≤ k + 1 → -(1280 * (m : Int)) ≤ hSum (fctL n l) k m ∧ hSum (fctL n l) k m ≤ 1280 * (m : Int)
  | 0, _ => by simp [hSum, sumN]
  | m + 1, hm => by
    have ih := hSum_bnd hk m (by omega)
    obtain ⟨e1, e2⟩ := hSum_term (n := n) (l := l) hk (i := m) (by omega)
    have hr := fct_rng n l m
    have e : hSum (fctL n l) k (m + 1) = hSum (fctL n l) k m + sgI (k - m) * at0 (fctL n l) m * chV (((fctL n l).length : Int) - 1 - (m : Int)) ((k : Int) - (m : Int)) := rfl
    rw [e, e1]
    have := prod_bnd (sgI_cases (k - m)) hr (b := (chP ((fctL n l).length - 1 - m) (k - m) : Nat)) ⟨by omega, by omega⟩
    omega
noncomputable def F_s_HNumbers : List V → Option V := F1 dC fun c => some (.own 1 (ints (hnL c.1 c.2)))
theorem fn_s_HNumbers : FnOk Try.prog 42 F_s_HNumbers := by
  have env := ((envNil_ok (P := Try.prog)).add fn_s_FaceCounts).add fn_s_Choose
  refine fn_ok code_s_HNumbers mixed env ?_
  intro args r h hb
  obtain ⟨_, ⟨n, l⟩, rfl, h1, h4⟩ := F1_inv h
  cases dC_inv h1
  cases h4
  clear h hb h1
  refine ⟨by simp, fun w0 U0 L0 N0 => ?_⟩
  simp only
  have hF : F_s_FaceCounts [.agg [.int .i64 n, .list 1 (ints l)]] = some (.own 1 (ints (fctL n l))) := by
    simp only [F_s_FaceCounts, F1_mk, dC_agg, Option.bind_some]
  have h7 := fct_len n l
  have hr := fct_rng n l
  have hT := fun k i => hSum_term (n := n) (l := l) (k := k) (i := i)
  have hB := fun k => hSum_bnd (n := n) (l := l) (k := k)
  have hfin : hnL n l = hnI n l (fctL n l).length := rfl
  have hI0 : hnI n l 0 = [] := rfl
  have hIs : ∀ m, hnI n l (m + 1) = hnI n l m ++ [hSum (fctL n l) m (m + 1)] := fun m => by simp [hnI, List.range_succ]
  have hIl : ∀ m, (hnI n l m).length = m := fun m => by simp [hnI]
  have hS0 : ∀ k, hSum (fctL n l) k 0 = 0 := fun k => rfl
  have hSs : ∀ k m, hSum (fctL n l) k (m + 1) = hSum (fctL n l) k m + sgI (k - m) * at0 (fctL n l) m * chV (((fctL n l).length : Int) - 1 - (m : Int)) ((k : Int) - (m : Int)) := fun k m => rfl
  rw [hfin]
  clear hfin
  generalize hnI n l = g at *
  generalize hSum (fctL n l) = S at *
  generalize fctL n l = f at *
  have wD : IntKind.i64.wrap ((f.length : Int) - 1) = (f.length : Int) - 1 := wrapI _ (by omega) (by omega)
  simp -implicitDefEqProofs [sc_s_HNumbers, hF, wD]
  refine loopI env mixed (fun k : Nat => [(3, .sl 1 1 0 k), (4, .sl 2 1 0 f.length), (5, .int .i64 ((f.length : Int) - 1)), (6, .int .i64 (k : Int))]) (fun k => ([(2, ints f), (1, ints (g k)), (0, [.int .i64 n, .list 1 (ints l)])], 3)) (fun k => k ≤ f.length) (fun k => f.length - k) 0 (by simp) ?_ ?_
  · exact SubI.slots (by simp [hI0]) (by simp)
  intro k hk
  have hgl := hIl k
  have hwk : IntKind.i64.wrap ((k : Int) + 1) = (k : Int) + 1 := wrapI _ (by omega) (by omega)
  by_cases hlt : k < f.length
  · have hle : (k : Int) ≤ (f.length : Int) - 1 := by omega
    simp -implicitDefEqProofs [sc_s_HNumbers_L0, hle]
    refine loopQ env mixed (fun i : Nat => [(3, .sl 1 1 0 k), (4, .sl 2 1 0 f.length), (5, .int .i64 ((f.length : Int) - 1)), (6, .int .i64 (k : Int)), (7, .int .i64 (S k i)), (8, .int .i64 (i : Int))]) (fun _ => ([(2, ints f), (1, ints (g k)), (0, [.int .i64 n, .list 1 (ints l)])], 3)) (fun i => i ≤ k + 1) (fun i => k + 1 - i) 0 (by simp) (SubI.slots (by simp) (by simp [hS0])) ?_
    intro i hi
    have hwi : IntKind.i64.wrap ((i : Int) + 1) = (i : Int) + 1 := wrapI _ (by omega) (by omega)
    by_cases hik : i ≤ k
    · have hik2 : (i : Int) ≤ (k : Int) := by omega
      have hif : i < f.length := by omega
      obtain ⟨e1, e2⟩ := hT k i hlt hik
      have hri := hr i
      have e := hSs k i
      have hb1 := hB k hlt i (by omega)
      have hb2 := hB k hlt (i + 1) (by omega)
      rw [e1] at e
      have hF2 : F_s_Choose [.int .i64 ((f.length : Int) - 1 - (i : Int)), .int .i64 ((k : Int) - (i : Int))] = some (.int .i64 (chP (f.length - 1 - i) (k - i) : Nat)) := by
        simp only [F_s_Choose, F2_mk, dI_int, Option.bind_some]
        rw [e1]
      have hp := prod_bnd (sgI_cases (k - i)) hri (b := (chP (f.length - 1 - i) (k - i) : Nat)) ⟨by omega, by omega⟩
      generalize chP (f.length - 1 - i) (k - i) = C at *
      have ht : ((k : Int) - (i : Int)).tmod 2 = (((k - i) % 2 : Nat) : Int) := by
        rw [Int.tmod_eq_emod_of_nonneg (by omega)]
        omega
      have hsg : sgI (k - i) = 1 - 2 * (((k - i) % 2 : Nat) : Int) := rfl
      rw [hsg] at e hp
      obtain ⟨q, hq⟩ : ∃ q : Int, (((k - i) % 2 : Nat) : Int) = q := ⟨_, rfl⟩
      have hq01 : q = 0 ∨ q = 1 := by omega
      rw [hq] at e hp ht
      have v1 : IntKind.i64.wrap ((k : Int) - (i : Int)) = (k : Int) - (i : Int) := wrapI _ (by omega) (by omega)
      have v2 : IntKind.i64.wrap (2 * q) = 2 * q := wrapI _ (by omega) (by omega)
      have v3 : IntKind.i64.wrap (1 - 2 * q) = 1 - 2 * q := wrapI _ (by omega) (by omega)
      generalize hsv : (1 - 2 * q) = sg at *
      have v4 : IntKind.i64.wrap (sg * at0 f i) = sg * at0 f i := wrapI _ (by omega) (by omega)
      have v5 : IntKind.i64.wrap (sg * at0 f i * (C : Int)) = sg * at0 f i * (C : Int) := wrapI _ (by omega) (by omega)
      have v6 : IntKind.i64.wrap (S k i + sg * at0 f i * (C : Int)) = S k (i + 1) := by rw [← e]; exact wrapI _ (by omega) (by omega)
      have v7 : IntKind.i64.wrap ((f.length : Int) - 1 - (i : Int)) = (f.length : Int) - 1 - (i : Int) := wrapI _ (by omega) (by omega)
      simp -implicitDefEqProofs [sc_s_HNumbers_L2, freeOk, hik, hik2, hif, v1, v2, v3, v4, v5, v6, v7, ht, hsv, hF2, hwi]
      repeat' (first | omega | apply And.intro)
      exact Again.of (i + 1) (by omega) (by omega) (SubI.slots (by simp) (by simp))
    · have : i = k + 1 := by omega
      subst this
      have hk8 : (k + 1) * 8 ≤ 140737488355328 := by omega
      have hik3 : ¬ ((k : Int) + 1 ≤ (k : Int)) := by omega
      have h3 : (g k).take k = g k := List.take_of_length_le (by omega)
      simp -implicitDefEqProofs [sc_s_HNumbers_L2, freeOk, hik3]
      refine SubQ.of (l1 := [(3, .sl 1 1 0 k), (4, .sl 2 1 0 f.length), (5, .int .i64 ((f.length : Int) - 1)), (6, .int .i64 (k : Int)), (7, .int .i64 (S k (k + 1)))]) (s1 := ([(2, ints f), (1, ints (g k)), (0, [.int .i64 n, .list 1 (ints l)])], 3)) (SubI.slots (by simp) (by simp)) ?_
      have e := hIs k
      simp -implicitDefEqProofs [freeOk, hgl, hk8, h3, hwk]
      refine Again.of (k + 1) (by omega) (by omega) (SubI.ren (fun m => if m = 0 then some 0 else if m = 1 then some 4 else if m = 2 then some 2 else none) ?_ ?_ ?_ (by simp) (by simp))
      · simp [renV, ren1]
      · rw [ints_snoc]
        simp [renL, ren1, e]
      · intro n hn
        simp only at hn
        have h1 : n ≠ 0 := by omega
        have h2 : n ≠ 1 := by omega
        have h3 : n ≠ 2 := by omega
        simp [h1, h2, h3]
  · have : k = f.length := by omega
    subst this
    have hle : ¬ (f.length : Int) ≤ (f.length : Int) - 1 := by omega
    have h3 : (g f.length).take f.length = g f.length := List.take_of_length_le (by omega)
    simp -implicitDefEqProofs [sc_s_HNumbers_L0, freeOk, hle, hgl, h3]
end Go.Proofs.Ytmemomfffehnkaa
namespace Go.Proofs.Ytmemomfffehnkaa
open Go Go.RowKit
set_option maxRecDepth 1000000
set_option linter.unusedSimpArgs false
set_option linter.unusedVariables false
set_option maxHeartbeats 1000000
/-- The h numbers, given the lows of intervals that divide the faces. -/
theorem hnL_div {n : Int} {l F lows : List Int} (hc : cplx n l) (hne : l ≠ []) (hpure : pureB n l = true) (hFl : ∀ x, x ∈ F ↔ x ∈ l) (hlen : lows.length = F.length)
    (hlow : ∀ k, k < lows.length → isS (at0 lows k) ∧ subS (at0 lows k) (at0 F k)) (hone : ∀ u, isS u → faceS l u → cntIv F lows u lows.length = 1) : hnL n l = szRow (topZ (faceS l) + 1).toNat lows := by
  have hS := cplx_isS hc
  have hFS : allS F := fun x hx => hS x ((hFl x).1 hx)
  have hff : ∀ s, faceS F s ↔ faceS l s := fun s => ⟨fun ⟨f, a, b⟩ => ⟨f, (hFl f).1 a, b⟩, fun ⟨f, a, b⟩ => ⟨f, (hFl f).2 a, b⟩⟩
  have htop := topZ_facets hc hne
  have htb := topZ_bnd (faceS l)
  have hl0 : 0 < l.length := List.length_pos_iff.2 hne
  have hpa : ∀ x ∈ l, sz x = sz (at0 l (l.length - 1)) := fun x hx => by
    obtain ⟨k, hk, rfl⟩ := getD_mem_iff.1 hx
    have h2 := (dec_iff.1 hpure).2
    rw [h2 k hk, h2 (l.length - 1) (by omega)]
  have h0 : 0 ≤ sz (at0 l (l.length - 1)) := by unfold sz; omega
  obtain ⟨d, hd⟩ := Int.eq_ofNat_of_zero_le (show 0 ≤ topZ (faceS l) by omega)
  have hm : (topZ (faceS l) + 1).toNat = d + 1 := by omega
  have hp : ∀ k, k < F.length → sz (at0 F k) = (d : Int) := fun k hk => by
    rw [hpa _ ((hFl _).1 (getD_mem' hk)), ← htop, hd]
  have ef : fctL n l = rowF (d + 1) fun z => ((szS (faceS l) z).length : Nat) := by
    unfold fctL
    rw [if_pos hc, hm]
  have efl : (fctL n l).length = d + 1 := by rw [ef, rowF_len]
  unfold hnL
  rw [efl, hm]
  unfold szRow
  refine List.map_congr_left fun k hk => ?_
  rw [List.mem_range] at hk
  have key := hnum_div (F := F) (lows := lows) (d := d) hFS hlen hlow hp (by omega) (fun u hu hfu => hone u hu ((hff u).1 hfu)) (j := k) (by omega)
  rw [← key]
  refine sumN_congr fun i hi => ?_
  have hik : i ≤ k := by omega
  obtain ⟨e1, _⟩ := hSum_term (n := n) (l := l) (k := k) (i := i) (by omega) hik
  rw [e1, efl]
  have e2 : at0 (fctL n l) i = ((szS (faceS F) (i : Nat)).length : Int) := by
    rw [ef, rowF_at (by omega)]
    rw [szS_congr (fun s _ => (hff s))]
  rw [e2]
  have e3 : d + 1 - 1 - i = d - i := by omega
  rw [e3]
end Go.Proofs.Ytmemomfffehnkaa
namespace Go.Proofs.Ytmemomfffehnkaa
open Go Go.RowKit
set_option maxRecDepth 1000000
set_option linter.unusedSimpArgs false
set_option linter.unusedVariables false
set_option maxHeartbeats 1000000
open Classical in
noncomputable def shcL (n : Int) (l list : List Int) : List Int := if shellB n l list = true then szRow (topZ (faceS l) + 1).toNat (newfP list list.length) else []
end Go.Proofs.Ytmemomfffehnkaa
namespace Go.Proofs.Ytmemomfffehnkaa
open Go Go.RowKit
set_option maxRecDepth 1000000
set_option linter.unusedSimpArgs false
set_option linter.unusedVariables false
set_option maxHeartbeats 1000000
theorem newfP_len2 (list : List Int) (k : Nat) : (newfP list k).length = k := by simp [newfP]
theorem sh_lows {n : Int} {l list : List Int} (h : shellB n l list = true) : ∀ k, k < (newfP list list.length).length → isS (at0 (newfP list list.length) k) ∧ subS (at0 (newfP list list.length) k) (at0 list k) := by
  obtain ⟨hc, hnd, hsub, hSl⟩ := order_parts (shell_order h)
  intro k hk
  rw [newfP_len2] at hk
  rw [at0_newfP hk]
  have hT := allS_take hSl k
  have hs := allS_at hSl hk
  exact ⟨isS_partI hT hs, (subS_tb (isS_partI hT hs) hs).2 fun i hi hi2 => part_sub hT hs hi hi2⟩
theorem sh_once {n : Int} {l list : List Int} (h : shellB n l list = true) {u : Int} (hu : isS u) (hf : faceS l u) : cntIv list (newfP list list.length) u list.length = 1 := by
  have ho := shell_order h
  obtain ⟨hc, hnd, hsub, hSl⟩ := order_parts ho
  obtain ⟨hlen, _, hall⟩ := order_all ho
  obtain ⟨f, hf1, hf2⟩ := hf
  obtain ⟨j, hj, e2⟩ := getD_mem_iff.1 (hall f hf1)
  exact sh_cnt hSl (shell_fits h) hu ⟨j, hj, by rw [e2]; exact hf2⟩
theorem shell_h {n : Int} {l list : List Int} (h : shellB n l list = true) (hne : 0 < list.length) (hp : pureB n l = true) : hnL n l = shcL n l list := by
  have ho := shell_order h
  obtain ⟨hc, hnd, hsub, hSl⟩ := order_parts ho
  obtain ⟨hlen, _, hall⟩ := order_all ho
  have e : shcL n l list = szRow (topZ (faceS l) + 1).toNat (newfP list list.length) := if_pos h
  rw [e]
  have hl : l ≠ [] := by intro hl; rw [hl] at hlen; simp only [List.length_nil] at hlen; omega
  refine hnL_div hc hl hp (F := list) (fun x => ⟨hsub x, hall x⟩) (newfP_len2 _ _) (sh_lows h) fun u hu hf => ?_
  rw [newfP_len2]
  exact sh_once h hu hf
end Go.Proofs.Ytmemomfffehnkaa
namespace Go.Proofs.Ytmemomfffehnkaa
open Go Go.RowKit
set_option maxRecDepth 1000000
set_option linter.unusedSimpArgs false
set_option linter.unusedVariables false
set_option maxHeartbeats 1000000
def okH (h : List Nat) : Bool := h.getD 0 0 == 1 && (List.range 7).all fun k => decide (k < 2) || decide (((h.getD k 0 : Nat) : Int) ≤ pbC ((k : Int) - 1) (casL (k - 1) ((h.getD (k - 1) 0 : Nat) : Int)) (casL (k - 1) ((h.getD (k - 1) 0 : Nat) : Int)).length)
theorem chk0 : chkL okH (stD 0) 8 [([0,0,0,0,0,0,0], 1)] = true := by decide +kernel
theorem chk1 : chkL okH (stD 1) 8 [([0,0,0,0,0,0,0], 1)] = true := by decide +kernel
theorem chk2 : chkL okH (stD 2) 8 [([0,0,0,0,0,0,0], 1)] = true := by decide +kernel
theorem chk3 : chkL okH (stD 3) 8 [([0,0,0,0,0,0,0], 1)] = true := by decide +kernel
theorem chk4 : chkL okH (stD 4) 8 [([0,0,0,0,0,0,0], 1)] = true := by decide +kernel
theorem chk5 : chkL okH (stD 5) 8 [([0,0,0,0,0,0,0], 1)] = true := by decide +kernel
theorem chk6 : chkL okH (stD 6) 8 [([0,0,0,0,0,0,0], 1)] = true := by decide +kernel
theorem chkD : ∀ d : Nat, d < 7 → chkL okH (stD d) 8 (lay (stD d) 0) = true
  | 0, _ => chk0 | 1, _ => chk1 | 2, _ => chk2 | 3, _ => chk3 | 4, _ => chk4 | 5, _ => chk5 | 6, _ => chk6
  | d + 7, h => absurd h (by omega)
theorem ff_nodup (d : Nat) : (ffL d).Nodup := List.nodup_range.filter _
theorem ff_mem {d x : Nat} : x ∈ ffL d ↔ x < 64 ∧ pcF 6 x = d := by
  unfold ffL
  rw [List.mem_filter, List.mem_range, beq_iff_eq]
theorem sdf_key : ∀ z : Nat, z < 64 → ∀ v : Nat, v < 6 → ((pcF 6 z == 1 && z.testBit v) == (z == 2 ^ v)) = true := by decide +kernel
def bitN (z : Nat) : Nat → Nat
  | 0 => 0
  | v + 1 => bitN z v + (if z.testBit v then 1 else 0)
theorem bitN_pc : ∀ z : Nat, z < 64 → (bitN z 6 == pcF 6 z) = true := by decide +kernel
theorem out_key : ∀ z : Nat, z < 64 → ∀ g : Nat, g < 64 → (z - (z &&& g) == 0 || (List.range 6).any fun v => z.testBit v && !g.testBit v) = true := by decide +kernel
theorem sz_nat6 {x : Nat} (h : x < 64) : sz (x : Int) = (pcF 6 x : Nat) := by
  unfold sz
  rw [Int.toNat_natCast, pc6 x h]
/-- The sets of a shelling as numbers. -/
theorem sh_nat {n : Int} {l list : List Int} (h : shellB n l list = true) (hp : pureB n l = true) :
    ShN (ffL (sz (at0 l 0)).toNat) (list.map Int.toNat) ∧ ∀ k, k < list.length → (rcN ((list.map Int.toNat).take k) ((list.map Int.toNat).getD k 0) 6 : Int) = sz (partI (list.take k) (at0 list k)) := by
  have ho := shell_order h
  obtain ⟨hc, hnd, hsub, hSl⟩ := order_parts ho
  have hfit := shell_fits h
  have hpur := (dec_iff.1 hp).2
  have hD : ∀ k, k < list.length → (list.map Int.toNat).getD k 0 = (at0 list k).toNat := fun k hk => by
    rw [List.getD_eq_getElem?_getD, List.getElem?_map, at0_eq hk, List.getElem?_eq_getElem hk]; rfl
  have hT : ∀ k g, g ∈ (list.map Int.toNat).take k ↔ ∃ j, j < k ∧ j < list.length ∧ g = (at0 list j).toNat := fun k g => by
    rw [← List.map_take, List.mem_map]
    constructor
    · rintro ⟨a, ha, rfl⟩
      obtain ⟨j, hj, e⟩ := getD_mem_iff.1 ha
      rw [List.length_take] at hj
      rw [at0_tk (by omega)] at e
      exact ⟨j, by omega, by omega, by rw [e]⟩
    · rintro ⟨j, h1, h2, rfl⟩
      exact ⟨at0 list j, by rw [← at0_tk h1]; exact getD_mem' (by rw [List.length_take]; omega), rfl⟩
  have hbn : ∀ j k, j < list.length → k < list.length → bnot (at0 list k) (at0 list j) = (((at0 list k).toNat - ((at0 list k).toNat &&& (at0 list j).toNat) : Nat) : Int) := fun j k hj hk => by
    have h1 := allS_at hSl hj
    have h2 := allS_at hSl hk
    obtain ⟨x, hx, e1⟩ := isS_nat0 h2
    obtain ⟨y, hy, e2⟩ := isS_nat0 h1
    rw [e1, e2, bnot_nat0 x y hx hy, Int.toNat_natCast, Int.toNat_natCast]
  have hR : ∀ k, k < list.length → ∀ v, v < 6 → (RvP ((list.map Int.toNat).take k) ((list.map Int.toNat).getD k 0) v ↔ tb (partI (list.take k) (at0 list k)) v) := fun k hk v hv => by
    have e := partI_tb (allS_take hSl k) (allS_at hSl hk) hv (list.take k).length (Nat.le_refl _)
    rw [List.take_length] at e
    rw [e, hD k hk]
    unfold RvP
    constructor
    · rintro ⟨g, hg, e1⟩
      obtain ⟨j, j1, j2, rfl⟩ := (hT k g).1 hg
      refine ⟨j, by rw [List.length_take]; omega, ?_⟩
      rw [at0_tk j1, hbn j k j2 hk, e1]
      have hz : 2 ^ v < 64 := Nat.lt_of_lt_of_le (Nat.pow_lt_pow_right (by omega) hv) (by decide)
      have hk2 := sdf_key (2 ^ v) hz v hv
      simp only [beq_self_eq_true, beq_iff_eq, Bool.and_eq_true] at hk2
      refine ⟨?_, ?_⟩
      · rw [sizeOf1_set (by omega) (by omega), sz_nat6 hz]; omega
      · rw [tb_nat _ _ hz hv]; exact hk2.2
    · rintro ⟨j, hj, e1, e2⟩
      rw [List.length_take] at hj
      have j1 : j < k := by omega
      rw [at0_tk j1, hbn j k (by omega) hk] at e1 e2
      have hz : (at0 list k).toNat - ((at0 list k).toNat &&& (at0 list j).toNat) < 64 := by
        have := (allS_at hSl hk).2; have := (allS_at hSl hk).1; omega
      generalize hzz : (at0 list k).toNat - ((at0 list k).toNat &&& (at0 list j).toNat) = z at *
      refine ⟨(at0 list j).toNat, (hT k _).2 ⟨j, j1, by omega, rfl⟩, ?_⟩
      rw [hzz]
      rw [sizeOf1_set (by omega) (by omega), sz_nat6 hz] at e1
      rw [tb_nat _ _ hz hv] at e2
      have hk2 := sdf_key z hz v hv
      rw [e2] at hk2
      have e3 : pcF 6 z = 1 := by omega
      simpa [e3] using hk2
  have hPS : ∀ k, k < list.length → isS (partI (list.take k) (at0 list k)) := fun k hk => isS_partI (allS_take hSl k) (allS_at hSl hk)
  refine ⟨⟨fun g hg => ?_, ?_, fun k hk g hg => ?_⟩, fun k hk => ?_⟩
  · obtain ⟨a, ha, rfl⟩ := List.mem_map.1 hg
    obtain ⟨x, hx, e⟩ := isS_nat0 (hSl a ha)
    obtain ⟨j, hj, e2⟩ := getD_mem_iff.1 (hsub a ha)
    have e3 := hpur j hj
    rw [e2] at e3
    rw [ff_mem, ← e3, e, Int.toNat_natCast, sz_nat6 hx]
    exact ⟨hx, by omega⟩
  · unfold List.Nodup
    rw [List.pairwise_map]
    refine List.Pairwise.imp_of_mem (fun {a b} ha hb hne e => hne ?_) hnd
    have h1 := hSl a ha
    have h2 := hSl b hb
    unfold isS at h1 h2
    omega
  · rw [List.length_map] at hk
    obtain ⟨j, j1, j2, rfl⟩ := (hT k g).1 hg
    have hf := hfit k hk _ (mem_take j1 hk)
    obtain ⟨x, hx, e1⟩ := isS_nat0 (hPS k hk)
    obtain ⟨y, hy, e2⟩ := isS_nat0 (allS_at hSl j2)
    rw [e1, e2, bnot_nat0 x y hx hy] at hf
    have hk2 := out_key x hx y hy
    simp only [Bool.or_eq_true, beq_iff_eq, List.any_eq_true, List.mem_range, Bool.and_eq_true, Bool.not_eq_true'] at hk2
    rcases hk2 with h0 | ⟨v, hv, h1, h2⟩
    · exact absurd (by rw [h0]; rfl) hf
    · refine ⟨v, hv, by rw [e2, Int.toNat_natCast]; exact h2, (hR k hk v hv).2 ?_⟩
      rw [e1, tb_nat _ _ hx hv]; exact h1
  · obtain ⟨x, hx, e1⟩ := isS_nat0 (hPS k hk)
    have hb : ∀ m, m ≤ 6 → rcN ((list.map Int.toNat).take k) ((list.map Int.toNat).getD k 0) m = bitN x m := by
      intro m
      induction m with
      | zero => intro _; rfl
      | succ m ih =>
        intro hm
        unfold rcN bitN
        rw [ih (by omega)]
        have e2 := hR k hk m (by omega)
        rw [e1, tb_nat _ _ hx (by omega)] at e2
        by_cases h3 : x.testBit m = true
        · rw [if_pos (e2.2 h3), if_pos h3]
        · rw [if_neg (fun h4 => h3 (e2.1 h4)), if_neg h3]
    have := bitN_pc x hx
    rw [beq_iff_eq] at this
    rw [hb 6 (Nat.le_refl _), e1, sz_nat6 hx, this]
theorem hst_len (L : List Nat) : ∀ k, (hstK L k).length = 7
  | 0 => rfl
  | k + 1 => by simp [hstK, inc, hst_len L k]
theorem hst_cnt {list : List Int} (hr : ∀ k, k < list.length → (rcN ((list.map Int.toNat).take k) ((list.map Int.toNat).getD k 0) 6 : Int) = sz (partI (list.take k) (at0 list k))) {r : Nat} (h7 : r < 7) :
    ∀ k, k ≤ list.length → (((hstK (list.map Int.toNat) k).getD r 0 : Nat) : Int) = cntZ ((newfP list list.length).take k) r
  | 0, _ => by
    have : r = 0 ∨ r = 1 ∨ r = 2 ∨ r = 3 ∨ r = 4 ∨ r = 5 ∨ r = 6 := by omega
    rcases this with rfl | rfl | rfl | rfl | rfl | rfl | rfl <;> simp [hstK, cntZ]
  | k + 1, hk => by
    have ih := hst_cnt hr h7 k (by omega)
    have e := hr k (by omega)
    have hkl : k < (newfP list list.length).length := by rw [newfP_len]; omega
    have ea : at0 (newfP list list.length) k = partI (list.take k) (at0 list k) := at0_newfP (by omega)
    have hle := rcN_le ((list.map Int.toNat).take k) ((list.map Int.toNat).getD k 0) 6
    have hl := hst_len (list.map Int.toNat) k
    have e1 : hstK (list.map Int.toNat) (k + 1) = inc (hstK (list.map Int.toNat) k) (rcN ((list.map Int.toNat).take k) ((list.map Int.toNat).getD k 0) 6) := rfl
    rw [e1]
    generalize rcN ((list.map Int.toNat).take k) ((list.map Int.toNat).getD k 0) 6 = q at *
    generalize hstK (list.map Int.toNat) k = H at *
    unfold inc
    rw [List.getD_eq_getElem?_getD, List.getElem?_set]
    by_cases hq : q = r
    · subst hq
      rw [if_pos rfl, if_pos (by omega)]
      have e2 : sz (at0 (newfP list list.length) k) = (q : Int) := by rw [ea, ← e]
      have e3 : cntZ ((newfP list list.length).take (k + 1)) q = cntZ ((newfP list list.length).take k) q + 1 := by
        unfold cntZ
        rw [filt_pos hkl (dec_true e2), List.length_append]
        simp
      rw [e3, ← ih]
      simp
    · rw [if_neg hq]
      have e2 : ¬ sz (at0 (newfP list list.length) k) = (r : Int) := by rw [ea, ← e]; omega
      have e3 : cntZ ((newfP list list.length).take (k + 1)) r = cntZ ((newfP list list.length).take k) r := by
        unfold cntZ
        rw [filt_neg hkl (dec_false e2)]
      rw [e3, ← ih, List.getD_eq_getElem?_getD]
theorem mac_law {n : Int} {l : List Int} (hp : pureB n l = true) (hs : fshP n l) (hl : l ≠ []) : amcP (hnL n l) := by
  have h := fsh_ok hs
  obtain ⟨hlen, _, hall⟩ := order_all (shell_order h)
  have hpos := List.length_pos_iff.2 hl
  have h8 := hs.2.1
  generalize fshL n l = list at *
  obtain ⟨hN, hr⟩ := sh_nat h hp
  have e : hnL n l = shcL n l list := shell_h h (by omega) hp
  have e2 : shcL n l list = szRow (topZ (faceS l) + 1).toNat (newfP list list.length) := if_pos h
  rw [e, e2]
  have htb := topZ_bnd (faceS l)
  have hc : cplx n l := (dec_iff.1 hp).1
  have hS := cplx_isS hc
  have hs0 : isS (at0 l 0) := allS_at hS hpos
  have ht0 : 0 ≤ topZ (faceS l) := by
    have := topZ_ge (p := faceS l) hs0 ⟨at0 l 0, getD_mem' hpos, subS_refl hs0⟩
    have := sz_nn (at0 l 0)
    omega
  have hd7 : (sz (at0 l 0)).toNat < 7 := by
    obtain ⟨x, hx, e⟩ := isS_nat0 hs0
    rw [e, sz_nat6 hx]
    have : ∀ x : Nat, x < 64 → pcF 6 x < 7 := by decide +kernel
    have := this x hx
    omega
  have hre := reach (ff_nodup _) hN list.length (by simp)
  have hok := chkL_ok 8 0 (chkD _ hd7) list.length (by omega) (by omega) _ _ hre
  have hcnt := fun r (h7 : r < 7) => hst_cnt hr h7 list.length (Nat.le_refl _)
  have htk : (newfP list list.length).take list.length = newfP list list.length := List.take_of_length_le (by rw [newfP_len]; exact Nat.le_refl _)
  rw [htk] at hcnt
  have hbd := fun r => cntZ_bnd (newfP list list.length) list.length r
  rw [htk] at hbd
  generalize newfP list list.length = NF at *
  generalize hstK (list.map Int.toNat) list.length = H at *
  unfold okH at hok
  simp only [Bool.and_eq_true, beq_iff_eq, List.all_eq_true, List.mem_range, Bool.or_eq_true, decide_eq_true_eq] at hok
  obtain ⟨o1, o2⟩ := hok
  refine ⟨by rw [szRow_len]; omega, by rw [szRow_len]; omega, fun k hk => ?_⟩
  rw [szRow_len] at hk
  unfold amcK
  rw [at0_szRow _ hk]
  have hb := hbd k
  refine ⟨⟨hb.1, by omega⟩, fun h0 => ?_, fun h2 => ?_⟩
  · subst h0
    rw [← hcnt 0 (by omega), o1]; rfl
  · rw [at0_szRow _ (by omega)]
    have hb1 := hbd (k - 1)
    have := o2 k (by omega)
    rw [hcnt k (by omega), hcnt (k - 1) (by omega)] at this
    have e3 : (k : Int) - 1 = ((k - 1 : Nat) : Int) := by omega
    rw [e3] at this ⊢
    rw [pbV_C ⟨hb1.1, by omega, by omega, by omega⟩]
    rcases this with h3 | h3
    · omega
    · exact h3
end Go.Proofs.Ytmemomfffehnkaa
namespace Go.Proofs.Ytmemomfffehnkaa
open Go Go.RowKit
set_option maxRecDepth 1000000
set_option linter.unusedSimpArgs false
set_option linter.unusedVariables false
set_option maxHeartbeats 1000000
def sc_i_AreMonomialCounts_L2 : SC := (.seq (.seq (.reg [⟨(some 33), none, (.mov (.t 5))⟩, ⟨(some 34), none, (.mov (.t 0))⟩, ⟨(some 35), none, (.len (.t 34))⟩, ⟨(some 36), none, (.bin false .lss (.t 33) (.t 35))⟩]) (.cond (.t 36) .skip (.exit 2))) (.seq (.block 3 (.seq (.dreg [⟨⟨(some 39), none, (.mov (.t 0))⟩, false, false⟩, ⟨⟨(some 40), none, (.mov (.t 5))⟩, false, false⟩, ⟨⟨(some 41), none, (.idx 1 (.t 39) (.t 40))⟩, false, false⟩, ⟨⟨(some 42), none, (.ld none (.int .i64 0) (.t 41))⟩, false, false⟩, ⟨⟨(some 43), none, (.mov (.t 0))⟩, false, false⟩, ⟨⟨(some 44), none, (.mov (.t 5))⟩, false, false⟩, ⟨⟨(some 45), none, (.bin false .sub (.t 44) (.c (.int .i64 1)))⟩, false, false⟩, ⟨⟨(some 46), none, (.idx 1 (.t 43) (.t 45))⟩, false, false⟩, ⟨⟨(some 47), none, (.ld none (.int .i64 0) (.t 46))⟩, false, false⟩, ⟨⟨(some 48), none, (.mov (.t 5))⟩, false, false⟩, ⟨⟨(some 49), none, (.bin false .sub (.t 48) (.c (.int .i64 1)))⟩, false, false⟩, ⟨⟨(some 50), none, (.call 51 [(.t 47), (.t 49)])⟩, false, false⟩, ⟨⟨(some 51), none, (.bin false .gtr (.t 42) (.t 50))⟩, false, false⟩]) (.cond (.t 51) (.seq (.reg [⟨(some 2), none, (.mov (.c (.bool false)))⟩]) .ret) .skip))) (.reg [⟨(some 37), none, (.mov (.t 5))⟩, ⟨(some 38), none, (.bin false .add (.t 37) (.c (.int .i64 1)))⟩, ⟨(some 5), none, (.mov (.t 38))⟩])))
def sc_i_AreMonomialCounts_L0 : SC := (.seq (.reg [⟨(some 23), none, (.bin false .lss (.t 22) (.t 21))⟩]) (.seq (.cond (.t 23) .skip (.exit 0)) (.seq (.block 1 (.seq (.reg [⟨(some 24), none, (.idx 1 (.t 20) (.t 22))⟩, ⟨(some 25), none, (.ld none (.int .i64 0) (.t 24))⟩, ⟨(some 4), none, (.mov (.t 25))⟩]) (.seq (.reg [⟨(some 26), none, (.mov (.t 4))⟩, ⟨(some 27), none, (.bin false .lss (.t 26) (.c (.int .i64 0)))⟩, ⟨(some 28), none, (.mov (.t 27))⟩, ⟨(some 29), (some (28, false)), (.mov (.t 4))⟩, ⟨(some 30), (some (28, false)), (.bin false .gtr (.t 29) (.c (.int .i64 1000)))⟩, ⟨(some 31), none, (.pick (.t 28) (.c (.bool true)) (.t 30))⟩]) (.cond (.t 31) (.seq (.reg [⟨(some 2), none, (.mov (.c (.bool false)))⟩]) .ret) .skip)))) (.reg [⟨(some 32), none, (.bin false .add (.t 22) (.c (.int .i64 1)))⟩, ⟨(some 22), none, (.mov (.t 32))⟩]))))
def sc_i_AreMonomialCounts : SC := (.seq (.reg [⟨(some 2), none, (.mov (.c (.bool false)))⟩]) (.seq (.seq (.reg [⟨(some 6), none, (.mov (.t 0))⟩, ⟨(some 7), none, (.len (.t 6))⟩, ⟨(some 8), none, (.bin false .lss (.t 7) (.c (.int .i64 1)))⟩, ⟨(some 9), none, (.mov (.t 8))⟩, ⟨(some 10), (some (9, false)), (.mov (.t 0))⟩, ⟨(some 11), (some (9, false)), (.len (.t 10))⟩, ⟨(some 12), (some (9, false)), (.bin false .gtr (.t 11) (.c (.int .i64 7)))⟩, ⟨(some 13), none, (.pick (.t 9) (.c (.bool true)) (.t 12))⟩, ⟨(some 14), none, (.mov (.t 13))⟩, ⟨(some 15), (some (14, false)), (.mov (.t 0))⟩, ⟨(some 16), (some (14, false)), (.idx 1 (.t 15) (.c (.int .i64 0)))⟩, ⟨(some 17), (some (14, false)), (.ld none (.int .i64 0) (.t 16))⟩, ⟨(some 18), (some (14, false)), (.bin false .neq (.t 17) (.c (.int .i64 1)))⟩, ⟨(some 19), none, (.pick (.t 14) (.c (.bool true)) (.t 18))⟩]) (.cond (.t 19) (.seq (.reg [⟨(some 2), none, (.mov (.c (.bool false)))⟩]) .ret) .skip)) (.seq (.seq (.reg [⟨(some 20), none, (.mov (.t 0))⟩, ⟨(some 21), none, (.len (.t 20))⟩, ⟨(some 22), none, (.mov (.c (.int .i64 0)))⟩]) (.block 0 (.loop sc_i_AreMonomialCounts_L0))) (.seq (.seq (.reg [⟨(some 5), none, (.mov (.c (.int .i64 2)))⟩]) (.block 2 (.loop sc_i_AreMonomialCounts_L2))) (.seq (.reg [⟨(some 2), none, (.mov (.c (.bool true)))⟩]) .ret)))))
theorem code_i_AreMonomialCounts : fnCode Try.prog [] 53 = some (52, sc_i_AreMonomialCounts, [(2, none)]) := by kernel_rfl
noncomputable def F_i_AreMonomialCounts : List V → Option V := F1 dL fun l => some (.bool (dec (amcP l)))
theorem fn_i_AreMonomialCounts : FnOk Try.prog 53 F_i_AreMonomialCounts := by
  have env := (envNil_ok (P := Try.prog)).add fn_i_PowerBound
  refine fn_ok code_i_AreMonomialCounts mixed env ?_
  intro args r h hb
  obtain ⟨_, l, rfl, h1, h4⟩ := F1_inv h
  cases dL_inv h1
  cases h4
  clear h h1
  have hlen := bnd_ints (hb (.list 1 (ints l)) (by simp))
  refine ⟨by simp, fun w0 U0 L0 N0 => ?_⟩
  clear hb
  by_cases h1 : l.length < 1
  · have e : dec (amcP l) = false := dec_false fun h => absurd h.1 (by omega)
    have h1' : (l.length : Int) < 1 := by omega
    rw [e]
    simp -implicitDefEqProofs [sc_i_AreMonomialCounts, h1']
  have h1' : ¬ (l.length : Int) < 1 := by omega
  by_cases h7 : 7 < l.length
  · have e : dec (amcP l) = false := dec_false fun h => absurd h.2.1 (by omega)
    have h7' : (7 : Int) < (l.length : Int) := by omega
    rw [e]
    simp -implicitDefEqProofs [sc_i_AreMonomialCounts, h1', h7', h7, h1]
  have h7' : ¬ (7 : Int) < (l.length : Int) := by omega
  have hl0 : 0 < l.length := by omega
  by_cases hz : at0 l 0 = 1
  rotate_left
  · have e : dec (amcP l) = false := dec_false fun h => hz ((h.2.2 0 hl0).2.1 rfl)
    rw [e]
    simp -implicitDefEqProofs [sc_i_AreMonomialCounts, h1', h7', h7, h1, hl0, hz]
  simp -implicitDefEqProofs [sc_i_AreMonomialCounts, h1', h7', h7, h1, hl0, hz]
  refine loopI env mixed (fun k : Nat => [(0, .list 1 (ints l)), (20, .list 1 (ints l)), (21, .int .i64 (l.length : Int)), (22, .int .i64 (k : Int))]) (fun _ => ([], 0)) (fun k => k ≤ l.length ∧ ∀ i, i < k → 0 ≤ at0 l i ∧ at0 l i ≤ 1000) (fun k => l.length - k) 0 (by simp) (SubI.slots rfl (by simp)) ?_
  rintro k ⟨hk, hall⟩
  by_cases hlt : k < l.length
  · have w4 : IntKind.i64.wrap ((k : Int) + 1) = (k : Int) + 1 := wrapI _ (by omega) (by omega)
    by_cases hr0 : at0 l k < 0
    · have e : dec (amcP l) = false := dec_false fun h => absurd (h.2.2 k hlt).1.1 (by omega)
      rw [e]
      simp -implicitDefEqProofs [sc_i_AreMonomialCounts_L0, freeOk, hlt, hr0]
      try omega
    · by_cases hr1 : 1000 < at0 l k
      · have e : dec (amcP l) = false := dec_false fun h => absurd (h.2.2 k hlt).1.2 (by omega)
        rw [e]
        simp -implicitDefEqProofs [sc_i_AreMonomialCounts_L0, freeOk, hlt, hr0, hr1]
        try omega
      · simp -implicitDefEqProofs [sc_i_AreMonomialCounts_L0, freeOk, hlt, hr0, hr1, w4]
        repeat' (first | omega | apply And.intro)
        exact Again.of (k + 1) ⟨by omega, all_succ hall (by omega)⟩ (by omega) (SubI.slots rfl (by simp))
  · have hk2 : k = l.length := by omega
    subst hk2
    simp -implicitDefEqProofs [sc_i_AreMonomialCounts_L0, freeOk]
    refine loopI env mixed (fun k : Nat => [(0, .list 1 (ints l)), (5, .int .i64 (k : Int))]) (fun _ => ([], 0)) (fun k => 2 ≤ k ∧ (k ≤ l.length ∨ k = 2) ∧ ∀ i, 2 ≤ i → i < k → amcK l i) (fun k => l.length - k) 2 ⟨by omega, .inr rfl, fun i h1 h2 => absurd h1 (by omega)⟩ (SubI.slots rfl (by simp)) ?_
    rintro k ⟨hk2, hk3, hall2⟩
    by_cases hlt : k < l.length
    · have w4 : IntKind.i64.wrap ((k : Int) + 1) = (k : Int) + 1 := wrapI _ (by omega) (by omega)
      have hk1 : k - 1 < l.length := by omega
      have e1 : (k : Int) - 1 = ((k - 1 : Nat) : Int) := by omega
      have wk : IntKind.i64.wrap ((k : Int) - 1) = ((k - 1 : Nat) : Int) := by rw [← e1]; exact wrapI _ (by omega) (by omega)
      have hPB : F_i_PowerBound [.int .i64 (at0 l (k - 1)), .int .i64 ((k - 1 : Nat) : Int)] = some (.int .i64 (pbV (at0 l (k - 1)) ((k - 1 : Nat) : Int))) := by
        simp only [F_i_PowerBound, F2_mk, dI_int, Option.bind_some]
      have hKiff : amcK l k ↔ at0 l k ≤ pbV (at0 l (k - 1)) ((k - 1 : Nat) : Int) := by
        unfold amcK
        rw [e1]
        exact ⟨fun h => h.2.2 hk2, fun h => ⟨hall k hlt, fun h0 => absurd h0 (by omega), fun _ => h⟩⟩
      by_cases h3 : at0 l k ≤ pbV (at0 l (k - 1)) ((k - 1 : Nat) : Int)
      · have h3' : ¬ pbV (at0 l (k - 1)) ((k - 1 : Nat) : Int) < at0 l k := by omega
        have hK := hKiff.2 h3
        generalize pbV (at0 l (k - 1)) ((k - 1 : Nat) : Int) = p at *
        simp -implicitDefEqProofs [sc_i_AreMonomialCounts_L2, freeOk, hlt, wk, hk1, hPB, h3', w4]
        repeat' (first | omega | apply And.intro)
        exact Again.of (k + 1) ⟨by omega, .inl (by omega), fun i hi1 hi => all_succ (P := fun i => 2 ≤ i → amcK l i) (fun i a b => hall2 i b a) (fun _ => hK) i hi hi1⟩ (by omega) (SubI.slots rfl (by simp))
      · have h3' : pbV (at0 l (k - 1)) ((k - 1 : Nat) : Int) < at0 l k := by omega
        have e : dec (amcP l) = false := dec_false fun h => h3 (hKiff.1 (h.2.2 k hlt))
        rw [e]
        generalize pbV (at0 l (k - 1)) ((k - 1 : Nat) : Int) = p at *
        simp -implicitDefEqProofs [sc_i_AreMonomialCounts_L2, freeOk, hlt, wk, hk1, hPB, h3', w4]
        repeat' (first | omega | apply And.intro)
    · have e : dec (amcP l) = true := dec_true ⟨by omega, by omega, fun i hi => by
        by_cases h2 : 2 ≤ i
        · exact hall2 i h2 (by omega)
        · refine ⟨hall i hi, fun h0 => by rw [h0]; exact hz, fun h => absurd h h2⟩⟩
      rw [e]
      simp -implicitDefEqProofs [sc_i_AreMonomialCounts_L2, freeOk, hlt]
end Go.Proofs.Ytmemomfffehnkaa
namespace Go.Proofs.Ytmemomfffehnkaa
open Go Go.RowKit
set_option maxRecDepth 1000000
set_option linter.unusedSimpArgs false
set_option linter.unusedVariables false
set_option maxHeartbeats 1000000
def sc_s_DrawMonomialsOf : SC := (.seq (.reg [⟨(some 2), none, (.mov (.c (.int .i64 0)))⟩, ⟨(some 3), none, (.mov (.c (.int .i64 0)))⟩]) (.seq (.reg [⟨(some 5), none, (.mov (.t 0))⟩, ⟨(some 6), none, (.call 128 [(.t 5)])⟩, ⟨(some 4), none, (.mov (.t 6))⟩]) (.seq (.reg [⟨(some 7), none, (.mov (.t 4))⟩, ⟨(some 8), none, (.call 129 [(.t 7), (.c (.int .i64 9))])⟩, ⟨(some 9), none, (.bin false .sub (.t 8) (.c (.int .i64 1)))⟩, ⟨(some 10), none, (.mov (.t 4))⟩, ⟨(some 11), none, (.call 129 [(.t 10), (.c (.int .i64 8))])⟩, ⟨(some 12), none, (.bin false .sub (.t 11) (.c (.int .i64 1)))⟩, ⟨(some 2), none, (.mov (.t 9))⟩, ⟨(some 3), none, (.mov (.t 12))⟩]) .ret)))
theorem code_s_DrawMonomialsOf : fnCode Try.prog [] 46 = some (13, sc_s_DrawMonomialsOf, [(2, none), (3, none)]) := by kernel_rfl
noncomputable def F_s_DrawMonomialsOf : List V → Option V := F1 dBy fun b => some (.tup [.int .i64 ((belowN (newCur b) 9).1 - 1), .int .i64 ((belowN (belowN (newCur b) 9).2 8).1 - 1)])
theorem fn_s_DrawMonomialsOf : FnOk Try.prog 46 F_s_DrawMonomialsOf := by
  have env := ((envNil_ok (P := Try.prog)).add fn_s_l1New).addl ln_s_l1Below
  refine fn_ok code_s_DrawMonomialsOf mixed env ?_
  intro args r h hb
  obtain ⟨_, b, rfl, h1, h4⟩ := F1_inv h
  obtain ⟨hw, rfl⟩ := dBy_inv h1
  cases h4
  clear h hb h1
  refine ⟨by simp, fun w0 U0 L0 N0 => ?_⟩
  have hN : F_s_l1New [.list 1 (u8s b)] = some (.opt (curC (newCur b))) := by
    simp only [F_s_l1New, F1_mk, dBy_list hw, Option.bind_some]
  have v0 := newCur_wf hw
  generalize newCur b = c0 at *
  have g1 := G_below v0 9
  have r1 := belowN_rng c0 (n := 9) (by omega)
  have v1 := belowN_wf v0 9
  generalize belowN c0 9 = y at *
  have g2 := G_below v1 8
  have r2 := belowN_rng y.2 (n := 8) (by omega)
  generalize belowN y.2 8 = z at *
  have w1 : IntKind.i64.wrap (y.1 - 1) = y.1 - 1 := wrapI _ (by omega) (by omega)
  have w2 : IntKind.i64.wrap (z.1 - 1) = z.1 - 1 := wrapI _ (by omega) (by omega)
  simp -implicitDefEqProofs [sc_s_DrawMonomialsOf, freeOk, ren0, hN, g1, g2, w1, w2]
def sc_s_DrawCountMonomials : SC := (.seq (.reg [⟨(some 2), none, (.mov (.c (.int .i64 0)))⟩, ⟨(some 3), none, (.mov (.c (.int .i64 0)))⟩]) (.seq (.reg [⟨(some 5), none, (.mov (.t 0))⟩, ⟨(some 6), none, (.call 128 [(.t 5)])⟩, ⟨(some 4), none, (.mov (.t 6))⟩]) (.seq (.reg [⟨(some 7), none, (.mov (.t 4))⟩, ⟨(some 8), none, (.call 129 [(.t 7), (.c (.int .i64 9))])⟩, ⟨(some 9), none, (.bin false .sub (.t 8) (.c (.int .i64 1)))⟩, ⟨(some 10), none, (.mov (.t 4))⟩, ⟨(some 11), none, (.call 129 [(.t 10), (.c (.int .i64 24))])⟩, ⟨(some 12), none, (.bin false .sub (.t 11) (.c (.int .i64 1)))⟩, ⟨(some 2), none, (.mov (.t 9))⟩, ⟨(some 3), none, (.mov (.t 12))⟩]) .ret)))
theorem code_s_DrawCountMonomials : fnCode Try.prog [] 49 = some (13, sc_s_DrawCountMonomials, [(2, none), (3, none)]) := by kernel_rfl
noncomputable def F_s_DrawCountMonomials : List V → Option V := F1 dBy fun b => some (.tup [.int .i64 ((belowN (newCur b) 9).1 - 1), .int .i64 ((belowN (belowN (newCur b) 9).2 24).1 - 1)])
theorem fn_s_DrawCountMonomials : FnOk Try.prog 49 F_s_DrawCountMonomials := by
  have env := ((envNil_ok (P := Try.prog)).add fn_s_l1New).addl ln_s_l1Below
  refine fn_ok code_s_DrawCountMonomials mixed env ?_
  intro args r h hb
  obtain ⟨_, b, rfl, h1, h4⟩ := F1_inv h
  obtain ⟨hw, rfl⟩ := dBy_inv h1
  cases h4
  clear h hb h1
  refine ⟨by simp, fun w0 U0 L0 N0 => ?_⟩
  have hN : F_s_l1New [.list 1 (u8s b)] = some (.opt (curC (newCur b))) := by
    simp only [F_s_l1New, F1_mk, dBy_list hw, Option.bind_some]
  have v0 := newCur_wf hw
  generalize newCur b = c0 at *
  have g1 := G_below v0 9
  have r1 := belowN_rng c0 (n := 9) (by omega)
  have v1 := belowN_wf v0 9
  generalize belowN c0 9 = y at *
  have g2 := G_below v1 24
  have r2 := belowN_rng y.2 (n := 24) (by omega)
  generalize belowN y.2 24 = z at *
  have w1 : IntKind.i64.wrap (y.1 - 1) = y.1 - 1 := wrapI _ (by omega) (by omega)
  have w2 : IntKind.i64.wrap (z.1 - 1) = z.1 - 1 := wrapI _ (by omega) (by omega)
  simp -implicitDefEqProofs [sc_s_DrawCountMonomials, freeOk, ren0, hN, g1, g2, w1, w2]
def sc_s_DrawFirstMonomials : SC := (.seq (.reg [⟨(some 2), none, (.mov (.c (.int .i64 0)))⟩, ⟨(some 3), none, (.mov (.c (.int .i64 0)))⟩, ⟨(some 4), none, (.mov (.c (.int .i64 0)))⟩]) (.seq (.reg [⟨(some 6), none, (.mov (.t 0))⟩, ⟨(some 7), none, (.call 128 [(.t 6)])⟩, ⟨(some 5), none, (.mov (.t 7))⟩]) (.seq (.reg [⟨(some 8), none, (.mov (.t 5))⟩, ⟨(some 9), none, (.call 129 [(.t 8), (.c (.int .i64 5))])⟩, ⟨(some 10), none, (.bin false .add (.c (.int .i64 1)) (.t 9))⟩, ⟨(some 11), none, (.mov (.t 5))⟩, ⟨(some 12), none, (.call 129 [(.t 11), (.c (.int .i64 5))])⟩, ⟨(some 13), none, (.mov (.t 5))⟩, ⟨(some 14), none, (.call 129 [(.t 13), (.c (.int .i64 20))])⟩, ⟨(some 15), none, (.mov (.t 5))⟩, ⟨(some 16), none, (.call 162 [(.t 15), (.c (.int .i64 8))])⟩, ⟨(some 17), none, (.call 164 [(.t 16)])⟩, ⟨(some 18), none, (.bin false .sub (.t 14) (.t 17))⟩, ⟨(some 2), none, (.mov (.t 10))⟩, ⟨(some 3), none, (.mov (.t 12))⟩, ⟨(some 4), none, (.mov (.t 18))⟩]) .ret)))
theorem code_s_DrawFirstMonomials : fnCode Try.prog [] 48 = some (19, sc_s_DrawFirstMonomials, [(2, none), (3, none), (4, none)]) := by kernel_rfl
noncomputable def fmN (b : Cur) : Int := 1 + (belowN b 5).1
noncomputable def fmD (b : Cur) : Int := (belowN (belowN b 5).2 5).1
noncomputable def fmM (b : Cur) : Int := (belowN (belowN (belowN b 5).2 5).2 20).1 - (if onceN (belowN (belowN (belowN b 5).2 5).2 20).2 8 = true then 1 else 0)
noncomputable def F_s_DrawFirstMonomials : List V → Option V := F1 dBy fun b => some (.tup [.int .i64 (fmN (newCur b)), .int .i64 (fmD (newCur b)), .int .i64 (fmM (newCur b))])
theorem fn_s_DrawFirstMonomials : FnOk Try.prog 48 F_s_DrawFirstMonomials := by
  have env := ((((envNil_ok (P := Try.prog)).add fn_s_l1New).add fn_s_l1Bit).addl ln_s_l1Once).addl ln_s_l1Below
  refine fn_ok code_s_DrawFirstMonomials mixed env ?_
  intro args r h hb
  obtain ⟨_, b, rfl, h1, h4⟩ := F1_inv h
  obtain ⟨hw, rfl⟩ := dBy_inv h1
  cases h4
  clear h hb h1
  refine ⟨by simp, fun w0 U0 L0 N0 => ?_⟩
  have hN : F_s_l1New [.list 1 (u8s b)] = some (.opt (curC (newCur b))) := by
    simp only [F_s_l1New, F1_mk, dBy_list hw, Option.bind_some]
  have v0 := newCur_wf hw
  generalize newCur b = c0 at *
  unfold fmN fmD fmM
  have g1 := G_below v0 5
  have r1 := belowN_rng c0 (n := 5) (by omega)
  have v1 := belowN_wf v0 5
  generalize belowN c0 5 = y at *
  have g2 := G_below v1 5
  have r2 := belowN_rng y.2 (n := 5) (by omega)
  have v2 := belowN_wf v1 5
  generalize belowN y.2 5 = z at *
  have g3 := G_below v2 20
  have r3 := belowN_rng z.2 (n := 20) (by omega)
  have v3 := belowN_wf v2 20
  generalize belowN z.2 20 = x at *
  have g4 := G_once v3 8
  have w1 : IntKind.i64.wrap (1 + y.1) = 1 + y.1 := wrapI _ (by omega) (by omega)
  cases ho : onceN x.2 8 with
  | true =>
    rw [ho] at g4
    have w2 : IntKind.i64.wrap (x.1 - 1) = x.1 - 1 := wrapI _ (by omega) (by omega)
    simp -implicitDefEqProofs [sc_s_DrawFirstMonomials, freeOk, ren0, hN, g1, g2, g3, g4, w1, w2, F_s_l1Bit]
  | false =>
    rw [ho] at g4
    have w2 : IntKind.i64.wrap x.1 = x.1 := wrapI _ (by omega) (by omega)
    simp -implicitDefEqProofs [sc_s_DrawFirstMonomials, freeOk, ren0, hN, g1, g2, g3, g4, w1, w2, F_s_l1Bit]
def sc_s_DrawIsShellable : SC := (.seq (.reg [⟨(some 2), none, (.new [(.int .i64 0), .nil])⟩]) (.seq (.reg [⟨(some 3), none, (.mov (.t 0))⟩, ⟨(some 4), none, (.call 128 [(.t 3)])⟩, ⟨(some 5), none, (.call 144 [(.t 4)])⟩, ⟨none, none, (.st 2 (.t 2) (.t 5))⟩]) .ret))
theorem code_s_DrawIsShellable : fnCode Try.prog [] 50 = some (6, sc_s_DrawIsShellable, [(2, (some 2))]) := by kernel_rfl
noncomputable def F_s_DrawIsShellable : List V → Option V := F1 dBy fun b => some (.agg [.int .i64 (bentN (newCur b)).1.1, .own 1 (ints (bentN (newCur b)).1.2)])
theorem fn_s_DrawIsShellable : FnOk Try.prog 50 F_s_DrawIsShellable := by
  have env := ((envNil_ok (P := Try.prog)).add fn_s_l1New).addl ln_s_l3Bent
  refine fn_ok code_s_DrawIsShellable mixed env ?_
  intro args r h hb
  obtain ⟨_, b, rfl, h1, h4⟩ := F1_inv h
  obtain ⟨hw, rfl⟩ := dBy_inv h1
  cases h4
  clear h hb h1
  refine ⟨by simp, fun w0 U0 L0 N0 => ?_⟩
  have hN : F_s_l1New [.list 1 (u8s b)] = some (.opt (curC (newCur b))) := by
    simp only [F_s_l1New, F1_mk, dBy_list hw, Option.bind_some]
  have g0 := G_bent (newCur_wf hw)
  generalize bentN (newCur b) = x at *
  generalize newCur b = c0 at *
  simp -implicitDefEqProofs [sc_s_DrawIsShellable, ren0, hN, g0]
end Go.Proofs.Ytmemomfffehnkaa
namespace Go.Proofs.Ytmemomfffehnkaa
open Go Go.RowKit
set_option maxRecDepth 1000000
set_option linter.unusedSimpArgs false
set_option linter.unusedVariables false
set_option maxHeartbeats 1000000
def sc_s_DrawCascadeOf : SC := (.seq (.reg [⟨(some 2), none, (.mov (.c (.int .i64 0)))⟩, ⟨(some 3), none, (.mov (.c (.int .i64 0)))⟩]) (.seq (.reg [⟨(some 6), none, (.mov (.t 0))⟩, ⟨(some 7), none, (.call 128 [(.t 6)])⟩, ⟨(some 4), none, (.mov (.t 7))⟩]) (.seq (.reg [⟨(some 8), none, (.mov (.t 4))⟩, ⟨(some 9), none, (.mov (.t 4))⟩, ⟨(some 10), none, (.call 129 [(.t 9), (.c (.int .i64 30))])⟩, ⟨(some 11), none, (.mov (.t 4))⟩, ⟨(some 12), none, (.call 129 [(.t 11), (.c (.int .i64 200))])⟩, ⟨(some 13), none, (.litv 1 [(.int .i64 0), (.int .i64 0), (.int .i64 0), (.int .i64 0), (.int .i64 0), (.int .i64 0)] [(0, (1, (.t 10))), (1, (1, (.t 12))), (2, (1, (.c (.int .i64 1000)))), (3, (1, (.c (.int .i64 1001)))), (4, (1, (.c (.int .i64 (-1))))), (5, (1, (.c (.int .i64 0))))])⟩, ⟨(some 14), none, (.call 211 [(.t 8), (.t 13)])⟩, ⟨(some 5), none, (.mov (.t 14))⟩]) (.seq (.reg [⟨(some 15), none, (.mov (.t 5))⟩, ⟨(some 16), none, (.mov (.t 4))⟩, ⟨(some 17), none, (.call 129 [(.t 16), (.c (.int .i64 8))])⟩, ⟨(some 2), none, (.mov (.t 15))⟩, ⟨(some 3), none, (.mov (.t 17))⟩]) .ret))))
theorem code_s_DrawCascadeOf : fnCode Try.prog [] 160 = some (18, sc_s_DrawCascadeOf, [(2, none), (3, none)]) := by kernel_rfl
noncomputable def dcL (b : Cur) : List Int := [(belowN b 30).1, (belowN (belowN b 30).2 200).1, 1000, 1001, -1, 0]
noncomputable def dcM (b : Cur) : Int := pickN (belowN (belowN b 30).2 200).2 (dcL b)
noncomputable def dcK (b : Cur) : Int := (belowN (belowN (belowN (belowN b 30).2 200).2 6).2 8).1
noncomputable def F_s_DrawCascadeOf : List V → Option V := F1 dBy fun b => some (.tup [.int .i64 (dcM (newCur b)), .int .i64 (dcK (newCur b))])
theorem fn_s_DrawCascadeOf : FnOk Try.prog 160 F_s_DrawCascadeOf := by
  have env := (((envNil_ok (P := Try.prog)).add fn_s_l1New).addl ln_s_l1PickInt).addl ln_s_l1Below
  refine fn_ok code_s_DrawCascadeOf mixed env ?_
  intro args r h hb
  obtain ⟨_, b, rfl, h1, h4⟩ := F1_inv h
  obtain ⟨hw, rfl⟩ := dBy_inv h1
  cases h4
  clear h hb h1
  refine ⟨by simp, fun w0 U0 L0 N0 => ?_⟩
  have hN : F_s_l1New [.list 1 (u8s b)] = some (.opt (curC (newCur b))) := by
    simp only [F_s_l1New, F1_mk, dBy_list hw, Option.bind_some]
  have v0 := newCur_wf hw
  generalize newCur b = c0 at *
  unfold dcM dcK dcL
  have g1 := G_below v0 30
  have v1 := belowN_wf v0 30
  generalize belowN c0 30 = y at *
  have g2 := G_below v1 200
  have v2 := belowN_wf v1 200
  generalize belowN y.2 200 = z at *
  have g3 := G_pickI v2 (l := [y.1, z.1, 1000, 1001, -1, 0]) ⟨by simp, by simp⟩
  have v3 := belowN_wf v2 6
  have g4 := G_below v3 8
  have e6 : (([y.1, z.1, 1000, 1001, -1, 0] : List Int).length : Int) = 6 := rfl
  rw [e6] at g3
  have e7 : ints [y.1, z.1, 1000, 1001, -1, 0] = [.int .i64 y.1, .int .i64 z.1, .int .i64 1000, .int .i64 1001, .int .i64 (-1), .int .i64 0] := rfl
  rw [e7] at g3
  generalize pickN z.2 [y.1, z.1, 1000, 1001, -1, 0] = p at *
  simp -implicitDefEqProofs [sc_s_DrawCascadeOf, freeOk, ren0, hN, g1, g2, g3, g4]
def sc_s_DrawPowerBound : SC := (.seq (.reg [⟨(some 2), none, (.mov (.c (.int .i64 0)))⟩, ⟨(some 3), none, (.mov (.c (.int .i64 0)))⟩]) (.seq (.reg [⟨(some 7), none, (.mov (.t 0))⟩, ⟨(some 8), none, (.call 160 [(.t 7)])⟩, ⟨(some 6), none, (.mov (.t 8))⟩, ⟨(some 9), none, (.ext 0 (.t 6))⟩, ⟨(some 10), none, (.ext 1 (.t 6))⟩, ⟨(some 4), none, (.mov (.t 9))⟩, ⟨(some 5), none, (.mov (.t 10))⟩]) (.seq (.reg [⟨(some 11), none, (.mov (.t 4))⟩, ⟨(some 12), none, (.mov (.t 5))⟩, ⟨(some 2), none, (.mov (.t 11))⟩, ⟨(some 3), none, (.mov (.t 12))⟩]) .ret)))
theorem code_s_DrawPowerBound : fnCode Try.prog [] 44 = some (13, sc_s_DrawPowerBound, [(2, none), (3, none)]) := by kernel_rfl
noncomputable def F_s_DrawPowerBound : List V → Option V := F_s_DrawCascadeOf
theorem fn_s_DrawPowerBound : FnOk Try.prog 44 F_s_DrawPowerBound := by
  have env := (envNil_ok (P := Try.prog)).add fn_s_DrawCascadeOf
  refine fn_ok code_s_DrawPowerBound mixed env ?_
  intro args r h hb
  obtain ⟨_, b, rfl, h1, h4⟩ := F1_inv h
  obtain ⟨hw, rfl⟩ := dBy_inv h1
  cases h4
  clear h hb h1
  refine ⟨by simp, fun w0 U0 L0 N0 => ?_⟩
  have hF : F_s_DrawCascadeOf [.list 1 (u8s b)] = some (.tup [.int .i64 (dcM (newCur b)), .int .i64 (dcK (newCur b))]) := by
    simp only [F_s_DrawCascadeOf, F1_mk, dBy_list hw, Option.bind_some]
  generalize dcM (newCur b) = x at *
  generalize dcK (newCur b) = y at *
  simp -implicitDefEqProofs [sc_s_DrawPowerBound, hF]
end Go.Proofs.Ytmemomfffehnkaa
namespace Go.Proofs.Ytmemomfffehnkaa
open Go Go.RowKit
set_option maxRecDepth 1000000
set_option linter.unusedSimpArgs false
set_option linter.unusedVariables false
set_option maxHeartbeats 1000000
def sc_i_MonomialsOf : SC := (.seq (.reg [⟨(some 4), none, (.mov (.c .nil))⟩]) (.seq (.seq (.reg [⟨(some 6), none, (.mov (.t 0))⟩, ⟨(some 7), none, (.bin false .lss (.t 6) (.c (.int .i64 1)))⟩, ⟨(some 8), none, (.mov (.t 7))⟩, ⟨(some 9), (some (8, false)), (.mov (.t 0))⟩, ⟨(some 10), (some (8, false)), (.bin false .gtr (.t 9) (.c (.int .i64 6)))⟩, ⟨(some 11), none, (.pick (.t 8) (.c (.bool true)) (.t 10))⟩, ⟨(some 12), none, (.mov (.t 11))⟩, ⟨(some 13), (some (12, false)), (.mov (.t 1))⟩, ⟨(some 14), (some (12, false)), (.bin false .lss (.t 13) (.c (.int .i64 0)))⟩, ⟨(some 15), none, (.pick (.t 12) (.c (.bool true)) (.t 14))⟩, ⟨(some 16), none, (.mov (.t 15))⟩, ⟨(some 17), (some (16, false)), (.mov (.t 1))⟩, ⟨(some 18), (some (16, false)), (.bin false .gtr (.t 17) (.c (.int .i64 5)))⟩, ⟨(some 19), none, (.pick (.t 16) (.c (.bool true)) (.t 18))⟩]) (.cond (.t 19) (.seq (.reg [⟨(some 4), none, (.mov (.c .nil))⟩]) .ret) .skip)) (.seq (.reg [⟨(some 5), none, (.new [.nil])⟩]) (.seq (.reg [⟨(some 20), none, (.mov (.t 0))⟩, ⟨(some 21), none, (.mov (.t 1))⟩, ⟨(some 22), none, (.call 163 [(.t 5), (.c .nil), (.t 20), (.t 21)])⟩]) (.seq (.reg [⟨(some 23), none, (.ld none .nil (.t 5))⟩, ⟨(some 4), none, (.mov (.t 23))⟩]) .ret)))))
theorem code_i_MonomialsOf : fnCode Try.prog [] 47 = some (24, sc_i_MonomialsOf, [(4, none)]) := by kernel_rfl
noncomputable def F_i_MonomialsOf : List V → Option V := F2 dI dI fun n d => some (.own 1 (rowsV (monV n d)))
theorem fn_i_MonomialsOf : FnOk Try.prog 47 F_i_MonomialsOf := by
  have env := (envNil_ok (P := Try.prog)).addl (ln_i_addMonomials 6)
  refine fn_ok code_i_MonomialsOf mixed env ?_
  intro args r h hb
  obtain ⟨_, _, n, d, rfl, h1, h2, h4⟩ := F2_inv h
  cases dI_inv h1
  cases dI_inv h2
  cases h4
  clear h h1 h2 hb
  refine ⟨by simp, fun w0 U0 L0 N0 => ?_⟩
  by_cases hc : 1 ≤ n ∧ n ≤ 6 ∧ 0 ≤ d ∧ d ≤ 5
  rotate_left
  · have e : monV n d = [] := if_neg hc
    rw [e]
    by_cases a1 : n < 1
    · simp -implicitDefEqProofs [sc_i_MonomialsOf, a1]
    by_cases a2 : 6 < n
    · simp -implicitDefEqProofs [sc_i_MonomialsOf, a1, a2]
    by_cases a3 : d < 0
    · simp -implicitDefEqProofs [sc_i_MonomialsOf, a1, a2, a3]
    have a4 : 5 < d := by omega
    simp -implicitDefEqProofs [sc_i_MonomialsOf, a1, a2, a3, a4]
  have e : monV n d = monF (n - 1).toNat d.toNat [] := if_pos hc
  have hl := monV_len n d
  rw [e] at hl ⊢
  obtain ⟨n1, n6, d0, d5⟩ := hc
  obtain ⟨m, rfl⟩ : ∃ m : Nat, n = (m : Int) + 1 := ⟨(n - 1).toNat, by omega⟩
  obtain ⟨q, rfl⟩ : ∃ q : Nat, d = q := ⟨d.toNat, by omega⟩
  have e1 : ((m : Int) + 1 - 1).toNat = m := by omega
  rw [Int.toNat_natCast, e1] at hl ⊢
  have hT := G_i_addMonomials_at (k := 6) (d := q) (start := []) (M := []) (c := .nil) rfl (by omega) (j := m) (by simp; omega) (by omega) (by simp; omega)
  have hT2 : G_i_addMonomials 6 [.pt 0 0, .list 1 [], .int .i64 ((m : Int) + 1), .int .i64 (q : Int)] [.nil] = some (.tup [], [.own 1 (rowsV (monF m q []))]) := hT
  generalize monF m q [] = Z at *
  have a1 : ¬ (m : Int) + 1 < 1 := by omega
  have a2 : ¬ 6 < (m : Int) + 1 := by omega
  have a3 : ¬ (q : Int) < 0 := by omega
  have a4 : ¬ 5 < (q : Int) := by omega
  have htk : Z.take Z.length = Z := List.take_of_length_le (Nat.le_refl _)
  simp -implicitDefEqProofs [sc_i_MonomialsOf, a1, a2, a3, a4, hT2, nolist, ren0, nonm, ldU, htk]
end Go.Proofs.Ytmemomfffehnkaa
namespace Go.Proofs.Ytmemomfffehnkaa
open Go Go.RowKit
set_option maxRecDepth 1000000
set_option linter.unusedSimpArgs false
set_option linter.unusedVariables false
set_option maxHeartbeats 1000000
def sc_l_big : SC := (.seq (.reg [⟨(some 2), none, (.mov (.c (.bool false)))⟩]) (.seq (.reg [⟨(some 3), none, (.mov (.t 0))⟩, ⟨(some 4), none, (.len (.t 3))⟩, ⟨(some 5), none, (.bin false .gtr (.t 4) (.c (.int .i64 1048576)))⟩, ⟨(some 2), none, (.mov (.t 5))⟩]) .ret))
theorem code_l_big : fnCode Try.prog [] 10 = some (6, sc_l_big, [(2, none)]) := by kernel_rfl
def F_l_big : List V → Option V
  | [.list 1 cells] => some (.bool (decide (1048576 < cells.length)))
  | _ => none
theorem fn_l_big : FnOk Try.prog 10 F_l_big := by
  refine fn_ok code_l_big mixed envNil_ok ?_
  intro args r h hb
  unfold F_l_big at h
  split at h
  case h_2 => simp at h
  rename_i cells
  simp only [Option.some.injEq] at h
  subst h
  refine ⟨by simp, fun w0 U0 L0 N0 => ?_⟩
  clear hb
  by_cases hl : 1048576 < cells.length
  · have hl' : (1048576 : Int) < cells.length := by omega
    simp -implicitDefEqProofs [sc_l_big, hl, hl']
    try omega
  · have hl' : ¬ ((1048576 : Int) < cells.length) := by omega
    simp -implicitDefEqProofs [sc_l_big, hl, hl']
    try omega
def sc_l_sameInts_L0 : SC := (.seq (.seq (.reg [⟨(some 11), none, (.mov (.t 5))⟩, ⟨(some 12), none, (.mov (.t 0))⟩, ⟨(some 13), none, (.len (.t 12))⟩, ⟨(some 14), none, (.bin false .lss (.t 11) (.t 13))⟩]) (.cond (.t 14) .skip (.exit 0))) (.seq (.block 1 (.seq (.dreg [⟨⟨(some 17), none, (.mov (.t 0))⟩, false, false⟩, ⟨⟨(some 18), none, (.mov (.t 5))⟩, false, false⟩, ⟨⟨(some 19), none, (.idx 1 (.t 17) (.t 18))⟩, false, false⟩, ⟨⟨(some 20), none, (.ld none (.int .i64 0) (.t 19))⟩, false, false⟩, ⟨⟨(some 21), none, (.mov (.t 1))⟩, false, false⟩, ⟨⟨(some 22), none, (.mov (.t 5))⟩, false, false⟩, ⟨⟨(some 23), none, (.idx 1 (.t 21) (.t 22))⟩, false, false⟩, ⟨⟨(some 24), none, (.ld none (.int .i64 0) (.t 23))⟩, false, false⟩, ⟨⟨(some 25), none, (.bin false .neq (.t 20) (.t 24))⟩, false, false⟩]) (.cond (.t 25) (.seq (.reg [⟨(some 4), none, (.mov (.c (.bool false)))⟩]) .ret) .skip))) (.reg [⟨(some 15), none, (.mov (.t 5))⟩, ⟨(some 16), none, (.bin false .add (.t 15) (.c (.int .i64 1)))⟩, ⟨(some 5), none, (.mov (.t 16))⟩])))
def sc_l_sameInts : SC := (.seq (.reg [⟨(some 4), none, (.mov (.c (.bool false)))⟩]) (.seq (.seq (.reg [⟨(some 6), none, (.mov (.t 0))⟩, ⟨(some 7), none, (.len (.t 6))⟩, ⟨(some 8), none, (.mov (.t 1))⟩, ⟨(some 9), none, (.len (.t 8))⟩, ⟨(some 10), none, (.bin false .neq (.t 7) (.t 9))⟩]) (.cond (.t 10) (.seq (.reg [⟨(some 4), none, (.mov (.c (.bool false)))⟩]) .ret) .skip)) (.seq (.seq (.reg [⟨(some 5), none, (.mov (.c (.int .i64 0)))⟩]) (.block 0 (.loop sc_l_sameInts_L0))) (.seq (.reg [⟨(some 4), none, (.mov (.c (.bool true)))⟩]) .ret))))
theorem code_l_sameInts : fnCode Try.prog [] 19 = some (26, sc_l_sameInts, [(4, none)]) := by kernel_rfl
noncomputable def F_l_sameInts : List V → Option V := F2 dL dL fun a b => some (.bool (dec (a = b)))
theorem fn_l_sameInts : FnOk Try.prog 19 F_l_sameInts := by
  refine fn_ok code_l_sameInts mixed envNil_ok ?_
  intro args r h hb
  obtain ⟨_, _, a, b, rfl, h1, h2, h4⟩ := F2_inv h
  cases dL_inv h1
  cases dL_inv h2
  cases h4
  clear h
  have hla := bnd_ints (hb (.list 1 (ints a)) (by simp))
  refine ⟨by simp, fun w0 U0 L0 N0 => ?_⟩
  clear hb
  generalize hv : dec (a = b) = v
  by_cases hl : a.length = b.length
  rotate_left
  · have hv1 : v = false := hv ▸ dec_false fun h => hl (by rw [h])
    have hl' : ¬ ((a.length : Int) = b.length) := by omega
    simp -implicitDefEqProofs [sc_l_sameInts, hl', hv1]
  simp -implicitDefEqProofs [sc_l_sameInts, hl]
  refine loopI envNil_ok mixed (fun k : Nat => [(0, .list 1 (ints a)), (1, .list 1 (ints b)), (5, .int .i64 (k : Int))]) (fun _ => ([], 0)) (fun k => k ≤ a.length ∧ ∀ j, j < k → at0 a j = at0 b j) (fun k => a.length - k) 0 (by simp) (SubI.slots rfl (by simp)) ?_
  rintro k ⟨hk, hI⟩
  by_cases hlt : k < a.length
  · have hlt2 : k < b.length := by omega
    by_cases he : at0 a k = at0 b k
    · simp -implicitDefEqProofs [sc_l_sameInts_L0, freeOk, hlt, hlt2, he]
      repeat' (first | omega | apply And.intro)
      refine Again.of (k + 1) ⟨by omega, fun j hj => ?_⟩ (by omega) (SubI.slots rfl (by simp (disch := omega) [wrapI]))
      rcases Nat.lt_succ_iff_lt_or_eq.1 hj with h1 | rfl
      · exact hI j h1
      · exact he
    · have hv1 : v = false := hv ▸ dec_false fun h => he (by rw [h])
      simp -implicitDefEqProofs [sc_l_sameInts_L0, freeOk, hlt, hlt2, he, hv1]
      try omega
  · have hv1 : v = true := hv ▸ dec_true (by
      refine List.ext_getElem hl fun j h1 h2 => ?_
      have := hI j (by omega)
      rwa [at0_eq h1, at0_eq h2] at this)
    have hka : k = a.length := by omega
    subst hka
    simp -implicitDefEqProofs [sc_l_sameInts_L0, hl, hv1]
def sc_l_total_L0 : SC := (.seq (.seq (.reg [⟨(some 5), none, (.mov (.t 4))⟩, ⟨(some 6), none, (.mov (.t 0))⟩, ⟨(some 7), none, (.len (.t 6))⟩, ⟨(some 8), none, (.bin false .lss (.t 5) (.t 7))⟩]) (.cond (.t 8) .skip (.exit 0))) (.seq (.block 1 (.reg [⟨(some 11), none, (.mov (.t 3))⟩, ⟨(some 12), none, (.mov (.t 0))⟩, ⟨(some 13), none, (.mov (.t 4))⟩, ⟨(some 14), none, (.idx 1 (.t 12) (.t 13))⟩, ⟨(some 15), none, (.ld none (.int .i64 0) (.t 14))⟩, ⟨(some 16), none, (.bin false .add (.t 11) (.t 15))⟩, ⟨(some 3), none, (.mov (.t 16))⟩])) (.reg [⟨(some 9), none, (.mov (.t 4))⟩, ⟨(some 10), none, (.bin false .add (.t 9) (.c (.int .i64 1)))⟩, ⟨(some 4), none, (.mov (.t 10))⟩])))
def sc_l_total : SC := (.seq (.reg [⟨(some 2), none, (.mov (.c (.int .i64 0)))⟩]) (.seq (.reg [⟨(some 3), none, (.mov (.c (.int .i64 0)))⟩]) (.seq (.seq (.reg [⟨(some 4), none, (.mov (.c (.int .i64 0)))⟩]) (.block 0 (.loop sc_l_total_L0))) (.seq (.reg [⟨(some 17), none, (.mov (.t 3))⟩, ⟨(some 2), none, (.mov (.t 17))⟩]) .ret))))
theorem code_l_total : fnCode Try.prog [] 61 = some (18, sc_l_total, [(2, none)]) := by kernel_rfl
theorem sum_take {l : List Int} {k : Nat} (h : k < l.length) : (l.take (k + 1)).sum = (l.take k).sum + at0 l k := by
  rw [at0_eq h, List.take_succ_eq_append_getElem h, List.sum_append]
  simp
theorem sum_bnd {l : List Int} (h : ∀ x ∈ l, 0 ≤ x ∧ x ≤ 64) : 0 ≤ l.sum ∧ l.sum ≤ 64 * l.length := by
  induction l with
  | nil => simp
  | cons x l ih =>
    have h1 := h x (by simp)
    have h2 := ih fun y hy => h y (by simp [hy])
    simp only [List.sum_cons, List.length_cons]
    omega
noncomputable def F_l_total : List V → Option V := F1 dL fun l => @ite _ ((∀ x ∈ l, 0 ≤ x ∧ x ≤ 64) ∧ l.length ≤ 64) (Classical.propDecidable _) (some (.int .i64 l.sum)) none
theorem fn_l_total : FnOk Try.prog 61 F_l_total := by
  refine fn_ok code_l_total mixed envNil_ok ?_
  intro args r h hb
  obtain ⟨_, l, rfl, h1, h4⟩ := F1_inv h
  cases dL_inv h1
  clear h
  simp only [Option.ite_none_right_eq_some, Option.some.injEq] at h4
  obtain ⟨⟨hx, hl⟩, rfl⟩ := h4
  refine ⟨by simp, fun w0 U0 L0 N0 => ?_⟩
  clear hb
  simp -implicitDefEqProofs [sc_l_total]
  refine loopI envNil_ok mixed (fun k : Nat => [(0, .list 1 (ints l)), (3, .int .i64 (l.take k).sum), (4, .int .i64 (k : Int))]) (fun _ => ([], 0)) (fun k => k ≤ l.length) (fun k => l.length - k) 0 (by simp) (SubI.slots rfl (by simp)) ?_
  intro k hk
  by_cases hlt : k < l.length
  · have hs := sum_take hlt
    have hb1 := sum_bnd (l := l.take (k + 1)) fun x h => hx x (List.mem_of_mem_take h)
    have hb2 : (l.take (k + 1)).length ≤ 64 := by rw [List.length_take]; omega
    have hw : IntKind.i64.wrap ((l.take k).sum + at0 l k) = (l.take (k + 1)).sum := by rw [← hs]; exact wrapI _ (by omega) (by omega)
    generalize he2 : (l.take (k + 1)).sum = s2 at *
    generalize (l.take k).sum = s1 at *
    simp -implicitDefEqProofs [sc_l_total_L0, hlt, hw]
    repeat' (first | omega | apply And.intro)
    exact Again.of (k + 1) (by omega) (by omega) (SubI.slots rfl (by simp (disch := omega) [wrapI, he2]))
  · have hka : k = l.length := by omega
    subst hka
    rw [List.take_length]
    simp -implicitDefEqProofs [sc_l_total_L0]
end Go.Proofs.Ytmemomfffehnkaa
