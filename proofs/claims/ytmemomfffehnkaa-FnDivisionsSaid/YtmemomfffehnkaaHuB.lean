import Derived.Test.YtmemomfffehnkaaHuA
import Derived.Test.YtmemomfffehnkaaDR
namespace Go.Proofs.Ytmemomfffehnkaa
open Go Go.RowKit
set_option maxRecDepth 1000000
set_option linter.unusedSimpArgs false
set_option linter.unusedVariables false
set_option maxHeartbeats 1000000
def sc_s_Choose_L0 : SC := (.seq (.seq (.reg [⟨(some 16), none, (.mov (.t 6))⟩, ⟨(some 17), none, (.mov (.t 1))⟩, ⟨(some 18), none, (.bin false .lss (.t 16) (.t 17))⟩]) (.cond (.t 18) .skip (.exit 0))) (.seq (.block 1 (.reg [⟨(some 21), none, (.mov (.t 5))⟩, ⟨(some 22), none, (.mov (.t 0))⟩, ⟨(some 23), none, (.mov (.t 6))⟩, ⟨(some 24), none, (.bin false .sub (.t 22) (.t 23))⟩, ⟨(some 25), none, (.bin false .mul (.t 21) (.t 24))⟩, ⟨(some 26), none, (.mov (.t 6))⟩, ⟨(some 27), none, (.bin false .add (.t 26) (.c (.int .i64 1)))⟩, ⟨(some 28), none, (.bin false .quo (.t 25) (.t 27))⟩, ⟨(some 5), none, (.mov (.t 28))⟩])) (.reg [⟨(some 19), none, (.mov (.t 6))⟩, ⟨(some 20), none, (.bin false .add (.t 19) (.c (.int .i64 1)))⟩, ⟨(some 6), none, (.mov (.t 20))⟩])))
def sc_s_Choose : SC := (.seq (.reg [⟨(some 4), none, (.mov (.c (.int .i64 0)))⟩]) (.seq (.seq (.reg [⟨(some 7), none, (.mov (.t 0))⟩, ⟨(some 8), none, (.call 132 [(.t 7), (.c (.int .i64 0)), (.c (.int .i64 60))])⟩, ⟨(some 9), none, (.un .not (.t 8))⟩, ⟨(some 10), none, (.mov (.t 9))⟩, ⟨(some 11), (some (10, false)), (.mov (.t 1))⟩, ⟨(some 12), (some (10, false)), (.mov (.t 0))⟩, ⟨(some 13), (some (10, false)), (.call 132 [(.t 11), (.c (.int .i64 0)), (.t 12)])⟩, ⟨(some 14), (some (10, false)), (.un .not (.t 13))⟩, ⟨(some 15), none, (.pick (.t 10) (.c (.bool true)) (.t 14))⟩]) (.cond (.t 15) (.seq (.reg [⟨(some 4), none, (.mov (.c (.int .i64 0)))⟩]) .ret) .skip)) (.seq (.reg [⟨(some 5), none, (.mov (.c (.int .i64 1)))⟩]) (.seq (.seq (.reg [⟨(some 6), none, (.mov (.c (.int .i64 0)))⟩]) (.block 0 (.loop sc_s_Choose_L0))) (.seq (.reg [⟨(some 29), none, (.mov (.t 5))⟩, ⟨(some 4), none, (.mov (.t 29))⟩]) .ret)))))
theorem code_s_Choose : fnCode Try.prog [] 157 = some (30, sc_s_Choose, [(4, none)]) := by kernel_rfl
def chM (n : Int) : Nat → Int
  | 0 => 1
  | k + 1 => (chM n k * (n - (k : Int))).tdiv ((k : Int) + 1)
theorem chM_bnd : ∀ n : Nat, n < 61 → ∀ k : Nat, k < n + 1 → (decide (0 ≤ chM n k) && decide (chM n k * ((n : Int) - (k : Int)) < 9223372036854775808) && decide (chM n k < 9223372036854775808)) = true := by decide +kernel
noncomputable def chV (n k : Int) : Int := @ite _ (0 ≤ n ∧ n ≤ 60 ∧ 0 ≤ k ∧ k ≤ n) (Classical.propDecidable _) (chM n k.toNat) 0
noncomputable def F_s_Choose : List V → Option V := F2 dI dI fun n k => some (.int .i64 (chV n k))
theorem fn_s_Choose : FnOk Try.prog 157 F_s_Choose := by
  have env := (envNil_ok (P := Try.prog)).add fn_s_l1In
  refine fn_ok code_s_Choose mixed env ?_
  intro args r h hb
  obtain ⟨_, _, n, k, rfl, h1, h2, h4⟩ := F2_inv h
  cases dI_inv h1
  cases dI_inv h2
  cases h4
  clear h h1 h2 hb
  refine ⟨by simp, fun w0 U0 L0 N0 => ?_⟩
  by_cases hc : 0 ≤ n ∧ n ≤ 60 ∧ 0 ≤ k ∧ k ≤ n
  rotate_left
  · have e : chV n k = 0 := if_neg hc
    rw [e]
    by_cases h1 : 0 ≤ n ∧ n ≤ 60
    · have h2 : ¬ (0 ≤ k ∧ k ≤ n) := fun h => hc ⟨h1.1, h1.2, h.1, h.2⟩
      by_cases h3 : 0 ≤ k
      · have h4 : ¬ k ≤ n := fun h => h2 ⟨h3, h⟩
        simp -implicitDefEqProofs [sc_s_Choose, F_s_l1In, h1.1, h1.2, h3, h4]
      · simp -implicitDefEqProofs [sc_s_Choose, F_s_l1In, h1.1, h1.2, h3]
    · by_cases h3 : 0 ≤ n
      · have h4 : ¬ n ≤ 60 := fun h => h1 ⟨h3, h⟩
        simp -implicitDefEqProofs [sc_s_Choose, F_s_l1In, h3, h4]
      · simp -implicitDefEqProofs [sc_s_Choose, F_s_l1In, h3]
  obtain ⟨n0, n6, k0, kn⟩ := hc
  have e : chV n k = chM n k.toNat := if_pos ⟨n0, n6, k0, kn⟩
  rw [e]
  have hs : ∀ i, chM n (i + 1) = (chM n i * (n - (i : Int))).tdiv ((i : Int) + 1) := fun i => rfl
  have hb : ∀ i : Nat, (i : Int) ≤ n → 0 ≤ chM n i ∧ chM n i * (n - (i : Int)) < 9223372036854775808 ∧ chM n i < 9223372036854775808 := by
    intro i hi
    obtain ⟨m, rfl⟩ := Int.eq_ofNat_of_zero_le n0
    have := chM_bnd m (by omega) i (by omega)
    simp only [Bool.and_eq_true, decide_eq_true_eq] at this
    exact ⟨this.1.1, this.1.2, this.2⟩
  have h0 : chM n 0 = 1 := rfl
  generalize chM n = f at *
  simp -implicitDefEqProofs [sc_s_Choose, F_s_l1In, n0, n6, k0, kn]
  refine loopI env mixed (fun i : Nat => [(0, .int .i64 n), (1, .int .i64 k), (5, .int .i64 (f i)), (6, .int .i64 (i : Int))]) (fun _ => ([], 0)) (fun i => (i : Int) ≤ k) (fun i => k.toNat - i) 0 (by simpa using k0) (SubI.slots rfl (by simp [h0])) ?_
  intro i hi
  by_cases hlt : (i : Int) < k
  · obtain ⟨b1, b2, b3⟩ := hb i (by omega)
    obtain ⟨c1, c2, c3⟩ := hb (i + 1) (by omega)
    have hp : 0 ≤ f i * (n - (i : Int)) := Int.mul_nonneg b1 (by omega)
    have w1 : IntKind.i64.wrap (n - (i : Int)) = n - (i : Int) := wrapI _ (by omega) (by omega)
    have w2 : IntKind.i64.wrap (f i * (n - (i : Int))) = f i * (n - (i : Int)) := wrapI _ (by omega) b2
    have w3 : IntKind.i64.wrap ((i : Int) + 1) = (i : Int) + 1 := wrapI _ (by omega) (by omega)
    have w4 : IntKind.i64.wrap ((f i * (n - (i : Int))).tdiv ((i : Int) + 1)) = f (i + 1) := by rw [← hs i]; exact wrapI _ (by omega) c3
    have hne : ¬ ((i : Int) + 1 = 0) := by omega
    simp -implicitDefEqProofs [sc_s_Choose_L0, hlt, w1, w2, w3, w4, hne]
    repeat' (first | omega | apply And.intro)
    exact Again.of (i + 1) (by omega) (by omega) (SubI.slots rfl (by simp (disch := omega) [wrapI]))
  · have hk : k.toNat = i := by omega
    rw [hk]
    generalize f i = a at *
    simp -implicitDefEqProofs [sc_s_Choose_L0, hlt]
theorem chM_P : ∀ n : Nat, n < 7 → ∀ k : Nat, k < n + 1 → (chM n k == (chP n k : Nat)) && decide (chP n k ≤ 20) = true := by decide +kernel
theorem chV_P {n k : Nat} (hn : n < 7) (hk : k ≤ n) : chV (n : Int) (k : Int) = (chP n k : Nat) := by
  have := chM_P n hn k (by omega)
  simp only [Bool.and_eq_true, beq_iff_eq] at this
  have e : chV (n : Int) (k : Int) = chM (n : Int) (k : Int).toNat := if_pos ⟨by omega, by omega, by omega, by omega⟩
  rw [e, Int.toNat_natCast, this.1]
theorem chP_20 {n k : Nat} (hn : n < 7) (hk : k ≤ n) : chP n k ≤ 20 := by
  have := chM_P n hn k (by omega)
  simp only [Bool.and_eq_true, decide_eq_true_eq] at this
  exact this.2
def sc_s_HNumbers_L2 : SC := (.seq (.seq (.reg [⟨(some 20), none, (.mov (.t 8))⟩, ⟨(some 21), none, (.mov (.t 6))⟩, ⟨(some 22), none, (.bin false .leq (.t 20) (.t 21))⟩]) (.cond (.t 22) .skip (.exit 2))) (.seq (.block 3 (.dreg [⟨⟨(some 25), none, (.mov (.t 7))⟩, false, false⟩, ⟨⟨(some 26), none, (.mov (.t 6))⟩, false, false⟩, ⟨⟨(some 27), none, (.mov (.t 8))⟩, false, false⟩, ⟨⟨(some 28), none, (.bin false .sub (.t 26) (.t 27))⟩, false, false⟩, ⟨⟨(some 29), none, (.bin false .rem (.t 28) (.c (.int .i64 2)))⟩, false, false⟩, ⟨⟨(some 30), none, (.bin false .mul (.c (.int .i64 2)) (.t 29))⟩, false, false⟩, ⟨⟨(some 31), none, (.bin false .sub (.c (.int .i64 1)) (.t 30))⟩, false, false⟩, ⟨⟨(some 32), none, (.mov (.t 4))⟩, false, false⟩, ⟨⟨(some 33), none, (.mov (.t 8))⟩, false, false⟩, ⟨⟨(some 34), none, (.idx 1 (.t 32) (.t 33))⟩, false, false⟩, ⟨⟨(some 35), none, (.ld none (.int .i64 0) (.t 34))⟩, false, false⟩, ⟨⟨(some 36), none, (.bin false .mul (.t 31) (.t 35))⟩, false, false⟩, ⟨⟨(some 37), none, (.mov (.t 5))⟩, false, false⟩, ⟨⟨(some 38), none, (.mov (.t 8))⟩, false, false⟩, ⟨⟨(some 39), none, (.bin false .sub (.t 37) (.t 38))⟩, false, false⟩, ⟨⟨(some 40), none, (.mov (.t 6))⟩, false, false⟩, ⟨⟨(some 41), none, (.mov (.t 8))⟩, false, false⟩, ⟨⟨(some 42), none, (.bin false .sub (.t 40) (.t 41))⟩, false, false⟩, ⟨⟨(some 43), none, (.call 157 [(.t 39), (.t 42)])⟩, false, false⟩, ⟨⟨(some 44), none, (.bin false .mul (.t 36) (.t 43))⟩, false, false⟩, ⟨⟨(some 45), none, (.bin false .add (.t 25) (.t 44))⟩, false, false⟩, ⟨⟨(some 7), none, (.mov (.t 45))⟩, false, false⟩])) (.reg [⟨(some 23), none, (.mov (.t 8))⟩, ⟨(some 24), none, (.bin false .add (.t 23) (.c (.int .i64 1)))⟩, ⟨(some 8), none, (.mov (.t 24))⟩])))
def sc_s_HNumbers_L0 : SC := (.seq (.seq (.reg [⟨(some 15), none, (.mov (.t 6))⟩, ⟨(some 16), none, (.mov (.t 5))⟩, ⟨(some 17), none, (.bin false .leq (.t 15) (.t 16))⟩]) (.cond (.t 17) .skip (.exit 0))) (.seq (.block 1 (.seq (.reg [⟨(some 7), none, (.mov (.c (.int .i64 0)))⟩]) (.seq (.seq (.reg [⟨(some 8), none, (.mov (.c (.int .i64 0)))⟩]) (.block 2 (.loop sc_s_HNumbers_L2))) (.reg [⟨(some 46), none, (.mov (.t 3))⟩, ⟨(some 47), none, (.mov (.t 7))⟩, ⟨(some 48), none, (.mks 1 1 [(.int .i64 0)] [(0, (1, (.t 47)))])⟩, ⟨(some 49), none, (.app 1 8 (.t 46) (.t 48))⟩, ⟨(some 3), none, (.mov (.t 49))⟩])))) (.reg [⟨(some 18), none, (.mov (.t 6))⟩, ⟨(some 19), none, (.bin false .add (.t 18) (.c (.int .i64 1)))⟩, ⟨(some 6), none, (.mov (.t 19))⟩])))
def sc_s_HNumbers : SC := (.seq (.reg [⟨(some 1), none, (.box (.t 0))⟩, ⟨(some 2), none, (.mov (.c .nil))⟩]) (.seq (.reg [⟨(some 9), none, (.mks 0 1 [] [])⟩, ⟨(some 3), none, (.mov (.t 9))⟩]) (.seq (.reg [⟨(some 10), none, (.ld (some 2) .undef (.t 1))⟩, ⟨(some 11), none, (.call 141 [(.t 10)])⟩, ⟨(some 4), none, (.mov (.t 11))⟩]) (.seq (.reg [⟨(some 12), none, (.mov (.t 4))⟩, ⟨(some 13), none, (.len (.t 12))⟩, ⟨(some 14), none, (.bin false .sub (.t 13) (.c (.int .i64 1)))⟩, ⟨(some 5), none, (.mov (.t 14))⟩]) (.seq (.seq (.reg [⟨(some 6), none, (.mov (.c (.int .i64 0)))⟩]) (.block 0 (.loop sc_s_HNumbers_L0))) (.seq (.reg [⟨(some 50), none, (.mov (.t 3))⟩, ⟨(some 2), none, (.mov (.t 50))⟩]) .ret))))))
theorem code_s_HNumbers : fnCode Try.prog [] 42 = some (51, sc_s_HNumbers, [(2, none)]) := by kernel_rfl
theorem fct_len (n : Int) (l : List Int) : (fctL n l).length ≤ 7 := by
  have := topZ_bnd (faceS l)
  unfold fctL
  split
  · rw [rowF_len]; omega
  · simp
theorem fct_rng (n : Int) (l : List Int) (i : Nat) : 0 ≤ at0 (fctL n l) i ∧ at0 (fctL n l) i ≤ 64 := by
  by_cases h : i < (fctL n l).length
  · unfold fctL at h ⊢
    split
    · rename_i hc
      rw [if_pos hc, rowF_len] at h
      rw [rowF_at h]
      have := szS_len (faceS l) (i : Nat)
      omega
    · rename_i hc
      rw [if_neg hc] at h
      simp at h
  · rw [at0_nil (by omega)]
    omega
/-- One h number, summed up to a place. -/
noncomputable def hSum (f : List Int) (k m : Nat) : Int := sumN m fun i => sgI (k - i) * at0 f i * chV ((f.length : Int) - 1 - (i : Int)) ((k : Int) - (i : Int))
noncomputable def hnL (n : Int) (l : List Int) : List Int := (List.range (fctL n l).length).map fun k => hSum (fctL n l) k (k + 1)
noncomputable def hnI (n : Int) (l : List Int) (m : Nat) : List Int := (List.range m).map fun k => hSum (fctL n l) k (k + 1)
theorem hSum_term {n : Int} {l : List Int} {k i : Nat} (hk : k < (fctL n l).length) (hi : i ≤ k) :
    chV (((fctL n l).length : Int) - 1 - (i : Int)) ((k : Int) - (i : Int)) = (chP ((fctL n l).length - 1 - i) (k - i) : Nat) ∧ chP ((fctL n l).length - 1 - i) (k - i) ≤ 20 := by
  have h7 := fct_len n l
  have e1 : ((fctL n l).length : Int) - 1 - (i : Int) = (((fctL n l).length - 1 - i : Nat) : Int) := by omega
  have e2 : (k : Int) - (i : Int) = ((k - i : Nat) : Int) := by omega
  rw [e1, e2]
  exact ⟨chV_P (by omega) (by omega), chP_20 (by omega) (by omega)⟩
theorem sgI_cases (k : Nat) : sgI k = 1 ∨ sgI k = -1 := by unfold sgI; omega
theorem prod_bnd {s a b : Int} (hs : s = 1 ∨ s = -1) (ha : 0 ≤ a ∧ a ≤ 64) (hb : 0 ≤ b ∧ b ≤ 20) : -1280 ≤ s * a * b ∧ s * a * b ≤ 1280 ∧ -64 ≤ s * a ∧ s * a ≤ 64 := by
  have h1 : 0 ≤ a * b := Int.mul_nonneg ha.1 hb.1
  have h2 : a * b ≤ 64 * 20 := Int.mul_le_mul ha.2 hb.2 hb.1 (by omega)
  rcases hs with rfl | rfl
  · rw [Int.one_mul]; omega
  · have e : (-1 : Int) * a * b = -(a * b) := by rw [Int.mul_assoc]; omega
    rw [e]; omega
theorem hSum_bnd {n : Int} {l : List Int} {k : Nat} (hk : k < (fctL n l).length) : ∀ m : Nat, m ≤ k + 1 → -(1280 * (m : Int)) ≤ hSum (fctL n l) k m ∧ hSum (fctL n l) k m ≤ 1280 * (m : Int)
  | 0, _ => by simp [hSum, sumN]
  | m + 1, hm => by
    have ih := hSum_bnd hk m (by omega)
    obtain ⟨e1, e2⟩ := hSum_term (n := n) (l := l) hk (i := m) (by omega)
    have hr := fct_rng n l m
    have e : hSum (fctL n l) k (m + 1) = hSum (fctL n l) k m + sgI (k - m) * at0 (fctL n l) m * chV (((fctL n l).length : Int) - 1 - (m : Int)) ((k : Int) - (m : Int)) := rfl
    rw [e, e1]
    have := prod_bnd (sgI_cases (k - m)) hr (b := (chP ((fctL n l).length - 1 - m) (k - m) : Nat)) ⟨by omega, by omega⟩
    omega
noncomputable def F_s_HNumbers : List V → Option V := F1 dC fun c => some (.own 1 (ints (hnL c.1 c.2)))
theorem fn_s_HNumbers : FnOk Try.prog 42 F_s_HNumbers := by
  have env := ((envNil_ok (P := Try.prog)).add fn_s_FaceCounts).add fn_s_Choose
  refine fn_ok code_s_HNumbers mixed env ?_
  intro args r h hb
  obtain ⟨_, ⟨n, l⟩, rfl, h1, h4⟩ := F1_inv h
  cases dC_inv h1
  cases h4
  clear h hb h1
  refine ⟨by simp, fun w0 U0 L0 N0 => ?_⟩
  simp only
  have hF : F_s_FaceCounts [.agg [.int .i64 n, .list 1 (ints l)]] = some (.own 1 (ints (fctL n l))) := by
    simp only [F_s_FaceCounts, F1_mk, dC_agg, Option.bind_some]
  have h7 := fct_len n l
  have hr := fct_rng n l
  have hT := fun k i => hSum_term (n := n) (l := l) (k := k) (i := i)
  have hB := fun k => hSum_bnd (n := n) (l := l) (k := k)
  have hfin : hnL n l = hnI n l (fctL n l).length := rfl
  have hI0 : hnI n l 0 = [] := rfl
  have hIs : ∀ m, hnI n l (m + 1) = hnI n l m ++ [hSum (fctL n l) m (m + 1)] := fun m => by simp [hnI, List.range_succ]
  have hIl : ∀ m, (hnI n l m).length = m := fun m => by simp [hnI]
  have hS0 : ∀ k, hSum (fctL n l) k 0 = 0 := fun k => rfl
  have hSs : ∀ k m, hSum (fctL n l) k (m + 1) = hSum (fctL n l) k m + sgI (k - m) * at0 (fctL n l) m * chV (((fctL n l).length : Int) - 1 - (m : Int)) ((k : Int) - (m : Int)) := fun k m => rfl
  rw [hfin]
  clear hfin
  generalize hnI n l = g at *
  generalize hSum (fctL n l) = S at *
  generalize fctL n l = f at *
  have wD : IntKind.i64.wrap ((f.length : Int) - 1) = (f.length : Int) - 1 := wrapI _ (by omega) (by omega)
  simp -implicitDefEqProofs [sc_s_HNumbers, hF, wD]
  refine loopI env mixed (fun k : Nat => [(3, .sl 1 1 0 k), (4, .sl 2 1 0 f.length), (5, .int .i64 ((f.length : Int) - 1)), (6, .int .i64 (k : Int))]) (fun k => ([(2, ints f), (1, ints (g k)), (0, [.int .i64 n, .list 1 (ints l)])], 3)) (fun k => k ≤ f.length) (fun k => f.length - k) 0 (by simp) ?_ ?_
  · exact SubI.slots (by simp [hI0]) (by simp)
  intro k hk
  have hgl := hIl k
  have hwk : IntKind.i64.wrap ((k : Int) + 1) = (k : Int) + 1 := wrapI _ (by omega) (by omega)
  by_cases hlt : k < f.length
  · have hle : (k : Int) ≤ (f.length : Int) - 1 := by omega
    simp -implicitDefEqProofs [sc_s_HNumbers_L0, hle]
    refine loopQ env mixed (fun i : Nat => [(3, .sl 1 1 0 k), (4, .sl 2 1 0 f.length), (5, .int .i64 ((f.length : Int) - 1)), (6, .int .i64 (k : Int)), (7, .int .i64 (S k i)), (8, .int .i64 (i : Int))]) (fun _ => ([(2, ints f), (1, ints (g k)), (0, [.int .i64 n, .list 1 (ints l)])], 3)) (fun i => i ≤ k + 1) (fun i => k + 1 - i) 0 (by simp) (SubI.slots (by simp) (by simp [hS0])) ?_
    intro i hi
    have hwi : IntKind.i64.wrap ((i : Int) + 1) = (i : Int) + 1 := wrapI _ (by omega) (by omega)
    by_cases hik : i ≤ k
    · have hik2 : (i : Int) ≤ (k : Int) := by omega
      have hif : i < f.length := by omega
      obtain ⟨e1, e2⟩ := hT k i hlt hik
      have hri := hr i
      have e := hSs k i
      have hb1 := hB k hlt i (by omega)
      have hb2 := hB k hlt (i + 1) (by omega)
      rw [e1] at e
      have hF2 : F_s_Choose [.int .i64 ((f.length : Int) - 1 - (i : Int)), .int .i64 ((k : Int) - (i : Int))] = some (.int .i64 (chP (f.length - 1 - i) (k - i) : Nat)) := by
        simp only [F_s_Choose, F2_mk, dI_int, Option.bind_some]
        rw [e1]
      have hp := prod_bnd (sgI_cases (k - i)) hri (b := (chP (f.length - 1 - i) (k - i) : Nat)) ⟨by omega, by omega⟩
      generalize chP (f.length - 1 - i) (k - i) = C at *
      have ht : ((k : Int) - (i : Int)).tmod 2 = (((k - i) % 2 : Nat) : Int) := by
        rw [Int.tmod_eq_emod_of_nonneg (by omega)]
        omega
      have hsg : sgI (k - i) = 1 - 2 * (((k - i) % 2 : Nat) : Int) := rfl
      rw [hsg] at e hp
      obtain ⟨q, hq⟩ : ∃ q : Int, (((k - i) % 2 : Nat) : Int) = q := ⟨_, rfl⟩
      have hq01 : q = 0 ∨ q = 1 := by omega
      rw [hq] at e hp ht
      have v1 : IntKind.i64.wrap ((k : Int) - (i : Int)) = (k : Int) - (i : Int) := wrapI _ (by omega) (by omega)
      have v2 : IntKind.i64.wrap (2 * q) = 2 * q := wrapI _ (by omega) (by omega)
      have v3 : IntKind.i64.wrap (1 - 2 * q) = 1 - 2 * q := wrapI _ (by omega) (by omega)
      generalize hsv : (1 - 2 * q) = sg at *
      have v4 : IntKind.i64.wrap (sg * at0 f i) = sg * at0 f i := wrapI _ (by omega) (by omega)
      have v5 : IntKind.i64.wrap (sg * at0 f i * (C : Int)) = sg * at0 f i * (C : Int) := wrapI _ (by omega) (by omega)
      have v6 : IntKind.i64.wrap (S k i + sg * at0 f i * (C : Int)) = S k (i + 1) := by rw [← e]; exact wrapI _ (by omega) (by omega)
      have v7 : IntKind.i64.wrap ((f.length : Int) - 1 - (i : Int)) = (f.length : Int) - 1 - (i : Int) := wrapI _ (by omega) (by omega)
      simp -implicitDefEqProofs [sc_s_HNumbers_L2, freeOk, hik, hik2, hif, v1, v2, v3, v4, v5, v6, v7, ht, hsv, hF2, hwi]
      repeat' (first | omega | apply And.intro)
      exact Again.of (i + 1) (by omega) (by omega) (SubI.slots (by simp) (by simp))
    · have : i = k + 1 := by omega
      subst this
      have hk8 : (k + 1) * 8 ≤ 140737488355328 := by omega
      have hik3 : ¬ ((k : Int) + 1 ≤ (k : Int)) := by omega
      have h3 : (g k).take k = g k := List.take_of_length_le (by omega)
      simp -implicitDefEqProofs [sc_s_HNumbers_L2, freeOk, hik3]
      refine SubQ.of (l1 := [(3, .sl 1 1 0 k), (4, .sl 2 1 0 f.length), (5, .int .i64 ((f.length : Int) - 1)), (6, .int .i64 (k : Int)), (7, .int .i64 (S k (k + 1)))]) (s1 := ([(2, ints f), (1, ints (g k)), (0, [.int .i64 n, .list 1 (ints l)])], 3)) (SubI.slots (by simp) (by simp)) ?_
      have e := hIs k
      simp -implicitDefEqProofs [freeOk, hgl, hk8, h3, hwk]
      refine Again.of (k + 1) (by omega) (by omega) (SubI.ren (fun m => if m = 0 then some 0 else if m = 1 then some 4 else if m = 2 then some 2 else none) ?_ ?_ ?_ (by simp) (by simp))
      · simp [renV, ren1]
      · rw [ints_snoc]
        simp [renL, ren1, e]
      · intro n hn
        simp only at hn
        have h1 : n ≠ 0 := by omega
        have h2 : n ≠ 1 := by omega
        have h3 : n ≠ 2 := by omega
        simp [h1, h2, h3]
  · have : k = f.length := by omega
    subst this
    have hle : ¬ (f.length : Int) ≤ (f.length : Int) - 1 := by omega
    have h3 : (g f.length).take f.length = g f.length := List.take_of_length_le (by omega)
    simp -implicitDefEqProofs [sc_s_HNumbers_L0, freeOk, hle, hgl, h3]
end Go.Proofs.Ytmemomfffehnkaa
