import Derived.Test.YtncnohompmcddaaGcB
import Derived.Test.YtncnohompmcddaaKJ
import Derived.Test.YtncnohompmcddaaGaC
import Derived.Test.YtncnohompmcddaaKG
namespace Go.Proofs.Ytncnohompmcddaa
open Go Go.RowKit
set_option maxRecDepth 1000000
set_option linter.unusedSimpArgs false
set_option linter.unusedVariables false
set_option maxHeartbeats 1000000
theorem allR_of {l : List Int} (h : allS l) : allR l := fun x hx => ⟨by have := (h x hx).1; omega, by have := (h x hx).2; omega⟩
theorem subP_pow {f : Int} (hf : isS f) {i : Nat} (hi : i < 6) : subS (2 ^ i) f ↔ tb f i := by
  rw [subS_tb (isS_pow hi) hf]
  constructor
  · intro h; exact h i hi ((tb_pow hi hi).2 rfl)
  · intro h j hj h2
    have := (tb_pow hi hj).1 h2
    subst this
    exact h
theorem shr_bit {x : Int} (hx : isS x) {i : Nat} (hi : i < 6) : (band (x.fdiv (2 ^ i)) 1 = 1 ↔ tb x i) := by
  obtain ⟨m, hm, rfl⟩ := isS_nat hx
  have e : (m : Int).fdiv (2 ^ i) = ((m / 2 ^ i : Nat) : Int) := by
    have h2 : ((2 : Int) ^ i) = ((2 ^ i : Nat) : Int) := by simp
    rw [h2, Int.ofNat_fdiv]
  have hlt : m / 2 ^ i < 64 := Nat.lt_of_le_of_lt (Nat.div_le_self _ _) hm
  rw [e, show (1 : Int) = ((1 : Nat) : Int) from rfl, band_nat0 _ 1 hlt (by omega), tb_nat m i hm hi, Nat.testBit_eq_decide_div_mod_eq, decide_eq_true_iff, Nat.and_one_is_mod]
  omega
/-- The points of a set below k. -/
noncomputable def ptsK (s : Int) (k : Nat) : List Int := ((List.range k).filter fun i => dec (tb s i)).map fun (i : Nat) => (i : Int)
theorem ptsK_yes {s : Int} {k : Nat} (h : tb s k) : ptsK s (k + 1) = ptsK s k ++ [(k : Int)] := by
  unfold ptsK
  rw [List.range_succ, List.filter_append, List.map_append]
  simp [dec_true h]
theorem ptsK_no {s : Int} {k : Nat} (h : ¬ tb s k) : ptsK s (k + 1) = ptsK s k := by
  unfold ptsK
  rw [List.range_succ, List.filter_append, List.map_append]
  simp [dec_false h]
theorem ptsK_len (s : Int) (k : Nat) : (ptsK s k).length ≤ k := by
  unfold ptsK
  rw [List.length_map]
  have := List.length_filter_le (fun i => dec (tb s i)) (List.range k)
  simpa using this
theorem mem_ptsK {s x : Int} {k : Nat} : x ∈ ptsK s k ↔ ∃ i : Nat, i < k ∧ tb s i ∧ x = (i : Int) := by
  unfold ptsK
  rw [List.mem_map]
  constructor
  · rintro ⟨i, h, rfl⟩
    obtain ⟨h1, h2⟩ := List.mem_filter.1 h
    exact ⟨i, List.mem_range.1 h1, dec_iff.1 h2, rfl⟩
  · rintro ⟨i, h1, h2, rfl⟩
    exact ⟨i, List.mem_filter.2 ⟨List.mem_range.2 h1, dec_true h2⟩, rfl⟩
/-- All points of the facets. -/
def useZ (l : List Int) : Int := l.foldl bor 0
theorem useZ_step {l : List Int} {k : Nat} (h : k < l.length) : useZ (l.take (k + 1)) = bor (useZ (l.take k)) (at0 l k) := by
  unfold useZ
  rw [take_at h, List.foldl_append]
  rfl
theorem useZ_ok {l : List Int} (hl : allS l) : ∀ k, k ≤ l.length → isS (useZ (l.take k)) ∧ ∀ i, i < 6 → (tb (useZ (l.take k)) i ↔ ∃ j, j < k ∧ tb (at0 l j) i) := by
  intro k
  induction k with
  | zero =>
    intro _
    refine ⟨by simp only [List.take_zero]; exact isS_zero, fun i hi => ?_⟩
    constructor
    · intro h; exact absurd h (by simpa [useZ] using tb_zero i hi)
    · rintro ⟨j, hj, _⟩; omega
  | succ k ih =>
    intro hk
    obtain ⟨a, b⟩ := ih (by omega)
    have hf := allS_at hl (show k < l.length by omega)
    rw [useZ_step (by omega)]
    refine ⟨isS_bor a hf, fun i hi => ?_⟩
    rw [tb_bor a hf hi, b i hi]
    constructor
    · rintro (⟨j, h1, h2⟩ | h)
      · exact ⟨j, by omega, h2⟩
      · exact ⟨k, by omega, h⟩
    · rintro ⟨j, h1, h2⟩
      by_cases e : j = k
      · subst e; exact .inr h2
      · exact .inl ⟨j, by omega, h2⟩
theorem useZ_isS {l : List Int} (hl : allS l) : isS (useZ l) := by
  have := (useZ_ok hl l.length (Nat.le_refl _)).1
  rwa [List.take_length] at this
theorem useZ_tb {l : List Int} (hl : allS l) {i : Nat} (hi : i < 6) : tb (useZ l) i ↔ faceS l (2 ^ i) := by
  have := (useZ_ok hl l.length (Nat.le_refl _)).2 i hi
  rw [List.take_length] at this
  rw [this]
  constructor
  · rintro ⟨j, h1, h2⟩
    exact ⟨_, getD_mem' h1, (subP_pow (allS_at hl h1) hi).2 h2⟩
  · rintro ⟨f, hf, h⟩
    obtain ⟨j, hj, rfl⟩ := getD_mem_iff.1 hf
    exact ⟨j, hj, (subP_pow (allS_at hl hj) hi).1 h⟩
def sc_i_UsedPoints_L0 : SC := (.seq (.reg [⟨(some 13), none, (.bin false .lss (.t 12) (.t 11))⟩]) (.seq (.cond (.t 13) .skip (.exit 0)) (.seq (.block 1 (.seq (.reg [⟨(some 14), none, (.idx 1 (.t 10) (.t 12))⟩, ⟨(some 15), none, (.ld none (.int .i64 0) (.t 14))⟩, ⟨(some 5), none, (.mov (.t 15))⟩]) (.reg [⟨(some 16), none, (.mov (.t 3))⟩, ⟨(some 17), none, (.mov (.t 5))⟩, ⟨(some 18), none, (.bin false .or (.t 16) (.t 17))⟩, ⟨(some 3), none, (.mov (.t 18))⟩]))) (.reg [⟨(some 19), none, (.bin false .add (.t 12) (.c (.int .i64 1)))⟩, ⟨(some 12), none, (.mov (.t 19))⟩]))))
def sc_i_UsedPoints : SC := (.seq (.reg [⟨(some 1), none, (.box (.t 0))⟩, ⟨(some 2), none, (.mov (.c (.int .i64 0)))⟩]) (.seq (.seq (.reg [⟨(some 6), none, (.ld (some 2) .undef (.t 1))⟩, ⟨(some 7), none, (.call 38 [(.t 6)])⟩, ⟨(some 8), none, (.un .not (.t 7))⟩]) (.cond (.t 8) (.seq (.reg [⟨(some 2), none, (.mov (.c (.int .i64 0)))⟩]) .ret) .skip)) (.seq (.reg [⟨(some 3), none, (.mov (.c (.int .i64 0)))⟩]) (.seq (.seq (.reg [⟨(some 9), none, (.fad 1 (.t 1))⟩, ⟨(some 10), none, (.ld none .nil (.t 9))⟩, ⟨(some 11), none, (.len (.t 10))⟩, ⟨(some 12), none, (.mov (.c (.int .i64 0)))⟩]) (.block 0 (.loop sc_i_UsedPoints_L0))) (.seq (.reg [⟨(some 20), none, (.mov (.t 3))⟩, ⟨(some 2), none, (.mov (.t 20))⟩]) .ret)))))
theorem code_i_UsedPoints : fnCode Try.prog [] 100 = some (21, sc_i_UsedPoints, [(2, none)]) := by kernel_rfl
noncomputable def F_i_UsedPoints : List V → Option V := F1 dC fun c => @ite _ (cplx c.1 c.2) (Classical.propDecidable _) (some (.int .i64 (useZ c.2))) none
theorem fn_i_UsedPoints : FnOk Try.prog 100 F_i_UsedPoints := by
  have env := (envNil_ok (P := Try.prog)).add fn_i_IsComplex
  refine fn_ok code_i_UsedPoints mixed env ?_
  intro args r h hb
  obtain ⟨_, ⟨n, l⟩, rfl, h1, h4⟩ := F1_inv h
  cases dC_inv h1
  simp only [Option.ite_none_right_eq_some, Option.some.injEq] at h4
  obtain ⟨hc, rfl⟩ := h4
  clear h
  refine ⟨by simp, fun w0 U0 L0 N0 => ?_⟩
  clear hb
  have e0 := cplxB_iff.2 hc
  have hS := cplx_isS hc
  have hl64 := cplx_len64 hc
  simp -implicitDefEqProofs [sc_i_UsedPoints, F_s_IsComplex, e0]
  refine loopI env mixed (fun k : Nat => [(3, .int .i64 (useZ (l.take k))), (10, .list 1 (ints l)), (11, .int .i64 (l.length : Int)), (12, .int .i64 (k : Int))]) (fun _ => ([(0, [.int .i64 n, .list 1 (ints l)])], 1)) (fun k => k ≤ l.length) (fun k => l.length - k) 0 (by simp) (SubI.slots rfl (by simp [useZ])) ?_
  intro k hk
  by_cases hlt : k < l.length
  · have e := useZ_step hlt
    simp -implicitDefEqProofs [sc_i_UsedPoints_L0, hlt]
    repeat' (first | omega | apply And.intro)
    exact Again.of (k + 1) (by omega) (by omega) (SubI.slots rfl (by simp (disch := omega) [wrapI, e]))
  · have : k = l.length := by omega
    subst this
    simp -implicitDefEqProofs [sc_i_UsedPoints_L0]
def sc_i_PointsOf_L0 : SC := (.seq (.seq (.reg [⟨(some 8), none, (.mov (.t 4))⟩, ⟨(some 9), none, (.bin false .lss (.t 8) (.c (.int .i64 6)))⟩]) (.cond (.t 9) .skip (.exit 0))) (.seq (.block 1 (.seq (.reg [⟨(some 12), none, (.mov (.t 0))⟩, ⟨(some 13), none, (.mov (.t 4))⟩, ⟨(some 14), none, (.conv .u64 (.t 13))⟩, ⟨(some 15), none, (.bin false .shr (.t 12) (.t 14))⟩, ⟨(some 16), none, (.bin false .and (.t 15) (.c (.int .i64 1)))⟩, ⟨(some 17), none, (.bin false .eql (.t 16) (.c (.int .i64 1)))⟩]) (.cond (.t 17) (.reg [⟨(some 18), none, (.mov (.t 3))⟩, ⟨(some 19), none, (.mov (.t 4))⟩, ⟨(some 20), none, (.mks 1 1 [(.int .i64 0)] [(0, (1, (.t 19)))])⟩, ⟨(some 21), none, (.app 1 8 (.t 18) (.t 20))⟩, ⟨(some 3), none, (.mov (.t 21))⟩]) .skip))) (.reg [⟨(some 10), none, (.mov (.t 4))⟩, ⟨(some 11), none, (.bin false .add (.t 10) (.c (.int .i64 1)))⟩, ⟨(some 4), none, (.mov (.t 11))⟩])))
def sc_i_PointsOf : SC := (.seq (.reg [⟨(some 2), none, (.mov (.c .nil))⟩]) (.seq (.seq (.reg [⟨(some 5), none, (.mov (.t 0))⟩, ⟨(some 6), none, (.call 83 [(.c (.int .i64 6)), (.t 5)])⟩, ⟨(some 7), none, (.un .not (.t 6))⟩]) (.cond (.t 7) (.seq (.reg [⟨(some 2), none, (.mov (.c .nil))⟩]) .ret) .skip)) (.seq (.reg [⟨(some 3), none, (.mov (.c .nil))⟩]) (.seq (.seq (.reg [⟨(some 4), none, (.mov (.c (.int .i64 0)))⟩]) (.block 0 (.loop sc_i_PointsOf_L0))) (.seq (.reg [⟨(some 22), none, (.mov (.t 3))⟩, ⟨(some 2), none, (.mov (.t 22))⟩]) .ret)))))
theorem code_i_PointsOf : fnCode Try.prog [] 99 = some (23, sc_i_PointsOf, [(2, none)]) := by kernel_rfl
noncomputable def F_i_PointsOf : List V → Option V := F1 dI fun s => @ite _ (isS s) (Classical.propDecidable _) (some (.own 1 (ints (ptsK s 6)))) none
theorem fn_i_PointsOf : FnOk Try.prog 99 F_i_PointsOf := by
  have env := (envNil_ok (P := Try.prog)).add fn_i_IsSet
  refine fn_ok code_i_PointsOf mixed env ?_
  intro args r h hb
  obtain ⟨_, s, rfl, h1, h4⟩ := F1_inv h
  cases dI_inv h1
  simp only [Option.ite_none_right_eq_some, Option.some.injEq] at h4
  obtain ⟨hs, rfl⟩ := h4
  clear h
  refine ⟨by simp, fun w0 U0 L0 N0 => ?_⟩
  clear hb
  have h6 : isSet 6 s = true := by
    have := hs.1
    have := hs.2
    simp [isSet]
    omega
  simp -implicitDefEqProofs [sc_i_PointsOf, F_i_IsSet, h6]
  refine loopI env mixed (fun k : Nat => [(0, .int .i64 s), (3, .sl 0 1 0 (ptsK s k).length), (4, .int .i64 (k : Int))]) (fun k => ([(0, ints (ptsK s k))], 1)) (fun k => k ≤ 6) (fun k => 6 - k) 0 (by simp) (SubI.nilN 3 1 (by simp) (SubI.slots (by simp [ptsK]) (by simp [ptsK]))) ?_
  intro k hk
  have gl := ptsK_len s k
  by_cases hlt : k < 6
  · have hlt' : (k : Int) < 6 := by omega
    have hu : IntKind.u64.wrap (k : Int) = k := wrapU _ (by omega) (by omega)
    have hmin : min k IntKind.i64.bits = k := by show min k 64 = k; omega
    have hb := shr_bit hs hlt
    by_cases h1 : tb s k
    · have e := ptsK_yes h1
      have hb1 := hb.2 h1
      generalize ptsK s k = g at *
      simp -implicitDefEqProofs [sc_i_PointsOf_L0, hlt', hu, hmin, hb1]

      repeat' (first | omega | apply And.intro)
      refine Again.of (k + 1) (by omega) (by omega) (SubI.ren (fun m => if m = 0 then some 2 else none) ?_ ?_ ?_ (by simp) (by simp))
      · simp only [e]
        simp (disch := omega) [subT, renV, ren1, wrapI]
      · simp only [e]
        simp [subH, renL, ren1]
        rw [← ints_app]
        rfl
      · intro m hm
        simp only at hm
        rw [if_neg (by omega)]
    · have e := ptsK_no h1
      have hb1 : ¬ band (s.fdiv (2 ^ k)) 1 = 1 := fun h => h1 (hb.1 h)
      generalize ptsK s k = g at *
      simp -implicitDefEqProofs [sc_i_PointsOf_L0, hlt', hu, hmin, hb1]
      repeat' (first | omega | apply And.intro)
      exact Again.of (k + 1) (by omega) (by omega) (SubI.slots (by simp only [e]) (by simp only [e]; simp (disch := omega) [wrapI]))
  · have : k = 6 := by omega
    subst this
    simp -implicitDefEqProofs [sc_i_PointsOf_L0]
def sc_i_LinkOf : SC := (.seq (.reg [⟨(some 2), none, (.box (.t 0))⟩, ⟨(some 4), none, (.new [(.int .i64 0), .nil])⟩, ⟨(some 5), none, (.mov (.c (.bool false)))⟩]) (.seq (.seq (.reg [⟨(some 6), none, (.ld (some 2) .undef (.t 2))⟩, ⟨(some 7), none, (.call 38 [(.t 6)])⟩, ⟨(some 8), none, (.un .not (.t 7))⟩, ⟨(some 9), none, (.mov (.t 8))⟩, ⟨(some 10), (some (9, false)), (.fad 0 (.t 2))⟩, ⟨(some 11), (some (9, false)), (.ld none (.int .i64 0) (.t 10))⟩, ⟨(some 12), (some (9, false)), (.mov (.t 1))⟩, ⟨(some 13), (some (9, false)), (.call 83 [(.t 11), (.t 12)])⟩, ⟨(some 14), (some (9, false)), (.un .not (.t 13))⟩, ⟨(some 15), none, (.pick (.t 9) (.c (.bool true)) (.t 14))⟩]) (.cond (.t 15) (.seq (.reg [⟨(some 16), none, (.agg [(.int .i64 0), .nil] [])⟩, ⟨none, none, (.st 2 (.t 4) (.t 16))⟩, ⟨(some 5), none, (.mov (.c (.bool false)))⟩]) .ret) .skip)) (.seq (.dreg [⟨⟨(some 17), none, (.fad 0 (.t 2))⟩, false, false⟩, ⟨⟨(some 18), none, (.ld none (.int .i64 0) (.t 17))⟩, false, false⟩, ⟨⟨(some 19), none, (.ld (some 2) .undef (.t 2))⟩, false, false⟩, ⟨⟨(some 20), none, (.call 41 [(.t 19)])⟩, false, false⟩, ⟨⟨(some 21), none, (.mov (.t 1))⟩, false, false⟩, ⟨⟨(some 22), none, (.call 46 [(.t 20), (.t 21)])⟩, false, false⟩, ⟨⟨(some 23), none, (.call 111 [(.t 18), (.t 22)])⟩, true, false⟩, ⟨⟨none, none, (.st 2 (.t 4) (.t 23))⟩, true, false⟩, ⟨⟨(some 5), none, (.mov (.c (.bool true)))⟩, false, false⟩]) .ret)))
theorem code_i_LinkOf : fnCode Try.prog [111] 101 = some (24, sc_i_LinkOf, [(4, (some 2)), (5, none)]) := by kernel_rfl
noncomputable def F_i_LinkOf : List V → Option V := F2 dC dI fun c s => @ite _ (cplx c.1 c.2 ∧ isSet c.1 s = true) (Classical.propDecidable _) (some (.tup [.agg [.int .i64 c.1, .own 1 (ints (setsOf (maxP (lnkP (faceS c.2) s))))], .bool true])) none
theorem fn_i_LinkOf : FnOk Try.prog 101 F_i_LinkOf := by
  have env := (((((envNil_ok (P := Try.prog)).add fn_i_IsComplex).add fn_i_IsSet).add fn_i_facesIn).add fn_i_linkIn).add fn_i_complexOf
  refine fn_ok code_i_LinkOf mixed env ?_
  intro args r h hb
  obtain ⟨_, _, ⟨n, l⟩, s, rfl, h1, h2, h4⟩ := F2_inv h
  cases dC_inv h1
  cases dI_inv h2
  simp only [Option.ite_none_right_eq_some, Option.some.injEq] at h4
  obtain ⟨⟨hc, hset⟩, rfl⟩ := h4
  clear h
  refine ⟨by simp, fun w0 U0 L0 N0 => ?_⟩
  clear hb
  have e0 := cplxB_iff.2 hc
  have hS := cplx_isS hc
  have hs := isSet_pos hset
  have hg := lnkG_fam (faceS l) hs
  have hcf := cofG_fam n (lnkP (faceS l) s)
  generalize setsOf (maxP (lnkP (faceS l) s)) = R at *
  simp -implicitDefEqProofs [sc_i_LinkOf, F_s_IsComplex, F_i_IsSet, F_i_facesIn, F_i_linkIn, F_i_complexOf, e0, hset, hS, hg, hcf]
end Go.Proofs.Ytncnohompmcddaa
